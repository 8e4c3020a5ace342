/- Parts: L55. -/
import Derived.Test.YtlhpclfkoblnkaaDoorL55bs
set_option linter.unusedVariables false
set_option linter.unusedSimpArgs false
set_option maxRecDepth 100000
namespace Go.Proofs.YtlhpclfkoblnkaaDoor
open Go.GB
/-! 13 lex_Join  -/
noncomputable def lex_Join_l73 (j24 : (List S27)) : (Unit × (List Int) × Int) → Option ((Unit × (List Int) × Int) ⊕ ((Unit × (List Int)) ⊕ (ByteArray × Int))) := fun s51 =>
  bif (decide (s51.2.2 < (j24.length : Int))) then
  (Option.bind ((Option.bind (ix j24 s51.2.2) fun (x88 : S27) =>
      Option.bind ((bif (x88.f0 == 4) then
        (Option.bind (lex_Quote x88.f1) fun (y104 : ByteArray × Int) =>
          bif (y104.2 != 0) then
          (some (Sum.inr (Sum.inr (Sum.inr (Sum.inr ((⟨#[]⟩ : ByteArray), 130))))))
          else
          (some (Sum.inl y104.1)))
        else
        (Option.bind (bif (x88.f0 == 1) then
            (some (x88.f0 == 1))
            else
            (Option.bind (bif (x88.f0 == 2) then
                (some (x88.f0 == 2))
                else
                (Option.bind (bif (x88.f0 == 3) then
                    (some (x88.f0 == 3))
                    else
                    (some (x88.f0 == 5))) fun (j119 : Bool) =>
                  some j119)) fun (j113 : Bool) =>
              some j113)) fun (j107 : Bool) =>
          bif j107 then
          (Option.bind (lex_alone x88.f1 x88.f0) fun (y126 : Bool) =>
            bif (!y126) then
            (some (Sum.inr (Sum.inr (Sum.inr (Sum.inr ((⟨#[]⟩ : ByteArray), 130))))))
            else
            (some (Sum.inl x88.f1)))
          else
          (some (Sum.inr (Sum.inr (Sum.inr (Sum.inr ((⟨#[]⟩ : ByteArray), 130))))))) : Option ((ByteArray) ⊕ ((Unit × (List Int)) ⊕ ((Unit × (List Int) × Int) ⊕ ((Unit × (List Int)) ⊕ (ByteArray × Int))))))) fun (j97 : (ByteArray) ⊕ ((Unit × (List Int)) ⊕ ((Unit × (List Int) × Int) ⊕ ((Unit × (List Int)) ⊕ (ByteArray × Int))))) =>
      match j97 with
      | Sum.inl j99 => bif (decide ((strings_Builder_Len (⟨s51.2.1⟩ : S50)) > 65536)) then
        (some (Sum.inl ((), s51.2.1)))
        else
        (Option.bind (bif (decide (s51.2.2 > 0)) then
            (Option.bind (strings_Builder_WriteByte (⟨s51.2.1⟩ : S50) 32) fun (y145 : Unit × S50) =>
              some ((), y145.2.f1))
            else
            (some ((), s51.2.1))) fun (j133 : Unit × (List Int)) =>
          Option.bind (strings_Builder_WriteString (⟨j133.2⟩ : S50) j99) fun (y156 : Int × Unit × S50) =>
          some (Sum.inl ((), y156.2.2.f1)))
      | Sum.inr v167 => some v167 : Option ((Unit × (List Int)) ⊕ ((Unit × (List Int) × Int) ⊕ ((Unit × (List Int)) ⊕ (ByteArray × Int)))))) fun (j76 : (Unit × (List Int)) ⊕ ((Unit × (List Int) × Int) ⊕ ((Unit × (List Int)) ⊕ (ByteArray × Int)))) =>
    match j76 with
    | Sum.inl j78 => some (Sum.inl ((), j78.2, (IntKind.wrap .i64 (s51.2.2 + 1))))
    | Sum.inr v168 => some v168)
  else
  (some (Sum.inr (Sum.inl ((), s51.2.1))))
noncomputable def lex_Join (a0 : List S27) : Option (ByteArray × Int) :=
  Option.bind (bif (decide ((a0.length : Int) > 0)) then
    (Option.bind (ix a0 (IntKind.wrap .i64 ((a0.length : Int) - 1))) fun (x7 : S27) =>
      bif (x7.f0 == 0) then
      (Option.bind (ix a0 (IntKind.wrap .i64 ((a0.length : Int) - 1))) fun (x16 : S27) =>
        some (x16.f1.toList == (⟨#[]⟩ : ByteArray).toList))
      else
      (some false))
    else
    (some false)) fun (j1 : Bool) =>
  Option.bind (bif j1 then
    (Option.bind (lx a0 0 (IntKind.wrap .i64 ((a0.length : Int) - 1))) fun (l34 : List S27) =>
      some l34)
    else
    (some a0)) fun (j24 : (List S27)) =>
  Option.bind (loopO (lex_Join_l73 j24) ((), [], 0)) fun (r49 : (Unit × (List Int)) ⊕ (ByteArray × Int)) =>
  match r49 with
  | Sum.inl r63 => bif (decide ((strings_Builder_Len (⟨r63.2⟩ : S50)) > 65536)) then
    (some ((⟨#[]⟩ : ByteArray), 4))
    else
    (bif (decide ((IntKind.wrap .i64 ((j24.length : Int) + 1)) > 4096)) then
      (some ((⟨#[]⟩ : ByteArray), 7))
      else
      (Option.bind (strings_Builder_String (⟨r63.2⟩ : S50)) fun (y174 : ByteArray) =>
        some (y174, 0)))
  | Sum.inr v179 => some v179
theorem lex_Join_walk {a0 : List S27} {A0_0 : Option Addr} {n0_0 : Nat} {I : Imm} {r : ByteArray × Int} (hG : Gl I)  (hf0_0 : RepS kS27 I A0_0 n0_0 a0) (hr : lex_Join a0 = some r) (L : Own) :
    CallsTo Tryd.prog 13 #[.slice A0_0 a0.length n0_0] I L (fun v I' L' => v = .tuple #[.string r.1, .int .i64 r.2] ∧ L = L') := by
  unfold lex_Join at hr
  refine callsTo_body (N := 85) Tryd.func13 (by kernel_rfl) (by kernel_rfl) (by kernel_rfl) ?_
  refine gk_pick [0] (K' := [(0, .slice A0_0 a0.length n0_0)]) (by kernel_rfl) ?_
  refine gk_seq (by kernel_rfl) ?_
  refine gk_region (by kernel_rfl) ?_
  refine gl_pure 2 [0] (K' := [(0, .slice A0_0 a0.length n0_0)]) (by kernel_rfl) ?_
  refine gl_atE (by kernel_rfl) ?_
  refine ge_seq ?_
  refine gk_seq (by kernel_rfl) ?_
  refine gk_seq (by kernel_rfl) ?_
  refine gk_region (by kernel_rfl) ?_
  refine gl_pure 3 [0, 4] (K' := [(0, .slice A0_0 a0.length n0_0), (4, .int .i64 (a0.length : Int))]) (by kernel_rfl) ?_
  refine gl_atE (by kernel_rfl) ?_
  refine ge_seq ?_
  refine gk_seq (by kernel_rfl) ?_
  obtain ⟨j1, hj2, hr⟩ := bind_some hr
  refine gk_join (fun t I' L' => I ≤ I' ∧ L = L' ∧ Knows 85 [(0, .slice A0_0 a0.length n0_0), (4, .int .i64 (a0.length : Int)), (32, .bool j1)] t) ?_ ?_
  · refine gk_region (by kernel_rfl) ?_
    refine gl_pure 3 [0, 4, 15] (K' := [(0, .slice A0_0 a0.length n0_0), (4, .int .i64 (a0.length : Int)), (15, .bool (decide ((a0.length : Int) > 0)))]) (by kernel_rfl) ?_
    refine gl_case 15 (b := (decide ((a0.length : Int) > 0))) (by kernel_rfl) (fun hc6 => ?_) (fun hc6 => ?_)
    · have hj2 := cond_t hc6 hj2
      refine gl_pure 3 [0, 4, 15, 16, 18] (K' := [(0, .slice A0_0 a0.length n0_0), (4, .int .i64 (a0.length : Int)), (15, .bool true), (16, .slice A0_0 a0.length n0_0), (18, .int .i64 (IntKind.wrap .i64 ((a0.length : Int) - 1)))]) (by kernel_rfl) ?_
      obtain ⟨x7, hx8, hj2⟩ := bind_some hj2
      obtain ⟨p9, cs10, hR11, hA12, ha13⟩ := RepS.ixAt hx8 hf0_0
      have hi14 := ix_some hx8
      obtain rfl := kS27_open hR11
      refine gl_indexAddrF (c := n0_0) (T' := 22) (e := 28) (xs := (.tmp 16)) (xi := (.tmp 18)) (kd := .i64) ha13 hi14.1 hi14.2.1 (by kernel_rfl) (by kernel_rfl) (by kernel_rfl) (by kernel_rfl) (by kernel_rfl) ?_
      refine gl_pure 1 [0, 4, 15, 20] (K' := [(0, .slice A0_0 a0.length n0_0), (4, .int .i64 (a0.length : Int)), (15, .bool true), (20, .pointer (some (p9.add 0)))]) (by kernel_rfl) ?_
      refine gl_load (T' := 3) (xp := (.tmp 20)) (p := (p9.add 0)) (c := .int .i64 x7.f0) (n := 1) (by kernel_rfl) (by kernel_rfl) (by kernel_rfl) (by kernel_rfl) (hA12.drop 0) ?_
      refine gl_pure 3 [0, 4, 24] (K' := [(0, .slice A0_0 a0.length n0_0), (4, .int .i64 (a0.length : Int)), (24, .bool (x7.f0 == 0))]) (by kernel_rfl) ?_
      refine gl_case 24 (b := (x7.f0 == 0)) (by kernel_rfl) (fun hc15 => ?_) (fun hc15 => ?_)
      · have hj2 := cond_t hc15 hj2
        refine gl_pure 3 [0, 4, 24, 25, 27] (K' := [(0, .slice A0_0 a0.length n0_0), (4, .int .i64 (a0.length : Int)), (24, .bool true), (25, .slice A0_0 a0.length n0_0), (27, .int .i64 (IntKind.wrap .i64 ((a0.length : Int) - 1)))]) (by kernel_rfl) ?_
        obtain ⟨x16, hx17, hj2⟩ := bind_some hj2
        obtain ⟨p18, cs19, hR20, hA21, ha22⟩ := RepS.ixAt hx17 hf0_0
        have hi23 := ix_some hx17
        obtain rfl := kS27_open hR20
        refine gl_indexAddrF (c := n0_0) (T' := 22) (e := 28) (xs := (.tmp 25)) (xi := (.tmp 27)) (kd := .i64) ha22 hi23.1 hi23.2.1 (by kernel_rfl) (by kernel_rfl) (by kernel_rfl) (by kernel_rfl) (by kernel_rfl) ?_
        refine gl_pure 1 [0, 4, 24, 29] (K' := [(0, .slice A0_0 a0.length n0_0), (4, .int .i64 (a0.length : Int)), (24, .bool true), (29, .pointer (some (p18.add 1)))]) (by kernel_rfl) ?_
        refine gl_load (T' := 9) (xp := (.tmp 29)) (p := (p18.add 1)) (c := .string x16.f1) (n := 1) (by kernel_rfl) (by kernel_rfl) (by kernel_rfl) (by kernel_rfl) (hA21.drop 1) ?_
        refine gl_pure 2 [0, 4, 32] (K' := [(0, .slice A0_0 a0.length n0_0), (4, .int .i64 (a0.length : Int)), (32, .bool (x16.f1.toList == (⟨#[]⟩ : ByteArray).toList))]) (by kernel_rfl) ?_
        refine gl_atE (by kernel_rfl) ?_
        obtain rfl := some_inj hj2
        exact ge_mid fun t ht => ⟨(Imm.refl _), rfl, ht.pick (l := [0, 4, 32]) (by kernel_rfl)⟩
      · have hj2 := cond_f hc15 hj2
        refine gl_pure 8 [0, 4, 32] (K' := [(0, .slice A0_0 a0.length n0_0), (4, .int .i64 (a0.length : Int)), (32, .bool false)]) (by kernel_rfl) ?_
        refine gl_atE (by kernel_rfl) ?_
        obtain rfl := some_inj hj2
        exact ge_mid fun t ht => ⟨(Imm.refl _), rfl, ht.pick (l := [0, 4, 32]) (by kernel_rfl)⟩
    · have hj2 := cond_f hc6 hj2
      refine gl_pure 17 [0, 4, 32] (K' := [(0, .slice A0_0 a0.length n0_0), (4, .int .i64 (a0.length : Int)), (32, .bool false)]) (by kernel_rfl) ?_
      refine gl_atE (by kernel_rfl) ?_
      obtain rfl := some_inj hj2
      exact ge_mid fun t ht => ⟨(Imm.refl _), rfl, ht.pick (l := [0, 4, 32]) (by kernel_rfl)⟩
  · rintro t I5 L' ⟨hI3, rfl, hK4⟩
    refine ge_at hK4 ?_
    refine ge_seq ?_
    obtain ⟨j24, hj25, hr⟩ := bind_some hr
    refine gk_join (fun t I' L' => ∃ A27 n28, RepS kS27 I' A27 n28 j24 ∧ I5 ≤ I' ∧ L = L' ∧ Knows 85 [(0, .slice A27 j24.length n28)] t) ?_ ?_
    · refine gk_cond (b := j1) (by kernel_rfl) (by kernel_rfl) (fun hc32 => ?_) (fun hc32 => ?_)
      · have hj25 := cond_t hc32 hj25
        refine gk_region (by kernel_rfl) ?_
        refine gl_pure 3 [33, 35] (K' := [(33, .slice A0_0 a0.length n0_0), (35, .int .i64 (IntKind.wrap .i64 ((a0.length : Int) - 1)))]) (by kernel_rfl) ?_
        obtain ⟨l34, hx33, hj25⟩ := bind_some hj25
        refine gl_sliceR (d := kS27) (T' := 22) (e := 28) (xs := (.tmp 33)) (lo := none) (hi := (some (.tmp 35))) hx33 (hf0_0.mono hI3) (by kernel_rfl) (by kernel_rfl) (by kernel_rfl) (by kernel_rfl) (by kernel_rfl) (by kernel_rfl) (fun A35 n36 hf37 => ?_)
        refine gl_pure 1 [0] (K' := [(0, .slice A35 l34.length n36)]) (by kernel_rfl) ?_
        refine gl_atE (by kernel_rfl) ?_
        obtain rfl := some_inj hj25
        exact ge_mid fun t ht => ⟨A35, n36, hf37, (Imm.refl _), rfl, ht.pick (l := [0]) (by kernel_rfl)⟩
      · have hj25 := cond_f hc32 hj25
        refine gk_skip (by kernel_rfl) ?_
        obtain rfl := some_inj hj25
        exact ge_mid fun t ht => ⟨A0_0, n0_0, (hf0_0.mono hI3), (Imm.refl _), rfl, ht.pick (l := [0]) (by kernel_rfl)⟩
    · rintro t I31 L' ⟨A27, n28, hf29, hI26, rfl, hK30⟩
      refine ge_at hK30 ?_
      refine ge_seq ?_
      refine gk_seq (by kernel_rfl) ?_
      refine gk_region (by kernel_rfl) ?_
      refine gl_alloc (T' := 51) (cs := #[.pointer none, .slice none 0 0]) (by kernel_rfl) (by kernel_rfl) (by kernel_rfl) (fun g38 => ?_)
      refine gl_atE (by kernel_rfl) ?_
      refine ge_seq ?_
      refine gk_seq (by kernel_rfl) ?_
      refine gk_seq (by kernel_rfl) ?_
      refine gk_region (by kernel_rfl) ?_
      refine gl_pure 3 [0, 5, 37, 38, 39] (K' := [(0, .slice A27 j24.length n28), (5, .pointer (some ⟨g38, 0, none⟩)), (37, .slice A27 j24.length n28), (38, .int .i64 (j24.length : Int)), (39, .int .i64 0)]) (by kernel_rfl) ?_
      refine gl_atE (by kernel_rfl) ?_
      refine ge_seq ?_
      obtain ⟨r49, hl50, hr⟩ := bind_some hr
      refine gk_join (fun t I' L' => ∃ r63, r49 = Sum.inl r63 ∧ ∃ q65 A67 n68 C69, (q65 = none ∨ q65 = some (⟨g38, 0, none⟩ : Addr)) ∧ OwnS (Kd.int .u8) 5 I' A67 n68 r63.2 C69 ∧ I31 ≤ I' ∧ C69 ++ ((g38, .cells #[.pointer q65, .slice A67 r63.2.length n68] 51) :: L) = L' ∧ Knows 85 [(0, .slice A27 j24.length n28), (5, .pointer (some ⟨g38, 0, none⟩))] t) ?_ ?_
      · refine gk_block (by kernel_rfl) ?_
        refine gk_pick [0, 5, 37, 38, 39] (K' := [(0, .slice A27 j24.length n28), (5, .pointer (some ⟨g38, 0, none⟩)), (37, .slice A27 j24.length n28), (38, .int .i64 (j24.length : Int)), (39, .int .i64 0)]) (by kernel_rfl) ?_
        intro t hK
        refine gc_loop (lex_Join_l73 j24) (fun s51 t I' L' => ∃ q55 A57 n58 C59, (q55 = none ∨ q55 = some (⟨g38, 0, none⟩ : Addr)) ∧ OwnS (Kd.int .u8) 5 I' A57 n58 s51.2.1 C59 ∧ I31 ≤ I' ∧ C59 ++ ((g38, .cells #[.pointer q55, .slice A57 s51.2.1.length n58] 51) :: L) = L' ∧ Knows 85 [(0, .slice A27 j24.length n28), (5, .pointer (some ⟨g38, 0, none⟩)), (37, .slice A27 j24.length n28), (38, .int .i64 (j24.length : Int)), (39, .int .i64 s51.2.2)] t) (by kernel_rfl) ?_ hl50 ⟨none, none, 0, [], (Or.inl rfl), OwnS.nil _ _ _ _, (Imm.refl _), rfl, hK⟩
        rintro s51 o52 t I62 L' hb53 ⟨q55, A57, n58, C59, hq56, hO60, hI54, rfl, hK61⟩
        unfold lex_Join_l73 at hb53
        refine gk_at hK61 ?_
        refine gk_seq (by kernel_rfl) ?_
        refine gk_region (by kernel_rfl) ?_
        refine gl_pure 1 [0, 5, 37, 38, 39, 40] (K' := [(0, .slice A27 j24.length n28), (5, .pointer (some ⟨g38, 0, none⟩)), (37, .slice A27 j24.length n28), (38, .int .i64 (j24.length : Int)), (39, .int .i64 s51.2.2), (40, .bool (decide (s51.2.2 < (j24.length : Int))))]) (by kernel_rfl) ?_
        refine gl_atE (by kernel_rfl) ?_
        refine ge_seq ?_
        refine gk_seq (by kernel_rfl) ?_
        refine gk_cond (b := (decide (s51.2.2 < (j24.length : Int)))) (by kernel_rfl) (by kernel_rfl) (fun hc75 => ?_) (fun hc75 => ?_)
        · have hb53 := cond_t hc75 hb53
          refine gk_skip (by kernel_rfl) ?_
          refine ge_seq ?_
          refine gk_seq (by kernel_rfl) ?_
          obtain ⟨j76, hj77, hb53⟩ := bind_some hb53
          refine gk_join (fun t I' L' => ∃ j78, j76 = Sum.inl j78 ∧ ∃ q80 A82 n83 C84, (q80 = none ∨ q80 = some (⟨g38, 0, none⟩ : Addr)) ∧ OwnS (Kd.int .u8) 5 I' A82 n83 j78.2 C84 ∧ I62 ≤ I' ∧ C84 ++ ((g38, .cells #[.pointer q80, .slice A82 j78.2.length n83] 51) :: L) = L' ∧ Knows 85 [(0, .slice A27 j24.length n28), (5, .pointer (some ⟨g38, 0, none⟩)), (37, .slice A27 j24.length n28), (38, .int .i64 (j24.length : Int)), (39, .int .i64 s51.2.2)] t) ?_ ?_
          · refine gk_block (by kernel_rfl) ?_
            refine gk_seq (by kernel_rfl) ?_
            refine gk_region (by kernel_rfl) ?_
            refine gl_pure 1 [0, 5, 37, 38, 39, 41] (K' := [(0, .slice A27 j24.length n28), (5, .pointer (some ⟨g38, 0, none⟩)), (37, .slice A27 j24.length n28), (38, .int .i64 (j24.length : Int)), (39, .int .i64 s51.2.2), (41, .int .i64 s51.2.2)]) (by kernel_rfl) ?_
            obtain ⟨x88, hx89, hj77⟩ := bind_some hj77
            obtain ⟨p90, cs91, hR92, hA93, ha94⟩ := RepS.ixAt hx89 (hf29.mono hI54)
            have hi95 := ix_some hx89
            obtain rfl := kS27_open hR92
            refine gl_indexAddrF (c := n28) (T' := 22) (e := 28) (xs := (.tmp 37)) (xi := (.tmp 39)) (kd := .i64) ha94 hi95.1 hi95.2.1 (by kernel_rfl) (by kernel_rfl) (by kernel_rfl) (by kernel_rfl) (by kernel_rfl) ?_
            refine gl_loadA (T' := 28) (xp := (.tmp 42)) (p := p90) (cs := [.int .i64 x88.f0, .string x88.f1, .int .i64 x88.f2]) (by kernel_rfl) (by kernel_rfl) (by kernel_rfl) (by kernel_rfl) (hA93.take 3) ?_
            refine gl_alloc (T' := 28) (cs := #[.int .i64 0, .string (⟨#[]⟩ : ByteArray), .int .i64 0]) (by kernel_rfl) (by kernel_rfl) (by kernel_rfl) (fun g96 => ?_)
            refine gl_pure 1 [0, 5, 6, 7, 37, 38, 39, 43] (K' := [(0, .slice A27 j24.length n28), (5, .pointer (some ⟨g38, 0, none⟩)), (6, .int .i64 s51.2.2), (7, .pointer (some ⟨g96, 0, none⟩)), (37, .slice A27 j24.length n28), (38, .int .i64 (j24.length : Int)), (39, .int .i64 s51.2.2), (43, .agg #[.int .i64 x88.f0, .string x88.f1, .int .i64 x88.f2])]) (by kernel_rfl) ?_
            refine gl_storeB (T' := 28) (xp := (.tmp 7)) (xv := (.tmp 43)) (v := .agg #[.int .i64 x88.f0, .string x88.f1, .int .i64 x88.f2]) (g := g96) (off := 0) (cs := #[.int .i64 0, .string (⟨#[]⟩ : ByteArray), .int .i64 0]) (cs' := #[.int .i64 x88.f0, .string x88.f1, .int .i64 x88.f2]) (by kernel_rfl) (by kernel_rfl) (by kernel_rfl) (by kernel_rfl) (by kernel_rfl) (Upd.set _ _ _ _) ?_ (by kernel_rfl)
            refine gl_atE (by kernel_rfl) ?_
            refine ge_seq ?_
            refine gk_seq (by kernel_rfl) ?_
            refine gk_region (by kernel_rfl) ?_
            refine gl_pure 1 [0, 5, 6, 7, 37, 38, 39, 44] (K' := [(0, .slice A27 j24.length n28), (5, .pointer (some ⟨g38, 0, none⟩)), (6, .int .i64 s51.2.2), (7, .pointer (some ⟨g96, 0, none⟩)), (37, .slice A27 j24.length n28), (38, .int .i64 (j24.length : Int)), (39, .int .i64 s51.2.2), (44, .pointer (some ⟨g96, 1, none⟩))]) (by kernel_rfl) ?_
            refine gl_loadB (T' := 9) (xp := (.tmp 44)) (v := .string x88.f1) (g := g96) (off := 1) (cs := #[.int .i64 x88.f0, .string x88.f1, .int .i64 x88.f2]) (e := 28) (fz := (0, 0)) (by kernel_rfl) (by kernel_rfl) (by kernel_rfl) List.mem_cons_self (by kernel_rfl) ?_
            refine gl_pure 1 [0, 5, 6, 7, 8, 37, 38, 39] (K' := [(0, .slice A27 j24.length n28), (5, .pointer (some ⟨g38, 0, none⟩)), (6, .int .i64 s51.2.2), (7, .pointer (some ⟨g96, 0, none⟩)), (8, .string x88.f1), (37, .slice A27 j24.length n28), (38, .int .i64 (j24.length : Int)), (39, .int .i64 s51.2.2)]) (by kernel_rfl) ?_
            refine gl_atE (by kernel_rfl) ?_
            refine ge_seq ?_
            refine gk_seq (by kernel_rfl) ?_
            refine gk_seq (by kernel_rfl) ?_
            refine gk_region (by kernel_rfl) ?_
            refine gl_pure 1 [0, 5, 6, 7, 8, 37, 38, 39, 46] (K' := [(0, .slice A27 j24.length n28), (5, .pointer (some ⟨g38, 0, none⟩)), (6, .int .i64 s51.2.2), (7, .pointer (some ⟨g96, 0, none⟩)), (8, .string x88.f1), (37, .slice A27 j24.length n28), (38, .int .i64 (j24.length : Int)), (39, .int .i64 s51.2.2), (46, .pointer (some ⟨g96, 0, none⟩))]) (by kernel_rfl) ?_
            refine gl_loadB (T' := 3) (xp := (.tmp 46)) (v := .int .i64 x88.f0) (g := g96) (off := 0) (cs := #[.int .i64 x88.f0, .string x88.f1, .int .i64 x88.f2]) (e := 28) (fz := (0, 0)) (by kernel_rfl) (by kernel_rfl) (by kernel_rfl) List.mem_cons_self (by kernel_rfl) ?_
            refine gl_atE (by kernel_rfl) ?_
            refine ge_seq ?_
            refine gk_block (by kernel_rfl) ?_
            refine gk_seq (by kernel_rfl) ?_
            refine gk_region (by kernel_rfl) ?_
            refine gl_pure 2 [0, 5, 6, 7, 8, 37, 38, 39, 47, 48] (K' := [(0, .slice A27 j24.length n28), (5, .pointer (some ⟨g38, 0, none⟩)), (6, .int .i64 s51.2.2), (7, .pointer (some ⟨g96, 0, none⟩)), (8, .string x88.f1), (37, .slice A27 j24.length n28), (38, .int .i64 (j24.length : Int)), (39, .int .i64 s51.2.2), (47, .int .i64 x88.f0), (48, .bool (x88.f0 == 4))]) (by kernel_rfl) ?_
            refine gl_atE (by kernel_rfl) ?_
            refine ge_seq ?_
            obtain ⟨j97, hj98, hj77⟩ := bind_some hj77
            refine gk_join (fun t I' L' => ∃ j99, j97 = Sum.inl j99 ∧ I62 ≤ I' ∧ C59 ++ ((g38, .cells #[.pointer q55, .slice A57 s51.2.1.length n58] 51) :: L) = L' ∧ Knows 85 [(0, .slice A27 j24.length n28), (5, .pointer (some ⟨g38, 0, none⟩)), (6, .int .i64 s51.2.2), (8, .string j99), (37, .slice A27 j24.length n28), (38, .int .i64 (j24.length : Int)), (39, .int .i64 s51.2.2)] t) ?_ ?_
            · refine gk_cond (b := (x88.f0 == 4)) (by kernel_rfl) (by kernel_rfl) (fun hc103 => ?_) (fun hc103 => ?_)
              · have hj98 := cond_t hc103 hj98
                refine gk_seq (by kernel_rfl) ?_
                refine gk_region (by kernel_rfl) ?_
                refine gl_pure 1 [0, 5, 6, 37, 38, 39, 51] (K' := [(0, .slice A27 j24.length n28), (5, .pointer (some ⟨g38, 0, none⟩)), (6, .int .i64 s51.2.2), (37, .slice A27 j24.length n28), (38, .int .i64 (j24.length : Int)), (39, .int .i64 s51.2.2), (51, .string x88.f1)]) (by kernel_rfl) ?_
                obtain ⟨y104, hx105, hj98⟩ := bind_some hj98
                refine gl_callQ (by kernel_rfl) (lex_Quote_walk (r := y104) (hG.mono (Imm.trans (Imm.trans hI3 hI26) hI54)) hx105 _) ?_
                refine gl_pure 5 [0, 5, 6, 9, 10, 37, 38, 39] (K' := [(0, .slice A27 j24.length n28), (5, .pointer (some ⟨g38, 0, none⟩)), (6, .int .i64 s51.2.2), (9, .string y104.1), (10, .int .i64 y104.2), (37, .slice A27 j24.length n28), (38, .int .i64 (j24.length : Int)), (39, .int .i64 s51.2.2)]) (by kernel_rfl) ?_
                refine gl_atE (by kernel_rfl) ?_
                refine ge_seq ?_
                refine gk_seq (by kernel_rfl) ?_
                refine gk_seq (by kernel_rfl) ?_
                refine gk_region (by kernel_rfl) ?_
                refine gl_pure 2 [0, 5, 6, 9, 37, 38, 39, 56] (K' := [(0, .slice A27 j24.length n28), (5, .pointer (some ⟨g38, 0, none⟩)), (6, .int .i64 s51.2.2), (9, .string y104.1), (37, .slice A27 j24.length n28), (38, .int .i64 (j24.length : Int)), (39, .int .i64 s51.2.2), (56, .bool (y104.2 != 0))]) (by kernel_rfl) ?_
                refine gl_atE (by kernel_rfl) ?_
                refine ge_seq ?_
                refine gk_cond (b := (y104.2 != 0)) (by kernel_rfl) (by kernel_rfl) (fun hc106 => ?_) (fun hc106 => ?_)
                · have hj98 := cond_t hc106 hj98
                  refine gk_seq (by kernel_rfl) ?_
                  refine gk_region (by kernel_rfl) ?_
                  refine gl_pure 2 [2, 3] (K' := [(2, .string (⟨#[]⟩ : ByteArray)), (3, .int .i64 130)]) (by kernel_rfl) ?_
                  refine gl_atE (by kernel_rfl) ?_
                  refine ge_seq ?_
                  refine gk_reord (D := L) (Reord.skip (Reord.skipC (Reord.skip (Reord.refl _)))) ?_
                  refine gk_ret (by kernel_rfl) ?_
                  refine ge_seq_ret ?_
                  refine ge_seq_ret ?_
                  obtain rfl := some_inj hj98
                  refine ge_block_ret ?_
                  refine ge_seq_ret ?_
                  refine ge_block_ret ?_
                  refine ge_seq_ret ?_
                  obtain rfl := some_inj hj77
                  refine ge_seq_ret ?_
                  obtain rfl := some_inj hb53
                  refine ge_round_out (fun hrr => ?_) (by intro h; cases h)
                  obtain rfl := hrr
                  refine ge_block_ret ?_
                  refine ge_seq_ret ?_
                  refine ge_seq_ret ?_
                  obtain rfl := some_inj hr
                  exact ge_result trivial (ResOk.tmp (by kernel_rfl) (ResOk.tmp (by kernel_rfl) ResOk.nil)) (Imm.trans (Imm.trans hI3 hI26) hI54) ⟨rfl, rfl⟩
                · have hj98 := cond_f hc106 hj98
                  refine gk_skip (by kernel_rfl) ?_
                  refine ge_seq ?_
                  refine gk_region (by kernel_rfl) ?_
                  refine gl_pure 2 [0, 5, 6, 8, 37, 38, 39] (K' := [(0, .slice A27 j24.length n28), (5, .pointer (some ⟨g38, 0, none⟩)), (6, .int .i64 s51.2.2), (8, .string y104.1), (37, .slice A27 j24.length n28), (38, .int .i64 (j24.length : Int)), (39, .int .i64 s51.2.2)]) (by kernel_rfl) ?_
                  refine gl_reord (D := C59 ++ ((g38, .cells #[.pointer q55, .slice A57 s51.2.1.length n58] 51) :: L)) (Reord.step (Upd.one _ (Upd.rmC _ _)) (Reord.step1 (Upd.one _ (Upd.rm1 _ _)) (Reord.skip (Reord.refl _)))) ?_
                  refine gl_atE (by kernel_rfl) ?_
                  obtain rfl := some_inj hj98
                  exact ge_mid fun t ht => ⟨_, rfl, (Imm.refl _), rfl, ht.pick (l := [0, 5, 6, 8, 37, 38, 39]) (by kernel_rfl)⟩
              · have hj98 := cond_f hc103 hj98
                refine gk_seq (by kernel_rfl) ?_
                refine gk_seq (by kernel_rfl) ?_
                refine gk_region (by kernel_rfl) ?_
                refine gl_pure 2 [0, 5, 6, 7, 8, 37, 38, 39, 47, 58] (K' := [(0, .slice A27 j24.length n28), (5, .pointer (some ⟨g38, 0, none⟩)), (6, .int .i64 s51.2.2), (7, .pointer (some ⟨g96, 0, none⟩)), (8, .string x88.f1), (37, .slice A27 j24.length n28), (38, .int .i64 (j24.length : Int)), (39, .int .i64 s51.2.2), (47, .int .i64 x88.f0), (58, .bool (x88.f0 == 1))]) (by kernel_rfl) ?_
                refine gl_atE (by kernel_rfl) ?_
                refine ge_seq ?_
                obtain ⟨j107, hj108, hj98⟩ := bind_some hj98
                refine gk_join (fun t I' L' => I62 ≤ I' ∧ (g96, .cells #[.int .i64 x88.f0, .string x88.f1, .int .i64 x88.f2] 28) :: (C59 ++ ((g38, .cells #[.pointer q55, .slice A57 s51.2.1.length n58] 51) :: L)) = L' ∧ Knows 85 [(0, .slice A27 j24.length n28), (5, .pointer (some ⟨g38, 0, none⟩)), (6, .int .i64 s51.2.2), (7, .pointer (some ⟨g96, 0, none⟩)), (8, .string x88.f1), (37, .slice A27 j24.length n28), (38, .int .i64 (j24.length : Int)), (39, .int .i64 s51.2.2), (58, .bool j107)] t) ?_ ?_
                · refine gk_cond (b := (x88.f0 == 1)) (by kernel_rfl) (by kernel_rfl) (fun hc112 => ?_) (fun hc112 => ?_)
                  · have hj108 := cond_t hc112 hj108
                    refine gk_skip (by kernel_rfl) ?_
                    obtain rfl := some_inj hj108
                    exact ge_mid fun t ht => ⟨(Imm.refl _), rfl, ht.pick (l := [0, 5, 6, 7, 8, 37, 38, 39, 58]) (by kernel_rfl)⟩
                  · have hj108 := cond_f hc112 hj108
                    refine gk_seq (by kernel_rfl) ?_
                    refine gk_region (by kernel_rfl) ?_
                    refine gl_pure 2 [0, 5, 6, 7, 8, 37, 38, 39, 47, 58] (K' := [(0, .slice A27 j24.length n28), (5, .pointer (some ⟨g38, 0, none⟩)), (6, .int .i64 s51.2.2), (7, .pointer (some ⟨g96, 0, none⟩)), (8, .string x88.f1), (37, .slice A27 j24.length n28), (38, .int .i64 (j24.length : Int)), (39, .int .i64 s51.2.2), (47, .int .i64 x88.f0), (58, .bool (x88.f0 == 2))]) (by kernel_rfl) ?_
                    refine gl_atE (by kernel_rfl) ?_
                    refine ge_seq ?_
                    obtain ⟨j113, hj114, hj108⟩ := bind_some hj108
                    refine gk_join (fun t I' L' => I62 ≤ I' ∧ (g96, .cells #[.int .i64 x88.f0, .string x88.f1, .int .i64 x88.f2] 28) :: (C59 ++ ((g38, .cells #[.pointer q55, .slice A57 s51.2.1.length n58] 51) :: L)) = L' ∧ Knows 85 [(0, .slice A27 j24.length n28), (5, .pointer (some ⟨g38, 0, none⟩)), (6, .int .i64 s51.2.2), (7, .pointer (some ⟨g96, 0, none⟩)), (8, .string x88.f1), (37, .slice A27 j24.length n28), (38, .int .i64 (j24.length : Int)), (39, .int .i64 s51.2.2), (58, .bool j113)] t) ?_ ?_
                    · refine gk_cond (b := (x88.f0 == 2)) (by kernel_rfl) (by kernel_rfl) (fun hc118 => ?_) (fun hc118 => ?_)
                      · have hj114 := cond_t hc118 hj114
                        refine gk_skip (by kernel_rfl) ?_
                        obtain rfl := some_inj hj114
                        exact ge_mid fun t ht => ⟨(Imm.refl _), rfl, ht.pick (l := [0, 5, 6, 7, 8, 37, 38, 39, 58]) (by kernel_rfl)⟩
                      · have hj114 := cond_f hc118 hj114
                        refine gk_seq (by kernel_rfl) ?_
                        refine gk_region (by kernel_rfl) ?_
                        refine gl_pure 2 [0, 5, 6, 7, 8, 37, 38, 39, 47, 58] (K' := [(0, .slice A27 j24.length n28), (5, .pointer (some ⟨g38, 0, none⟩)), (6, .int .i64 s51.2.2), (7, .pointer (some ⟨g96, 0, none⟩)), (8, .string x88.f1), (37, .slice A27 j24.length n28), (38, .int .i64 (j24.length : Int)), (39, .int .i64 s51.2.2), (47, .int .i64 x88.f0), (58, .bool (x88.f0 == 3))]) (by kernel_rfl) ?_
                        refine gl_atE (by kernel_rfl) ?_
                        refine ge_seq ?_
                        obtain ⟨j119, hj120, hj114⟩ := bind_some hj114
                        refine gk_join (fun t I' L' => I62 ≤ I' ∧ (g96, .cells #[.int .i64 x88.f0, .string x88.f1, .int .i64 x88.f2] 28) :: (C59 ++ ((g38, .cells #[.pointer q55, .slice A57 s51.2.1.length n58] 51) :: L)) = L' ∧ Knows 85 [(0, .slice A27 j24.length n28), (5, .pointer (some ⟨g38, 0, none⟩)), (6, .int .i64 s51.2.2), (7, .pointer (some ⟨g96, 0, none⟩)), (8, .string x88.f1), (37, .slice A27 j24.length n28), (38, .int .i64 (j24.length : Int)), (39, .int .i64 s51.2.2), (58, .bool j119)] t) ?_ ?_
                        · refine gk_cond (b := (x88.f0 == 3)) (by kernel_rfl) (by kernel_rfl) (fun hc124 => ?_) (fun hc124 => ?_)
                          · have hj120 := cond_t hc124 hj120
                            refine gk_skip (by kernel_rfl) ?_
                            obtain rfl := some_inj hj120
                            exact ge_mid fun t ht => ⟨(Imm.refl _), rfl, ht.pick (l := [0, 5, 6, 7, 8, 37, 38, 39, 58]) (by kernel_rfl)⟩
                          · have hj120 := cond_f hc124 hj120
                            refine gk_region (by kernel_rfl) ?_
                            refine gl_pure 2 [0, 5, 6, 7, 8, 37, 38, 39, 58] (K' := [(0, .slice A27 j24.length n28), (5, .pointer (some ⟨g38, 0, none⟩)), (6, .int .i64 s51.2.2), (7, .pointer (some ⟨g96, 0, none⟩)), (8, .string x88.f1), (37, .slice A27 j24.length n28), (38, .int .i64 (j24.length : Int)), (39, .int .i64 s51.2.2), (58, .bool (x88.f0 == 5))]) (by kernel_rfl) ?_
                            refine gl_atE (by kernel_rfl) ?_
                            obtain rfl := some_inj hj120
                            exact ge_mid fun t ht => ⟨(Imm.refl _), rfl, ht.pick (l := [0, 5, 6, 7, 8, 37, 38, 39, 58]) (by kernel_rfl)⟩
                        · rintro t I123 L' ⟨hI121, rfl, hK122⟩
                          refine ge_at hK122 ?_
                          obtain rfl := some_inj hj114
                          exact ge_mid fun t ht => ⟨hI121, rfl, ht.pick (l := [0, 5, 6, 7, 8, 37, 38, 39, 58]) (by kernel_rfl)⟩
                    · rintro t I117 L' ⟨hI115, rfl, hK116⟩
                      refine ge_at hK116 ?_
                      obtain rfl := some_inj hj108
                      exact ge_mid fun t ht => ⟨hI115, rfl, ht.pick (l := [0, 5, 6, 7, 8, 37, 38, 39, 58]) (by kernel_rfl)⟩
                · rintro t I111 L' ⟨hI109, rfl, hK110⟩
                  refine ge_at hK110 ?_
                  refine ge_seq ?_
                  refine gk_cond (b := j107) (by kernel_rfl) (by kernel_rfl) (fun hc125 => ?_) (fun hc125 => ?_)
                  · have hj98 := cond_t hc125 hj98
                    refine gk_seq (by kernel_rfl) ?_
                    refine gk_region (by kernel_rfl) ?_
                    refine gl_pure 2 [0, 5, 6, 8, 37, 38, 39, 63, 64] (K' := [(0, .slice A27 j24.length n28), (5, .pointer (some ⟨g38, 0, none⟩)), (6, .int .i64 s51.2.2), (8, .string x88.f1), (37, .slice A27 j24.length n28), (38, .int .i64 (j24.length : Int)), (39, .int .i64 s51.2.2), (63, .string x88.f1), (64, .pointer (some ⟨g96, 0, none⟩))]) (by kernel_rfl) ?_
                    refine gl_loadB (T' := 3) (xp := (.tmp 64)) (v := .int .i64 x88.f0) (g := g96) (off := 0) (cs := #[.int .i64 x88.f0, .string x88.f1, .int .i64 x88.f2]) (e := 28) (fz := (0, 0)) (by kernel_rfl) (by kernel_rfl) (by kernel_rfl) List.mem_cons_self (by kernel_rfl) ?_
                    obtain ⟨y126, hx127, hj98⟩ := bind_some hj98
                    refine gl_callQ (by kernel_rfl) (lex_alone_walk (r := y126) (hG.mono (Imm.trans (Imm.trans (Imm.trans hI3 hI26) hI54) hI109)) hx127 _) ?_
                    refine gl_pure 1 [0, 5, 6, 8, 37, 38, 39, 67] (K' := [(0, .slice A27 j24.length n28), (5, .pointer (some ⟨g38, 0, none⟩)), (6, .int .i64 s51.2.2), (8, .string x88.f1), (37, .slice A27 j24.length n28), (38, .int .i64 (j24.length : Int)), (39, .int .i64 s51.2.2), (67, .bool (!y126))]) (by kernel_rfl) ?_
                    refine gl_atE (by kernel_rfl) ?_
                    refine ge_seq ?_
                    refine gk_cond (b := (!y126)) (by kernel_rfl) (by kernel_rfl) (fun hc128 => ?_) (fun hc128 => ?_)
                    · have hj98 := cond_t hc128 hj98
                      refine gk_seq (by kernel_rfl) ?_
                      refine gk_region (by kernel_rfl) ?_
                      refine gl_pure 2 [2, 3] (K' := [(2, .string (⟨#[]⟩ : ByteArray)), (3, .int .i64 130)]) (by kernel_rfl) ?_
                      refine gl_atE (by kernel_rfl) ?_
                      refine ge_seq ?_
                      refine gk_reord (D := L) (Reord.skip (Reord.skipC (Reord.skip (Reord.refl _)))) ?_
                      refine gk_ret (by kernel_rfl) ?_
                      refine ge_seq_ret ?_
                      obtain rfl := some_inj hj98
                      refine ge_block_ret ?_
                      refine ge_seq_ret ?_
                      refine ge_block_ret ?_
                      refine ge_seq_ret ?_
                      obtain rfl := some_inj hj77
                      refine ge_seq_ret ?_
                      obtain rfl := some_inj hb53
                      refine ge_round_out (fun hrr => ?_) (by intro h; cases h)
                      obtain rfl := hrr
                      refine ge_block_ret ?_
                      refine ge_seq_ret ?_
                      refine ge_seq_ret ?_
                      obtain rfl := some_inj hr
                      exact ge_result trivial (ResOk.tmp (by kernel_rfl) (ResOk.tmp (by kernel_rfl) ResOk.nil)) (Imm.trans (Imm.trans (Imm.trans hI3 hI26) hI54) hI109) ⟨rfl, rfl⟩
                    · have hj98 := cond_f hc128 hj98
                      refine gk_reord (D := C59 ++ ((g38, .cells #[.pointer q55, .slice A57 s51.2.1.length n58] 51) :: L)) (Reord.step (Upd.one _ (Upd.rmC _ _)) (Reord.step1 (Upd.one _ (Upd.rm1 _ _)) (Reord.skip (Reord.refl _)))) ?_
                      refine gk_skip (by kernel_rfl) ?_
                      obtain rfl := some_inj hj98
                      exact ge_mid fun t ht => ⟨_, rfl, hI109, rfl, ht.pick (l := [0, 5, 6, 8, 37, 38, 39]) (by kernel_rfl)⟩
                  · have hj98 := cond_f hc125 hj98
                    refine gk_seq (by kernel_rfl) ?_
                    refine gk_region (by kernel_rfl) ?_
                    refine gl_pure 2 [2, 3] (K' := [(2, .string (⟨#[]⟩ : ByteArray)), (3, .int .i64 130)]) (by kernel_rfl) ?_
                    refine gl_atE (by kernel_rfl) ?_
                    refine ge_seq ?_
                    refine gk_reord (D := L) (Reord.skip (Reord.skipC (Reord.skip (Reord.refl _)))) ?_
                    refine gk_ret (by kernel_rfl) ?_
                    refine ge_seq_ret ?_
                    obtain rfl := some_inj hj98
                    refine ge_block_ret ?_
                    refine ge_seq_ret ?_
                    refine ge_block_ret ?_
                    refine ge_seq_ret ?_
                    obtain rfl := some_inj hj77
                    refine ge_seq_ret ?_
                    obtain rfl := some_inj hb53
                    refine ge_round_out (fun hrr => ?_) (by intro h; cases h)
                    obtain rfl := hrr
                    refine ge_block_ret ?_
                    refine ge_seq_ret ?_
                    refine ge_seq_ret ?_
                    obtain rfl := some_inj hr
                    exact ge_result trivial (ResOk.tmp (by kernel_rfl) (ResOk.tmp (by kernel_rfl) ResOk.nil)) (Imm.trans (Imm.trans (Imm.trans hI3 hI26) hI54) hI109) ⟨rfl, rfl⟩
            · rintro t I102 L' ⟨j99, rfl, hI100, rfl, hK101⟩
              refine ge_at hK101 ?_
              refine ge_block_normal ?_
              refine ge_seq ?_
              refine gk_seq (by kernel_rfl) ?_
              refine gk_seq (by kernel_rfl) ?_
              refine gk_region (by kernel_rfl) ?_
              refine gl_reord (D := (g38, .cells #[.pointer q55, .slice A57 s51.2.1.length n58] 51) :: (C59 ++ L)) (Reord.step1 (Upd.app _ (Upd.rm1 _ _)) (Reord.step (Upd.rmC _ _) (Reord.refl _))) ?_
              refine gl_call (by kernel_rfl) (strings_Builder_Len_walk (r := (strings_Builder_Len (⟨s51.2.1⟩ : S50))) (g0 := g38) (q0_0 := q55) (A0_1 := A57) (c0_1 := n58) (C0_1 := C59) (a0 := (⟨s51.2.1⟩ : S50)) hq56 (hO60.mono hI100) rfl _) ?_
              rintro v I129 L130 hI131 ⟨rfl, rfl⟩
              refine gl_pure 1 [0, 5, 6, 8, 37, 38, 39, 69] (K' := [(0, .slice A27 j24.length n28), (5, .pointer (some ⟨g38, 0, none⟩)), (6, .int .i64 s51.2.2), (8, .string j99), (37, .slice A27 j24.length n28), (38, .int .i64 (j24.length : Int)), (39, .int .i64 s51.2.2), (69, .bool (decide ((strings_Builder_Len (⟨s51.2.1⟩ : S50)) > 65536)))]) (by kernel_rfl) ?_
              refine gl_atE (by kernel_rfl) ?_
              refine ge_seq ?_
              refine gk_cond (b := (decide ((strings_Builder_Len (⟨s51.2.1⟩ : S50)) > 65536))) (by kernel_rfl) (by kernel_rfl) (fun hc132 => ?_) (fun hc132 => ?_)
              · have hj77 := cond_t hc132 hj77
                refine gk_reord (D := C59 ++ ((g38, .cells #[.pointer q55, .slice A57 s51.2.1.length n58] 51) :: L)) (Reord.step (Upd.one _ (Upd.rmC _ _)) (Reord.step1 (Upd.rm1 _ _) (Reord.refl _))) ?_
                refine gk_exit (by kernel_rfl) ?_
                refine ge_seq_exit ?_
                refine ge_block_hit (by kernel_rfl) ?_
                obtain rfl := some_inj hj77
                exact ge_mid fun t ht => ⟨_, rfl, q55, A57, n58, C59, hq56, (hO60.mono (Imm.trans hI100 hI131)), (Imm.trans hI100 hI131), rfl, ht.pick (l := [0, 5, 37, 38, 39]) (by kernel_rfl)⟩
              · have hj77 := cond_f hc132 hj77
                refine gk_skip (by kernel_rfl) ?_
                refine ge_seq ?_
                refine gk_seq (by kernel_rfl) ?_
                refine gk_seq (by kernel_rfl) ?_
                refine gk_region (by kernel_rfl) ?_
                refine gl_pure 2 [0, 5, 8, 37, 38, 39, 71] (K' := [(0, .slice A27 j24.length n28), (5, .pointer (some ⟨g38, 0, none⟩)), (8, .string j99), (37, .slice A27 j24.length n28), (38, .int .i64 (j24.length : Int)), (39, .int .i64 s51.2.2), (71, .bool (decide (s51.2.2 > 0)))]) (by kernel_rfl) ?_
                refine gl_atE (by kernel_rfl) ?_
                refine ge_seq ?_
                obtain ⟨j133, hj134, hj77⟩ := bind_some hj77
                refine gk_join (fun t I' L' => ∃ q136 A138 n139 C140, (q136 = none ∨ q136 = some (⟨g38, 0, none⟩ : Addr)) ∧ OwnS (Kd.int .u8) 5 I' A138 n139 j133.2 C140 ∧ I129 ≤ I' ∧ C140 ++ ((g38, .cells #[.pointer q136, .slice A138 j133.2.length n139] 51) :: L) = L' ∧ Knows 85 [(0, .slice A27 j24.length n28), (5, .pointer (some ⟨g38, 0, none⟩)), (8, .string j99), (37, .slice A27 j24.length n28), (38, .int .i64 (j24.length : Int)), (39, .int .i64 s51.2.2)] t) ?_ ?_
                · refine gk_cond (b := (decide (s51.2.2 > 0))) (by kernel_rfl) (by kernel_rfl) (fun hc144 => ?_) (fun hc144 => ?_)
                  · have hj134 := cond_t hc144 hj134
                    refine gk_region (by kernel_rfl) ?_
                    obtain ⟨y145, hx146, hj134⟩ := bind_some hj134
                    refine gl_call (by kernel_rfl) (strings_Builder_WriteByte_walk (r := y145) (g0 := g38) (q0_0 := q55) (A0_1 := A57) (c0_1 := n58) (C0_1 := C59) (a0 := (⟨s51.2.1⟩ : S50)) hq56 (hO60.mono (Imm.trans hI100 hI131)) hx146 _) ?_
                    rintro v I147 L148 hI149 ⟨z150, A151, c152, C153, hO154, hO155, rfl, rfl⟩
                    refine gl_reord (D := C153 ++ ((g38, .cells #[.pointer z150, .slice A151 y145.2.f1.length c152] 51) :: L)) (Reord.step (Upd.one _ (Upd.rmC _ _)) (Reord.step1 (Upd.rm1 _ _) (Reord.refl _))) ?_
                    refine gl_atE (by kernel_rfl) ?_
                    obtain rfl := some_inj hj134
                    exact ge_mid fun t ht => ⟨z150, A151, c152, C153, hO154, hO155, hI149, rfl, ht.pick (l := [0, 5, 8, 37, 38, 39]) (by kernel_rfl)⟩
                  · have hj134 := cond_f hc144 hj134
                    refine gk_reord (D := C59 ++ ((g38, .cells #[.pointer q55, .slice A57 s51.2.1.length n58] 51) :: L)) (Reord.step (Upd.one _ (Upd.rmC _ _)) (Reord.step1 (Upd.rm1 _ _) (Reord.refl _))) ?_
                    refine gk_skip (by kernel_rfl) ?_
                    obtain rfl := some_inj hj134
                    exact ge_mid fun t ht => ⟨q55, A57, n58, C59, hq56, (hO60.mono (Imm.trans hI100 hI131)), (Imm.refl _), rfl, ht.pick (l := [0, 5, 8, 37, 38, 39]) (by kernel_rfl)⟩
                · rintro t I143 L' ⟨q136, A138, n139, C140, hq137, hO141, hI135, rfl, hK142⟩
                  refine ge_at hK142 ?_
                  refine ge_seq ?_
                  refine gk_region (by kernel_rfl) ?_
                  refine gl_pure 1 [0, 5, 37, 38, 39, 73] (K' := [(0, .slice A27 j24.length n28), (5, .pointer (some ⟨g38, 0, none⟩)), (37, .slice A27 j24.length n28), (38, .int .i64 (j24.length : Int)), (39, .int .i64 s51.2.2), (73, .string j99)]) (by kernel_rfl) ?_
                  obtain ⟨y156, hx157, hj77⟩ := bind_some hj77
                  refine gl_reord (D := (g38, .cells #[.pointer q136, .slice A138 j133.2.length n139] 51) :: (C140 ++ L)) (Reord.step1 (Upd.app _ (Upd.rm1 _ _)) (Reord.step (Upd.rmC _ _) (Reord.refl _))) ?_
                  refine gl_call (by kernel_rfl) (strings_Builder_WriteString_walk (r := y156) (g0 := g38) (q0_0 := q136) (A0_1 := A138) (c0_1 := n139) (C0_1 := C140) (a0 := (⟨j133.2⟩ : S50)) hq137 hO141 hx157 _) ?_
                  rintro v I158 L159 hI160 ⟨z161, A162, c163, C164, hO165, hO166, rfl, rfl⟩
                  refine gl_reord (D := C164 ++ ((g38, .cells #[.pointer z161, .slice A162 y156.2.2.f1.length c163] 51) :: L)) (Reord.step (Upd.one _ (Upd.rmC _ _)) (Reord.step1 (Upd.rm1 _ _) (Reord.refl _))) ?_
                  refine gl_atE (by kernel_rfl) ?_
                  refine ge_block_normal ?_
                  obtain rfl := some_inj hj77
                  exact ge_mid fun t ht => ⟨_, rfl, z161, A162, c163, C164, hO165, hO166, (Imm.trans (Imm.trans (Imm.trans hI100 hI131) hI135) hI160), rfl, ht.pick (l := [0, 5, 37, 38, 39]) (by kernel_rfl)⟩
          · rintro t I87 L' ⟨j78, rfl, q80, A82, n83, C84, hq81, hO85, hI79, rfl, hK86⟩
            refine ge_at hK86 ?_
            refine ge_seq ?_
            refine gk_region (by kernel_rfl) ?_
            refine gl_pure 2 [0, 5, 37, 38, 39] (K' := [(0, .slice A27 j24.length n28), (5, .pointer (some ⟨g38, 0, none⟩)), (37, .slice A27 j24.length n28), (38, .int .i64 (j24.length : Int)), (39, .int .i64 (IntKind.wrap .i64 (s51.2.2 + 1)))]) (by kernel_rfl) ?_
            refine gl_atE (by kernel_rfl) ?_
            obtain rfl := some_inj hb53
            exact ge_round fun t ht => ⟨q80, A82, n83, C84, hq81, hO85, (Imm.trans hI54 hI79), rfl, ht.pick (l := [0, 5, 37, 38, 39]) (by kernel_rfl)⟩
        · have hb53 := cond_f hc75 hb53
          refine gk_exit (by kernel_rfl) ?_
          refine ge_seq_exit ?_
          obtain rfl := some_inj hb53
          refine ge_round_out (fun hrr => ?_) (by intro h; cases h)
          obtain rfl := hrr
          refine ge_block_hit (by kernel_rfl) ?_
          exact ge_mid fun t ht => ⟨_, rfl, q55, A57, n58, C59, hq56, hO60, hI54, rfl, ht.pick (l := [0, 5]) (by kernel_rfl)⟩
      · rintro t I72 L' ⟨r63, rfl, q65, A67, n68, C69, hq66, hO70, hI64, rfl, hK71⟩
        refine ge_at hK71 ?_
        refine ge_seq ?_
        refine gk_seq (by kernel_rfl) ?_
        refine gk_block (by kernel_rfl) ?_
        refine gk_seq (by kernel_rfl) ?_
        refine gk_region (by kernel_rfl) ?_
        refine gl_reord (D := (g38, .cells #[.pointer q65, .slice A67 r63.2.length n68] 51) :: (C69 ++ L)) (Reord.step1 (Upd.app _ (Upd.rm1 _ _)) (Reord.step (Upd.rmC _ _) (Reord.refl _))) ?_
        refine gl_call (by kernel_rfl) (strings_Builder_Len_walk (r := (strings_Builder_Len (⟨r63.2⟩ : S50))) (g0 := g38) (q0_0 := q65) (A0_1 := A67) (c0_1 := n68) (C0_1 := C69) (a0 := (⟨r63.2⟩ : S50)) hq66 hO70 rfl _) ?_
        rintro v I169 L170 hI171 ⟨rfl, rfl⟩
        refine gl_pure 2 [0, 5, 76] (K' := [(0, .slice A27 j24.length n28), (5, .pointer (some ⟨g38, 0, none⟩)), (76, .bool (decide ((strings_Builder_Len (⟨r63.2⟩ : S50)) > 65536)))]) (by kernel_rfl) ?_
        refine gl_atE (by kernel_rfl) ?_
        refine ge_seq ?_
        refine gk_cond (b := (decide ((strings_Builder_Len (⟨r63.2⟩ : S50)) > 65536))) (by kernel_rfl) (by kernel_rfl) (fun hc172 => ?_) (fun hc172 => ?_)
        · have hr := cond_t hc172 hr
          refine gk_seq (by kernel_rfl) ?_
          refine gk_region (by kernel_rfl) ?_
          refine gl_pure 2 [2, 3] (K' := [(2, .string (⟨#[]⟩ : ByteArray)), (3, .int .i64 4)]) (by kernel_rfl) ?_
          refine gl_atE (by kernel_rfl) ?_
          refine ge_seq ?_
          refine gk_reord (D := L) (Reord.skip (Reord.skipC (Reord.refl _))) ?_
          refine gk_ret (by kernel_rfl) ?_
          refine ge_block_ret ?_
          refine ge_seq_ret ?_
          obtain rfl := some_inj hr
          exact ge_result trivial (ResOk.tmp (by kernel_rfl) (ResOk.tmp (by kernel_rfl) ResOk.nil)) (Imm.trans (Imm.trans (Imm.trans hI3 hI26) hI64) hI171) ⟨rfl, rfl⟩
        · have hr := cond_f hc172 hr
          refine gk_seq (by kernel_rfl) ?_
          refine gk_region (by kernel_rfl) ?_
          refine gl_pure 5 [5, 79] (K' := [(5, .pointer (some ⟨g38, 0, none⟩)), (79, .bool (decide ((IntKind.wrap .i64 ((j24.length : Int) + 1)) > 4096)))]) (by kernel_rfl) ?_
          refine gl_atE (by kernel_rfl) ?_
          refine ge_seq ?_
          refine gk_cond (b := (decide ((IntKind.wrap .i64 ((j24.length : Int) + 1)) > 4096))) (by kernel_rfl) (by kernel_rfl) (fun hc173 => ?_) (fun hc173 => ?_)
          · have hr := cond_t hc173 hr
            refine gk_seq (by kernel_rfl) ?_
            refine gk_region (by kernel_rfl) ?_
            refine gl_pure 2 [2, 3] (K' := [(2, .string (⟨#[]⟩ : ByteArray)), (3, .int .i64 7)]) (by kernel_rfl) ?_
            refine gl_atE (by kernel_rfl) ?_
            refine ge_seq ?_
            refine gk_reord (D := L) (Reord.skip (Reord.skipC (Reord.refl _))) ?_
            refine gk_ret (by kernel_rfl) ?_
            refine ge_block_ret ?_
            refine ge_seq_ret ?_
            obtain rfl := some_inj hr
            exact ge_result trivial (ResOk.tmp (by kernel_rfl) (ResOk.tmp (by kernel_rfl) ResOk.nil)) (Imm.trans (Imm.trans (Imm.trans hI3 hI26) hI64) hI171) ⟨rfl, rfl⟩
          · have hr := cond_f hc173 hr
            refine gk_skip (by kernel_rfl) ?_
            refine ge_block_normal ?_
            refine ge_seq ?_
            refine gk_seq (by kernel_rfl) ?_
            refine gk_region (by kernel_rfl) ?_
            obtain ⟨y174, hx175, hr⟩ := bind_some hr
            refine gl_call (by kernel_rfl) (strings_Builder_String_walk (r := y174) (g0 := g38) (q0_0 := q65) (A0_1 := A67) (c0_1 := n68) (C0_1 := C69) (a0 := (⟨r63.2⟩ : S50)) hq66 (hO70.mono hI171) hx175 _) ?_
            rintro v I176 L177 hI178 ⟨rfl, rfl⟩
            refine gl_pure 2 [2, 3] (K' := [(2, .string y174), (3, .int .i64 0)]) (by kernel_rfl) ?_
            refine gl_atE (by kernel_rfl) ?_
            refine ge_seq ?_
            refine gk_ret (by kernel_rfl) ?_
            obtain rfl := some_inj hr
            exact ge_result trivial (ResOk.tmp (by kernel_rfl) (ResOk.tmp (by kernel_rfl) ResOk.nil)) (Imm.trans (Imm.trans (Imm.trans (Imm.trans hI3 hI26) hI64) hI171) hI178) ⟨rfl, rfl⟩
/-! 20 lex_skip  -/
noncomputable def lex_skip_l20 (a1 : Int) (s2 : ByteArray) : (Nat × Bool) → Option ((Nat × Bool) ⊕ ((Unit) ⊕ (Int))) := fun s10 =>
  bif decide (s10.1 < s2.size) then
  (Option.bind ((bif ((runeAt s2 s10.1) == 10) then
      (some (Sum.inl false))
      else
      (Option.bind ((bif (((s10.2 || ((runeAt s2 s10.1) == 32)) || ((runeAt s2 s10.1) == 9)) || ((runeAt s2 s10.1) == 13)) then
          (some (Sum.inl s10.2))
          else
          (bif ((runeAt s2 s10.1) == 35) then
            (some (Sum.inl true))
            else
            (some (Sum.inr (Sum.inr (Sum.inr (Sum.inr (IntKind.wrap .i64 (a1 + (s10.1 : Int))))))))) : Option ((Bool) ⊕ ((Bool) ⊕ ((Nat × Bool) ⊕ ((Unit) ⊕ (Int))))))) fun (j38 : (Bool) ⊕ ((Bool) ⊕ ((Nat × Bool) ⊕ ((Unit) ⊕ (Int))))) =>
        match j38 with
        | Sum.inl j40 => some (Sum.inl j40)
        | Sum.inr v46 => some v46) : Option ((Bool) ⊕ ((Nat × Bool) ⊕ ((Unit) ⊕ (Int)))))) fun (j23 : (Bool) ⊕ ((Nat × Bool) ⊕ ((Unit) ⊕ (Int)))) =>
    match j23 with
    | Sum.inl j25 => some (Sum.inl ((s10.1 + runeW s2 s10.1), j25))
    | Sum.inr v47 => some v47)
  else
  (some (Sum.inr (Sum.inl ())))
noncomputable def lex_skip (a0 : ByteArray) (a1 : Int) : Option Int :=
  Option.bind (sx a0 a1 (a0.size : Int)) fun (s2 : ByteArray) =>
  Option.bind (loopO (lex_skip_l20 a1 s2) (0, false)) fun (r8 : (Unit) ⊕ (Int)) =>
  match r8 with
  | Sum.inl r16 => some (a0.size : Int)
  | Sum.inr v48 => some v48
theorem lex_skip_walk {a0 : ByteArray} {a1 : Int} {I : Imm} {r : Int}  (hr : lex_skip a0 a1 = some r) (L : Own) :
    CallsTo Tryd.prog 20 #[.string a0, .int .i64 a1] I L (fun v I' L' => v = .int .i64 r ∧ L = L') := by
  unfold lex_skip at hr
  refine callsTo_body (N := 41) Tryd.func20 (by kernel_rfl) (by kernel_rfl) (by kernel_rfl) ?_
  refine gk_pick [0, 1] (K' := [(0, .string a0), (1, .int .i64 a1)]) (by kernel_rfl) ?_
  refine gk_seq (by kernel_rfl) ?_
  refine gk_region (by kernel_rfl) ?_
  refine gl_pure 1 [0, 1] (K' := [(0, .string a0), (1, .int .i64 a1)]) (by kernel_rfl) ?_
  refine gl_atE (by kernel_rfl) ?_
  refine ge_seq ?_
  refine gk_seq (by kernel_rfl) ?_
  refine gk_region (by kernel_rfl) ?_
  refine gl_pure 1 [0, 1, 5] (K' := [(0, .string a0), (1, .int .i64 a1), (5, .bool false)]) (by kernel_rfl) ?_
  refine gl_atE (by kernel_rfl) ?_
  refine ge_seq ?_
  refine gk_seq (by kernel_rfl) ?_
  refine gk_seq (by kernel_rfl) ?_
  refine gk_region (by kernel_rfl) ?_
  refine gl_pure 2 [0, 1, 5, 8, 9] (K' := [(0, .string a0), (1, .int .i64 a1), (5, .bool false), (8, .string a0), (9, .int .i64 a1)]) (by kernel_rfl) ?_
  obtain ⟨s2, hx1, hr⟩ := bind_some hr
  refine gl_slice' (T' := 9) (xs := (.tmp 8)) (lo := (some (.tmp 9))) (hi := none) hx1 (by kernel_rfl) (by kernel_rfl) (by kernel_rfl) (by kernel_rfl) (by kernel_rfl) (by kernel_rfl) ?_
  refine gl_range (T' := 9) (x := (.tmp 10)) (s := s2) (by kernel_rfl) (by kernel_rfl) (by kernel_rfl) (by kernel_rfl) (fun g3 => ?_)
  refine gl_atE (by kernel_rfl) ?_
  refine ge_seq ?_
  obtain ⟨r8, hl9, hr⟩ := bind_some hr
  refine gk_join (fun t I' L' => ∃ r16, r8 = Sum.inl r16 ∧ I ≤ I' ∧ L = L' ∧ Knows 41 [(0, .string a0)] t) ?_ ?_
  · refine gk_block (by kernel_rfl) ?_
    refine gk_pick [0, 1, 5, 11] (K' := [(0, .string a0), (1, .int .i64 a1), (5, .bool false), (11, .pointer (some ⟨g3, 0, none⟩))]) (by kernel_rfl) ?_
    intro t hK
    refine gc_loop (lex_skip_l20 a1 s2) (fun s10 t I' L' => I ≤ I' ∧ (g3, .stringIter s2 s10.1) :: L = L' ∧ Knows 41 [(0, .string a0), (1, .int .i64 a1), (5, .bool s10.2), (11, .pointer (some ⟨g3, 0, none⟩))] t) (by kernel_rfl) ?_ hl9 ⟨(Imm.refl _), rfl, hK⟩
    rintro s10 o11 t I15 L' hb12 ⟨hI13, rfl, hK14⟩
    unfold lex_skip_l20 at hb12
    refine gk_at hK14 ?_
    refine gk_seq (by kernel_rfl) ?_
    refine gk_region (by kernel_rfl) ?_
    refine gl_next (x := (.tmp 11)) (s := s2) (pos := s10.1) (g := g3) (by kernel_rfl) (by kernel_rfl) (by kernel_rfl) (Upd.set _ _ _ _) (Upd.set _ _ _ _) (fun hc22 => ?_) (fun hc22 => ?_)
    · have hb12 := cond_t hc22 hb12
      refine gl_pure 1 [0, 1, 5, 11, 12, 13] (K' := [(0, .string a0), (1, .int .i64 a1), (5, .bool s10.2), (11, .pointer (some ⟨g3, 0, none⟩)), (12, .tuple #[.bool true, .int .i64 (s10.1 : Int), .int .i32 (runeAt s2 s10.1)]), (13, .bool true)]) (by kernel_rfl) ?_
      refine gl_atE (by kernel_rfl) ?_
      refine ge_seq ?_
      refine gk_seq (by kernel_rfl) ?_
      refine gk_cond (b := true) (by kernel_rfl) (by kernel_rfl) (fun _ => ?_) (fun h => by cases h)
      refine gk_skip (by kernel_rfl) ?_
      refine ge_seq ?_
      refine gk_block (by kernel_rfl) ?_
      refine gk_seq (by kernel_rfl) ?_
      refine gk_region (by kernel_rfl) ?_
      refine gl_pure 4 [0, 1, 5, 6, 7, 11] (K' := [(0, .string a0), (1, .int .i64 a1), (5, .bool s10.2), (6, .int .i64 (s10.1 : Int)), (7, .int .i32 (runeAt s2 s10.1)), (11, .pointer (some ⟨g3, 0, none⟩))]) (by kernel_rfl) ?_
      refine gl_atE (by kernel_rfl) ?_
      refine ge_seq ?_
      refine gk_block (by kernel_rfl) ?_
      refine gk_seq (by kernel_rfl) ?_
      refine gk_region (by kernel_rfl) ?_
      refine gl_pure 3 [0, 1, 5, 6, 7, 11, 19] (K' := [(0, .string a0), (1, .int .i64 a1), (5, .bool s10.2), (6, .int .i64 (s10.1 : Int)), (7, .int .i32 (runeAt s2 s10.1)), (11, .pointer (some ⟨g3, 0, none⟩)), (19, .bool ((runeAt s2 s10.1) == 10))]) (by kernel_rfl) ?_
      refine gl_atE (by kernel_rfl) ?_
      refine ge_seq ?_
      obtain ⟨j23, hj24, hb12⟩ := bind_some hb12
      refine gk_join (fun t I' L' => ∃ j25, j23 = Sum.inl j25 ∧ I15 ≤ I' ∧ (g3, .stringIter s2 (s10.1 + runeW s2 s10.1)) :: L = L' ∧ Knows 41 [(0, .string a0), (1, .int .i64 a1), (5, .bool j25), (11, .pointer (some ⟨g3, 0, none⟩))] t) ?_ ?_
      · refine gk_cond (b := ((runeAt s2 s10.1) == 10)) (by kernel_rfl) (by kernel_rfl) (fun hc29 => ?_) (fun hc29 => ?_)
        · have hj24 := cond_t hc29 hj24
          refine gk_region (by kernel_rfl) ?_
          refine gl_pure 1 [0, 1, 5, 11] (K' := [(0, .string a0), (1, .int .i64 a1), (5, .bool false), (11, .pointer (some ⟨g3, 0, none⟩))]) (by kernel_rfl) ?_
          refine gl_atE (by kernel_rfl) ?_
          obtain rfl := some_inj hj24
          exact ge_mid fun t ht => ⟨_, rfl, (Imm.refl _), rfl, ht.pick (l := [0, 1, 5, 11]) (by kernel_rfl)⟩
        · have hj24 := cond_f hc29 hj24
          refine gk_seq (by kernel_rfl) ?_
          obtain ⟨b32, hb33⟩ : ∃ z, z = (((s10.2 || ((runeAt s2 s10.1) == 32)) || ((runeAt s2 s10.1) == 9)) || ((runeAt s2 s10.1) == 13)) := ⟨_, rfl⟩
          refine gk_join (fun t I' L' => I15 ≤ I' ∧ (g3, .stringIter s2 (s10.1 + runeW s2 s10.1)) :: L = L' ∧ Knows 41 [(0, .string a0), (1, .int .i64 a1), (5, .bool s10.2), (6, .int .i64 (s10.1 : Int)), (7, .int .i32 (runeAt s2 s10.1)), (11, .pointer (some ⟨g3, 0, none⟩)), (22, .bool b32)] t) ?_ ?_
          · refine gk_region (by kernel_rfl) ?_
            refine gl_pure 2 [0, 1, 5, 6, 7, 11, 24] (K' := [(0, .string a0), (1, .int .i64 a1), (5, .bool s10.2), (6, .int .i64 (s10.1 : Int)), (7, .int .i32 (runeAt s2 s10.1)), (11, .pointer (some ⟨g3, 0, none⟩)), (24, .bool s10.2)]) (by kernel_rfl) ?_
            refine gl_case 24 (b := s10.2) (by kernel_rfl) (fun hc35 => ?_) (fun hc35 => ?_)
            · refine gl_pure 12 [0, 1, 5, 6, 7, 11, 22] (K' := [(0, .string a0), (1, .int .i64 a1), (5, .bool s10.2), (6, .int .i64 (s10.1 : Int)), (7, .int .i32 (runeAt s2 s10.1)), (11, .pointer (some ⟨g3, 0, none⟩)), (22, .bool true)]) (by kernel_rfl) ?_
              refine gl_atE (by kernel_rfl) ?_
              exact ge_mid fun t ht => ⟨(Imm.refl _), rfl, by rw [(show b32 = true from hb33.trans (by rw [hc35]; try rfl))]; exact ht.pick (l := [0, 1, 5, 6, 7, 11, 22]) (by kernel_rfl)⟩
            · refine gl_pure 4 [0, 1, 5, 6, 7, 11, 28] (K' := [(0, .string a0), (1, .int .i64 a1), (5, .bool s10.2), (6, .int .i64 (s10.1 : Int)), (7, .int .i32 (runeAt s2 s10.1)), (11, .pointer (some ⟨g3, 0, none⟩)), (28, .bool ((runeAt s2 s10.1) == 32))]) (by kernel_rfl) ?_
              refine gl_case 28 (b := ((runeAt s2 s10.1) == 32)) (by kernel_rfl) (fun hc36 => ?_) (fun hc36 => ?_)
              · refine gl_pure 8 [0, 1, 5, 6, 7, 11, 22] (K' := [(0, .string a0), (1, .int .i64 a1), (5, .bool s10.2), (6, .int .i64 (s10.1 : Int)), (7, .int .i32 (runeAt s2 s10.1)), (11, .pointer (some ⟨g3, 0, none⟩)), (22, .bool true)]) (by kernel_rfl) ?_
                refine gl_atE (by kernel_rfl) ?_
                exact ge_mid fun t ht => ⟨(Imm.refl _), rfl, by rw [(show b32 = true from hb33.trans (by rw [hc35, hc36]; try rfl))]; exact ht.pick (l := [0, 1, 5, 6, 7, 11, 22]) (by kernel_rfl)⟩
              · refine gl_pure 4 [0, 1, 5, 6, 7, 11, 32] (K' := [(0, .string a0), (1, .int .i64 a1), (5, .bool s10.2), (6, .int .i64 (s10.1 : Int)), (7, .int .i32 (runeAt s2 s10.1)), (11, .pointer (some ⟨g3, 0, none⟩)), (32, .bool ((runeAt s2 s10.1) == 9))]) (by kernel_rfl) ?_
                refine gl_case 32 (b := ((runeAt s2 s10.1) == 9)) (by kernel_rfl) (fun hc37 => ?_) (fun hc37 => ?_)
                · refine gl_pure 4 [0, 1, 5, 6, 7, 11, 22] (K' := [(0, .string a0), (1, .int .i64 a1), (5, .bool s10.2), (6, .int .i64 (s10.1 : Int)), (7, .int .i32 (runeAt s2 s10.1)), (11, .pointer (some ⟨g3, 0, none⟩)), (22, .bool true)]) (by kernel_rfl) ?_
                  refine gl_atE (by kernel_rfl) ?_
                  exact ge_mid fun t ht => ⟨(Imm.refl _), rfl, by rw [(show b32 = true from hb33.trans (by rw [hc35, hc36, hc37]; try rfl))]; exact ht.pick (l := [0, 1, 5, 6, 7, 11, 22]) (by kernel_rfl)⟩
                · refine gl_pure 4 [0, 1, 5, 6, 7, 11, 22] (K' := [(0, .string a0), (1, .int .i64 a1), (5, .bool s10.2), (6, .int .i64 (s10.1 : Int)), (7, .int .i32 (runeAt s2 s10.1)), (11, .pointer (some ⟨g3, 0, none⟩)), (22, .bool ((runeAt s2 s10.1) == 13))]) (by kernel_rfl) ?_
                  refine gl_atE (by kernel_rfl) ?_
                  exact ge_mid fun t ht => ⟨(Imm.refl _), rfl, by rw [(show b32 = ((runeAt s2 s10.1) == 13) from hb33.trans (by rw [hc35, hc36, hc37]; try rfl))]; exact ht.pick (l := [0, 1, 5, 6, 7, 11, 22]) (by kernel_rfl)⟩
          · rintro t I34 L' ⟨hI30, rfl, hK31⟩
            subst hb33
            refine ge_at hK31 ?_
            refine ge_seq ?_
            obtain ⟨j38, hj39, hj24⟩ := bind_some hj24
            refine gk_join (fun t I' L' => ∃ j40, j38 = Sum.inl j40 ∧ I34 ≤ I' ∧ (g3, .stringIter s2 (s10.1 + runeW s2 s10.1)) :: L = L' ∧ Knows 41 [(0, .string a0), (1, .int .i64 a1), (5, .bool j40), (11, .pointer (some ⟨g3, 0, none⟩))] t) ?_ ?_
            · refine gk_cond (b := (((s10.2 || ((runeAt s2 s10.1) == 32)) || ((runeAt s2 s10.1) == 9)) || ((runeAt s2 s10.1) == 13))) (by kernel_rfl) (by kernel_rfl) (fun hc44 => ?_) (fun hc44 => ?_)
              · have hj39 := cond_t hc44 hj39
                refine gk_skip (by kernel_rfl) ?_
                obtain rfl := some_inj hj39
                exact ge_mid fun t ht => ⟨_, rfl, (Imm.refl _), rfl, ht.pick (l := [0, 1, 5, 11]) (by kernel_rfl)⟩
              · have hj39 := cond_f hc44 hj39
                refine gk_seq (by kernel_rfl) ?_
                refine gk_region (by kernel_rfl) ?_
                refine gl_pure 3 [0, 1, 6, 11, 36] (K' := [(0, .string a0), (1, .int .i64 a1), (6, .int .i64 (s10.1 : Int)), (11, .pointer (some ⟨g3, 0, none⟩)), (36, .bool ((runeAt s2 s10.1) == 35))]) (by kernel_rfl) ?_
                refine gl_atE (by kernel_rfl) ?_
                refine ge_seq ?_
                refine gk_cond (b := ((runeAt s2 s10.1) == 35)) (by kernel_rfl) (by kernel_rfl) (fun hc45 => ?_) (fun hc45 => ?_)
                · have hj39 := cond_t hc45 hj39
                  refine gk_region (by kernel_rfl) ?_
                  refine gl_pure 1 [0, 1, 5, 11] (K' := [(0, .string a0), (1, .int .i64 a1), (5, .bool true), (11, .pointer (some ⟨g3, 0, none⟩))]) (by kernel_rfl) ?_
                  refine gl_atE (by kernel_rfl) ?_
                  obtain rfl := some_inj hj39
                  exact ge_mid fun t ht => ⟨_, rfl, (Imm.refl _), rfl, ht.pick (l := [0, 1, 5, 11]) (by kernel_rfl)⟩
                · have hj39 := cond_f hc45 hj39
                  refine gk_seq (by kernel_rfl) ?_
                  refine gk_region (by kernel_rfl) ?_
                  refine gl_pure 4 [4] (K' := [(4, .int .i64 (IntKind.wrap .i64 (a1 + (s10.1 : Int))))]) (by kernel_rfl) ?_
                  refine gl_atE (by kernel_rfl) ?_
                  refine ge_seq ?_
                  refine gk_reord (D := L) (Reord.skip (Reord.refl _)) ?_
                  refine gk_ret (by kernel_rfl) ?_
                  refine ge_seq_ret ?_
                  obtain rfl := some_inj hj39
                  refine ge_seq_ret ?_
                  obtain rfl := some_inj hj24
                  refine ge_block_ret ?_
                  refine ge_block_ret ?_
                  obtain rfl := some_inj hb12
                  refine ge_round_out (fun hrr => ?_) (by intro h; cases h)
                  obtain rfl := hrr
                  refine ge_block_ret ?_
                  refine ge_seq_ret ?_
                  refine ge_seq_ret ?_
                  obtain rfl := some_inj hr
                  exact ge_result trivial (ResOk.tmp (by kernel_rfl) ResOk.nil) (Imm.trans hI13 hI30) ⟨rfl, rfl⟩
            · rintro t I43 L' ⟨j40, rfl, hI41, rfl, hK42⟩
              refine ge_at hK42 ?_
              obtain rfl := some_inj hj24
              exact ge_mid fun t ht => ⟨_, rfl, (Imm.trans hI30 hI41), rfl, ht.pick (l := [0, 1, 5, 11]) (by kernel_rfl)⟩
      · rintro t I28 L' ⟨j25, rfl, hI26, rfl, hK27⟩
        refine ge_at hK27 ?_
        refine ge_block_normal ?_
        refine ge_block_normal ?_
        obtain rfl := some_inj hb12
        exact ge_round fun t ht => ⟨(Imm.trans hI13 hI26), rfl, ht.pick (l := [0, 1, 5, 11]) (by kernel_rfl)⟩
    · have hb12 := cond_f hc22 hb12
      refine gl_pure 1 [0, 1, 5, 11, 12, 13] (K' := [(0, .string a0), (1, .int .i64 a1), (5, .bool s10.2), (11, .pointer (some ⟨g3, 0, none⟩)), (12, .tuple #[.bool false]), (13, .bool false)]) (by kernel_rfl) ?_
      refine gl_atE (by kernel_rfl) ?_
      refine ge_seq ?_
      refine gk_seq (by kernel_rfl) ?_
      refine gk_cond (b := false) (by kernel_rfl) (by kernel_rfl) (fun h => by cases h) (fun _ => ?_)
      refine gk_reord (D := L) (Reord.skip (Reord.refl _)) ?_
      refine gk_exit (by kernel_rfl) ?_
      refine ge_seq_exit ?_
      obtain rfl := some_inj hb12
      refine ge_round_out (fun hrr => ?_) (by intro h; cases h)
      obtain rfl := hrr
      refine ge_block_hit (by kernel_rfl) ?_
      exact ge_mid fun t ht => ⟨_, rfl, hI13, rfl, ht.pick (l := [0]) (by kernel_rfl)⟩
  · rintro t I19 L' ⟨r16, rfl, hI17, rfl, hK18⟩
    refine ge_at hK18 ?_
    refine ge_seq ?_
    refine gk_seq (by kernel_rfl) ?_
    refine gk_region (by kernel_rfl) ?_
    refine gl_pure 3 [4] (K' := [(4, .int .i64 (a0.size : Int))]) (by kernel_rfl) ?_
    refine gl_atE (by kernel_rfl) ?_
    refine ge_seq ?_
    refine gk_ret (by kernel_rfl) ?_
    obtain rfl := some_inj hr
    exact ge_result trivial (ResOk.tmp (by kernel_rfl) ResOk.nil) hI17 ⟨rfl, rfl⟩
/-! 8 lex_Tokens  -/
noncomputable def lex_Tokens_l32 (a0 : ByteArray) : ((List S27) × Int) → Option (((List S27) × Int) ⊕ (((List S27)) ⊕ ((List S27) × Int × Int))) := fun s14 =>
  bif (decide (s14.2 < (a0.size : Int))) then
  (Option.bind (sx a0 s14.2 (a0.size : Int)) fun (s36 : ByteArray) =>
    Option.bind (lex_one s36) fun (y37 : S27 × Int) =>
    bif (y37.2 == 0) then
    (some (Sum.inr (Sum.inr ([], 130, s14.2))))
    else
    (Option.bind (app s14.1 [(⟨y37.1.f0, y37.1.f1, s14.2⟩ : S27)]) fun (zs45 : List S27) =>
      Option.bind (lex_skip a0 (IntKind.wrap .i64 (s14.2 + y37.2))) fun (y51 : Int) =>
      some (Sum.inl (zs45, y51))))
  else
  (some (Sum.inr (Sum.inl s14.1)))
noncomputable def lex_Tokens (a0 : ByteArray) : Option ((List S27) × Int × Int) :=
  bif (decide ((a0.size : Int) > 65536)) then
  (some ([], 4, 0))
  else
  (Option.bind (lex_skip a0 0) fun (y2 : Int) =>
    Option.bind (loopO (lex_Tokens_l32 a0) ([], y2)) fun (r12 : ((List S27)) ⊕ ((List S27) × Int × Int)) =>
    match r12 with
    | Sum.inl r24 => Option.bind (app r24 [(⟨0, (⟨#[]⟩ : ByteArray), (a0.size : Int)⟩ : S27)]) fun (zs57 : List S27) =>
      bif (decide ((zs57.length : Int) > 4096)) then
      (some ([], 7, 0))
      else
      (some (zs57, 0, 0))
    | Sum.inr v64 => some v64)
theorem lex_Tokens_walk {a0 : ByteArray} {I : Imm} {r : (List S27) × Int × Int} (hG : Gl I) (hr : lex_Tokens a0 = some r) (L : Own) :
    CallsTo Tryd.prog 8 #[.string a0] I L (fun v I' L' => ∃ A0 c0 C0, OwnS kS27 28 I' A0 c0 r.1 C0 ∧ v = .tuple #[.slice A0 r.1.length c0, .int .i64 r.2.1, .int .i64 r.2.2] ∧ C0 ++ L = L') := by
  unfold lex_Tokens at hr
  refine callsTo_body (N := 49) Tryd.func8 (by kernel_rfl) (by kernel_rfl) (by kernel_rfl) ?_
  refine gk_pick [0] (K' := [(0, .string a0)]) (by kernel_rfl) ?_
  refine gk_seq (by kernel_rfl) ?_
  refine gk_region (by kernel_rfl) ?_
  refine gl_pure 3 [0] (K' := [(0, .string a0)]) (by kernel_rfl) ?_
  refine gl_atE (by kernel_rfl) ?_
  refine ge_seq ?_
  refine gk_seq (by kernel_rfl) ?_
  refine gk_seq (by kernel_rfl) ?_
  refine gk_region (by kernel_rfl) ?_
  refine gl_pure 3 [0, 11] (K' := [(0, .string a0), (11, .bool (decide ((a0.size : Int) > 65536)))]) (by kernel_rfl) ?_
  refine gl_atE (by kernel_rfl) ?_
  refine ge_seq ?_
  refine gk_cond (b := (decide ((a0.size : Int) > 65536))) (by kernel_rfl) (by kernel_rfl) (fun hc1 => ?_) (fun hc1 => ?_)
  · have hr := cond_t hc1 hr
    refine gk_seq (by kernel_rfl) ?_
    refine gk_region (by kernel_rfl) ?_
    refine gl_pure 3 [2, 3, 4] (K' := [(2, .slice none 0 0), (3, .int .i64 4), (4, .int .i64 0)]) (by kernel_rfl) ?_
    refine gl_atE (by kernel_rfl) ?_
    refine ge_seq ?_
    refine gk_ret (by kernel_rfl) ?_
    refine ge_seq_ret ?_
    obtain rfl := some_inj hr
    exact ge_result trivial (ResOk.tmp (by kernel_rfl) (ResOk.tmp (by kernel_rfl) (ResOk.tmp (by kernel_rfl) ResOk.nil))) (Imm.refl _) ⟨none, 0, [], OwnS.nil _ _ _ _, rfl, rfl⟩
  · have hr := cond_f hc1 hr
    refine gk_skip (by kernel_rfl) ?_
    refine ge_seq ?_
    refine gk_seq (by kernel_rfl) ?_
    refine gk_region (by kernel_rfl) ?_
    refine gl_pure 1 [0, 5] (K' := [(0, .string a0), (5, .slice none 0 0)]) (by kernel_rfl) ?_
    refine gl_atE (by kernel_rfl) ?_
    refine ge_seq ?_
    refine gk_seq (by kernel_rfl) ?_
    refine gk_seq (by kernel_rfl) ?_
    refine gk_region (by kernel_rfl) ?_
    refine gl_pure 1 [0, 5, 12] (K' := [(0, .string a0), (5, .slice none 0 0), (12, .string a0)]) (by kernel_rfl) ?_
    obtain ⟨y2, hx3, hr⟩ := bind_some hr
    refine gl_callQ (by kernel_rfl) (lex_skip_walk (r := y2)  hx3 _) ?_
    refine gl_pure 1 [0, 5, 6] (K' := [(0, .string a0), (5, .slice none 0 0), (6, .int .i64 y2)]) (by kernel_rfl) ?_
    refine gl_atE (by kernel_rfl) ?_
    refine ge_seq ?_
    obtain ⟨r12, hl13, hr⟩ := bind_some hr
    refine gk_join (fun t I' L' => ∃ r24, r12 = Sum.inl r24 ∧ ∃ A26 n27 C28, OwnS kS27 28 I' A26 n27 r24 C28 ∧ I ≤ I' ∧ C28 ++ L = L' ∧ Knows 49 [(0, .string a0), (5, .slice A26 r24.length n27)] t) ?_ ?_
    · refine gk_block (by kernel_rfl) ?_
      refine gk_pick [0, 5, 6] (K' := [(0, .string a0), (5, .slice none 0 0), (6, .int .i64 y2)]) (by kernel_rfl) ?_
      intro t hK
      refine gc_loop (lex_Tokens_l32 a0) (fun s14 t I' L' => ∃ A18 n19 C20, OwnS kS27 28 I' A18 n19 s14.1 C20 ∧ I ≤ I' ∧ C20 ++ L = L' ∧ Knows 49 [(0, .string a0), (5, .slice A18 s14.1.length n19), (6, .int .i64 s14.2)] t) (by kernel_rfl) ?_ hl13 ⟨none, 0, [], OwnS.nil _ _ _ _, (Imm.refl _), rfl, hK⟩
      rintro s14 o15 t I23 L' hb16 ⟨A18, n19, C20, hO21, hI17, rfl, hK22⟩
      unfold lex_Tokens_l32 at hb16
      refine gk_at hK22 ?_
      refine gk_seq (by kernel_rfl) ?_
      refine gk_seq (by kernel_rfl) ?_
      refine gk_region (by kernel_rfl) ?_
      refine gl_pure 4 [0, 5, 6, 17] (K' := [(0, .string a0), (5, .slice A18 s14.1.length n19), (6, .int .i64 s14.2), (17, .bool (decide (s14.2 < (a0.size : Int))))]) (by kernel_rfl) ?_
      refine gl_atE (by kernel_rfl) ?_
      refine ge_seq ?_
      refine gk_cond (b := (decide (s14.2 < (a0.size : Int)))) (by kernel_rfl) (by kernel_rfl) (fun hc34 => ?_) (fun hc34 => ?_)
      · have hb16 := cond_t hc34 hb16
        refine gk_skip (by kernel_rfl) ?_
        refine ge_seq ?_
        refine gk_block (by kernel_rfl) ?_
        refine gk_seq (by kernel_rfl) ?_
        refine gk_region (by kernel_rfl) ?_
        refine gl_pure 2 [0, 5, 6, 19, 20] (K' := [(0, .string a0), (5, .slice A18 s14.1.length n19), (6, .int .i64 s14.2), (19, .string a0), (20, .int .i64 s14.2)]) (by kernel_rfl) ?_
        obtain ⟨s36, hx35, hb16⟩ := bind_some hb16
        refine gl_slice' (T' := 9) (xs := (.tmp 19)) (lo := (some (.tmp 20))) (hi := none) hx35 (by kernel_rfl) (by kernel_rfl) (by kernel_rfl) (by kernel_rfl) (by kernel_rfl) (by kernel_rfl) ?_
        obtain ⟨y37, hx38, hb16⟩ := bind_some hb16
        refine gl_callQ (by kernel_rfl) (lex_one_walk (r := y37) (hG.mono hI17) hx38 _) ?_
        refine gl_pure 3 [0, 5, 6, 23, 24] (K' := [(0, .string a0), (5, .slice A18 s14.1.length n19), (6, .int .i64 s14.2), (23, .agg #[.int .i64 y37.1.f0, .string y37.1.f1, .int .i64 y37.1.f2]), (24, .int .i64 y37.2)]) (by kernel_rfl) ?_
        refine gl_alloc (T' := 28) (cs := #[.int .i64 0, .string (⟨#[]⟩ : ByteArray), .int .i64 0]) (by kernel_rfl) (by kernel_rfl) (by kernel_rfl) (fun g39 => ?_)
        refine gl_storeB (T' := 28) (xp := (.tmp 7)) (xv := (.tmp 23)) (v := .agg #[.int .i64 y37.1.f0, .string y37.1.f1, .int .i64 y37.1.f2]) (g := g39) (off := 0) (cs := #[.int .i64 0, .string (⟨#[]⟩ : ByteArray), .int .i64 0]) (cs' := #[.int .i64 y37.1.f0, .string y37.1.f1, .int .i64 y37.1.f2]) (by kernel_rfl) (by kernel_rfl) (by kernel_rfl) (by kernel_rfl) (by kernel_rfl) (Upd.set _ _ _ _) ?_ (by kernel_rfl)
        refine gl_pure 1 [0, 5, 6, 7, 8] (K' := [(0, .string a0), (5, .slice A18 s14.1.length n19), (6, .int .i64 s14.2), (7, .pointer (some ⟨g39, 0, none⟩)), (8, .int .i64 y37.2)]) (by kernel_rfl) ?_
        refine gl_atE (by kernel_rfl) ?_
        refine ge_seq ?_
        refine gk_seq (by kernel_rfl) ?_
        refine gk_seq (by kernel_rfl) ?_
        refine gk_region (by kernel_rfl) ?_
        refine gl_pure 2 [0, 5, 6, 7, 8, 26] (K' := [(0, .string a0), (5, .slice A18 s14.1.length n19), (6, .int .i64 s14.2), (7, .pointer (some ⟨g39, 0, none⟩)), (8, .int .i64 y37.2), (26, .bool (y37.2 == 0))]) (by kernel_rfl) ?_
        refine gl_atE (by kernel_rfl) ?_
        refine ge_seq ?_
        refine gk_cond (b := (y37.2 == 0)) (by kernel_rfl) (by kernel_rfl) (fun hc40 => ?_) (fun hc40 => ?_)
        · have hb16 := cond_t hc40 hb16
          refine gk_seq (by kernel_rfl) ?_
          refine gk_region (by kernel_rfl) ?_
          refine gl_pure 4 [2, 3, 4] (K' := [(2, .slice none 0 0), (3, .int .i64 130), (4, .int .i64 s14.2)]) (by kernel_rfl) ?_
          refine gl_atE (by kernel_rfl) ?_
          refine ge_seq ?_
          refine gk_reord (D := L) (Reord.skip (Reord.skipC (Reord.refl _))) ?_
          refine gk_ret (by kernel_rfl) ?_
          refine ge_seq_ret ?_
          refine ge_block_ret ?_
          obtain rfl := some_inj hb16
          refine ge_round_out (fun hrr => ?_) (by intro h; cases h)
          obtain rfl := hrr
          refine ge_block_ret ?_
          refine ge_seq_ret ?_
          refine ge_seq_ret ?_
          obtain rfl := some_inj hr
          exact ge_result trivial (ResOk.tmp (by kernel_rfl) (ResOk.tmp (by kernel_rfl) (ResOk.tmp (by kernel_rfl) ResOk.nil))) hI17 ⟨none, 0, [], OwnS.nil _ _ _ _, rfl, rfl⟩
        · have hb16 := cond_f hc40 hb16
          refine gk_skip (by kernel_rfl) ?_
          refine ge_seq ?_
          refine gk_seq (by kernel_rfl) ?_
          refine gk_region (by kernel_rfl) ?_
          refine gl_pure 2 [0, 5, 6, 7, 8, 28, 29] (K' := [(0, .string a0), (5, .slice A18 s14.1.length n19), (6, .int .i64 s14.2), (7, .pointer (some ⟨g39, 0, none⟩)), (8, .int .i64 y37.2), (28, .int .i64 s14.2), (29, .pointer (some ⟨g39, 2, none⟩))]) (by kernel_rfl) ?_
          refine gl_storeB (T' := 3) (xp := (.tmp 29)) (xv := (.tmp 28)) (v := .int .i64 s14.2) (g := g39) (off := 2) (cs := #[.int .i64 y37.1.f0, .string y37.1.f1, .int .i64 y37.1.f2]) (cs' := #[.int .i64 y37.1.f0, .string y37.1.f1, .int .i64 s14.2]) (by kernel_rfl) (by kernel_rfl) (by kernel_rfl) (by kernel_rfl) (by kernel_rfl) (Upd.set _ _ _ _) ?_ (by kernel_rfl)
          refine gl_atE (by kernel_rfl) ?_
          refine ge_seq ?_
          refine gk_seq (by kernel_rfl) ?_
          refine gk_region (by kernel_rfl) ?_
          refine gl_pure 1 [0, 6, 7, 8, 30] (K' := [(0, .string a0), (6, .int .i64 s14.2), (7, .pointer (some ⟨g39, 0, none⟩)), (8, .int .i64 y37.2), (30, .slice A18 s14.1.length n19)]) (by kernel_rfl) ?_
          refine gl_loadB (T' := 28) (xp := (.tmp 7)) (v := .agg #[.int .i64 y37.1.f0, .string y37.1.f1, .int .i64 s14.2]) (g := g39) (off := 0) (cs := #[.int .i64 y37.1.f0, .string y37.1.f1, .int .i64 s14.2]) (e := 28) (fz := (0, 0)) (by kernel_rfl) (by kernel_rfl) (by kernel_rfl) List.mem_cons_self (by kernel_rfl) ?_
          refine gl_buildSlice (T' := 22) (e := 28) (n := 3) (len := 1) (parts := #[(0, (.tmp 31))]) (l := [(0, .agg #[.int .i64 y37.1.f0, .string y37.1.f1, .int .i64 s14.2])]) (cs := #[.int .i64 y37.1.f0, .string y37.1.f1, .int .i64 s14.2]) (by kernel_rfl) (by kernel_rfl) (by kernel_rfl) (by kernel_rfl) (by kernel_rfl) (fun g41 => ?_)
          have hO42 : OwnS kS27 28 I23 (some ⟨g41, 0, none⟩) 1 [(⟨y37.1.f0, y37.1.f1, s14.2⟩ : S27)] [(g41, .cells #[.int .i64 y37.1.f0, .string y37.1.f1, .int .i64 s14.2] 28)] := OwnS.lit (row_cons (l := [.int .i64 y37.1.f0, .string y37.1.f1, .int .i64 s14.2]) (kS27_mk (x := (⟨y37.1.f0, y37.1.f1, s14.2⟩ : S27)) ) (row_nil _ _)) rfl rfl rfl
          refine gl_reord (D := [(g41, .cells #[.int .i64 y37.1.f0, .string y37.1.f1, .int .i64 s14.2] 28)] ++ ((g39, .cells #[.int .i64 y37.1.f0, .string y37.1.f1, .int .i64 s14.2] 28) :: (C20 ++ L))) (Reord.refl _) ?_
          obtain ⟨zs45, hz46, hb16⟩ := bind_some hb16
          refine gl_append (xv := .slice (some ⟨g41, 0, none⟩) [(⟨y37.1.f0, y37.1.f1, s14.2⟩ : S27)].length 1) (d := kS27) (t := 22) (tx := 22) (e := 28) (s := (.tmp 30)) (x := (.tmp 32)) (xs := s14.1) (fun X => [(g41, .cells #[.int .i64 y37.1.f0, .string y37.1.f1, .int .i64 s14.2] 28)] ++ ((g39, .cells #[.int .i64 y37.1.f0, .string y37.1.f1, .int .i64 s14.2] 28) :: (X ++ L))) hz46 (by kernel_rfl) (by kernel_rfl) (by kernel_rfl) (by kernel_rfl) (by kernel_rfl) (by kernel_rfl) (fun X => (Upd.app _ (Upd.one _ (Upd.head _ X _)))) hO21 (SrcOk.slice (c := 1) (e := 28) (n := 3) (OwnS.rd hO42 (Upd.selfC _ _)) (by kernel_rfl)) (fun A47 n48 C49 hO50 => ?_)
          refine gl_pure 1 [0, 5, 6, 8] (K' := [(0, .string a0), (5, .slice A47 zs45.length n48), (6, .int .i64 s14.2), (8, .int .i64 y37.2)]) (by kernel_rfl) ?_
          refine gl_atE (by kernel_rfl) ?_
          refine ge_seq ?_
          refine gk_region (by kernel_rfl) ?_
          refine gl_pure 4 [0, 5, 34, 37] (K' := [(0, .string a0), (5, .slice A47 zs45.length n48), (34, .string a0), (37, .int .i64 (IntKind.wrap .i64 (s14.2 + y37.2)))]) (by kernel_rfl) ?_
          obtain ⟨y51, hx52, hb16⟩ := bind_some hb16
          refine gl_callQ (by kernel_rfl) (lex_skip_walk (r := y51)  hx52 _) ?_
          refine gl_pure 1 [0, 5, 6] (K' := [(0, .string a0), (5, .slice A47 zs45.length n48), (6, .int .i64 y51)]) (by kernel_rfl) ?_
          refine gl_reord (D := C49 ++ L) (Reord.step (Upd.app _ (Upd.one _ (Upd.rmC _ _))) (Reord.skipC (Reord.skip (Reord.refl _)))) ?_
          refine gl_atE (by kernel_rfl) ?_
          refine ge_block_normal ?_
          obtain rfl := some_inj hb16
          exact ge_round fun t ht => ⟨A47, n48, C49, hO50, hI17, rfl, ht.pick (l := [0, 5, 6]) (by kernel_rfl)⟩
      · have hb16 := cond_f hc34 hb16
        refine gk_exit (by kernel_rfl) ?_
        refine ge_seq_exit ?_
        obtain rfl := some_inj hb16
        refine ge_round_out (fun hrr => ?_) (by intro h; cases h)
        obtain rfl := hrr
        refine ge_block_hit (by kernel_rfl) ?_
        exact ge_mid fun t ht => ⟨_, rfl, A18, n19, C20, hO21, hI17, rfl, ht.pick (l := [0, 5]) (by kernel_rfl)⟩
    · rintro t I31 L' ⟨r24, rfl, A26, n27, C28, hO29, hI25, rfl, hK30⟩
      refine ge_at hK30 ?_
      refine ge_seq ?_
      refine gk_seq (by kernel_rfl) ?_
      refine gk_seq (by kernel_rfl) ?_
      refine gk_region (by kernel_rfl) ?_
      refine gl_pure 4 [39, 42] (K' := [(39, .slice A26 r24.length n27), (42, .agg #[.int .i64 0, .string (⟨#[]⟩ : ByteArray), .int .i64 (a0.size : Int)])]) (by kernel_rfl) ?_
      refine gl_buildSlice (T' := 22) (e := 28) (n := 3) (len := 1) (parts := #[(0, (.tmp 42))]) (l := [(0, .agg #[.int .i64 0, .string (⟨#[]⟩ : ByteArray), .int .i64 (a0.size : Int)])]) (cs := #[.int .i64 0, .string (⟨#[]⟩ : ByteArray), .int .i64 (a0.size : Int)]) (by kernel_rfl) (by kernel_rfl) (by kernel_rfl) (by kernel_rfl) (by kernel_rfl) (fun g53 => ?_)
      have hO54 : OwnS kS27 28 I31 (some ⟨g53, 0, none⟩) 1 [(⟨0, (⟨#[]⟩ : ByteArray), (a0.size : Int)⟩ : S27)] [(g53, .cells #[.int .i64 0, .string (⟨#[]⟩ : ByteArray), .int .i64 (a0.size : Int)] 28)] := OwnS.lit (row_cons (l := [.int .i64 0, .string (⟨#[]⟩ : ByteArray), .int .i64 (a0.size : Int)]) (kS27_mk (x := (⟨0, (⟨#[]⟩ : ByteArray), (a0.size : Int)⟩ : S27)) ) (row_nil _ _)) rfl rfl rfl
      refine gl_reord (D := [(g53, .cells #[.int .i64 0, .string (⟨#[]⟩ : ByteArray), .int .i64 (a0.size : Int)] 28)] ++ (C28 ++ L)) (Reord.refl _) ?_
      obtain ⟨zs57, hz58, hr⟩ := bind_some hr
      refine gl_append (xv := .slice (some ⟨g53, 0, none⟩) [(⟨0, (⟨#[]⟩ : ByteArray), (a0.size : Int)⟩ : S27)].length 1) (d := kS27) (t := 22) (tx := 22) (e := 28) (s := (.tmp 39)) (x := (.tmp 43)) (xs := r24) (fun X => [(g53, .cells #[.int .i64 0, .string (⟨#[]⟩ : ByteArray), .int .i64 (a0.size : Int)] 28)] ++ (X ++ L)) hz58 (by kernel_rfl) (by kernel_rfl) (by kernel_rfl) (by kernel_rfl) (by kernel_rfl) (by kernel_rfl) (fun X => (Upd.app _ (Upd.head _ X _))) hO29 (SrcOk.slice (c := 1) (e := 28) (n := 3) (OwnS.rd hO54 (Upd.selfC _ _)) (by kernel_rfl)) (fun A59 n60 C61 hO62 => ?_)
      refine gl_pure 1 [5] (K' := [(5, .slice A59 zs57.length n60)]) (by kernel_rfl) ?_
      refine gl_atE (by kernel_rfl) ?_
      refine ge_seq ?_
      refine gk_seq (by kernel_rfl) ?_
      refine gk_region (by kernel_rfl) ?_
      refine gl_pure 3 [5, 47] (K' := [(5, .slice A59 zs57.length n60), (47, .bool (decide ((zs57.length : Int) > 4096)))]) (by kernel_rfl) ?_
      refine gl_atE (by kernel_rfl) ?_
      refine ge_seq ?_
      refine gk_cond (b := (decide ((zs57.length : Int) > 4096))) (by kernel_rfl) (by kernel_rfl) (fun hc63 => ?_) (fun hc63 => ?_)
      · have hr := cond_t hc63 hr
        refine gk_seq (by kernel_rfl) ?_
        refine gk_region (by kernel_rfl) ?_
        refine gl_pure 3 [2, 3, 4] (K' := [(2, .slice none 0 0), (3, .int .i64 7), (4, .int .i64 0)]) (by kernel_rfl) ?_
        refine gl_atE (by kernel_rfl) ?_
        refine ge_seq ?_
        refine gk_reord (D := L) (Reord.skipC (Reord.skipC (Reord.refl _))) ?_
        refine gk_ret (by kernel_rfl) ?_
        refine ge_seq_ret ?_
        obtain rfl := some_inj hr
        exact ge_result trivial (ResOk.tmp (by kernel_rfl) (ResOk.tmp (by kernel_rfl) (ResOk.tmp (by kernel_rfl) ResOk.nil))) hI25 ⟨none, 0, [], OwnS.nil _ _ _ _, rfl, rfl⟩
      · have hr := cond_f hc63 hr
        refine gk_skip (by kernel_rfl) ?_
        refine ge_seq ?_
        refine gk_seq (by kernel_rfl) ?_
        refine gk_region (by kernel_rfl) ?_
        refine gl_pure 4 [2, 3, 4] (K' := [(2, .slice A59 zs57.length n60), (3, .int .i64 0), (4, .int .i64 0)]) (by kernel_rfl) ?_
        refine gl_atE (by kernel_rfl) ?_
        refine ge_seq ?_
        refine gk_reord (D := C61 ++ L) (Reord.step (Upd.app _ (Upd.rmC _ _)) (Reord.skipC (Reord.refl _))) ?_
        refine gk_ret (by kernel_rfl) ?_
        obtain rfl := some_inj hr
        exact ge_result trivial (ResOk.tmp (by kernel_rfl) (ResOk.tmp (by kernel_rfl) (ResOk.tmp (by kernel_rfl) ResOk.nil))) hI25 ⟨A59, n60, C61, hO62, rfl, rfl⟩
/-! 19 lex_Span  -/
noncomputable def lex_Span (a0 : ByteArray) : Option (Int × Int) :=
  Option.bind (lex_alone a0 3) fun (y1 : Bool) =>
  bif (!y1) then
  (some (0, 130))
  else
  (Option.bind (lex_span a0) fun (y4 : Int × Int) =>
    bif (decide (y4.2 > 1099511627776)) then
    (some (0, 7))
    else
    (some (y4.2, 0)))
theorem lex_Span_walk {a0 : ByteArray} {I : Imm} {r : Int × Int} (hG : Gl I) (hr : lex_Span a0 = some r) (L : Own) :
    CallsTo Tryd.prog 19 #[.string a0] I L (fun v I' L' => v = .tuple #[.int .i64 r.1, .int .i64 r.2] ∧ L = L') := by
  unfold lex_Span at hr
  refine callsTo_body (N := 17) Tryd.func19 (by kernel_rfl) (by kernel_rfl) (by kernel_rfl) ?_
  refine gk_pick [0] (K' := [(0, .string a0)]) (by kernel_rfl) ?_
  refine gk_seq (by kernel_rfl) ?_
  refine gk_region (by kernel_rfl) ?_
  refine gl_pure 2 [0] (K' := [(0, .string a0)]) (by kernel_rfl) ?_
  refine gl_atE (by kernel_rfl) ?_
  refine ge_seq ?_
  refine gk_seq (by kernel_rfl) ?_
  refine gk_seq (by kernel_rfl) ?_
  refine gk_region (by kernel_rfl) ?_
  refine gl_pure 1 [0, 6] (K' := [(0, .string a0), (6, .string a0)]) (by kernel_rfl) ?_
  obtain ⟨y1, hx2, hr⟩ := bind_some hr
  refine gl_callQ (by kernel_rfl) (lex_alone_walk (r := y1) hG hx2 _) ?_
  refine gl_pure 1 [0, 8] (K' := [(0, .string a0), (8, .bool (!y1))]) (by kernel_rfl) ?_
  refine gl_atE (by kernel_rfl) ?_
  refine ge_seq ?_
  refine gk_cond (b := (!y1)) (by kernel_rfl) (by kernel_rfl) (fun hc3 => ?_) (fun hc3 => ?_)
  · have hr := cond_t hc3 hr
    refine gk_seq (by kernel_rfl) ?_
    refine gk_region (by kernel_rfl) ?_
    refine gl_pure 2 [2, 3] (K' := [(2, .int .i64 0), (3, .int .i64 130)]) (by kernel_rfl) ?_
    refine gl_atE (by kernel_rfl) ?_
    refine ge_seq ?_
    refine gk_ret (by kernel_rfl) ?_
    refine ge_seq_ret ?_
    obtain rfl := some_inj hr
    exact ge_result trivial (ResOk.tmp (by kernel_rfl) (ResOk.tmp (by kernel_rfl) ResOk.nil)) (Imm.refl _) ⟨rfl, rfl⟩
  · have hr := cond_f hc3 hr
    refine gk_skip (by kernel_rfl) ?_
    refine ge_seq ?_
    refine gk_seq (by kernel_rfl) ?_
    refine gk_region (by kernel_rfl) ?_
    refine gl_pure 1 [10] (K' := [(10, .string a0)]) (by kernel_rfl) ?_
    obtain ⟨y4, hx5, hr⟩ := bind_some hr
    refine gl_callQ (by kernel_rfl) (lex_span_walk (r := y4)  hx5 _) ?_
    refine gl_pure 5 [5] (K' := [(5, .int .i64 y4.2)]) (by kernel_rfl) ?_
    refine gl_atE (by kernel_rfl) ?_
    refine ge_seq ?_
    refine gk_seq (by kernel_rfl) ?_
    refine gk_seq (by kernel_rfl) ?_
    refine gk_region (by kernel_rfl) ?_
    refine gl_pure 2 [5, 15] (K' := [(5, .int .i64 y4.2), (15, .bool (decide (y4.2 > 1099511627776)))]) (by kernel_rfl) ?_
    refine gl_atE (by kernel_rfl) ?_
    refine ge_seq ?_
    refine gk_cond (b := (decide (y4.2 > 1099511627776))) (by kernel_rfl) (by kernel_rfl) (fun hc6 => ?_) (fun hc6 => ?_)
    · have hr := cond_t hc6 hr
      refine gk_seq (by kernel_rfl) ?_
      refine gk_region (by kernel_rfl) ?_
      refine gl_pure 2 [2, 3] (K' := [(2, .int .i64 0), (3, .int .i64 7)]) (by kernel_rfl) ?_
      refine gl_atE (by kernel_rfl) ?_
      refine ge_seq ?_
      refine gk_ret (by kernel_rfl) ?_
      refine ge_seq_ret ?_
      obtain rfl := some_inj hr
      exact ge_result trivial (ResOk.tmp (by kernel_rfl) (ResOk.tmp (by kernel_rfl) ResOk.nil)) (Imm.refl _) ⟨rfl, rfl⟩
    · have hr := cond_f hc6 hr
      refine gk_skip (by kernel_rfl) ?_
      refine ge_seq ?_
      refine gk_seq (by kernel_rfl) ?_
      refine gk_region (by kernel_rfl) ?_
      refine gl_pure 3 [2, 3] (K' := [(2, .int .i64 y4.2), (3, .int .i64 0)]) (by kernel_rfl) ?_
      refine gl_atE (by kernel_rfl) ?_
      refine ge_seq ?_
      refine gk_ret (by kernel_rfl) ?_
      obtain rfl := some_inj hr
      exact ge_result trivial (ResOk.tmp (by kernel_rfl) (ResOk.tmp (by kernel_rfl) ResOk.nil)) (Imm.refl _) ⟨rfl, rfl⟩
def lays173_ren : Go.Shelf.Ren := ⟨fun x => if x = 173 then 33 else if x = 246 then 51 else if x = 283 then 66 else if x = 284 then 67 else if x = 285 then 68 else if x = 286 then 69 else if x = 129 then 75 else if x = 317 then 74 else if x = 318 then 76 else if x = 319 then 77 else if x = 320 then 78 else if x = 337 then 86 else if x = 338 then 87 else x, fun x => if x = 171 then 100 else if x = 53 then 89 else if x = 37 then 41 else if x = 173 then 103 else if x = 212 then 109 else if x = 51 then 110 else if x = 213 then 111 else if x = 46 then 82 else if x = 232 then 124 else if x = 233 then 125 else x, fun x => if x = 17 then 2 else if x = 18 then 5 else if x = 19 then 6 else x⟩
theorem lays173 : Go.Proofs.LaysM.n173 Tryd.prog lays173_ren := {
  mixed := by kernel_rfl,
  f129 := Tryd.func75.trans (congrArg some (by kernel_rfl)),
  f173 := Tryd.func33.trans (congrArg some (by kernel_rfl)),
  f246 := Tryd.func51.trans (congrArg some (by kernel_rfl)),
  f283 := Tryd.func66.trans (congrArg some (by kernel_rfl)),
  f284 := Tryd.func67.trans (congrArg some (by kernel_rfl)),
  f285 := Tryd.func68.trans (congrArg some (by kernel_rfl)),
  f286 := Tryd.func69.trans (congrArg some (by kernel_rfl)),
  f317 := Tryd.func74.trans (congrArg some (by kernel_rfl)),
  f318 := Tryd.func76.trans (congrArg some (by kernel_rfl)),
  f319 := Tryd.func77.trans (congrArg some (by kernel_rfl)),
  f320 := Tryd.func78.trans (congrArg some (by kernel_rfl)),
  f337 := Tryd.func86.trans (congrArg some (by kernel_rfl)),
  f338 := Tryd.func87.trans (congrArg some (by kernel_rfl)),
  t0 := Tryd.underlying0,
  a0 := Tryd.isAgg0,
  z0 := Tryd.sizeOf0,
  v0 := Tryd.zeroValue0,
  t2 := Tryd.underlying2,
  a2 := Tryd.isAgg2,
  z2 := Tryd.sizeOf2,
  v2 := Tryd.zeroValue2,
  t3 := Tryd.underlying3,
  a3 := Tryd.isAgg3,
  z3 := Tryd.sizeOf3,
  v3 := Tryd.zeroValue3,
  t4 := Tryd.underlying4,
  a4 := Tryd.isAgg4,
  z4 := Tryd.sizeOf4,
  v4 := Tryd.zeroValue4,
  t5 := Tryd.underlying5,
  a5 := Tryd.isAgg5,
  z5 := Tryd.sizeOf5,
  v5 := Tryd.zeroValue5,
  t9 := Tryd.underlying9,
  a9 := Tryd.isAgg9,
  z9 := Tryd.sizeOf9,
  v9 := Tryd.zeroValue9,
  t20 := Tryd.underlying20,
  a20 := Tryd.isAgg20,
  z20 := Tryd.sizeOf20,
  v20 := Tryd.zeroValue20,
  t37 := Tryd.underlying41,
  a37 := Tryd.isAgg41,
  z37 := Tryd.sizeOf41,
  v37 := Tryd.zeroValue41,
  t46 := Tryd.underlying82,
  a46 := Tryd.isAgg82,
  z46 := Tryd.sizeOf82,
  v46 := Tryd.zeroValue82,
  t51 := Tryd.underlying110,
  a51 := Tryd.isAgg110,
  z51 := Tryd.sizeOf110,
  v51 := Tryd.zeroValue110,
  t53 := Tryd.underlying89,
  a53 := Tryd.isAgg89,
  z53 := Tryd.sizeOf89,
  v53 := Tryd.zeroValue89,
  t171 := Tryd.underlying100,
  a171 := Tryd.isAgg100,
  z171 := Tryd.sizeOf100,
  v171 := Tryd.zeroValue100,
  t173 := Tryd.underlying103,
  a173 := Tryd.isAgg103,
  z173 := Tryd.sizeOf103,
  v173 := Tryd.zeroValue103,
  t212 := Tryd.underlying109,
  a212 := Tryd.isAgg109,
  z212 := Tryd.sizeOf109,
  v212 := Tryd.zeroValue109,
  t213 := Tryd.underlying111,
  a213 := Tryd.isAgg111,
  z213 := Tryd.sizeOf111,
  t232 := Tryd.underlying124,
  a232 := Tryd.isAgg124,
  z232 := Tryd.sizeOf124,
  v232 := Tryd.zeroValue124,
  t233 := Tryd.underlying125,
  a233 := Tryd.isAgg125,
  z233 := Tryd.sizeOf125,
  v233 := Tryd.zeroValue125,
  g17 := by kernel_rfl,
  g18 := by kernel_rfl,
  g19 := by kernel_rfl,
  i0 := by kernel_rfl,
  i2 := by kernel_rfl,
  i3 := by kernel_rfl,
  i4 := by kernel_rfl,
  i5 := by kernel_rfl,
  i9 := by kernel_rfl,
  i20 := by kernel_rfl,
  i37 := by kernel_rfl,
  i46 := by kernel_rfl,
  i51 := by kernel_rfl,
  i53 := by kernel_rfl,
  i171 := by kernel_rfl,
  i173 := by kernel_rfl,
  i212 := by kernel_rfl,
  i232 := by kernel_rfl,
  i233 := by kernel_rfl,
  m17 := by kernel_rfl,
  m18 := by kernel_rfl,
  m19 := by kernel_rfl }

theorem gl_pow10 {I : Imm} {L : Own} {W : World} (hG : Gl I) (hW : Holds I L W) : Go.Lib.TabIs Tryd.prog W "internal/strconv.uint64pow10" .u64 Go.Lib.pow10Tab := by
  obtain ⟨t, fz, hb⟩ := hG.b2
  have h1 := hW.imm _ _ hb
  unfold Go.Lib.TabIs World.var?
  rw [show Tryd.prog.globalNamed "internal/strconv.uint64pow10" = some 2 by kernel_rfl]
  simp only [Option.bind_some, h1]
  rfl
def strconv_FormatInt (a0 a1 : Int) : Option ByteArray := if a1 = 10 ∧ -9223372036854775808 ≤ a0 ∧ a0 ≤ 9223372036854775807 then some ⟨(itoaF a0).toArray⟩ else none
theorem strconv_FormatInt_walk {a0 a1 : Int} {I : Imm} {r : ByteArray} (hG : Gl I) (hr : strconv_FormatInt a0 a1 = some r) (L : Own) :
    CallsTo Tryd.prog 33 #[.int .i64 a0, .int .i64 a1] I L (fun v I' L' => v = .string r ∧ L = L') := by
  unfold strconv_FormatInt at hr
  split at hr <;> cases hr
  rename_i hs
  obtain ⟨rfl, h0, h1⟩ := hs
  intro W hW
  refine (Go.Proofs.Any.strconv_FormatInt_10 lays173 a0 h0 h1 W (gl_pow10 hG hW)).mono ?_
  rintro e W' ⟨he, k, os, rfl⟩
  exact ⟨_, I, L, he, Imm.refl I, Holds.grow (hW.drawn (W.drawn + k)) os, by rw [itoaF_eq h0 h1], rfl⟩

/-! 18 lex_SpanText  -/
noncomputable def lex_SpanText_l50 : (Unit × (List Int) × Int × Int) → Option ((Unit × (List Int) × Int × Int) ⊕ (Unit × (List Int))) := fun s29 =>
  bif (decide (s29.2.2.2 < (lex_units.length : Int))) then
  (Option.bind (ix lex_units s29.2.2.2) fun (x53 : S62) =>
    Option.bind (quox .i64 s29.2.2.1 x53.f1) fun (q63 : Int) =>
    Option.bind (bif (decide (q63 > 0)) then
      (Option.bind (strconv_FormatInt q63 10) fun (y77 : ByteArray) =>
        Option.bind (sadd y77 x53.f0) fun (s79 : ByteArray) =>
        Option.bind (strings_Builder_WriteString (⟨s29.2.1⟩ : S50) s79) fun (y81 : Int × Unit × S50) =>
        some ((IntKind.wrap .i64 (s29.2.2.1 - (IntKind.wrap .i64 (q63 * x53.f1)))), (), y81.2.2.f1))
      else
      (some (s29.2.2.1, (), s29.2.1))) fun (j65 : Int × Unit × (List Int)) =>
    some (Sum.inl ((), j65.2.2, j65.1, (IntKind.wrap .i64 (s29.2.2.2 + 1)))))
  else
  (some (Sum.inr ((), s29.2.1)))
noncomputable def lex_SpanText (a0 : Int) : Option (ByteArray × Int) :=
  bif ((decide (a0 < 0)) || (decide (a0 > 1099511627776))) then
  (some ((⟨#[]⟩ : ByteArray), 1))
  else
  (bif (a0 == 0) then
    (some ((⟨#[48, 115]⟩ : ByteArray), 0))
    else
    (Option.bind (loopO lex_SpanText_l50 ((), [], a0, 0)) fun (r27 : Unit × (List Int)) =>
      Option.bind (strings_Builder_String (⟨r27.2⟩ : S50)) fun (y92 : ByteArray) =>
      some (y92, 0)))
theorem lex_SpanText_walk {a0 : Int} {I : Imm} {r : ByteArray × Int} (hG : Gl I) (hr : lex_SpanText a0 = some r) (L : Own) :
    CallsTo Tryd.prog 18 #[.int .i64 a0] I L (fun v I' L' => v = .tuple #[.string r.1, .int .i64 r.2] ∧ L = L') := by
  unfold lex_SpanText at hr
  refine callsTo_body (N := 44) Tryd.func18 (by kernel_rfl) (by kernel_rfl) (by kernel_rfl) ?_
  refine gk_pick [0] (K' := [(0, .int .i64 a0)]) (by kernel_rfl) ?_
  refine gk_seq (by kernel_rfl) ?_
  refine gk_region (by kernel_rfl) ?_
  refine gl_pure 2 [0] (K' := [(0, .int .i64 a0)]) (by kernel_rfl) ?_
  refine gl_atE (by kernel_rfl) ?_
  refine ge_seq ?_
  refine gk_seq (by kernel_rfl) ?_
  refine gk_block (by kernel_rfl) ?_
  refine gk_seq (by kernel_rfl) ?_
  obtain ⟨b3, hb4⟩ : ∃ z, z = ((decide (a0 < 0)) || (decide (a0 > 1099511627776))) := ⟨_, rfl⟩
  refine gk_join (fun t I' L' => I ≤ I' ∧ L = L' ∧ Knows 44 [(0, .int .i64 a0), (8, .bool b3)] t) ?_ ?_
  · refine gk_region (by kernel_rfl) ?_
    refine gl_pure 3 [0, 11] (K' := [(0, .int .i64 a0), (11, .bool (decide (a0 < 0)))]) (by kernel_rfl) ?_
    refine gl_case 11 (b := (decide (a0 < 0))) (by kernel_rfl) (fun hc6 => ?_) (fun hc6 => ?_)
    · refine gl_pure 4 [0, 8] (K' := [(0, .int .i64 a0), (8, .bool true)]) (by kernel_rfl) ?_
      refine gl_atE (by kernel_rfl) ?_
      exact ge_mid fun t ht => ⟨(Imm.refl _), rfl, by rw [(show b3 = true from hb4.trans (by rw [hc6]; try rfl))]; exact ht.pick (l := [0, 8]) (by kernel_rfl)⟩
    · refine gl_pure 4 [0, 8] (K' := [(0, .int .i64 a0), (8, .bool (decide (a0 > 1099511627776)))]) (by kernel_rfl) ?_
      refine gl_atE (by kernel_rfl) ?_
      exact ge_mid fun t ht => ⟨(Imm.refl _), rfl, by rw [(show b3 = (decide (a0 > 1099511627776)) from hb4.trans (by rw [hc6]; try rfl))]; exact ht.pick (l := [0, 8]) (by kernel_rfl)⟩
  · rintro t I5 L' ⟨hI1, rfl, hK2⟩
    subst hb4
    refine ge_at hK2 ?_
    refine ge_seq ?_
    refine gk_cond (b := ((decide (a0 < 0)) || (decide (a0 > 1099511627776)))) (by kernel_rfl) (by kernel_rfl) (fun hc7 => ?_) (fun hc7 => ?_)
    · have hr := cond_t hc7 hr
      refine gk_seq (by kernel_rfl) ?_
      refine gk_region (by kernel_rfl) ?_
      refine gl_pure 2 [2, 3] (K' := [(2, .string (⟨#[]⟩ : ByteArray)), (3, .int .i64 1)]) (by kernel_rfl) ?_
      refine gl_atE (by kernel_rfl) ?_
      refine ge_seq ?_
      refine gk_ret (by kernel_rfl) ?_
      refine ge_block_ret ?_
      refine ge_seq_ret ?_
      obtain rfl := some_inj hr
      exact ge_result trivial (ResOk.tmp (by kernel_rfl) (ResOk.tmp (by kernel_rfl) ResOk.nil)) hI1 ⟨rfl, rfl⟩
    · have hr := cond_f hc7 hr
      refine gk_seq (by kernel_rfl) ?_
      refine gk_region (by kernel_rfl) ?_
      refine gl_pure 3 [0, 15] (K' := [(0, .int .i64 a0), (15, .bool (a0 == 0))]) (by kernel_rfl) ?_
      refine gl_atE (by kernel_rfl) ?_
      refine ge_seq ?_
      refine gk_cond (b := (a0 == 0)) (by kernel_rfl) (by kernel_rfl) (fun hc8 => ?_) (fun hc8 => ?_)
      · have hr := cond_t hc8 hr
        refine gk_seq (by kernel_rfl) ?_
        refine gk_region (by kernel_rfl) ?_
        refine gl_pure 2 [2, 3] (K' := [(2, .string (⟨#[48, 115]⟩ : ByteArray)), (3, .int .i64 0)]) (by kernel_rfl) ?_
        refine gl_atE (by kernel_rfl) ?_
        refine ge_seq ?_
        refine gk_ret (by kernel_rfl) ?_
        refine ge_block_ret ?_
        refine ge_seq_ret ?_
        obtain rfl := some_inj hr
        exact ge_result trivial (ResOk.tmp (by kernel_rfl) (ResOk.tmp (by kernel_rfl) ResOk.nil)) hI1 ⟨rfl, rfl⟩
      · have hr := cond_f hc8 hr
        refine gk_skip (by kernel_rfl) ?_
        refine ge_block_normal ?_
        refine ge_seq ?_
        refine gk_seq (by kernel_rfl) ?_
        refine gk_region (by kernel_rfl) ?_
        refine gl_alloc (T' := 51) (cs := #[.pointer none, .slice none 0 0]) (by kernel_rfl) (by kernel_rfl) (by kernel_rfl) (fun g9 => ?_)
        refine gl_atE (by kernel_rfl) ?_
        refine ge_seq ?_
        refine gk_seq (by kernel_rfl) ?_
        refine gk_seq (by kernel_rfl) ?_
        refine gk_region (by kernel_rfl) ?_
        refine gl_call (by kernel_rfl) (lex_units_walk (r := lex_units)  rfl _) ?_
        rintro v I10 L11 hI12 ⟨A13, c14, C15, hO16, rfl, rfl⟩
        refine gl_pure 2 [0, 4, 18, 19, 20] (K' := [(0, .int .i64 a0), (4, .pointer (some ⟨g9, 0, none⟩)), (18, .slice A13 lex_units.length c14), (19, .int .i64 (lex_units.length : Int)), (20, .int .i64 0)]) (by kernel_rfl) ?_
        refine gl_atE (by kernel_rfl) ?_
        refine ge_seq ?_
        obtain ⟨r27, hl28, hr⟩ := bind_some hr
        refine gk_join (fun t I' L' => ∃ q42 A44 n45 C46, (q42 = none ∨ q42 = some (⟨g9, 0, none⟩ : Addr)) ∧ OwnS (Kd.int .u8) 5 I' A44 n45 r27.2 C46 ∧ I10 ≤ I' ∧ C46 ++ ((g9, .cells #[.pointer q42, .slice A44 r27.2.length n45] 51) :: L) = L' ∧ Knows 44 [(4, .pointer (some ⟨g9, 0, none⟩))] t) ?_ ?_
        · refine gk_block (by kernel_rfl) ?_
          refine gk_pick [0, 4, 18, 19, 20] (K' := [(0, .int .i64 a0), (4, .pointer (some ⟨g9, 0, none⟩)), (18, .slice A13 lex_units.length c14), (19, .int .i64 (lex_units.length : Int)), (20, .int .i64 0)]) (by kernel_rfl) ?_
          intro t hK
          refine gc_loop (lex_SpanText_l50) (fun s29 t I' L' => ∃ q33 A35 n36 C37, (q33 = none ∨ q33 = some (⟨g9, 0, none⟩ : Addr)) ∧ OwnS (Kd.int .u8) 5 I' A35 n36 s29.2.1 C37 ∧ I10 ≤ I' ∧ C37 ++ (C15 ++ ((g9, .cells #[.pointer q33, .slice A35 s29.2.1.length n36] 51) :: L)) = L' ∧ Knows 44 [(0, .int .i64 s29.2.2.1), (4, .pointer (some ⟨g9, 0, none⟩)), (18, .slice A13 lex_units.length c14), (19, .int .i64 (lex_units.length : Int)), (20, .int .i64 s29.2.2.2)] t) (by kernel_rfl) ?_ hl28 ⟨none, none, 0, [], (Or.inl rfl), OwnS.nil _ _ _ _, (Imm.refl _), rfl, hK⟩
          rintro s29 o30 t I40 L' hb31 ⟨q33, A35, n36, C37, hq34, hO38, hI32, rfl, hK39⟩
          unfold lex_SpanText_l50 at hb31
          refine gk_at hK39 ?_
          refine gk_seq (by kernel_rfl) ?_
          refine gk_region (by kernel_rfl) ?_
          refine gl_pure 1 [0, 4, 18, 19, 20, 21] (K' := [(0, .int .i64 s29.2.2.1), (4, .pointer (some ⟨g9, 0, none⟩)), (18, .slice A13 lex_units.length c14), (19, .int .i64 (lex_units.length : Int)), (20, .int .i64 s29.2.2.2), (21, .bool (decide (s29.2.2.2 < (lex_units.length : Int))))]) (by kernel_rfl) ?_
          refine gl_atE (by kernel_rfl) ?_
          refine ge_seq ?_
          refine gk_seq (by kernel_rfl) ?_
          refine gk_cond (b := (decide (s29.2.2.2 < (lex_units.length : Int)))) (by kernel_rfl) (by kernel_rfl) (fun hc52 => ?_) (fun hc52 => ?_)
          · have hb31 := cond_t hc52 hb31
            refine gk_skip (by kernel_rfl) ?_
            refine ge_seq ?_
            refine gk_seq (by kernel_rfl) ?_
            refine gk_block (by kernel_rfl) ?_
            refine gk_seq (by kernel_rfl) ?_
            refine gk_region (by kernel_rfl) ?_
            obtain ⟨x53, hx54, hb31⟩ := bind_some hb31
            refine gl_indexAddrW (d := kS62) (c := c14) (T' := 60) (e := 63) (xs := (.tmp 18)) (xi := (.tmp 20)) (kd := .i64) hx54 (hO16.mono hI32) (Upd.app _ (Upd.selfC _ _)) (by kernel_rfl) (by kernel_rfl) (by kernel_rfl) (by kernel_rfl) (by kernel_rfl) (fun p55 cs56 hR57 hA58 hp61 => ?_)
            obtain rfl := kS62_open hR57
            refine gl_loadOA (T' := 63) (xp := (.tmp 22)) (p := p55) (cs := [.string x53.f0, .int .i64 x53.f1]) (by kernel_rfl) (by kernel_rfl) (by kernel_rfl) (by kernel_rfl) (hA58.take 2) ?_
            refine gl_alloc (T' := 63) (cs := #[.string (⟨#[]⟩ : ByteArray), .int .i64 0]) (by kernel_rfl) (by kernel_rfl) (by kernel_rfl) (fun g62 => ?_)
            refine gl_storeB (T' := 63) (xp := (.tmp 6)) (xv := (.tmp 23)) (v := .agg #[.string x53.f0, .int .i64 x53.f1]) (g := g62) (off := 0) (cs := #[.string (⟨#[]⟩ : ByteArray), .int .i64 0]) (cs' := #[.string x53.f0, .int .i64 x53.f1]) (by kernel_rfl) (by kernel_rfl) (by kernel_rfl) (by kernel_rfl) (by kernel_rfl) (Upd.set _ _ _ _) ?_ (by kernel_rfl)
            refine gl_atE (by kernel_rfl) ?_
            refine ge_seq ?_
            refine gk_seq (by kernel_rfl) ?_
            refine gk_region (by kernel_rfl) ?_
            refine gl_pure 2 [0, 4, 6, 18, 19, 20, 24, 25] (K' := [(0, .int .i64 s29.2.2.1), (4, .pointer (some ⟨g9, 0, none⟩)), (6, .pointer (some ⟨g62, 0, none⟩)), (18, .slice A13 lex_units.length c14), (19, .int .i64 (lex_units.length : Int)), (20, .int .i64 s29.2.2.2), (24, .int .i64 s29.2.2.1), (25, .pointer (some ⟨g62, 1, none⟩))]) (by kernel_rfl) ?_
            refine gl_loadB (T' := 2) (xp := (.tmp 25)) (v := .int .i64 x53.f1) (g := g62) (off := 1) (cs := #[.string x53.f0, .int .i64 x53.f1]) (e := 63) (fz := (0, 0)) (by kernel_rfl) (by kernel_rfl) (by kernel_rfl) List.mem_cons_self (by kernel_rfl) ?_
            obtain ⟨q63, hx64, hb31⟩ := bind_some hb31
            refine gl_quo (t := 2) (t' := 2) (x := (.tmp 24)) (y := (.tmp 26)) (kx := .i64) hx64 (by kernel_rfl) (by kernel_rfl) (by kernel_rfl) (by kernel_rfl) ?_
            refine gl_pure 1 [0, 4, 6, 7, 18, 19, 20] (K' := [(0, .int .i64 s29.2.2.1), (4, .pointer (some ⟨g9, 0, none⟩)), (6, .pointer (some ⟨g62, 0, none⟩)), (7, .int .i64 q63), (18, .slice A13 lex_units.length c14), (19, .int .i64 (lex_units.length : Int)), (20, .int .i64 s29.2.2.2)]) (by kernel_rfl) ?_
            refine gl_atE (by kernel_rfl) ?_
            refine ge_seq ?_
            refine gk_seq (by kernel_rfl) ?_
            refine gk_region (by kernel_rfl) ?_
            refine gl_pure 2 [0, 4, 6, 7, 18, 19, 20, 29] (K' := [(0, .int .i64 s29.2.2.1), (4, .pointer (some ⟨g9, 0, none⟩)), (6, .pointer (some ⟨g62, 0, none⟩)), (7, .int .i64 q63), (18, .slice A13 lex_units.length c14), (19, .int .i64 (lex_units.length : Int)), (20, .int .i64 s29.2.2.2), (29, .bool (decide (q63 > 0)))]) (by kernel_rfl) ?_
            refine gl_atE (by kernel_rfl) ?_
            refine ge_seq ?_
            obtain ⟨j65, hj66, hb31⟩ := bind_some hb31
            refine gk_join (fun t I' L' => ∃ q68 A70 n71 C72, (q68 = none ∨ q68 = some (⟨g9, 0, none⟩ : Addr)) ∧ OwnS (Kd.int .u8) 5 I' A70 n71 j65.2.2 C72 ∧ I40 ≤ I' ∧ C72 ++ (C15 ++ ((g9, .cells #[.pointer q68, .slice A70 j65.2.2.length n71] 51) :: L)) = L' ∧ Knows 44 [(0, .int .i64 j65.1), (4, .pointer (some ⟨g9, 0, none⟩)), (18, .slice A13 lex_units.length c14), (19, .int .i64 (lex_units.length : Int)), (20, .int .i64 s29.2.2.2)] t) ?_ ?_
            · refine gk_cond (b := (decide (q63 > 0))) (by kernel_rfl) (by kernel_rfl) (fun hc76 => ?_) (fun hc76 => ?_)
              · have hj66 := cond_t hc76 hj66
                refine gk_seq (by kernel_rfl) ?_
                refine gk_draw 5 [(0, true), (1, true), (2, true), (3, true), (4, true)] [(g62, .cells #[.string x53.f0, .int .i64 x53.f1] 63), (g9, .cells #[.pointer q33, .slice A35 s29.2.1.length n36] 51)] (List.forall_mem_cons.2 ⟨List.mem_cons_self, (List.forall_mem_cons.2 ⟨(List.mem_cons_of_mem _ (List.mem_append_right _ (List.mem_append_right _ List.mem_cons_self))), (fun p hp => by cases hp)⟩)⟩) (by kernel_rfl) (by kernel_rfl) (by kernel_rfl) ?_ (by kernel_rfl)
                refine gd_pure 1 [0, 4, 6, 7, 18, 19, 20, 30] (K' := [(0, .int .i64 s29.2.2.1), (4, .pointer (some ⟨g9, 0, none⟩)), (6, .pointer (some ⟨g62, 0, none⟩)), (7, .int .i64 q63), (18, .slice A13 lex_units.length c14), (19, .int .i64 (lex_units.length : Int)), (20, .int .i64 s29.2.2.2), (30, .int .i64 q63)]) (s' := [(1, true), (2, true), (3, true), (4, true)]) (CC.refl (List.forall_mem_cons.2 ⟨List.mem_cons_self, (List.forall_mem_cons.2 ⟨(List.mem_cons_of_mem _ (List.mem_append_right _ (List.mem_append_right _ List.mem_cons_self))), (fun p hp => by cases hp)⟩)⟩)) (by kernel_rfl) ?_
                obtain ⟨y77, hx78, hj66⟩ := bind_some hj66
                refine gd_q (v := .string y77) (by kernel_rfl) (by kernel_rfl) (CC.refl (List.forall_mem_cons.2 ⟨List.mem_cons_self, (List.forall_mem_cons.2 ⟨(List.mem_cons_of_mem _ (List.mem_append_right _ (List.mem_append_right _ List.mem_cons_self))), (fun p hp => by cases hp)⟩)⟩)) (fun I' L' T hC kk => gl_callQ (by kernel_rfl) (strconv_FormatInt_walk (r := y77) ((hG.mono (Imm.trans (Imm.trans hI1 hI12) hI32)).mono hC.le) hx78 _) kk) ?_
                refine gd_pure 1 [0, 4, 6, 7, 18, 19, 20, 31, 32] (K' := [(0, .int .i64 s29.2.2.1), (4, .pointer (some ⟨g9, 0, none⟩)), (6, .pointer (some ⟨g62, 0, none⟩)), (7, .int .i64 q63), (18, .slice A13 lex_units.length c14), (19, .int .i64 (lex_units.length : Int)), (20, .int .i64 s29.2.2.2), (31, .string y77), (32, .pointer (some ⟨g62, 0, none⟩))]) (s' := [(3, true), (4, true)]) (CC.refl (List.forall_mem_cons.2 ⟨List.mem_cons_self, (List.forall_mem_cons.2 ⟨(List.mem_cons_of_mem _ (List.mem_append_right _ (List.mem_append_right _ List.mem_cons_self))), (fun p hp => by cases hp)⟩)⟩)) (by kernel_rfl) ?_
                refine gd_q (v := .string x53.f0) (by kernel_rfl) (by kernel_rfl) (CC.refl (List.forall_mem_cons.2 ⟨List.mem_cons_self, (List.forall_mem_cons.2 ⟨(List.mem_cons_of_mem _ (List.mem_append_right _ (List.mem_append_right _ List.mem_cons_self))), (fun p hp => by cases hp)⟩)⟩)) (fun I' L' T hC kk => gl_loadB (T' := 9) (xp := (.tmp 32)) (v := .string x53.f0) (g := g62) (off := 0) (cs := #[.string x53.f0, .int .i64 x53.f1]) (e := 63) (fz := (0, 0)) (by kernel_rfl) (by kernel_rfl) (by kernel_rfl) (hC.sub _ List.mem_cons_self) (by kernel_rfl) kk) ?_
                obtain ⟨s79, hx80, hj66⟩ := bind_some hj66
                refine gd_q (v := .string s79) (by kernel_rfl) (by kernel_rfl) (CC.refl (List.forall_mem_cons.2 ⟨List.mem_cons_self, (List.forall_mem_cons.2 ⟨(List.mem_cons_of_mem _ (List.mem_append_right _ (List.mem_append_right _ List.mem_cons_self))), (fun p hp => by cases hp)⟩)⟩)) (fun I' L' T hC kk => gl_sadd (t := 9) (t' := 9) (x := (.tmp 31)) (y := (.tmp 33)) hx80 (by kernel_rfl) (by kernel_rfl) (by kernel_rfl) (by kernel_rfl) kk) ?_
                refine gd_done ?_
                obtain ⟨y81, hx82, hj66⟩ := bind_some hj66
                refine gl_reord (D := (g9, .cells #[.pointer q33, .slice A35 s29.2.1.length n36] 51) :: (C37 ++ ((g62, .cells #[.string x53.f0, .int .i64 x53.f1] 63) :: (C15 ++ L)))) (Reord.step1 (Upd.one _ (Upd.app _ (Upd.app _ (Upd.rm1 _ _)))) (Reord.step (Upd.one _ (Upd.rmC _ _)) (Reord.step1 (Upd.rm1 _ _) (Reord.step (Upd.rmC _ _) (Reord.refl _))))) ?_
                refine gl_call (by kernel_rfl) (strings_Builder_WriteString_walk (r := y81) (g0 := g9) (q0_0 := q33) (A0_1 := A35) (c0_1 := n36) (C0_1 := C37) (a0 := (⟨s29.2.1⟩ : S50)) hq34 hO38 hx82 _) ?_
                rintro v I83 L84 hI85 ⟨z86, A87, c88, C89, hO90, hO91, rfl, rfl⟩
                refine gl_atE (by kernel_rfl) ?_
                refine ge_seq ?_
                refine gk_region (by kernel_rfl) ?_
                refine gl_pure 3 [4, 18, 19, 20, 36, 37, 38] (K' := [(4, .pointer (some ⟨g9, 0, none⟩)), (18, .slice A13 lex_units.length c14), (19, .int .i64 (lex_units.length : Int)), (20, .int .i64 s29.2.2.2), (36, .int .i64 s29.2.2.1), (37, .int .i64 q63), (38, .pointer (some ⟨g62, 1, none⟩))]) (by kernel_rfl) ?_
                refine gl_loadB (T' := 2) (xp := (.tmp 38)) (v := .int .i64 x53.f1) (g := g62) (off := 1) (cs := #[.string x53.f0, .int .i64 x53.f1]) (e := 63) (fz := (0, 0)) (by kernel_rfl) (by kernel_rfl) (by kernel_rfl) (List.mem_cons_of_mem _ (List.mem_append_right _ List.mem_cons_self)) (by kernel_rfl) ?_
                refine gl_pure 3 [0, 4, 18, 19, 20] (K' := [(0, .int .i64 (IntKind.wrap .i64 (s29.2.2.1 - (IntKind.wrap .i64 (q63 * x53.f1))))), (4, .pointer (some ⟨g9, 0, none⟩)), (18, .slice A13 lex_units.length c14), (19, .int .i64 (lex_units.length : Int)), (20, .int .i64 s29.2.2.2)]) (by kernel_rfl) ?_
                refine gl_reord (D := C89 ++ (C15 ++ ((g9, .cells #[.pointer z86, .slice A87 y81.2.2.f1.length c88] 51) :: L))) (Reord.step (Upd.one _ (Upd.rmC _ _)) (Reord.step (Upd.one _ (Upd.one _ (Upd.rmC _ _))) (Reord.step1 (Upd.rm1 _ _) (Reord.skip (Reord.refl _))))) ?_
                refine gl_atE (by kernel_rfl) ?_
                obtain rfl := some_inj hj66
                exact ge_mid fun t ht => ⟨z86, A87, c88, C89, hO90, hO91, hI85, rfl, ht.pick (l := [0, 4, 18, 19, 20]) (by kernel_rfl)⟩
              · have hj66 := cond_f hc76 hj66
                refine gk_reord (D := C37 ++ (C15 ++ ((g9, .cells #[.pointer q33, .slice A35 s29.2.1.length n36] 51) :: L))) (Reord.step (Upd.one _ (Upd.rmC _ _)) (Reord.step (Upd.one _ (Upd.rmC _ _)) (Reord.step1 (Upd.one _ (Upd.rm1 _ _)) (Reord.skip (Reord.refl _))))) ?_
                refine gk_skip (by kernel_rfl) ?_
                obtain rfl := some_inj hj66
                exact ge_mid fun t ht => ⟨q33, A35, n36, C37, hq34, hO38, (Imm.refl _), rfl, ht.pick (l := [0, 4, 18, 19, 20]) (by kernel_rfl)⟩
            · rintro t I75 L' ⟨q68, A70, n71, C72, hq69, hO73, hI67, rfl, hK74⟩
              refine ge_at hK74 ?_
              refine ge_block_normal ?_
              refine ge_seq ?_
              refine gk_region (by kernel_rfl) ?_
              refine gl_pure 2 [0, 4, 18, 19, 20] (K' := [(0, .int .i64 j65.1), (4, .pointer (some ⟨g9, 0, none⟩)), (18, .slice A13 lex_units.length c14), (19, .int .i64 (lex_units.length : Int)), (20, .int .i64 (IntKind.wrap .i64 (s29.2.2.2 + 1)))]) (by kernel_rfl) ?_
              refine gl_atE (by kernel_rfl) ?_
              obtain rfl := some_inj hb31
              exact ge_round fun t ht => ⟨q68, A70, n71, C72, hq69, hO73, (Imm.trans hI32 hI67), rfl, ht.pick (l := [0, 4, 18, 19, 20]) (by kernel_rfl)⟩
          · have hb31 := cond_f hc52 hb31
            refine gk_reord (D := C37 ++ ((g9, .cells #[.pointer q33, .slice A35 s29.2.1.length n36] 51) :: L)) (Reord.step (Upd.rmC _ _) (Reord.step1 (Upd.app _ (Upd.rm1 _ _)) (Reord.skipC (Reord.refl _)))) ?_
            refine gk_exit (by kernel_rfl) ?_
            refine ge_seq_exit ?_
            obtain rfl := some_inj hb31
            refine ge_round_out (fun hrr => ?_) (by intro h; cases h)
            obtain rfl := hrr
            refine ge_block_hit (by kernel_rfl) ?_
            exact ge_mid fun t ht => ⟨q33, A35, n36, C37, hq34, hO38, hI32, rfl, ht.pick (l := [4]) (by kernel_rfl)⟩
        · rintro t I49 L' ⟨q42, A44, n45, C46, hq43, hO47, hI41, rfl, hK48⟩
          refine ge_at hK48 ?_
          refine ge_seq ?_
          refine gk_seq (by kernel_rfl) ?_
          refine gk_region (by kernel_rfl) ?_
          obtain ⟨y92, hx93, hr⟩ := bind_some hr
          refine gl_reord (D := (g9, .cells #[.pointer q42, .slice A44 r27.2.length n45] 51) :: (C46 ++ L)) (Reord.step1 (Upd.app _ (Upd.rm1 _ _)) (Reord.step (Upd.rmC _ _) (Reord.refl _))) ?_
          refine gl_call (by kernel_rfl) (strings_Builder_String_walk (r := y92) (g0 := g9) (q0_0 := q42) (A0_1 := A44) (c0_1 := n45) (C0_1 := C46) (a0 := (⟨r27.2⟩ : S50)) hq43 hO47 hx93 _) ?_
          rintro v I94 L95 hI96 ⟨rfl, rfl⟩
          refine gl_pure 2 [2, 3] (K' := [(2, .string y92), (3, .int .i64 0)]) (by kernel_rfl) ?_
          refine gl_atE (by kernel_rfl) ?_
          refine ge_seq ?_
          refine gk_ret (by kernel_rfl) ?_
          obtain rfl := some_inj hr
          exact ge_result trivial (ResOk.tmp (by kernel_rfl) (ResOk.tmp (by kernel_rfl) ResOk.nil)) (Imm.trans (Imm.trans (Imm.trans hI1 hI12) hI41) hI96) ⟨rfl, rfl⟩
/-! 11 tocsinlaw13_known  -/
noncomputable def tocsinlaw13_known : Option Bool :=
  Option.bind (lex_Tokens (⟨#[97, 58, 98, 123, 120, 61, 126, 34, 99, 46, 42, 34, 125, 91, 53, 109, 93, 32, 62, 32, 49, 46, 53, 101, 51, 32, 35, 32, 101, 110, 100]⟩ : ByteArray)) fun (y1 : (List S27) × Int × Int) =>
  Option.bind (lex_Span (⟨#[49, 104, 51, 48, 109]⟩ : ByteArray)) fun (y10 : Int × Int) =>
  Option.bind (lex_SpanText 1500) fun (y12 : ByteArray × Int) =>
  Option.bind (bif (y1.2.1 == 0) then
    (bif ((y1.1.length : Int) == 12) then
      (Option.bind (ix y1.1 4) fun (x21 : S27) =>
        bif (x21.f1.toList == (⟨#[99, 46, 42]⟩ : ByteArray).toList) then
        (Option.bind (ix y1.1 7) fun (x31 : S27) =>
          bif (x31.f0 == 3) then
          (bif (y10.2 == 0) then
            (bif (y10.1 == 5400000) then
              (bif (y12.2 == 0) then
                (some (y12.1.toList == (⟨#[49, 115, 53, 48, 48, 109, 115]⟩ : ByteArray).toList))
                else
                (some false))
              else
              (some false))
            else
            (some false))
          else
          (some false))
        else
        (some false))
      else
      (some false))
    else
    (some false)) fun (j14 : Bool) =>
  some j14
theorem tocsinlaw13_known_walk  {I : Imm} {r : Bool} (hG : Gl I) (hr : tocsinlaw13_known = some r) (L : Own) :
    CallsTo Tryd.prog 11 #[] I L (fun v I' L' => v = .bool r ∧ L = L') := by
  unfold tocsinlaw13_known at hr
  refine callsTo_body (N := 58) Tryd.func11 (by kernel_rfl) (by kernel_rfl) (by kernel_rfl) ?_
  refine gk_pick [] (K' := []) (by kernel_rfl) ?_
  refine gk_seq (by kernel_rfl) ?_
  refine gk_region (by kernel_rfl) ?_
  refine gl_pure 1 [] (K' := []) (by kernel_rfl) ?_
  refine gl_atE (by kernel_rfl) ?_
  refine ge_seq ?_
  refine gk_seq (by kernel_rfl) ?_
  refine gk_region (by kernel_rfl) ?_
  obtain ⟨y1, hx2, hr⟩ := bind_some hr
  refine gl_call (by kernel_rfl) (lex_Tokens_walk (r := y1) hG hx2 _) ?_
  rintro v I3 L4 hI5 ⟨A6, c7, C8, hO9, rfl, rfl⟩
  refine gl_pure 7 [1, 2] (K' := [(1, .slice A6 y1.1.length c7), (2, .int .i64 y1.2.1)]) (by kernel_rfl) ?_
  refine gl_atE (by kernel_rfl) ?_
  refine ge_seq ?_
  refine gk_seq (by kernel_rfl) ?_
  refine gk_region (by kernel_rfl) ?_
  obtain ⟨y10, hx11, hr⟩ := bind_some hr
  refine gl_callQ (by kernel_rfl) (lex_Span_walk (r := y10) (hG.mono hI5) hx11 _) ?_
  refine gl_pure 5 [1, 2, 4, 5] (K' := [(1, .slice A6 y1.1.length c7), (2, .int .i64 y1.2.1), (4, .int .i64 y10.1), (5, .int .i64 y10.2)]) (by kernel_rfl) ?_
  refine gl_atE (by kernel_rfl) ?_
  refine ge_seq ?_
  refine gk_seq (by kernel_rfl) ?_
  refine gk_region (by kernel_rfl) ?_
  obtain ⟨y12, hx13, hr⟩ := bind_some hr
  refine gl_callQ (by kernel_rfl) (lex_SpanText_walk (r := y12) (hG.mono hI5) hx13 _) ?_
  refine gl_pure 5 [1, 2, 4, 5, 6, 7] (K' := [(1, .slice A6 y1.1.length c7), (2, .int .i64 y1.2.1), (4, .int .i64 y10.1), (5, .int .i64 y10.2), (6, .string y12.1), (7, .int .i64 y12.2)]) (by kernel_rfl) ?_
  refine gl_atE (by kernel_rfl) ?_
  refine ge_seq ?_
  refine gk_seq (by kernel_rfl) ?_
  obtain ⟨j14, hj15, hr⟩ := bind_some hr
  refine gk_join (fun t I' L' => I3 ≤ I' ∧ L = L' ∧ Knows 58 [(0, .bool j14)] t) ?_ ?_
  · refine gk_region (by kernel_rfl) ?_
    refine gl_pure 3 [1, 4, 5, 6, 7, 23] (K' := [(1, .slice A6 y1.1.length c7), (4, .int .i64 y10.1), (5, .int .i64 y10.2), (6, .string y12.1), (7, .int .i64 y12.2), (23, .bool (y1.2.1 == 0))]) (by kernel_rfl) ?_
    refine gl_case 23 (b := (y1.2.1 == 0)) (by kernel_rfl) (fun hc19 => ?_) (fun hc19 => ?_)
    · have hj15 := cond_t hc19 hj15
      refine gl_pure 5 [1, 4, 5, 6, 7, 28] (K' := [(1, .slice A6 y1.1.length c7), (4, .int .i64 y10.1), (5, .int .i64 y10.2), (6, .string y12.1), (7, .int .i64 y12.2), (28, .bool ((y1.1.length : Int) == 12))]) (by kernel_rfl) ?_
      refine gl_case 28 (b := ((y1.1.length : Int) == 12)) (by kernel_rfl) (fun hc20 => ?_) (fun hc20 => ?_)
      · have hj15 := cond_t hc20 hj15
        refine gl_pure 1 [1, 4, 5, 6, 7, 28, 29] (K' := [(1, .slice A6 y1.1.length c7), (4, .int .i64 y10.1), (5, .int .i64 y10.2), (6, .string y12.1), (7, .int .i64 y12.2), (28, .bool true), (29, .slice A6 y1.1.length c7)]) (by kernel_rfl) ?_
        obtain ⟨x21, hx22, hj15⟩ := bind_some hj15
        refine gl_indexAddrW (d := kS27) (c := c7) (T' := 22) (e := 28) (xs := (.tmp 29)) (xi := (.const (.int .i64 4))) (kd := .i64) hx22 hO9 (Upd.selfC _ _) (by kernel_rfl) (by kernel_rfl) (by kernel_rfl) (by kernel_rfl) (by kernel_rfl) (fun p23 cs24 hR25 hA26 hp29 => ?_)
        obtain rfl := kS27_open hR25
        refine gl_pure 1 [1, 4, 5, 6, 7, 28, 31] (K' := [(1, .slice A6 y1.1.length c7), (4, .int .i64 y10.1), (5, .int .i64 y10.2), (6, .string y12.1), (7, .int .i64 y12.2), (28, .bool true), (31, .pointer (some (p23.add 1)))]) (by kernel_rfl) ?_
        refine gl_loadO (T' := 9) (xp := (.tmp 31)) (p := (p23.add 1)) (c := .string x21.f1) (n := 1) (by kernel_rfl) (by kernel_rfl) (by kernel_rfl) (by kernel_rfl) (hA26.drop 1) ?_
        refine gl_pure 3 [1, 4, 5, 6, 7, 35] (K' := [(1, .slice A6 y1.1.length c7), (4, .int .i64 y10.1), (5, .int .i64 y10.2), (6, .string y12.1), (7, .int .i64 y12.2), (35, .bool (x21.f1.toList == (⟨#[99, 46, 42]⟩ : ByteArray).toList))]) (by kernel_rfl) ?_
        refine gl_case 35 (b := (x21.f1.toList == (⟨#[99, 46, 42]⟩ : ByteArray).toList)) (by kernel_rfl) (fun hc30 => ?_) (fun hc30 => ?_)
        · have hj15 := cond_t hc30 hj15
          refine gl_pure 1 [4, 5, 6, 7, 35, 36] (K' := [(4, .int .i64 y10.1), (5, .int .i64 y10.2), (6, .string y12.1), (7, .int .i64 y12.2), (35, .bool true), (36, .slice A6 y1.1.length c7)]) (by kernel_rfl) ?_
          obtain ⟨x31, hx32, hj15⟩ := bind_some hj15
          refine gl_indexAddrW (d := kS27) (c := c7) (T' := 22) (e := 28) (xs := (.tmp 36)) (xi := (.const (.int .i64 7))) (kd := .i64) hx32 hO9 (Upd.selfC _ _) (by kernel_rfl) (by kernel_rfl) (by kernel_rfl) (by kernel_rfl) (by kernel_rfl) (fun p33 cs34 hR35 hA36 hp39 => ?_)
          obtain rfl := kS27_open hR35
          refine gl_pure 1 [4, 5, 6, 7, 35, 38] (K' := [(4, .int .i64 y10.1), (5, .int .i64 y10.2), (6, .string y12.1), (7, .int .i64 y12.2), (35, .bool true), (38, .pointer (some (p33.add 0)))]) (by kernel_rfl) ?_
          refine gl_loadO (T' := 3) (xp := (.tmp 38)) (p := (p33.add 0)) (c := .int .i64 x31.f0) (n := 1) (by kernel_rfl) (by kernel_rfl) (by kernel_rfl) (by kernel_rfl) (hA36.drop 0) ?_
          refine gl_pure 3 [4, 5, 6, 7, 42] (K' := [(4, .int .i64 y10.1), (5, .int .i64 y10.2), (6, .string y12.1), (7, .int .i64 y12.2), (42, .bool (x31.f0 == 3))]) (by kernel_rfl) ?_
          refine gl_case 42 (b := (x31.f0 == 3)) (by kernel_rfl) (fun hc40 => ?_) (fun hc40 => ?_)
          · have hj15 := cond_t hc40 hj15
            refine gl_pure 4 [4, 6, 7, 46] (K' := [(4, .int .i64 y10.1), (6, .string y12.1), (7, .int .i64 y12.2), (46, .bool (y10.2 == 0))]) (by kernel_rfl) ?_
            refine gl_case 46 (b := (y10.2 == 0)) (by kernel_rfl) (fun hc41 => ?_) (fun hc41 => ?_)
            · have hj15 := cond_t hc41 hj15
              refine gl_pure 4 [6, 7, 50] (K' := [(6, .string y12.1), (7, .int .i64 y12.2), (50, .bool (y10.1 == 5400000))]) (by kernel_rfl) ?_
              refine gl_case 50 (b := (y10.1 == 5400000)) (by kernel_rfl) (fun hc42 => ?_) (fun hc42 => ?_)
              · have hj15 := cond_t hc42 hj15
                refine gl_pure 4 [6, 54] (K' := [(6, .string y12.1), (54, .bool (y12.2 == 0))]) (by kernel_rfl) ?_
                refine gl_case 54 (b := (y12.2 == 0)) (by kernel_rfl) (fun hc43 => ?_) (fun hc43 => ?_)
                · have hj15 := cond_t hc43 hj15
                  refine gl_pure 4 [0] (K' := [(0, .bool (y12.1.toList == (⟨#[49, 115, 53, 48, 48, 109, 115]⟩ : ByteArray).toList))]) (by kernel_rfl) ?_
                  refine gl_reord (D := L) (Reord.skipC (Reord.refl _)) ?_
                  refine gl_atE (by kernel_rfl) ?_
                  obtain rfl := some_inj hj15
                  exact ge_mid fun t ht => ⟨(Imm.refl _), rfl, ht.pick (l := [0]) (by kernel_rfl)⟩
                · have hj15 := cond_f hc43 hj15
                  refine gl_pure 4 [0] (K' := [(0, .bool false)]) (by kernel_rfl) ?_
                  refine gl_reord (D := L) (Reord.skipC (Reord.refl _)) ?_
                  refine gl_atE (by kernel_rfl) ?_
                  obtain rfl := some_inj hj15
                  exact ge_mid fun t ht => ⟨(Imm.refl _), rfl, ht.pick (l := [0]) (by kernel_rfl)⟩
              · have hj15 := cond_f hc42 hj15
                refine gl_pure 8 [0] (K' := [(0, .bool false)]) (by kernel_rfl) ?_
                refine gl_reord (D := L) (Reord.skipC (Reord.refl _)) ?_
                refine gl_atE (by kernel_rfl) ?_
                obtain rfl := some_inj hj15
                exact ge_mid fun t ht => ⟨(Imm.refl _), rfl, ht.pick (l := [0]) (by kernel_rfl)⟩
            · have hj15 := cond_f hc41 hj15
              refine gl_pure 12 [0] (K' := [(0, .bool false)]) (by kernel_rfl) ?_
              refine gl_reord (D := L) (Reord.skipC (Reord.refl _)) ?_
              refine gl_atE (by kernel_rfl) ?_
              obtain rfl := some_inj hj15
              exact ge_mid fun t ht => ⟨(Imm.refl _), rfl, ht.pick (l := [0]) (by kernel_rfl)⟩
          · have hj15 := cond_f hc40 hj15
            refine gl_pure 16 [0] (K' := [(0, .bool false)]) (by kernel_rfl) ?_
            refine gl_reord (D := L) (Reord.skipC (Reord.refl _)) ?_
            refine gl_atE (by kernel_rfl) ?_
            obtain rfl := some_inj hj15
            exact ge_mid fun t ht => ⟨(Imm.refl _), rfl, ht.pick (l := [0]) (by kernel_rfl)⟩
        · have hj15 := cond_f hc30 hj15
          refine gl_pure 23 [0] (K' := [(0, .bool false)]) (by kernel_rfl) ?_
          refine gl_reord (D := L) (Reord.skipC (Reord.refl _)) ?_
          refine gl_atE (by kernel_rfl) ?_
          obtain rfl := some_inj hj15
          exact ge_mid fun t ht => ⟨(Imm.refl _), rfl, ht.pick (l := [0]) (by kernel_rfl)⟩
      · have hj15 := cond_f hc20 hj15
        refine gl_pure 30 [0] (K' := [(0, .bool false)]) (by kernel_rfl) ?_
        refine gl_reord (D := L) (Reord.skipC (Reord.refl _)) ?_
        refine gl_atE (by kernel_rfl) ?_
        obtain rfl := some_inj hj15
        exact ge_mid fun t ht => ⟨(Imm.refl _), rfl, ht.pick (l := [0]) (by kernel_rfl)⟩
    · have hj15 := cond_f hc19 hj15
      refine gl_pure 35 [0] (K' := [(0, .bool false)]) (by kernel_rfl) ?_
      refine gl_reord (D := L) (Reord.skipC (Reord.refl _)) ?_
      refine gl_atE (by kernel_rfl) ?_
      obtain rfl := some_inj hj15
      exact ge_mid fun t ht => ⟨(Imm.refl _), rfl, ht.pick (l := [0]) (by kernel_rfl)⟩
  · rintro t I18 L' ⟨hI16, rfl, hK17⟩
    refine ge_at hK17 ?_
    refine ge_seq ?_
    refine gk_ret (by kernel_rfl) ?_
    obtain rfl := some_inj hr
    exact ge_result trivial (ResOk.tmp (by kernel_rfl) ResOk.nil) (Imm.trans hI5 hI16) ⟨rfl, rfl⟩
/-! 12 lex_Same  -/
noncomputable def lex_Same_l18 (a0 : List S27) (a1 : List S27) : Int → Option ((Int) ⊕ ((Unit) ⊕ (Bool))) := fun s8 =>
  bif (decide (s8 < (a0.length : Int))) then
  (Option.bind (ix a0 s8) fun (x21 : S27) =>
    Option.bind (Option.bind (ix a1 s8) fun (x35 : S27) =>
      bif (x21.f0 != x35.f0) then
      (some true)
      else
      (Option.bind (ix a1 s8) fun (x44 : S27) =>
        some (!(x21.f1.toList == x44.f1.toList)))) fun (j30 : Bool) =>
    bif j30 then
    (some (Sum.inr (Sum.inr false)))
    else
    (some (Sum.inl (IntKind.wrap .i64 (s8 + 1)))))
  else
  (some (Sum.inr (Sum.inl ())))
noncomputable def lex_Same (a0 : List S27) (a1 : List S27) : Option Bool :=
  bif ((a0.length : Int) != (a1.length : Int)) then
  (some false)
  else
  (Option.bind (loopO (lex_Same_l18 a0 a1) 0) fun (r6 : (Unit) ⊕ (Bool)) =>
    match r6 with
    | Sum.inl r14 => some true
    | Sum.inr v53 => some v53)
theorem lex_Same_walk {a0 : List S27} {A0_0 : Option Addr} {n0_0 : Nat} {a1 : List S27} {A1_0 : Option Addr} {n1_0 : Nat} {I : Imm} {r : Bool}  (hf0_0 : RepS kS27 I A0_0 n0_0 a0)  (hf1_0 : RepS kS27 I A1_0 n1_0 a1) (hr : lex_Same a0 a1 = some r) (L : Own) :
    CallsTo Tryd.prog 12 #[.slice A0_0 a0.length n0_0, .slice A1_0 a1.length n1_0] I L (fun v I' L' => v = .bool r ∧ L = L') := by
  unfold lex_Same at hr
  refine callsTo_body (N := 38) Tryd.func12 (by kernel_rfl) (by kernel_rfl) (by kernel_rfl) ?_
  refine gk_pick [0, 1] (K' := [(0, .slice A0_0 a0.length n0_0), (1, .slice A1_0 a1.length n1_0)]) (by kernel_rfl) ?_
  refine gk_seq (by kernel_rfl) ?_
  refine gk_region (by kernel_rfl) ?_
  refine gl_pure 1 [0, 1] (K' := [(0, .slice A0_0 a0.length n0_0), (1, .slice A1_0 a1.length n1_0)]) (by kernel_rfl) ?_
  refine gl_atE (by kernel_rfl) ?_
  refine ge_seq ?_
  refine gk_seq (by kernel_rfl) ?_
  refine gk_seq (by kernel_rfl) ?_
  refine gk_region (by kernel_rfl) ?_
  refine gl_pure 5 [0, 1, 11] (K' := [(0, .slice A0_0 a0.length n0_0), (1, .slice A1_0 a1.length n1_0), (11, .bool ((a0.length : Int) != (a1.length : Int)))]) (by kernel_rfl) ?_
  refine gl_atE (by kernel_rfl) ?_
  refine ge_seq ?_
  refine gk_cond (b := ((a0.length : Int) != (a1.length : Int))) (by kernel_rfl) (by kernel_rfl) (fun hc1 => ?_) (fun hc1 => ?_)
  · have hr := cond_t hc1 hr
    refine gk_seq (by kernel_rfl) ?_
    refine gk_region (by kernel_rfl) ?_
    refine gl_pure 1 [4] (K' := [(4, .bool false)]) (by kernel_rfl) ?_
    refine gl_atE (by kernel_rfl) ?_
    refine ge_seq ?_
    refine gk_ret (by kernel_rfl) ?_
    refine ge_seq_ret ?_
    obtain rfl := some_inj hr
    exact ge_result trivial (ResOk.tmp (by kernel_rfl) ResOk.nil) (Imm.refl _) ⟨rfl, rfl⟩
  · have hr := cond_f hc1 hr
    refine gk_skip (by kernel_rfl) ?_
    refine ge_seq ?_
    refine gk_seq (by kernel_rfl) ?_
    refine gk_seq (by kernel_rfl) ?_
    refine gk_region (by kernel_rfl) ?_
    refine gl_pure 3 [1, 12, 13, 14] (K' := [(1, .slice A1_0 a1.length n1_0), (12, .slice A0_0 a0.length n0_0), (13, .int .i64 (a0.length : Int)), (14, .int .i64 0)]) (by kernel_rfl) ?_
    refine gl_atE (by kernel_rfl) ?_
    refine ge_seq ?_
    obtain ⟨r6, hl7, hr⟩ := bind_some hr
    refine gk_join (fun t I' L' => ∃ r14, r6 = Sum.inl r14 ∧ I ≤ I' ∧ L = L' ∧ Knows 38 [] t) ?_ ?_
    · refine gk_block (by kernel_rfl) ?_
      refine gk_pick [1, 12, 13, 14] (K' := [(1, .slice A1_0 a1.length n1_0), (12, .slice A0_0 a0.length n0_0), (13, .int .i64 (a0.length : Int)), (14, .int .i64 0)]) (by kernel_rfl) ?_
      intro t hK
      refine gc_loop (lex_Same_l18 a0 a1) (fun s8 t I' L' => I ≤ I' ∧ L = L' ∧ Knows 38 [(1, .slice A1_0 a1.length n1_0), (12, .slice A0_0 a0.length n0_0), (13, .int .i64 (a0.length : Int)), (14, .int .i64 s8)] t) (by kernel_rfl) ?_ hl7 ⟨(Imm.refl _), rfl, hK⟩
      rintro s8 o9 t I13 L' hb10 ⟨hI11, rfl, hK12⟩
      unfold lex_Same_l18 at hb10
      refine gk_at hK12 ?_
      refine gk_seq (by kernel_rfl) ?_
      refine gk_region (by kernel_rfl) ?_
      refine gl_pure 1 [1, 12, 13, 14, 15] (K' := [(1, .slice A1_0 a1.length n1_0), (12, .slice A0_0 a0.length n0_0), (13, .int .i64 (a0.length : Int)), (14, .int .i64 s8), (15, .bool (decide (s8 < (a0.length : Int))))]) (by kernel_rfl) ?_
      refine gl_atE (by kernel_rfl) ?_
      refine ge_seq ?_
      refine gk_seq (by kernel_rfl) ?_
      refine gk_cond (b := (decide (s8 < (a0.length : Int)))) (by kernel_rfl) (by kernel_rfl) (fun hc20 => ?_) (fun hc20 => ?_)
      · have hb10 := cond_t hc20 hb10
        refine gk_skip (by kernel_rfl) ?_
        refine ge_seq ?_
        refine gk_seq (by kernel_rfl) ?_
        refine gk_block (by kernel_rfl) ?_
        refine gk_seq (by kernel_rfl) ?_
        refine gk_region (by kernel_rfl) ?_
        refine gl_pure 1 [1, 12, 13, 14, 16] (K' := [(1, .slice A1_0 a1.length n1_0), (12, .slice A0_0 a0.length n0_0), (13, .int .i64 (a0.length : Int)), (14, .int .i64 s8), (16, .int .i64 s8)]) (by kernel_rfl) ?_
        obtain ⟨x21, hx22, hb10⟩ := bind_some hb10
        obtain ⟨p23, cs24, hR25, hA26, ha27⟩ := RepS.ixAt hx22 (hf0_0.mono hI11)
        have hi28 := ix_some hx22
        obtain rfl := kS27_open hR25
        refine gl_indexAddrF (c := n0_0) (T' := 22) (e := 28) (xs := (.tmp 12)) (xi := (.tmp 14)) (kd := .i64) ha27 hi28.1 hi28.2.1 (by kernel_rfl) (by kernel_rfl) (by kernel_rfl) (by kernel_rfl) (by kernel_rfl) ?_
        refine gl_loadA (T' := 28) (xp := (.tmp 17)) (p := p23) (cs := [.int .i64 x21.f0, .string x21.f1, .int .i64 x21.f2]) (by kernel_rfl) (by kernel_rfl) (by kernel_rfl) (by kernel_rfl) (hA26.take 3) ?_
        refine gl_alloc (T' := 28) (cs := #[.int .i64 0, .string (⟨#[]⟩ : ByteArray), .int .i64 0]) (by kernel_rfl) (by kernel_rfl) (by kernel_rfl) (fun g29 => ?_)
        refine gl_pure 1 [1, 5, 6, 12, 13, 14, 18] (K' := [(1, .slice A1_0 a1.length n1_0), (5, .int .i64 s8), (6, .pointer (some ⟨g29, 0, none⟩)), (12, .slice A0_0 a0.length n0_0), (13, .int .i64 (a0.length : Int)), (14, .int .i64 s8), (18, .agg #[.int .i64 x21.f0, .string x21.f1, .int .i64 x21.f2])]) (by kernel_rfl) ?_
        refine gl_storeB (T' := 28) (xp := (.tmp 6)) (xv := (.tmp 18)) (v := .agg #[.int .i64 x21.f0, .string x21.f1, .int .i64 x21.f2]) (g := g29) (off := 0) (cs := #[.int .i64 0, .string (⟨#[]⟩ : ByteArray), .int .i64 0]) (cs' := #[.int .i64 x21.f0, .string x21.f1, .int .i64 x21.f2]) (by kernel_rfl) (by kernel_rfl) (by kernel_rfl) (by kernel_rfl) (by kernel_rfl) (Upd.set _ _ _ _) ?_ (by kernel_rfl)
        refine gl_atE (by kernel_rfl) ?_
        refine ge_seq ?_
        refine gk_seq (by kernel_rfl) ?_
        obtain ⟨j30, hj31, hb10⟩ := bind_some hb10
        refine gk_join (fun t I' L' => I13 ≤ I' ∧ L = L' ∧ Knows 38 [(1, .slice A1_0 a1.length n1_0), (12, .slice A0_0 a0.length n0_0), (13, .int .i64 (a0.length : Int)), (14, .int .i64 s8), (36, .bool j30)] t) ?_ ?_
        · refine gk_draw 18 [(0, true), (1, true), (2, true), (3, true), (4, true), (5, true), (6, true), (7, true), (8, true), (9, true), (10, true), (11, true), (12, true), (13, true), (14, true), (15, true), (16, true), (17, true)] [(g29, .cells #[.int .i64 x21.f0, .string x21.f1, .int .i64 x21.f2] 28)] (List.forall_mem_cons.2 ⟨List.mem_cons_self, (fun p hp => by cases hp)⟩) (by kernel_rfl) (by kernel_rfl) (by kernel_rfl) ?_ (by kernel_rfl)
          refine gd_pure 1 [1, 5, 6, 12, 13, 14, 19] (K' := [(1, .slice A1_0 a1.length n1_0), (5, .int .i64 s8), (6, .pointer (some ⟨g29, 0, none⟩)), (12, .slice A0_0 a0.length n0_0), (13, .int .i64 (a0.length : Int)), (14, .int .i64 s8), (19, .pointer (some ⟨g29, 0, none⟩))]) (s' := [(1, true), (2, true), (3, true), (4, true), (5, true), (6, true), (7, true), (8, true), (9, true), (10, true), (11, true), (12, true), (13, true), (14, true), (15, true), (16, true), (17, true)]) (CC.refl (List.forall_mem_cons.2 ⟨List.mem_cons_self, (fun p hp => by cases hp)⟩)) (by kernel_rfl) ?_
          refine gd_q (v := .int .i64 x21.f0) (by kernel_rfl) (by kernel_rfl) (CC.refl (List.forall_mem_cons.2 ⟨List.mem_cons_self, (fun p hp => by cases hp)⟩)) (fun I' L' T hC kk => gl_loadB (T' := 3) (xp := (.tmp 19)) (v := .int .i64 x21.f0) (g := g29) (off := 0) (cs := #[.int .i64 x21.f0, .string x21.f1, .int .i64 x21.f2]) (e := 28) (fz := (0, 0)) (by kernel_rfl) (by kernel_rfl) (by kernel_rfl) (hC.sub _ List.mem_cons_self) (by kernel_rfl) kk) ?_
          refine gd_pure 2 [1, 5, 6, 12, 13, 14, 20, 21, 22] (K' := [(1, .slice A1_0 a1.length n1_0), (5, .int .i64 s8), (6, .pointer (some ⟨g29, 0, none⟩)), (12, .slice A0_0 a0.length n0_0), (13, .int .i64 (a0.length : Int)), (14, .int .i64 s8), (20, .int .i64 x21.f0), (21, .slice A1_0 a1.length n1_0), (22, .int .i64 s8)]) (s' := [(4, true), (5, true), (6, true), (7, true), (8, true), (9, true), (10, true), (11, true), (12, true), (13, true), (14, true), (15, true), (16, true), (17, true)]) (CC.refl (List.forall_mem_cons.2 ⟨List.mem_cons_self, (fun p hp => by cases hp)⟩)) (by kernel_rfl) ?_
          obtain ⟨x35, hx36, hj31⟩ := bind_some hj31
          obtain ⟨p37, cs38, hR39, hA40, ha41⟩ := RepS.ixAt hx36 (hf1_0.mono hI11)
          have hi42 := ix_some hx36
          obtain rfl := kS27_open hR39
          refine gd_q (v := .pointer (some p37)) (by kernel_rfl) (by kernel_rfl) (CC.refl (List.forall_mem_cons.2 ⟨List.mem_cons_self, (fun p hp => by cases hp)⟩)) (fun I' L' T hC kk => gl_indexAddrF (c := n1_0) (T' := 22) (e := 28) (xs := (.tmp 21)) (xi := (.tmp 22)) (kd := .i64) ha41 hi42.1 hi42.2.1 (by kernel_rfl) (by kernel_rfl) (by kernel_rfl) (by kernel_rfl) (by kernel_rfl) kk) ?_
          refine gd_pure 1 [1, 5, 6, 12, 13, 14, 20, 24] (K' := [(1, .slice A1_0 a1.length n1_0), (5, .int .i64 s8), (6, .pointer (some ⟨g29, 0, none⟩)), (12, .slice A0_0 a0.length n0_0), (13, .int .i64 (a0.length : Int)), (14, .int .i64 s8), (20, .int .i64 x21.f0), (24, .pointer (some (p37.add 0)))]) (s' := [(6, true), (7, true), (8, true), (9, true), (10, true), (11, true), (12, true), (13, true), (14, true), (15, true), (16, true), (17, true)]) (CC.refl (List.forall_mem_cons.2 ⟨List.mem_cons_self, (fun p hp => by cases hp)⟩)) (by kernel_rfl) ?_
          refine gd_q (v := .int .i64 x35.f0) (by kernel_rfl) (by kernel_rfl) (CC.refl (List.forall_mem_cons.2 ⟨List.mem_cons_self, (fun p hp => by cases hp)⟩)) (fun I' L' T hC kk => gl_load (T' := 3) (xp := (.tmp 24)) (p := (p37.add 0)) (c := .int .i64 x35.f0) (n := 1) (by kernel_rfl) (by kernel_rfl) (by kernel_rfl) (by kernel_rfl) ((hA40.drop 0).mono hC.le) kk) ?_
          refine gd_pure 2 [1, 5, 6, 12, 13, 14, 27] (K' := [(1, .slice A1_0 a1.length n1_0), (5, .int .i64 s8), (6, .pointer (some ⟨g29, 0, none⟩)), (12, .slice A0_0 a0.length n0_0), (13, .int .i64 (a0.length : Int)), (14, .int .i64 s8), (27, .bool (x21.f0 != x35.f0))]) (s' := [(9, true), (10, true), (11, true), (12, true), (13, true), (14, true), (15, true), (16, true), (17, true)]) (CC.refl (List.forall_mem_cons.2 ⟨List.mem_cons_self, (fun p hp => by cases hp)⟩)) (by kernel_rfl) ?_
          refine gd_case 27 (b := (x21.f0 != x35.f0)) (by kernel_rfl) (fun hc43 => ?_) (fun hc43 => ?_)
          · have hj31 := cond_t hc43 hj31
            refine gd_pure 9 [1, 12, 13, 14, 36] (K' := [(1, .slice A1_0 a1.length n1_0), (12, .slice A0_0 a0.length n0_0), (13, .int .i64 (a0.length : Int)), (14, .int .i64 s8), (36, .bool true)]) (s' := []) (CC.refl (List.forall_mem_cons.2 ⟨List.mem_cons_self, (fun p hp => by cases hp)⟩)) (by kernel_rfl) ?_
            refine gd_done ?_
            refine gl_reord (D := L) (Reord.skip (Reord.refl _)) ?_
            refine gl_atE (by kernel_rfl) ?_
            obtain rfl := some_inj hj31
            exact ge_mid fun t ht => ⟨(Imm.refl _), rfl, ht.pick (l := [1, 12, 13, 14, 36]) (by kernel_rfl)⟩
          · have hj31 := cond_f hc43 hj31
            refine gd_pure 1 [1, 5, 12, 13, 14, 27, 28] (K' := [(1, .slice A1_0 a1.length n1_0), (5, .int .i64 s8), (12, .slice A0_0 a0.length n0_0), (13, .int .i64 (a0.length : Int)), (14, .int .i64 s8), (27, .bool false), (28, .pointer (some ⟨g29, 1, none⟩))]) (s' := [(10, true), (11, true), (12, true), (13, true), (14, true), (15, true), (16, true), (17, true)]) (CC.refl (List.forall_mem_cons.2 ⟨List.mem_cons_self, (fun p hp => by cases hp)⟩)) (by kernel_rfl) ?_
            refine gd_q (v := .string x21.f1) (by kernel_rfl) (by kernel_rfl) (CC.refl (List.forall_mem_cons.2 ⟨List.mem_cons_self, (fun p hp => by cases hp)⟩)) (fun I' L' T hC kk => gl_loadB (T' := 9) (xp := (.tmp 28)) (v := .string x21.f1) (g := g29) (off := 1) (cs := #[.int .i64 x21.f0, .string x21.f1, .int .i64 x21.f2]) (e := 28) (fz := (0, 0)) (by kernel_rfl) (by kernel_rfl) (by kernel_rfl) (hC.sub _ List.mem_cons_self) (by kernel_rfl) kk) ?_
            refine gd_pure 2 [1, 12, 13, 14, 27, 29, 30, 31] (K' := [(1, .slice A1_0 a1.length n1_0), (12, .slice A0_0 a0.length n0_0), (13, .int .i64 (a0.length : Int)), (14, .int .i64 s8), (27, .bool false), (29, .string x21.f1), (30, .slice A1_0 a1.length n1_0), (31, .int .i64 s8)]) (s' := [(13, true), (14, true), (15, true), (16, true), (17, true)]) (CC.refl (List.forall_mem_cons.2 ⟨List.mem_cons_self, (fun p hp => by cases hp)⟩)) (by kernel_rfl) ?_
            obtain ⟨x44, hx45, hj31⟩ := bind_some hj31
            obtain ⟨p46, cs47, hR48, hA49, ha50⟩ := RepS.ixAt hx45 (hf1_0.mono hI11)
            have hi51 := ix_some hx45
            obtain rfl := kS27_open hR48
            refine gd_q (v := .pointer (some p46)) (by kernel_rfl) (by kernel_rfl) (CC.refl (List.forall_mem_cons.2 ⟨List.mem_cons_self, (fun p hp => by cases hp)⟩)) (fun I' L' T hC kk => gl_indexAddrF (c := n1_0) (T' := 22) (e := 28) (xs := (.tmp 30)) (xi := (.tmp 31)) (kd := .i64) ha50 hi51.1 hi51.2.1 (by kernel_rfl) (by kernel_rfl) (by kernel_rfl) (by kernel_rfl) (by kernel_rfl) kk) ?_
            refine gd_pure 1 [1, 12, 13, 14, 27, 29, 33] (K' := [(1, .slice A1_0 a1.length n1_0), (12, .slice A0_0 a0.length n0_0), (13, .int .i64 (a0.length : Int)), (14, .int .i64 s8), (27, .bool false), (29, .string x21.f1), (33, .pointer (some (p46.add 1)))]) (s' := [(15, true), (16, true), (17, true)]) (CC.refl (List.forall_mem_cons.2 ⟨List.mem_cons_self, (fun p hp => by cases hp)⟩)) (by kernel_rfl) ?_
            refine gd_q (v := .string x44.f1) (by kernel_rfl) (by kernel_rfl) (CC.refl (List.forall_mem_cons.2 ⟨List.mem_cons_self, (fun p hp => by cases hp)⟩)) (fun I' L' T hC kk => gl_load (T' := 9) (xp := (.tmp 33)) (p := (p46.add 1)) (c := .string x44.f1) (n := 1) (by kernel_rfl) (by kernel_rfl) (by kernel_rfl) (by kernel_rfl) ((hA49.drop 1).mono hC.le) kk) ?_
            refine gd_pure 2 [1, 12, 13, 14, 36] (K' := [(1, .slice A1_0 a1.length n1_0), (12, .slice A0_0 a0.length n0_0), (13, .int .i64 (a0.length : Int)), (14, .int .i64 s8), (36, .bool (!(x21.f1.toList == x44.f1.toList)))]) (s' := []) (CC.refl (List.forall_mem_cons.2 ⟨List.mem_cons_self, (fun p hp => by cases hp)⟩)) (by kernel_rfl) ?_
            refine gd_done ?_
            refine gl_reord (D := L) (Reord.skip (Reord.refl _)) ?_
            refine gl_atE (by kernel_rfl) ?_
            obtain rfl := some_inj hj31
            exact ge_mid fun t ht => ⟨(Imm.refl _), rfl, ht.pick (l := [1, 12, 13, 14, 36]) (by kernel_rfl)⟩
        · rintro t I34 L' ⟨hI32, rfl, hK33⟩
          refine ge_at hK33 ?_
          refine ge_seq ?_
          refine gk_cond (b := j30) (by kernel_rfl) (by kernel_rfl) (fun hc52 => ?_) (fun hc52 => ?_)
          · have hb10 := cond_t hc52 hb10
            refine gk_seq (by kernel_rfl) ?_
            refine gk_region (by kernel_rfl) ?_
            refine gl_pure 1 [4] (K' := [(4, .bool false)]) (by kernel_rfl) ?_
            refine gl_atE (by kernel_rfl) ?_
            refine ge_seq ?_
            refine gk_ret (by kernel_rfl) ?_
            refine ge_block_ret ?_
            refine ge_seq_ret ?_
            obtain rfl := some_inj hb10
            refine ge_round_out (fun hrr => ?_) (by intro h; cases h)
            obtain rfl := hrr
            refine ge_block_ret ?_
            refine ge_seq_ret ?_
            refine ge_seq_ret ?_
            obtain rfl := some_inj hr
            exact ge_result trivial (ResOk.tmp (by kernel_rfl) ResOk.nil) (Imm.trans hI11 hI32) ⟨rfl, rfl⟩
          · have hb10 := cond_f hc52 hb10
            refine gk_skip (by kernel_rfl) ?_
            refine ge_block_normal ?_
            refine ge_seq ?_
            refine gk_region (by kernel_rfl) ?_
            refine gl_pure 2 [1, 12, 13, 14] (K' := [(1, .slice A1_0 a1.length n1_0), (12, .slice A0_0 a0.length n0_0), (13, .int .i64 (a0.length : Int)), (14, .int .i64 (IntKind.wrap .i64 (s8 + 1)))]) (by kernel_rfl) ?_
            refine gl_atE (by kernel_rfl) ?_
            obtain rfl := some_inj hb10
            exact ge_round fun t ht => ⟨(Imm.trans hI11 hI32), rfl, ht.pick (l := [1, 12, 13, 14]) (by kernel_rfl)⟩
      · have hb10 := cond_f hc20 hb10
        refine gk_exit (by kernel_rfl) ?_
        refine ge_seq_exit ?_
        obtain rfl := some_inj hb10
        refine ge_round_out (fun hrr => ?_) (by intro h; cases h)
        obtain rfl := hrr
        refine ge_block_hit (by kernel_rfl) ?_
        exact ge_mid fun t ht => ⟨_, rfl, hI11, rfl, ht.pick (l := []) (by kernel_rfl)⟩
    · rintro t I17 L' ⟨r14, rfl, hI15, rfl, hK16⟩
      refine ge_at hK16 ?_
      refine ge_seq ?_
      refine gk_seq (by kernel_rfl) ?_
      refine gk_region (by kernel_rfl) ?_
      refine gl_pure 1 [4] (K' := [(4, .bool true)]) (by kernel_rfl) ?_
      refine gl_atE (by kernel_rfl) ?_
      refine ge_seq ?_
      refine gk_ret (by kernel_rfl) ?_
      obtain rfl := some_inj hr
      exact ge_result trivial (ResOk.tmp (by kernel_rfl) ResOk.nil) hI15 ⟨rfl, rfl⟩
/-! 7 tocsinlaw13_LexBlanks  -/
noncomputable def tocsinlaw13_LexBlanks_l48 (a1 : List Int) (y1 : ByteArray × Int) (y6 : (List S27) × Int × Int) : ((List Int) × Int) → Option (((List Int) × Int) ⊕ (((List Int)) ⊕ (Bool))) := fun s30 =>
  bif (decide ((IntKind.wrap .i64 (s30.2 + 1)) < (y6.1.length : Int))) then
  (Option.bind (ix y6.1 s30.2) fun (x51 : S27) =>
    Option.bind (ix y6.1 (IntKind.wrap .i64 (s30.2 + 1))) fun (x60 : S27) =>
    bif (((decide (x51.f2 < 0)) || (decide (x60.f2 < x51.f2))) || (decide (x60.f2 > (y1.1.size : Int)))) then
    (some (Sum.inr (Sum.inr false)))
    else
    (Option.bind (sx y1.1 x51.f2 x60.f2) fun (s78 : ByteArray) =>
      Option.bind (app s30.1 (bytesOf s78)) fun (zs79 : List Int) =>
      Option.bind (bif (decide (s30.2 < (a1.length : Int))) then
        (Option.bind (ix a1 s30.2) fun (x91 : Int) =>
          Option.bind (remx .i64 x91 ([(⟨#[32]⟩ : ByteArray), (⟨#[10]⟩ : ByteArray), (⟨#[9, 13, 32]⟩ : ByteArray), (⟨#[32, 35, 32, 105, 116, 39, 115, 10]⟩ : ByteArray), (⟨#[35, 10]⟩ : ByteArray)].length : Int)) fun (q99 : Int) =>
          some q99)
        else
        (some 0)) fun (j85 : Int) =>
      Option.bind (bif (decide (j85 < 0)) then
        (some (IntKind.wrap .i64 (0 - j85)))
        else
        (some j85)) fun (j101 : Int) =>
      Option.bind (app zs79 [32]) fun (zs111 : List Int) =>
      Option.bind (ix [(⟨#[32]⟩ : ByteArray), (⟨#[10]⟩ : ByteArray), (⟨#[9, 13, 32]⟩ : ByteArray), (⟨#[32, 35, 32, 105, 116, 39, 115, 10]⟩ : ByteArray), (⟨#[35, 10]⟩ : ByteArray)] j101) fun (x117 : ByteArray) =>
      Option.bind (app zs111 (bytesOf x117)) fun (zs126 : List Int) =>
      some (Sum.inl (zs126, (IntKind.wrap .i64 (s30.2 + 1))))))
  else
  (some (Sum.inr (Sum.inl s30.1)))
noncomputable def tocsinlaw13_LexBlanks (a0 : List S27) (a1 : List Int) : Option Bool :=
  Option.bind (lex_Join a0) fun (y1 : ByteArray × Int) =>
  bif (y1.2 != 0) then
  (Option.bind tocsinlaw13_known fun (y4 : Bool) =>
    some y4)
  else
  (Option.bind (lex_Tokens y1.1) fun (y6 : (List S27) × Int × Int) =>
    bif (y6.2.1 != 0) then
    (some false)
    else
    (Option.bind (loopO (tocsinlaw13_LexBlanks_l48 a1 y1 y6) ([], 0)) fun (r28 : ((List Int)) ⊕ (Bool)) =>
      match r28 with
      | Sum.inl r40 => bif (decide ((r40.length : Int) > 65536)) then
        (Option.bind tocsinlaw13_known fun (y133 : Bool) =>
          some y133)
        else
        (Option.bind (lex_Tokens (ofBytes r40)) fun (y135 : (List S27) × Int × Int) =>
          Option.bind (bif (y135.2.1 == 0) then
            (Option.bind (lex_Same y135.1 y6.1) fun (y150 : Bool) =>
              bif y150 then
              (Option.bind tocsinlaw13_known fun (y153 : Bool) =>
                some y153)
              else
              (some false))
            else
            (some false)) fun (j144 : Bool) =>
          some j144)
      | Sum.inr v155 => some v155))
theorem tocsinlaw13_LexBlanks_walk {a0 : List S27} {A0_0 : Option Addr} {n0_0 : Nat} {a1 : List Int} {A1_0 : Option Addr} {n1_0 : Nat} {I : Imm} {r : Bool} (hG : Gl I)  (hf0_0 : RepS kS27 I A0_0 n0_0 a0)  (hf1_0 : RepS (Kd.int .i64) I A1_0 n1_0 a1) (hr : tocsinlaw13_LexBlanks a0 a1 = some r) (L : Own) :
    CallsTo Tryd.prog 7 #[.slice A0_0 a0.length n0_0, .slice A1_0 a1.length n1_0] I L (fun v I' L' => v = .bool r ∧ L = L') := by
  unfold tocsinlaw13_LexBlanks at hr
  refine callsTo_body (N := 117) Tryd.func7 (by kernel_rfl) (by kernel_rfl) (by kernel_rfl) ?_
  refine gk_pick [0, 1] (K' := [(0, .slice A0_0 a0.length n0_0), (1, .slice A1_0 a1.length n1_0)]) (by kernel_rfl) ?_
  refine gk_seq (by kernel_rfl) ?_
  refine gk_region (by kernel_rfl) ?_
  refine gl_pure 1 [0, 1] (K' := [(0, .slice A0_0 a0.length n0_0), (1, .slice A1_0 a1.length n1_0)]) (by kernel_rfl) ?_
  refine gl_atE (by kernel_rfl) ?_
  refine ge_seq ?_
  refine gk_seq (by kernel_rfl) ?_
  refine gk_region (by kernel_rfl) ?_
  refine gl_pure 1 [1, 19] (K' := [(1, .slice A1_0 a1.length n1_0), (19, .slice A0_0 a0.length n0_0)]) (by kernel_rfl) ?_
  obtain ⟨y1, hx2, hr⟩ := bind_some hr
  refine gl_callQ (by kernel_rfl) (lex_Join_walk (r := y1) hG hf0_0 hx2 _) ?_
  refine gl_pure 5 [1, 5, 6] (K' := [(1, .slice A1_0 a1.length n1_0), (5, .string y1.1), (6, .int .i64 y1.2)]) (by kernel_rfl) ?_
  refine gl_atE (by kernel_rfl) ?_
  refine ge_seq ?_
  refine gk_seq (by kernel_rfl) ?_
  refine gk_seq (by kernel_rfl) ?_
  refine gk_region (by kernel_rfl) ?_
  refine gl_pure 2 [1, 5, 24] (K' := [(1, .slice A1_0 a1.length n1_0), (5, .string y1.1), (24, .bool (y1.2 != 0))]) (by kernel_rfl) ?_
  refine gl_atE (by kernel_rfl) ?_
  refine ge_seq ?_
  refine gk_cond (b := (y1.2 != 0)) (by kernel_rfl) (by kernel_rfl) (fun hc3 => ?_) (fun hc3 => ?_)
  · have hr := cond_t hc3 hr
    refine gk_seq (by kernel_rfl) ?_
    refine gk_region (by kernel_rfl) ?_
    obtain ⟨y4, hx5, hr⟩ := bind_some hr
    refine gl_callQ (by kernel_rfl) (tocsinlaw13_known_walk (r := y4) hG hx5 _) ?_
    refine gl_pure 1 [4] (K' := [(4, .bool y4)]) (by kernel_rfl) ?_
    refine gl_atE (by kernel_rfl) ?_
    refine ge_seq ?_
    refine gk_ret (by kernel_rfl) ?_
    refine ge_seq_ret ?_
    obtain rfl := some_inj hr
    exact ge_result trivial (ResOk.tmp (by kernel_rfl) ResOk.nil) (Imm.refl _) ⟨rfl, rfl⟩
  · have hr := cond_f hc3 hr
    refine gk_skip (by kernel_rfl) ?_
    refine ge_seq ?_
    refine gk_seq (by kernel_rfl) ?_
    refine gk_region (by kernel_rfl) ?_
    refine gl_pure 1 [1, 5, 27] (K' := [(1, .slice A1_0 a1.length n1_0), (5, .string y1.1), (27, .string y1.1)]) (by kernel_rfl) ?_
    obtain ⟨y6, hx7, hr⟩ := bind_some hr
    refine gl_call (by kernel_rfl) (lex_Tokens_walk (r := y6) hG hx7 _) ?_
    rintro v I8 L9 hI10 ⟨A11, c12, C13, hO14, rfl, rfl⟩
    refine gl_pure 7 [1, 5, 7, 8] (K' := [(1, .slice A1_0 a1.length n1_0), (5, .string y1.1), (7, .slice A11 y6.1.length c12), (8, .int .i64 y6.2.1)]) (by kernel_rfl) ?_
    refine gl_atE (by kernel_rfl) ?_
    refine ge_seq ?_
    refine gk_seq (by kernel_rfl) ?_
    refine gk_seq (by kernel_rfl) ?_
    refine gk_region (by kernel_rfl) ?_
    refine gl_pure 2 [1, 5, 7, 33] (K' := [(1, .slice A1_0 a1.length n1_0), (5, .string y1.1), (7, .slice A11 y6.1.length c12), (33, .bool (y6.2.1 != 0))]) (by kernel_rfl) ?_
    refine gl_atE (by kernel_rfl) ?_
    refine ge_seq ?_
    refine gk_cond (b := (y6.2.1 != 0)) (by kernel_rfl) (by kernel_rfl) (fun hc15 => ?_) (fun hc15 => ?_)
    · have hr := cond_t hc15 hr
      refine gk_seq (by kernel_rfl) ?_
      refine gk_region (by kernel_rfl) ?_
      refine gl_pure 1 [4] (K' := [(4, .bool false)]) (by kernel_rfl) ?_
      refine gl_atE (by kernel_rfl) ?_
      refine ge_seq ?_
      refine gk_reord (D := L) (Reord.skipC (Reord.refl _)) ?_
      refine gk_ret (by kernel_rfl) ?_
      refine ge_seq_ret ?_
      obtain rfl := some_inj hr
      exact ge_result trivial (ResOk.tmp (by kernel_rfl) ResOk.nil) hI10 ⟨rfl, rfl⟩
    · have hr := cond_f hc15 hr
      refine gk_skip (by kernel_rfl) ?_
      refine ge_seq ?_
      refine gk_seq (by kernel_rfl) ?_
      refine gk_region (by kernel_rfl) ?_
      refine gl_buildSlice (T' := 40) (e := 9) (n := 1) (len := 5) (parts := #[(0, (.const (.string (⟨#[32]⟩ : ByteArray)))), (1, (.const (.string (⟨#[10]⟩ : ByteArray)))), (2, (.const (.string (⟨#[9, 13, 32]⟩ : ByteArray)))), (3, (.const (.string (⟨#[32, 35, 32, 105, 116, 39, 115, 10]⟩ : ByteArray)))), (4, (.const (.string (⟨#[35, 10]⟩ : ByteArray))))]) (l := [(0, .string (⟨#[32]⟩ : ByteArray)), (1, .string (⟨#[10]⟩ : ByteArray)), (2, .string (⟨#[9, 13, 32]⟩ : ByteArray)), (3, .string (⟨#[32, 35, 32, 105, 116, 39, 115, 10]⟩ : ByteArray)), (4, .string (⟨#[35, 10]⟩ : ByteArray))]) (cs := #[.string (⟨#[32]⟩ : ByteArray), .string (⟨#[10]⟩ : ByteArray), .string (⟨#[9, 13, 32]⟩ : ByteArray), .string (⟨#[32, 35, 32, 105, 116, 39, 115, 10]⟩ : ByteArray), .string (⟨#[35, 10]⟩ : ByteArray)]) (by kernel_rfl) (by kernel_rfl) (by kernel_rfl) (by kernel_rfl) (by kernel_rfl) (fun g16 => ?_)
      have hO17 : OwnS Kd.str 9 I8 (some ⟨g16, 0, none⟩) 5 [(⟨#[32]⟩ : ByteArray), (⟨#[10]⟩ : ByteArray), (⟨#[9, 13, 32]⟩ : ByteArray), (⟨#[32, 35, 32, 105, 116, 39, 115, 10]⟩ : ByteArray), (⟨#[35, 10]⟩ : ByteArray)] [(g16, .cells #[.string (⟨#[32]⟩ : ByteArray), .string (⟨#[10]⟩ : ByteArray), .string (⟨#[9, 13, 32]⟩ : ByteArray), .string (⟨#[32, 35, 32, 105, 116, 39, 115, 10]⟩ : ByteArray), .string (⟨#[35, 10]⟩ : ByteArray)] 9)] := OwnS.lit (row_cons (l := [.string (⟨#[32]⟩ : ByteArray)]) rfl (row_cons (l := [.string (⟨#[10]⟩ : ByteArray)]) rfl (row_cons (l := [.string (⟨#[9, 13, 32]⟩ : ByteArray)]) rfl (row_cons (l := [.string (⟨#[32, 35, 32, 105, 116, 39, 115, 10]⟩ : ByteArray)]) rfl (row_cons (l := [.string (⟨#[35, 10]⟩ : ByteArray)]) rfl (row_nil _ _)))))) rfl rfl rfl
      refine gl_reord (D := [(g16, .cells #[.string (⟨#[32]⟩ : ByteArray), .string (⟨#[10]⟩ : ByteArray), .string (⟨#[9, 13, 32]⟩ : ByteArray), .string (⟨#[32, 35, 32, 105, 116, 39, 115, 10]⟩ : ByteArray), .string (⟨#[35, 10]⟩ : ByteArray)] 9)] ++ (C13 ++ L)) (Reord.refl _) ?_
      refine gl_pure 1 [1, 5, 7, 10] (K' := [(1, .slice A1_0 a1.length n1_0), (5, .string y1.1), (7, .slice A11 y6.1.length c12), (10, .slice (some ⟨g16, 0, none⟩) [(⟨#[32]⟩ : ByteArray), (⟨#[10]⟩ : ByteArray), (⟨#[9, 13, 32]⟩ : ByteArray), (⟨#[32, 35, 32, 105, 116, 39, 115, 10]⟩ : ByteArray), (⟨#[35, 10]⟩ : ByteArray)].length 5)]) (by kernel_rfl) ?_
      refine gl_atE (by kernel_rfl) ?_
      refine ge_seq ?_
      refine gk_seq (by kernel_rfl) ?_
      refine gk_region (by kernel_rfl) ?_
      refine gl_pure 1 [1, 5, 7, 10, 11] (K' := [(1, .slice A1_0 a1.length n1_0), (5, .string y1.1), (7, .slice A11 y6.1.length c12), (10, .slice (some ⟨g16, 0, none⟩) [(⟨#[32]⟩ : ByteArray), (⟨#[10]⟩ : ByteArray), (⟨#[9, 13, 32]⟩ : ByteArray), (⟨#[32, 35, 32, 105, 116, 39, 115, 10]⟩ : ByteArray), (⟨#[35, 10]⟩ : ByteArray)].length 5), (11, .slice none 0 0)]) (by kernel_rfl) ?_
      refine gl_atE (by kernel_rfl) ?_
      refine ge_seq ?_
      refine gk_seq (by kernel_rfl) ?_
      refine gk_seq (by kernel_rfl) ?_
      refine gk_region (by kernel_rfl) ?_
      refine gl_pure 1 [1, 5, 7, 10, 11, 12] (K' := [(1, .slice A1_0 a1.length n1_0), (5, .string y1.1), (7, .slice A11 y6.1.length c12), (10, .slice (some ⟨g16, 0, none⟩) [(⟨#[32]⟩ : ByteArray), (⟨#[10]⟩ : ByteArray), (⟨#[9, 13, 32]⟩ : ByteArray), (⟨#[32, 35, 32, 105, 116, 39, 115, 10]⟩ : ByteArray), (⟨#[35, 10]⟩ : ByteArray)].length 5), (11, .slice none 0 0), (12, .int .i64 0)]) (by kernel_rfl) ?_
      refine gl_atE (by kernel_rfl) ?_
      refine ge_seq ?_
      obtain ⟨r28, hl29, hr⟩ := bind_some hr
      refine gk_join (fun t I' L' => ∃ r40, r28 = Sum.inl r40 ∧ ∃ A42 n43 C44, OwnS (Kd.int .u8) 5 I' A42 n43 r40 C44 ∧ I8 ≤ I' ∧ C44 ++ (C13 ++ L) = L' ∧ Knows 117 [(7, .slice A11 y6.1.length c12), (11, .slice A42 r40.length n43)] t) ?_ ?_
      · refine gk_block (by kernel_rfl) ?_
        refine gk_pick [1, 5, 7, 10, 11, 12] (K' := [(1, .slice A1_0 a1.length n1_0), (5, .string y1.1), (7, .slice A11 y6.1.length c12), (10, .slice (some ⟨g16, 0, none⟩) [(⟨#[32]⟩ : ByteArray), (⟨#[10]⟩ : ByteArray), (⟨#[9, 13, 32]⟩ : ByteArray), (⟨#[32, 35, 32, 105, 116, 39, 115, 10]⟩ : ByteArray), (⟨#[35, 10]⟩ : ByteArray)].length 5), (11, .slice none 0 0), (12, .int .i64 0)]) (by kernel_rfl) ?_
        intro t hK
        refine gc_loop (tocsinlaw13_LexBlanks_l48 a1 y1 y6) (fun s30 t I' L' => ∃ A34 n35 C36, OwnS (Kd.int .u8) 5 I' A34 n35 s30.1 C36 ∧ I8 ≤ I' ∧ C36 ++ ([(g16, .cells #[.string (⟨#[32]⟩ : ByteArray), .string (⟨#[10]⟩ : ByteArray), .string (⟨#[9, 13, 32]⟩ : ByteArray), .string (⟨#[32, 35, 32, 105, 116, 39, 115, 10]⟩ : ByteArray), .string (⟨#[35, 10]⟩ : ByteArray)] 9)] ++ (C13 ++ L)) = L' ∧ Knows 117 [(1, .slice A1_0 a1.length n1_0), (5, .string y1.1), (7, .slice A11 y6.1.length c12), (10, .slice (some ⟨g16, 0, none⟩) [(⟨#[32]⟩ : ByteArray), (⟨#[10]⟩ : ByteArray), (⟨#[9, 13, 32]⟩ : ByteArray), (⟨#[32, 35, 32, 105, 116, 39, 115, 10]⟩ : ByteArray), (⟨#[35, 10]⟩ : ByteArray)].length 5), (11, .slice A34 s30.1.length n35), (12, .int .i64 s30.2)] t) (by kernel_rfl) ?_ hl29 ⟨none, 0, [], OwnS.nil _ _ _ _, (Imm.refl _), rfl, hK⟩
        rintro s30 o31 t I39 L' hb32 ⟨A34, n35, C36, hO37, hI33, rfl, hK38⟩
        unfold tocsinlaw13_LexBlanks_l48 at hb32
        refine gk_at hK38 ?_
        refine gk_seq (by kernel_rfl) ?_
        refine gk_seq (by kernel_rfl) ?_
        refine gk_region (by kernel_rfl) ?_
        refine gl_pure 5 [1, 5, 7, 10, 11, 12, 39] (K' := [(1, .slice A1_0 a1.length n1_0), (5, .string y1.1), (7, .slice A11 y6.1.length c12), (10, .slice (some ⟨g16, 0, none⟩) [(⟨#[32]⟩ : ByteArray), (⟨#[10]⟩ : ByteArray), (⟨#[9, 13, 32]⟩ : ByteArray), (⟨#[32, 35, 32, 105, 116, 39, 115, 10]⟩ : ByteArray), (⟨#[35, 10]⟩ : ByteArray)].length 5), (11, .slice A34 s30.1.length n35), (12, .int .i64 s30.2), (39, .bool (decide ((IntKind.wrap .i64 (s30.2 + 1)) < (y6.1.length : Int))))]) (by kernel_rfl) ?_
        refine gl_atE (by kernel_rfl) ?_
        refine ge_seq ?_
        refine gk_cond (b := (decide ((IntKind.wrap .i64 (s30.2 + 1)) < (y6.1.length : Int)))) (by kernel_rfl) (by kernel_rfl) (fun hc50 => ?_) (fun hc50 => ?_)
        · have hb32 := cond_t hc50 hb32
          refine gk_skip (by kernel_rfl) ?_
          refine ge_seq ?_
          refine gk_seq (by kernel_rfl) ?_
          refine gk_block (by kernel_rfl) ?_
          refine gk_seq (by kernel_rfl) ?_
          refine gk_region (by kernel_rfl) ?_
          refine gl_pure 2 [1, 5, 7, 10, 11, 12, 42, 43] (K' := [(1, .slice A1_0 a1.length n1_0), (5, .string y1.1), (7, .slice A11 y6.1.length c12), (10, .slice (some ⟨g16, 0, none⟩) [(⟨#[32]⟩ : ByteArray), (⟨#[10]⟩ : ByteArray), (⟨#[9, 13, 32]⟩ : ByteArray), (⟨#[32, 35, 32, 105, 116, 39, 115, 10]⟩ : ByteArray), (⟨#[35, 10]⟩ : ByteArray)].length 5), (11, .slice A34 s30.1.length n35), (12, .int .i64 s30.2), (42, .slice A11 y6.1.length c12), (43, .int .i64 s30.2)]) (by kernel_rfl) ?_
          obtain ⟨x51, hx52, hb32⟩ := bind_some hb32
          refine gl_indexAddrW (d := kS27) (c := c12) (T' := 22) (e := 28) (xs := (.tmp 42)) (xi := (.tmp 43)) (kd := .i64) hx52 (hO14.mono hI33) (Upd.app _ (Upd.app _ (Upd.selfC _ _))) (by kernel_rfl) (by kernel_rfl) (by kernel_rfl) (by kernel_rfl) (by kernel_rfl) (fun p53 cs54 hR55 hA56 hp59 => ?_)
          obtain rfl := kS27_open hR55
          refine gl_pure 1 [1, 5, 7, 10, 11, 12, 45] (K' := [(1, .slice A1_0 a1.length n1_0), (5, .string y1.1), (7, .slice A11 y6.1.length c12), (10, .slice (some ⟨g16, 0, none⟩) [(⟨#[32]⟩ : ByteArray), (⟨#[10]⟩ : ByteArray), (⟨#[9, 13, 32]⟩ : ByteArray), (⟨#[32, 35, 32, 105, 116, 39, 115, 10]⟩ : ByteArray), (⟨#[35, 10]⟩ : ByteArray)].length 5), (11, .slice A34 s30.1.length n35), (12, .int .i64 s30.2), (45, .pointer (some (p53.add 2)))]) (by kernel_rfl) ?_
          refine gl_loadO (T' := 3) (xp := (.tmp 45)) (p := (p53.add 2)) (c := .int .i64 x51.f2) (n := 1) (by kernel_rfl) (by kernel_rfl) (by kernel_rfl) (by kernel_rfl) (hA56.drop 2) ?_
          refine gl_pure 1 [1, 5, 7, 10, 11, 12, 13] (K' := [(1, .slice A1_0 a1.length n1_0), (5, .string y1.1), (7, .slice A11 y6.1.length c12), (10, .slice (some ⟨g16, 0, none⟩) [(⟨#[32]⟩ : ByteArray), (⟨#[10]⟩ : ByteArray), (⟨#[9, 13, 32]⟩ : ByteArray), (⟨#[32, 35, 32, 105, 116, 39, 115, 10]⟩ : ByteArray), (⟨#[35, 10]⟩ : ByteArray)].length 5), (11, .slice A34 s30.1.length n35), (12, .int .i64 s30.2), (13, .int .i64 x51.f2)]) (by kernel_rfl) ?_
          refine gl_atE (by kernel_rfl) ?_
          refine ge_seq ?_
          refine gk_seq (by kernel_rfl) ?_
          refine gk_region (by kernel_rfl) ?_
          refine gl_pure 3 [1, 5, 7, 10, 11, 12, 13, 47, 49] (K' := [(1, .slice A1_0 a1.length n1_0), (5, .string y1.1), (7, .slice A11 y6.1.length c12), (10, .slice (some ⟨g16, 0, none⟩) [(⟨#[32]⟩ : ByteArray), (⟨#[10]⟩ : ByteArray), (⟨#[9, 13, 32]⟩ : ByteArray), (⟨#[32, 35, 32, 105, 116, 39, 115, 10]⟩ : ByteArray), (⟨#[35, 10]⟩ : ByteArray)].length 5), (11, .slice A34 s30.1.length n35), (12, .int .i64 s30.2), (13, .int .i64 x51.f2), (47, .slice A11 y6.1.length c12), (49, .int .i64 (IntKind.wrap .i64 (s30.2 + 1)))]) (by kernel_rfl) ?_
          obtain ⟨x60, hx61, hb32⟩ := bind_some hb32
          refine gl_indexAddrW (d := kS27) (c := c12) (T' := 22) (e := 28) (xs := (.tmp 47)) (xi := (.tmp 49)) (kd := .i64) hx61 (hO14.mono hI33) (Upd.app _ (Upd.app _ (Upd.selfC _ _))) (by kernel_rfl) (by kernel_rfl) (by kernel_rfl) (by kernel_rfl) (by kernel_rfl) (fun p62 cs63 hR64 hA65 hp68 => ?_)
          obtain rfl := kS27_open hR64
          refine gl_pure 1 [1, 5, 7, 10, 11, 12, 13, 51] (K' := [(1, .slice A1_0 a1.length n1_0), (5, .string y1.1), (7, .slice A11 y6.1.length c12), (10, .slice (some ⟨g16, 0, none⟩) [(⟨#[32]⟩ : ByteArray), (⟨#[10]⟩ : ByteArray), (⟨#[9, 13, 32]⟩ : ByteArray), (⟨#[32, 35, 32, 105, 116, 39, 115, 10]⟩ : ByteArray), (⟨#[35, 10]⟩ : ByteArray)].length 5), (11, .slice A34 s30.1.length n35), (12, .int .i64 s30.2), (13, .int .i64 x51.f2), (51, .pointer (some (p62.add 2)))]) (by kernel_rfl) ?_
          refine gl_loadO (T' := 3) (xp := (.tmp 51)) (p := (p62.add 2)) (c := .int .i64 x60.f2) (n := 1) (by kernel_rfl) (by kernel_rfl) (by kernel_rfl) (by kernel_rfl) (hA65.drop 2) ?_
          refine gl_pure 1 [1, 5, 7, 10, 11, 12, 13, 14] (K' := [(1, .slice A1_0 a1.length n1_0), (5, .string y1.1), (7, .slice A11 y6.1.length c12), (10, .slice (some ⟨g16, 0, none⟩) [(⟨#[32]⟩ : ByteArray), (⟨#[10]⟩ : ByteArray), (⟨#[9, 13, 32]⟩ : ByteArray), (⟨#[32, 35, 32, 105, 116, 39, 115, 10]⟩ : ByteArray), (⟨#[35, 10]⟩ : ByteArray)].length 5), (11, .slice A34 s30.1.length n35), (12, .int .i64 s30.2), (13, .int .i64 x51.f2), (14, .int .i64 x60.f2)]) (by kernel_rfl) ?_
          refine gl_atE (by kernel_rfl) ?_
          refine ge_seq ?_
          refine gk_seq (by kernel_rfl) ?_
          refine gk_seq (by kernel_rfl) ?_
          obtain ⟨b71, hb72⟩ : ∃ z, z = (((decide (x51.f2 < 0)) || (decide (x60.f2 < x51.f2))) || (decide (x60.f2 > (y1.1.size : Int)))) := ⟨_, rfl⟩
          refine gk_join (fun t I' L' => I39 ≤ I' ∧ C36 ++ ([(g16, .cells #[.string (⟨#[32]⟩ : ByteArray), .string (⟨#[10]⟩ : ByteArray), .string (⟨#[9, 13, 32]⟩ : ByteArray), .string (⟨#[32, 35, 32, 105, 116, 39, 115, 10]⟩ : ByteArray), .string (⟨#[35, 10]⟩ : ByteArray)] 9)] ++ (C13 ++ L)) = L' ∧ Knows 117 [(1, .slice A1_0 a1.length n1_0), (5, .string y1.1), (7, .slice A11 y6.1.length c12), (10, .slice (some ⟨g16, 0, none⟩) [(⟨#[32]⟩ : ByteArray), (⟨#[10]⟩ : ByteArray), (⟨#[9, 13, 32]⟩ : ByteArray), (⟨#[32, 35, 32, 105, 116, 39, 115, 10]⟩ : ByteArray), (⟨#[35, 10]⟩ : ByteArray)].length 5), (11, .slice A34 s30.1.length n35), (12, .int .i64 s30.2), (13, .int .i64 x51.f2), (14, .int .i64 x60.f2), (65, .bool b71)] t) ?_ ?_
          · refine gk_region (by kernel_rfl) ?_
            refine gl_pure 3 [1, 5, 7, 10, 11, 12, 13, 14, 55] (K' := [(1, .slice A1_0 a1.length n1_0), (5, .string y1.1), (7, .slice A11 y6.1.length c12), (10, .slice (some ⟨g16, 0, none⟩) [(⟨#[32]⟩ : ByteArray), (⟨#[10]⟩ : ByteArray), (⟨#[9, 13, 32]⟩ : ByteArray), (⟨#[32, 35, 32, 105, 116, 39, 115, 10]⟩ : ByteArray), (⟨#[35, 10]⟩ : ByteArray)].length 5), (11, .slice A34 s30.1.length n35), (12, .int .i64 s30.2), (13, .int .i64 x51.f2), (14, .int .i64 x60.f2), (55, .bool (decide (x51.f2 < 0)))]) (by kernel_rfl) ?_
            refine gl_case 55 (b := (decide (x51.f2 < 0))) (by kernel_rfl) (fun hc74 => ?_) (fun hc74 => ?_)
            · refine gl_pure 10 [1, 5, 7, 10, 11, 12, 13, 14, 65] (K' := [(1, .slice A1_0 a1.length n1_0), (5, .string y1.1), (7, .slice A11 y6.1.length c12), (10, .slice (some ⟨g16, 0, none⟩) [(⟨#[32]⟩ : ByteArray), (⟨#[10]⟩ : ByteArray), (⟨#[9, 13, 32]⟩ : ByteArray), (⟨#[32, 35, 32, 105, 116, 39, 115, 10]⟩ : ByteArray), (⟨#[35, 10]⟩ : ByteArray)].length 5), (11, .slice A34 s30.1.length n35), (12, .int .i64 s30.2), (13, .int .i64 x51.f2), (14, .int .i64 x60.f2), (65, .bool true)]) (by kernel_rfl) ?_
              refine gl_atE (by kernel_rfl) ?_
              exact ge_mid fun t ht => ⟨(Imm.refl _), rfl, by rw [(show b71 = true from hb72.trans (by rw [hc74]; try rfl))]; exact ht.pick (l := [1, 5, 7, 10, 11, 12, 13, 14, 65]) (by kernel_rfl)⟩
            · refine gl_pure 5 [1, 5, 7, 10, 11, 12, 13, 14, 60] (K' := [(1, .slice A1_0 a1.length n1_0), (5, .string y1.1), (7, .slice A11 y6.1.length c12), (10, .slice (some ⟨g16, 0, none⟩) [(⟨#[32]⟩ : ByteArray), (⟨#[10]⟩ : ByteArray), (⟨#[9, 13, 32]⟩ : ByteArray), (⟨#[32, 35, 32, 105, 116, 39, 115, 10]⟩ : ByteArray), (⟨#[35, 10]⟩ : ByteArray)].length 5), (11, .slice A34 s30.1.length n35), (12, .int .i64 s30.2), (13, .int .i64 x51.f2), (14, .int .i64 x60.f2), (60, .bool (decide (x60.f2 < x51.f2)))]) (by kernel_rfl) ?_
              refine gl_case 60 (b := (decide (x60.f2 < x51.f2))) (by kernel_rfl) (fun hc75 => ?_) (fun hc75 => ?_)
              · refine gl_pure 5 [1, 5, 7, 10, 11, 12, 13, 14, 65] (K' := [(1, .slice A1_0 a1.length n1_0), (5, .string y1.1), (7, .slice A11 y6.1.length c12), (10, .slice (some ⟨g16, 0, none⟩) [(⟨#[32]⟩ : ByteArray), (⟨#[10]⟩ : ByteArray), (⟨#[9, 13, 32]⟩ : ByteArray), (⟨#[32, 35, 32, 105, 116, 39, 115, 10]⟩ : ByteArray), (⟨#[35, 10]⟩ : ByteArray)].length 5), (11, .slice A34 s30.1.length n35), (12, .int .i64 s30.2), (13, .int .i64 x51.f2), (14, .int .i64 x60.f2), (65, .bool true)]) (by kernel_rfl) ?_
                refine gl_atE (by kernel_rfl) ?_
                exact ge_mid fun t ht => ⟨(Imm.refl _), rfl, by rw [(show b71 = true from hb72.trans (by rw [hc74, hc75]; try rfl))]; exact ht.pick (l := [1, 5, 7, 10, 11, 12, 13, 14, 65]) (by kernel_rfl)⟩
              · refine gl_pure 5 [1, 5, 7, 10, 11, 12, 13, 14, 65] (K' := [(1, .slice A1_0 a1.length n1_0), (5, .string y1.1), (7, .slice A11 y6.1.length c12), (10, .slice (some ⟨g16, 0, none⟩) [(⟨#[32]⟩ : ByteArray), (⟨#[10]⟩ : ByteArray), (⟨#[9, 13, 32]⟩ : ByteArray), (⟨#[32, 35, 32, 105, 116, 39, 115, 10]⟩ : ByteArray), (⟨#[35, 10]⟩ : ByteArray)].length 5), (11, .slice A34 s30.1.length n35), (12, .int .i64 s30.2), (13, .int .i64 x51.f2), (14, .int .i64 x60.f2), (65, .bool (decide (x60.f2 > (y1.1.size : Int))))]) (by kernel_rfl) ?_
                refine gl_atE (by kernel_rfl) ?_
                exact ge_mid fun t ht => ⟨(Imm.refl _), rfl, by rw [(show b71 = (decide (x60.f2 > (y1.1.size : Int))) from hb72.trans (by rw [hc74, hc75]; try rfl))]; exact ht.pick (l := [1, 5, 7, 10, 11, 12, 13, 14, 65]) (by kernel_rfl)⟩
          · rintro t I73 L' ⟨hI69, rfl, hK70⟩
            subst hb72
            refine ge_at hK70 ?_
            refine ge_seq ?_
            refine gk_cond (b := (((decide (x51.f2 < 0)) || (decide (x60.f2 < x51.f2))) || (decide (x60.f2 > (y1.1.size : Int))))) (by kernel_rfl) (by kernel_rfl) (fun hc76 => ?_) (fun hc76 => ?_)
            · have hb32 := cond_t hc76 hb32
              refine gk_seq (by kernel_rfl) ?_
              refine gk_region (by kernel_rfl) ?_
              refine gl_pure 1 [4] (K' := [(4, .bool false)]) (by kernel_rfl) ?_
              refine gl_atE (by kernel_rfl) ?_
              refine ge_seq ?_
              refine gk_reord (D := L) (Reord.skipC (Reord.skipC (Reord.skipC (Reord.refl _)))) ?_
              refine gk_ret (by kernel_rfl) ?_
              refine ge_seq_ret ?_
              refine ge_block_ret ?_
              refine ge_seq_ret ?_
              obtain rfl := some_inj hb32
              refine ge_round_out (fun hrr => ?_) (by intro h; cases h)
              obtain rfl := hrr
              refine ge_block_ret ?_
              refine ge_seq_ret ?_
              refine ge_seq_ret ?_
              obtain rfl := some_inj hr
              exact ge_result trivial (ResOk.tmp (by kernel_rfl) ResOk.nil) (Imm.trans (Imm.trans hI10 hI33) hI69) ⟨rfl, rfl⟩
            · have hb32 := cond_f hc76 hb32
              refine gk_skip (by kernel_rfl) ?_
              refine ge_seq ?_
              refine gk_seq (by kernel_rfl) ?_
              refine gk_region (by kernel_rfl) ?_
              refine gl_pure 4 [1, 5, 7, 10, 12, 66, 67, 68, 69] (K' := [(1, .slice A1_0 a1.length n1_0), (5, .string y1.1), (7, .slice A11 y6.1.length c12), (10, .slice (some ⟨g16, 0, none⟩) [(⟨#[32]⟩ : ByteArray), (⟨#[10]⟩ : ByteArray), (⟨#[9, 13, 32]⟩ : ByteArray), (⟨#[32, 35, 32, 105, 116, 39, 115, 10]⟩ : ByteArray), (⟨#[35, 10]⟩ : ByteArray)].length 5), (12, .int .i64 s30.2), (66, .slice A34 s30.1.length n35), (67, .string y1.1), (68, .int .i64 x51.f2), (69, .int .i64 x60.f2)]) (by kernel_rfl) ?_
              obtain ⟨s78, hx77, hb32⟩ := bind_some hb32
              refine gl_slice' (T' := 9) (xs := (.tmp 67)) (lo := (some (.tmp 68))) (hi := (some (.tmp 69))) hx77 (by kernel_rfl) (by kernel_rfl) (by kernel_rfl) (by kernel_rfl) (by kernel_rfl) (by kernel_rfl) ?_
              obtain ⟨zs79, hz80, hb32⟩ := bind_some hb32
              refine gl_append (xv := .string s78) (d := (Kd.int .u8)) (t := 41) (tx := 9) (e := 5) (s := (.tmp 66)) (x := (.tmp 70)) (xs := s30.1) (fun X => X ++ ([(g16, .cells #[.string (⟨#[32]⟩ : ByteArray), .string (⟨#[10]⟩ : ByteArray), .string (⟨#[9, 13, 32]⟩ : ByteArray), .string (⟨#[32, 35, 32, 105, 116, 39, 115, 10]⟩ : ByteArray), .string (⟨#[35, 10]⟩ : ByteArray)] 9)] ++ (C13 ++ L))) hz80 (by kernel_rfl) (by kernel_rfl) (by kernel_rfl) (by kernel_rfl) (by kernel_rfl) (by kernel_rfl) (fun X => (Upd.head _ X _)) (hO37.mono hI69) (SrcOk.str (by kernel_rfl)) (fun A81 n82 C83 hO84 => ?_)
              refine gl_pure 1 [1, 5, 7, 10, 11, 12] (K' := [(1, .slice A1_0 a1.length n1_0), (5, .string y1.1), (7, .slice A11 y6.1.length c12), (10, .slice (some ⟨g16, 0, none⟩) [(⟨#[32]⟩ : ByteArray), (⟨#[10]⟩ : ByteArray), (⟨#[9, 13, 32]⟩ : ByteArray), (⟨#[32, 35, 32, 105, 116, 39, 115, 10]⟩ : ByteArray), (⟨#[35, 10]⟩ : ByteArray)].length 5), (11, .slice A81 zs79.length n82), (12, .int .i64 s30.2)]) (by kernel_rfl) ?_
              refine gl_atE (by kernel_rfl) ?_
              refine ge_seq ?_
              refine gk_seq (by kernel_rfl) ?_
              refine gk_region (by kernel_rfl) ?_
              refine gl_pure 1 [1, 5, 7, 10, 11, 12, 15] (K' := [(1, .slice A1_0 a1.length n1_0), (5, .string y1.1), (7, .slice A11 y6.1.length c12), (10, .slice (some ⟨g16, 0, none⟩) [(⟨#[32]⟩ : ByteArray), (⟨#[10]⟩ : ByteArray), (⟨#[9, 13, 32]⟩ : ByteArray), (⟨#[32, 35, 32, 105, 116, 39, 115, 10]⟩ : ByteArray), (⟨#[35, 10]⟩ : ByteArray)].length 5), (11, .slice A81 zs79.length n82), (12, .int .i64 s30.2), (15, .int .i64 0)]) (by kernel_rfl) ?_
              refine gl_atE (by kernel_rfl) ?_
              refine ge_seq ?_
              refine gk_seq (by kernel_rfl) ?_
              refine gk_seq (by kernel_rfl) ?_
              refine gk_region (by kernel_rfl) ?_
              refine gl_pure 4 [1, 5, 7, 10, 11, 12, 15, 75] (K' := [(1, .slice A1_0 a1.length n1_0), (5, .string y1.1), (7, .slice A11 y6.1.length c12), (10, .slice (some ⟨g16, 0, none⟩) [(⟨#[32]⟩ : ByteArray), (⟨#[10]⟩ : ByteArray), (⟨#[9, 13, 32]⟩ : ByteArray), (⟨#[32, 35, 32, 105, 116, 39, 115, 10]⟩ : ByteArray), (⟨#[35, 10]⟩ : ByteArray)].length 5), (11, .slice A81 zs79.length n82), (12, .int .i64 s30.2), (15, .int .i64 0), (75, .bool (decide (s30.2 < (a1.length : Int))))]) (by kernel_rfl) ?_
              refine gl_atE (by kernel_rfl) ?_
              refine ge_seq ?_
              obtain ⟨j85, hj86, hb32⟩ := bind_some hb32
              refine gk_join (fun t I' L' => I73 ≤ I' ∧ C83 ++ ([(g16, .cells #[.string (⟨#[32]⟩ : ByteArray), .string (⟨#[10]⟩ : ByteArray), .string (⟨#[9, 13, 32]⟩ : ByteArray), .string (⟨#[32, 35, 32, 105, 116, 39, 115, 10]⟩ : ByteArray), .string (⟨#[35, 10]⟩ : ByteArray)] 9)] ++ (C13 ++ L)) = L' ∧ Knows 117 [(1, .slice A1_0 a1.length n1_0), (5, .string y1.1), (7, .slice A11 y6.1.length c12), (10, .slice (some ⟨g16, 0, none⟩) [(⟨#[32]⟩ : ByteArray), (⟨#[10]⟩ : ByteArray), (⟨#[9, 13, 32]⟩ : ByteArray), (⟨#[32, 35, 32, 105, 116, 39, 115, 10]⟩ : ByteArray), (⟨#[35, 10]⟩ : ByteArray)].length 5), (11, .slice A81 zs79.length n82), (12, .int .i64 s30.2), (15, .int .i64 j85)] t) ?_ ?_
              · refine gk_cond (b := (decide (s30.2 < (a1.length : Int)))) (by kernel_rfl) (by kernel_rfl) (fun hc90 => ?_) (fun hc90 => ?_)
                · have hj86 := cond_t hc90 hj86
                  refine gk_region (by kernel_rfl) ?_
                  refine gl_pure 2 [1, 5, 7, 10, 11, 12, 76, 77] (K' := [(1, .slice A1_0 a1.length n1_0), (5, .string y1.1), (7, .slice A11 y6.1.length c12), (10, .slice (some ⟨g16, 0, none⟩) [(⟨#[32]⟩ : ByteArray), (⟨#[10]⟩ : ByteArray), (⟨#[9, 13, 32]⟩ : ByteArray), (⟨#[32, 35, 32, 105, 116, 39, 115, 10]⟩ : ByteArray), (⟨#[35, 10]⟩ : ByteArray)].length 5), (11, .slice A81 zs79.length n82), (12, .int .i64 s30.2), (76, .slice A1_0 a1.length n1_0), (77, .int .i64 s30.2)]) (by kernel_rfl) ?_
                  obtain ⟨x91, hx92, hj86⟩ := bind_some hj86
                  obtain ⟨p93, cs94, hR95, hA96, ha97⟩ := RepS.ixAt hx92 (hf1_0.mono (Imm.trans (Imm.trans hI10 hI33) hI69))
                  have hi98 := ix_some hx92
                  obtain rfl := hR95
                  refine gl_indexAddrF (c := n1_0) (T' := 39) (e := 3) (xs := (.tmp 76)) (xi := (.tmp 77)) (kd := .i64) ha97 hi98.1 hi98.2.1 (by kernel_rfl) (by kernel_rfl) (by kernel_rfl) (by kernel_rfl) (by kernel_rfl) ?_
                  refine gl_load (T' := 3) (xp := (.tmp 78)) (p := p93) (c := .int .i64 x91) (n := 1) (by kernel_rfl) (by kernel_rfl) (by kernel_rfl) (by kernel_rfl) hA96 ?_
                  refine gl_pure 2 [1, 5, 7, 10, 11, 12, 79, 81] (K' := [(1, .slice A1_0 a1.length n1_0), (5, .string y1.1), (7, .slice A11 y6.1.length c12), (10, .slice (some ⟨g16, 0, none⟩) [(⟨#[32]⟩ : ByteArray), (⟨#[10]⟩ : ByteArray), (⟨#[9, 13, 32]⟩ : ByteArray), (⟨#[32, 35, 32, 105, 116, 39, 115, 10]⟩ : ByteArray), (⟨#[35, 10]⟩ : ByteArray)].length 5), (11, .slice A81 zs79.length n82), (12, .int .i64 s30.2), (79, .int .i64 x91), (81, .int .i64 ([(⟨#[32]⟩ : ByteArray), (⟨#[10]⟩ : ByteArray), (⟨#[9, 13, 32]⟩ : ByteArray), (⟨#[32, 35, 32, 105, 116, 39, 115, 10]⟩ : ByteArray), (⟨#[35, 10]⟩ : ByteArray)].length : Int))]) (by kernel_rfl) ?_
                  obtain ⟨q99, hx100, hj86⟩ := bind_some hj86
                  refine gl_rem (t := 3) (t' := 3) (x := (.tmp 79)) (y := (.tmp 81)) (kx := .i64) hx100 (by kernel_rfl) (by kernel_rfl) (by kernel_rfl) (by kernel_rfl) ?_
                  refine gl_pure 1 [1, 5, 7, 10, 11, 12, 15] (K' := [(1, .slice A1_0 a1.length n1_0), (5, .string y1.1), (7, .slice A11 y6.1.length c12), (10, .slice (some ⟨g16, 0, none⟩) [(⟨#[32]⟩ : ByteArray), (⟨#[10]⟩ : ByteArray), (⟨#[9, 13, 32]⟩ : ByteArray), (⟨#[32, 35, 32, 105, 116, 39, 115, 10]⟩ : ByteArray), (⟨#[35, 10]⟩ : ByteArray)].length 5), (11, .slice A81 zs79.length n82), (12, .int .i64 s30.2), (15, .int .i64 q99)]) (by kernel_rfl) ?_
                  refine gl_atE (by kernel_rfl) ?_
                  obtain rfl := some_inj hj86
                  exact ge_mid fun t ht => ⟨(Imm.refl _), rfl, ht.pick (l := [1, 5, 7, 10, 11, 12, 15]) (by kernel_rfl)⟩
                · have hj86 := cond_f hc90 hj86
                  refine gk_skip (by kernel_rfl) ?_
                  obtain rfl := some_inj hj86
                  exact ge_mid fun t ht => ⟨(Imm.refl _), rfl, ht.pick (l := [1, 5, 7, 10, 11, 12, 15]) (by kernel_rfl)⟩
              · rintro t I89 L' ⟨hI87, rfl, hK88⟩
                refine ge_at hK88 ?_
                refine ge_seq ?_
                refine gk_seq (by kernel_rfl) ?_
                refine gk_seq (by kernel_rfl) ?_
                refine gk_region (by kernel_rfl) ?_
                refine gl_pure 2 [1, 5, 7, 10, 11, 12, 15, 84] (K' := [(1, .slice A1_0 a1.length n1_0), (5, .string y1.1), (7, .slice A11 y6.1.length c12), (10, .slice (some ⟨g16, 0, none⟩) [(⟨#[32]⟩ : ByteArray), (⟨#[10]⟩ : ByteArray), (⟨#[9, 13, 32]⟩ : ByteArray), (⟨#[32, 35, 32, 105, 116, 39, 115, 10]⟩ : ByteArray), (⟨#[35, 10]⟩ : ByteArray)].length 5), (11, .slice A81 zs79.length n82), (12, .int .i64 s30.2), (15, .int .i64 j85), (84, .bool (decide (j85 < 0)))]) (by kernel_rfl) ?_
                refine gl_atE (by kernel_rfl) ?_
                refine ge_seq ?_
                obtain ⟨j101, hj102, hb32⟩ := bind_some hb32
                refine gk_join (fun t I' L' => I89 ≤ I' ∧ C83 ++ ([(g16, .cells #[.string (⟨#[32]⟩ : ByteArray), .string (⟨#[10]⟩ : ByteArray), .string (⟨#[9, 13, 32]⟩ : ByteArray), .string (⟨#[32, 35, 32, 105, 116, 39, 115, 10]⟩ : ByteArray), .string (⟨#[35, 10]⟩ : ByteArray)] 9)] ++ (C13 ++ L)) = L' ∧ Knows 117 [(1, .slice A1_0 a1.length n1_0), (5, .string y1.1), (7, .slice A11 y6.1.length c12), (10, .slice (some ⟨g16, 0, none⟩) [(⟨#[32]⟩ : ByteArray), (⟨#[10]⟩ : ByteArray), (⟨#[9, 13, 32]⟩ : ByteArray), (⟨#[32, 35, 32, 105, 116, 39, 115, 10]⟩ : ByteArray), (⟨#[35, 10]⟩ : ByteArray)].length 5), (11, .slice A81 zs79.length n82), (12, .int .i64 s30.2), (15, .int .i64 j101)] t) ?_ ?_
                · refine gk_cond (b := (decide (j85 < 0))) (by kernel_rfl) (by kernel_rfl) (fun hc106 => ?_) (fun hc106 => ?_)
                  · have hj102 := cond_t hc106 hj102
                    refine gk_region (by kernel_rfl) ?_
                    refine gl_pure 3 [1, 5, 7, 10, 11, 12, 15] (K' := [(1, .slice A1_0 a1.length n1_0), (5, .string y1.1), (7, .slice A11 y6.1.length c12), (10, .slice (some ⟨g16, 0, none⟩) [(⟨#[32]⟩ : ByteArray), (⟨#[10]⟩ : ByteArray), (⟨#[9, 13, 32]⟩ : ByteArray), (⟨#[32, 35, 32, 105, 116, 39, 115, 10]⟩ : ByteArray), (⟨#[35, 10]⟩ : ByteArray)].length 5), (11, .slice A81 zs79.length n82), (12, .int .i64 s30.2), (15, .int .i64 (IntKind.wrap .i64 (0 - j85)))]) (by kernel_rfl) ?_
                    refine gl_atE (by kernel_rfl) ?_
                    obtain rfl := some_inj hj102
                    exact ge_mid fun t ht => ⟨(Imm.refl _), rfl, ht.pick (l := [1, 5, 7, 10, 11, 12, 15]) (by kernel_rfl)⟩
                  · have hj102 := cond_f hc106 hj102
                    refine gk_skip (by kernel_rfl) ?_
                    obtain rfl := some_inj hj102
                    exact ge_mid fun t ht => ⟨(Imm.refl _), rfl, ht.pick (l := [1, 5, 7, 10, 11, 12, 15]) (by kernel_rfl)⟩
                · rintro t I105 L' ⟨hI103, rfl, hK104⟩
                  refine ge_at hK104 ?_
                  refine ge_seq ?_
                  refine gk_seq (by kernel_rfl) ?_
                  refine gk_region (by kernel_rfl) ?_
                  refine gl_pure 1 [1, 5, 7, 10, 12, 15, 87] (K' := [(1, .slice A1_0 a1.length n1_0), (5, .string y1.1), (7, .slice A11 y6.1.length c12), (10, .slice (some ⟨g16, 0, none⟩) [(⟨#[32]⟩ : ByteArray), (⟨#[10]⟩ : ByteArray), (⟨#[9, 13, 32]⟩ : ByteArray), (⟨#[32, 35, 32, 105, 116, 39, 115, 10]⟩ : ByteArray), (⟨#[35, 10]⟩ : ByteArray)].length 5), (12, .int .i64 s30.2), (15, .int .i64 j101), (87, .slice A81 zs79.length n82)]) (by kernel_rfl) ?_
                  refine gl_buildSlice (T' := 41) (e := 5) (n := 1) (len := 1) (parts := #[(0, (.const (.int .u8 32)))]) (l := [(0, .int .u8 32)]) (cs := #[.int .u8 32]) (by kernel_rfl) (by kernel_rfl) (by kernel_rfl) (by kernel_rfl) (by kernel_rfl) (fun g107 => ?_)
                  have hO108 : OwnS (Kd.int .u8) 5 I105 (some ⟨g107, 0, none⟩) 1 [32] [(g107, .cells #[.int .u8 32] 5)] := OwnS.lit (row_cons (l := [.int .u8 32]) rfl (row_nil _ _)) rfl rfl rfl
                  refine gl_reord (D := [(g107, .cells #[.int .u8 32] 5)] ++ (C83 ++ ([(g16, .cells #[.string (⟨#[32]⟩ : ByteArray), .string (⟨#[10]⟩ : ByteArray), .string (⟨#[9, 13, 32]⟩ : ByteArray), .string (⟨#[32, 35, 32, 105, 116, 39, 115, 10]⟩ : ByteArray), .string (⟨#[35, 10]⟩ : ByteArray)] 9)] ++ (C13 ++ L)))) (Reord.refl _) ?_
                  obtain ⟨zs111, hz112, hb32⟩ := bind_some hb32
                  refine gl_append (xv := .slice (some ⟨g107, 0, none⟩) [32].length 1) (d := (Kd.int .u8)) (t := 41) (tx := 41) (e := 5) (s := (.tmp 87)) (x := (.tmp 88)) (xs := zs79) (fun X => [(g107, .cells #[.int .u8 32] 5)] ++ (X ++ ([(g16, .cells #[.string (⟨#[32]⟩ : ByteArray), .string (⟨#[10]⟩ : ByteArray), .string (⟨#[9, 13, 32]⟩ : ByteArray), .string (⟨#[32, 35, 32, 105, 116, 39, 115, 10]⟩ : ByteArray), .string (⟨#[35, 10]⟩ : ByteArray)] 9)] ++ (C13 ++ L)))) hz112 (by kernel_rfl) (by kernel_rfl) (by kernel_rfl) (by kernel_rfl) (by kernel_rfl) (by kernel_rfl) (fun X => (Upd.app _ (Upd.head _ X _))) (hO84.mono (Imm.trans hI87 hI103)) (SrcOk.slice (c := 1) (e := 5) (n := 1) (OwnS.rd hO108 (Upd.selfC _ _)) (by kernel_rfl)) (fun A113 n114 C115 hO116 => ?_)
                  refine gl_pure 1 [1, 5, 7, 10, 11, 12, 15] (K' := [(1, .slice A1_0 a1.length n1_0), (5, .string y1.1), (7, .slice A11 y6.1.length c12), (10, .slice (some ⟨g16, 0, none⟩) [(⟨#[32]⟩ : ByteArray), (⟨#[10]⟩ : ByteArray), (⟨#[9, 13, 32]⟩ : ByteArray), (⟨#[32, 35, 32, 105, 116, 39, 115, 10]⟩ : ByteArray), (⟨#[35, 10]⟩ : ByteArray)].length 5), (11, .slice A113 zs111.length n114), (12, .int .i64 s30.2), (15, .int .i64 j101)]) (by kernel_rfl) ?_
                  refine gl_atE (by kernel_rfl) ?_
                  refine ge_seq ?_
                  refine gk_region (by kernel_rfl) ?_
                  refine gl_pure 3 [1, 5, 7, 10, 12, 90, 91, 92] (K' := [(1, .slice A1_0 a1.length n1_0), (5, .string y1.1), (7, .slice A11 y6.1.length c12), (10, .slice (some ⟨g16, 0, none⟩) [(⟨#[32]⟩ : ByteArray), (⟨#[10]⟩ : ByteArray), (⟨#[9, 13, 32]⟩ : ByteArray), (⟨#[32, 35, 32, 105, 116, 39, 115, 10]⟩ : ByteArray), (⟨#[35, 10]⟩ : ByteArray)].length 5), (12, .int .i64 s30.2), (90, .slice A113 zs111.length n114), (91, .slice (some ⟨g16, 0, none⟩) [(⟨#[32]⟩ : ByteArray), (⟨#[10]⟩ : ByteArray), (⟨#[9, 13, 32]⟩ : ByteArray), (⟨#[32, 35, 32, 105, 116, 39, 115, 10]⟩ : ByteArray), (⟨#[35, 10]⟩ : ByteArray)].length 5), (92, .int .i64 j101)]) (by kernel_rfl) ?_
                  obtain ⟨x117, hx118, hb32⟩ := bind_some hb32
                  refine gl_indexAddrW (d := Kd.str) (c := 5) (T' := 40) (e := 9) (xs := (.tmp 91)) (xi := (.tmp 92)) (kd := .i64) hx118 (hO17.mono (Imm.trans (Imm.trans (Imm.trans hI33 hI69) hI87) hI103)) (Upd.app _ (Upd.app _ (Upd.selfC _ _))) (by kernel_rfl) (by kernel_rfl) (by kernel_rfl) (by kernel_rfl) (by kernel_rfl) (fun p119 cs120 hR121 hA122 hp125 => ?_)
                  obtain rfl := hR121
                  refine gl_loadO (T' := 9) (xp := (.tmp 93)) (p := p119) (c := .string x117) (n := 1) (by kernel_rfl) (by kernel_rfl) (by kernel_rfl) (by kernel_rfl) hA122 ?_
                  obtain ⟨zs126, hz127, hb32⟩ := bind_some hb32
                  refine gl_append (xv := .string x117) (d := (Kd.int .u8)) (t := 41) (tx := 9) (e := 5) (s := (.tmp 90)) (x := (.tmp 94)) (xs := zs111) (fun X => [(g107, .cells #[.int .u8 32] 5)] ++ (X ++ ([(g16, .cells #[.string (⟨#[32]⟩ : ByteArray), .string (⟨#[10]⟩ : ByteArray), .string (⟨#[9, 13, 32]⟩ : ByteArray), .string (⟨#[32, 35, 32, 105, 116, 39, 115, 10]⟩ : ByteArray), .string (⟨#[35, 10]⟩ : ByteArray)] 9)] ++ (C13 ++ L)))) hz127 (by kernel_rfl) (by kernel_rfl) (by kernel_rfl) (by kernel_rfl) (by kernel_rfl) (by kernel_rfl) (fun X => (Upd.app _ (Upd.head _ X _))) hO116 (SrcOk.str (by kernel_rfl)) (fun A128 n129 C130 hO131 => ?_)
                  refine gl_pure 1 [1, 5, 7, 10, 11, 12] (K' := [(1, .slice A1_0 a1.length n1_0), (5, .string y1.1), (7, .slice A11 y6.1.length c12), (10, .slice (some ⟨g16, 0, none⟩) [(⟨#[32]⟩ : ByteArray), (⟨#[10]⟩ : ByteArray), (⟨#[9, 13, 32]⟩ : ByteArray), (⟨#[32, 35, 32, 105, 116, 39, 115, 10]⟩ : ByteArray), (⟨#[35, 10]⟩ : ByteArray)].length 5), (11, .slice A128 zs126.length n129), (12, .int .i64 s30.2)]) (by kernel_rfl) ?_
                  refine gl_atE (by kernel_rfl) ?_
                  refine ge_block_normal ?_
                  refine ge_seq ?_
                  refine gk_region (by kernel_rfl) ?_
                  refine gl_pure 3 [1, 5, 7, 10, 11, 12] (K' := [(1, .slice A1_0 a1.length n1_0), (5, .string y1.1), (7, .slice A11 y6.1.length c12), (10, .slice (some ⟨g16, 0, none⟩) [(⟨#[32]⟩ : ByteArray), (⟨#[10]⟩ : ByteArray), (⟨#[9, 13, 32]⟩ : ByteArray), (⟨#[32, 35, 32, 105, 116, 39, 115, 10]⟩ : ByteArray), (⟨#[35, 10]⟩ : ByteArray)].length 5), (11, .slice A128 zs126.length n129), (12, .int .i64 (IntKind.wrap .i64 (s30.2 + 1)))]) (by kernel_rfl) ?_
                  refine gl_reord (D := C130 ++ ([(g16, .cells #[.string (⟨#[32]⟩ : ByteArray), .string (⟨#[10]⟩ : ByteArray), .string (⟨#[9, 13, 32]⟩ : ByteArray), .string (⟨#[32, 35, 32, 105, 116, 39, 115, 10]⟩ : ByteArray), .string (⟨#[35, 10]⟩ : ByteArray)] 9)] ++ (C13 ++ L))) (Reord.step (Upd.app _ (Upd.rmC _ _)) (Reord.step (Upd.app _ (Upd.rmC _ _)) (Reord.step (Upd.app _ (Upd.rmC _ _)) (Reord.skipC (Reord.refl _))))) ?_
                  refine gl_atE (by kernel_rfl) ?_
                  obtain rfl := some_inj hb32
                  exact ge_round fun t ht => ⟨A128, n129, C130, hO131, (Imm.trans (Imm.trans (Imm.trans hI33 hI69) hI87) hI103), rfl, ht.pick (l := [1, 5, 7, 10, 11, 12]) (by kernel_rfl)⟩
        · have hb32 := cond_f hc50 hb32
          refine gk_reord (D := C36 ++ (C13 ++ L)) (Reord.step (Upd.rmC _ _) (Reord.step (Upd.app _ (Upd.rmC _ _)) (Reord.skipC (Reord.refl _)))) ?_
          refine gk_exit (by kernel_rfl) ?_
          refine ge_seq_exit ?_
          obtain rfl := some_inj hb32
          refine ge_round_out (fun hrr => ?_) (by intro h; cases h)
          obtain rfl := hrr
          refine ge_block_hit (by kernel_rfl) ?_
          exact ge_mid fun t ht => ⟨_, rfl, A34, n35, C36, hO37, hI33, rfl, ht.pick (l := [7, 11]) (by kernel_rfl)⟩
      · rintro t I47 L' ⟨r40, rfl, A42, n43, C44, hO45, hI41, rfl, hK46⟩
        refine ge_at hK46 ?_
        refine ge_seq ?_
        refine gk_seq (by kernel_rfl) ?_
        refine gk_seq (by kernel_rfl) ?_
        refine gk_region (by kernel_rfl) ?_
        refine gl_pure 3 [7, 11, 98] (K' := [(7, .slice A11 y6.1.length c12), (11, .slice A42 r40.length n43), (98, .bool (decide ((r40.length : Int) > 65536)))]) (by kernel_rfl) ?_
        refine gl_atE (by kernel_rfl) ?_
        refine ge_seq ?_
        refine gk_cond (b := (decide ((r40.length : Int) > 65536))) (by kernel_rfl) (by kernel_rfl) (fun hc132 => ?_) (fun hc132 => ?_)
        · have hr := cond_t hc132 hr
          refine gk_seq (by kernel_rfl) ?_
          refine gk_region (by kernel_rfl) ?_
          obtain ⟨y133, hx134, hr⟩ := bind_some hr
          refine gl_callQ (by kernel_rfl) (tocsinlaw13_known_walk (r := y133) (hG.mono (Imm.trans hI10 hI41)) hx134 _) ?_
          refine gl_pure 1 [4] (K' := [(4, .bool y133)]) (by kernel_rfl) ?_
          refine gl_atE (by kernel_rfl) ?_
          refine ge_seq ?_
          refine gk_reord (D := L) (Reord.skipC (Reord.skipC (Reord.refl _))) ?_
          refine gk_ret (by kernel_rfl) ?_
          refine ge_seq_ret ?_
          obtain rfl := some_inj hr
          exact ge_result trivial (ResOk.tmp (by kernel_rfl) ResOk.nil) (Imm.trans hI10 hI41) ⟨rfl, rfl⟩
        · have hr := cond_f hc132 hr
          refine gk_skip (by kernel_rfl) ?_
          refine ge_seq ?_
          refine gk_seq (by kernel_rfl) ?_
          refine gk_region (by kernel_rfl) ?_
          refine gl_pure 1 [7, 101] (K' := [(7, .slice A11 y6.1.length c12), (101, .slice A42 r40.length n43)]) (by kernel_rfl) ?_
          refine gl_bytesStr (c := n43) (src := 41) (dst := 9) (e := 5) (n := 1) (x := (.tmp 101)) (by kernel_rfl) (by kernel_rfl) (by kernel_rfl) (by kernel_rfl) (by kernel_rfl) (by kernel_rfl) (OwnS.rd hO45 (Upd.selfC _ _)) ?_
          obtain ⟨y135, hx136, hr⟩ := bind_some hr
          refine gl_call (by kernel_rfl) (lex_Tokens_walk (r := y135) (hG.mono (Imm.trans hI10 hI41)) hx136 _) ?_
          rintro v I137 L138 hI139 ⟨A140, c141, C142, hO143, rfl, rfl⟩
          refine gl_pure 7 [7, 8, 16] (K' := [(7, .slice A11 y6.1.length c12), (8, .int .i64 y135.2.1), (16, .slice A140 y135.1.length c141)]) (by kernel_rfl) ?_
          refine gl_atE (by kernel_rfl) ?_
          refine ge_seq ?_
          refine gk_seq (by kernel_rfl) ?_
          obtain ⟨j144, hj145, hr⟩ := bind_some hr
          refine gk_join (fun t I' L' => I137 ≤ I' ∧ L = L' ∧ Knows 117 [(4, .bool j144)] t) ?_ ?_
          · refine gk_region (by kernel_rfl) ?_
            refine gl_pure 3 [7, 16, 109] (K' := [(7, .slice A11 y6.1.length c12), (16, .slice A140 y135.1.length c141), (109, .bool (y135.2.1 == 0))]) (by kernel_rfl) ?_
            refine gl_case 109 (b := (y135.2.1 == 0)) (by kernel_rfl) (fun hc149 => ?_) (fun hc149 => ?_)
            · have hj145 := cond_t hc149 hj145
              refine gl_pure 2 [109, 110, 111] (K' := [(109, .bool true), (110, .slice A140 y135.1.length c141), (111, .slice A11 y6.1.length c12)]) (by kernel_rfl) ?_
              obtain ⟨y150, hx151, hj145⟩ := bind_some hj145
              refine gl_callB (r := .bool y150) (Tk.step (Upd.rmC _ _) (Tk.step (Upd.app _ (Upd.rmC _ _)) (Tk.nil _))) (by kernel_rfl) (fun J hJ hC => lex_Same_walk (r := y150) (OwnS.rest hO143 hJ hC.left) (OwnS.rest (hO14.mono (Imm.trans hI41 hI139)) hJ hC.right.left) hx151 _) ?_
              refine gl_pure 2 [114] (K' := [(114, .bool y150)]) (by kernel_rfl) ?_
              refine gl_case 114 (b := y150) (by kernel_rfl) (fun hc152 => ?_) (fun hc152 => ?_)
              · have hj145 := cond_t hc152 hj145
                obtain ⟨y153, hx154, hj145⟩ := bind_some hj145
                refine gl_callQ (by kernel_rfl) (tocsinlaw13_known_walk (r := y153) (hG.mono (Imm.trans (Imm.trans hI10 hI41) hI139)) hx154 _) ?_
                refine gl_pure 2 [4] (K' := [(4, .bool y153)]) (by kernel_rfl) ?_
                refine gl_reord (D := L) (Reord.skipC (Reord.skipC (Reord.skipC (Reord.refl _)))) ?_
                refine gl_atE (by kernel_rfl) ?_
                obtain rfl := some_inj hj145
                exact ge_mid fun t ht => ⟨(Imm.refl _), rfl, ht.pick (l := [4]) (by kernel_rfl)⟩
              · have hj145 := cond_f hc152 hj145
                refine gl_pure 3 [4] (K' := [(4, .bool false)]) (by kernel_rfl) ?_
                refine gl_reord (D := L) (Reord.skipC (Reord.skipC (Reord.skipC (Reord.refl _)))) ?_
                refine gl_atE (by kernel_rfl) ?_
                obtain rfl := some_inj hj145
                exact ge_mid fun t ht => ⟨(Imm.refl _), rfl, ht.pick (l := [4]) (by kernel_rfl)⟩
            · have hj145 := cond_f hc149 hj145
              refine gl_pure 8 [4] (K' := [(4, .bool false)]) (by kernel_rfl) ?_
              refine gl_reord (D := L) (Reord.skipC (Reord.skipC (Reord.skipC (Reord.refl _)))) ?_
              refine gl_atE (by kernel_rfl) ?_
              obtain rfl := some_inj hj145
              exact ge_mid fun t ht => ⟨(Imm.refl _), rfl, ht.pick (l := [4]) (by kernel_rfl)⟩
          · rintro t I148 L' ⟨hI146, rfl, hK147⟩
            refine ge_at hK147 ?_
            refine ge_seq ?_
            refine gk_ret (by kernel_rfl) ?_
            obtain rfl := some_inj hr
            exact ge_result trivial (ResOk.tmp (by kernel_rfl) ResOk.nil) (Imm.trans (Imm.trans (Imm.trans hI10 hI41) hI139) hI146) ⟨rfl, rfl⟩
end Go.Proofs.YtlhpclfkoblnkaaDoor
