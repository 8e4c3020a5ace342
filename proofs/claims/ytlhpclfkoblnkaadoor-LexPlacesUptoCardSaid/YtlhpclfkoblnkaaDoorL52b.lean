import Derived.Test.YtlhpclfkoblnkaaDoorL52a
set_option linter.unusedVariables false
set_option linter.unusedSimpArgs false
set_option maxRecDepth 100000
namespace Go.Proofs.YtlhpclfkoblnkaaDoor
open Go.GB
/-! 56 lex_escape  -/
noncomputable def lex_escape (a0 : ByteArray) : Option (Int × Int) :=
  bif (a0.toList == (⟨#[]⟩ : ByteArray).toList) then
  (some (0, 0))
  else
  (Option.bind (bx a0 0) fun (c2 : Int) =>
    Option.bind ((Option.bind ((bif (c2 == 110) then
        (some (Sum.inl 10))
        else
        (Option.bind (bif (c2 == 92) then
            (some (c2 == 92))
            else
            (Option.bind (bif (c2 == 34) then
                (some (c2 == 34))
                else
                (some (c2 == 39))) fun (j23 : Bool) =>
              some j23)) fun (j17 : Bool) =>
          bif j17 then
          (some (Sum.inl c2))
          else
          (bif (c2 == 116) then
            (some (Sum.inr (Sum.inr (9, 1))))
            else
            (bif (c2 == 114) then
              (some (Sum.inr (Sum.inr (13, 1))))
              else
              (bif (c2 == 120) then
                (Option.bind ((Option.bind (bif (decide ((a0.size : Int) > 2)) then
                      (Option.bind (bx a0 1) fun (c39 : Int) =>
                        bif (lex_hex c39) then
                        (Option.bind (bx a0 2) fun (c42 : Int) =>
                          some (lex_hex c42))
                        else
                        (some false))
                      else
                      (some false)) fun (j33 : Bool) =>
                    Option.bind ((bif j33 then
                      (Option.bind (sx a0 1 3) fun (s52 : ByteArray) =>
                        Option.bind (strconv_ParseUint s52 16 8) fun (y53 : Int × Unit) =>
                        bif (decide (y53.1 < 128)) then
                        (some (Sum.inr (Sum.inr ((IntKind.wrap .u8 y53.1), 3))))
                        else
                        (some (Sum.inl ())))
                      else
                      (some (Sum.inl ())) : Option ((Unit) ⊕ ((Unit) ⊕ (Int × Int))))) fun (j44 : (Unit) ⊕ ((Unit) ⊕ (Int × Int))) =>
                    match j44 with
                    | Sum.inl j46 => some (Sum.inl ())
                    | Sum.inr v56 => some v56 : Option ((Unit) ⊕ (Int × Int)))) fun (v57 : (Unit) ⊕ (Int × Int)) =>
                  some (Sum.inr v57))
                else
                (some (Sum.inr (Sum.inl ()))))))) : Option ((Int) ⊕ ((Unit) ⊕ (Int × Int))))) fun (j10 : (Int) ⊕ ((Unit) ⊕ (Int × Int))) =>
      match j10 with
      | Sum.inl j12 => some (Sum.inr (j12, 1))
      | Sum.inr v60 => some v60 : Option ((Unit) ⊕ (Int × Int)))) fun (j4 : (Unit) ⊕ (Int × Int)) =>
    match j4 with
    | Sum.inl j6 => some (0, 0)
    | Sum.inr v61 => some v61)
theorem lex_escape_walk {a0 : ByteArray} {I : Imm} {r : Int × Int}  (hr : lex_escape a0 = some r) (L : Own) :
    CallsTo Tryd.prog 56 #[.string a0] I L (fun v I' L' => v = .tuple #[.int .u8 r.1, .int .i64 r.2] ∧ L = L') := by
  unfold lex_escape at hr
  refine callsTo_body (N := 48) Tryd.func56 (by kernel_rfl) (by kernel_rfl) (by kernel_rfl) ?_
  refine gk_pick [0] (K' := [(0, .string a0)]) (by kernel_rfl) ?_
  refine gk_seq (by kernel_rfl) ?_
  refine gk_region (by kernel_rfl) ?_
  refine gl_pure 2 [0] (K' := [(0, .string a0)]) (by kernel_rfl) ?_
  refine gl_atE (by kernel_rfl) ?_
  refine ge_seq ?_
  refine gk_seq (by kernel_rfl) ?_
  refine gk_seq (by kernel_rfl) ?_
  refine gk_region (by kernel_rfl) ?_
  refine gl_pure 2 [0, 8] (K' := [(0, .string a0), (8, .bool (a0.toList == (⟨#[]⟩ : ByteArray).toList))]) (by kernel_rfl) ?_
  refine gl_atE (by kernel_rfl) ?_
  refine ge_seq ?_
  refine gk_cond (b := (a0.toList == (⟨#[]⟩ : ByteArray).toList)) (by kernel_rfl) (by kernel_rfl) (fun hc1 => ?_) (fun hc1 => ?_)
  · have hr := cond_t hc1 hr
    refine gk_seq (by kernel_rfl) ?_
    refine gk_region (by kernel_rfl) ?_
    refine gl_pure 2 [2, 3] (K' := [(2, .int .u8 0), (3, .int .i64 0)]) (by kernel_rfl) ?_
    refine gl_atE (by kernel_rfl) ?_
    refine ge_seq ?_
    refine gk_ret (by kernel_rfl) ?_
    refine ge_seq_ret ?_
    obtain rfl := some_inj hr
    exact ge_result trivial (ResOk.tmp (by kernel_rfl) (ResOk.tmp (by kernel_rfl) ResOk.nil)) (Imm.refl _) ⟨rfl, rfl⟩
  · have hr := cond_f hc1 hr
    refine gk_skip (by kernel_rfl) ?_
    refine ge_seq ?_
    refine gk_seq (by kernel_rfl) ?_
    refine gk_region (by kernel_rfl) ?_
    refine gl_pure 1 [0, 9] (K' := [(0, .string a0), (9, .string a0)]) (by kernel_rfl) ?_
    obtain ⟨c2, hx3, hr⟩ := bind_some hr
    refine gl_index' (T' := 9) (xs := (.tmp 9)) (xi := (.const (.int .i64 0))) (kd := .i64) hx3 (by kernel_rfl) (by kernel_rfl) (by kernel_rfl) (by kernel_rfl) (by kernel_rfl) ?_
    refine gl_pure 1 [0, 4] (K' := [(0, .string a0), (4, .int .u8 c2)]) (by kernel_rfl) ?_
    refine gl_atE (by kernel_rfl) ?_
    refine ge_seq ?_
    refine gk_seq (by kernel_rfl) ?_
    refine gk_seq (by kernel_rfl) ?_
    refine gk_region (by kernel_rfl) ?_
    refine gl_pure 1 [0, 4, 11] (K' := [(0, .string a0), (4, .int .u8 c2), (11, .int .u8 c2)]) (by kernel_rfl) ?_
    refine gl_atE (by kernel_rfl) ?_
    refine ge_seq ?_
    obtain ⟨j4, hj5, hr⟩ := bind_some hr
    refine gk_join (fun t I' L' => ∃ j6, j4 = Sum.inl j6 ∧ I ≤ I' ∧ L = L' ∧ Knows 48 [] t) ?_ ?_
    · refine gk_block (by kernel_rfl) ?_
      refine gk_seq (by kernel_rfl) ?_
      refine gk_block (by kernel_rfl) ?_
      refine gk_seq (by kernel_rfl) ?_
      refine gk_block (by kernel_rfl) ?_
      refine gk_seq (by kernel_rfl) ?_
      refine gk_block (by kernel_rfl) ?_
      refine gk_seq (by kernel_rfl) ?_
      obtain ⟨j10, hj11, hj5⟩ := bind_some hj5
      refine gk_join (fun t I' L' => ∃ j12, j10 = Sum.inl j12 ∧ I ≤ I' ∧ L = L' ∧ Knows 48 [(4, .int .u8 j12)] t) ?_ ?_
      · refine gk_block (by kernel_rfl) ?_
        refine gk_seq (by kernel_rfl) ?_
        refine gk_block (by kernel_rfl) ?_
        refine gk_seq (by kernel_rfl) ?_
        refine gk_seq (by kernel_rfl) ?_
        refine gk_seq (by kernel_rfl) ?_
        refine gk_region (by kernel_rfl) ?_
        refine gl_pure 2 [0, 4, 11, 12] (K' := [(0, .string a0), (4, .int .u8 c2), (11, .int .u8 c2), (12, .bool (c2 == 110))]) (by kernel_rfl) ?_
        refine gl_atE (by kernel_rfl) ?_
        refine ge_seq ?_
        refine gk_cond (b := (c2 == 110)) (by kernel_rfl) (by kernel_rfl) (fun hc16 => ?_) (fun hc16 => ?_)
        · have hj11 := cond_t hc16 hj11
          refine gk_exit (by kernel_rfl) ?_
          refine ge_seq_exit ?_
          refine ge_seq_exit ?_
          refine ge_block_hit (by kernel_rfl) ?_
          refine ge_seq ?_
          refine gk_region (by kernel_rfl) ?_
          refine gl_pure 1 [4] (K' := [(4, .int .u8 10)]) (by kernel_rfl) ?_
          refine gl_atE (by kernel_rfl) ?_
          refine ge_block_normal ?_
          obtain rfl := some_inj hj11
          exact ge_mid fun t ht => ⟨_, rfl, (Imm.refl _), rfl, ht.pick (l := [4]) (by kernel_rfl)⟩
        · have hj11 := cond_f hc16 hj11
          refine gk_skip (by kernel_rfl) ?_
          refine ge_seq ?_
          refine gk_seq (by kernel_rfl) ?_
          refine gk_seq (by kernel_rfl) ?_
          refine gk_seq (by kernel_rfl) ?_
          refine gk_region (by kernel_rfl) ?_
          refine gl_pure 2 [0, 4, 11, 14] (K' := [(0, .string a0), (4, .int .u8 c2), (11, .int .u8 c2), (14, .bool (c2 == 92))]) (by kernel_rfl) ?_
          refine gl_atE (by kernel_rfl) ?_
          refine ge_seq ?_
          obtain ⟨j17, hj18, hj11⟩ := bind_some hj11
          refine gk_join (fun t I' L' => I ≤ I' ∧ L = L' ∧ Knows 48 [(0, .string a0), (4, .int .u8 c2), (11, .int .u8 c2), (14, .bool j17)] t) ?_ ?_
          · refine gk_cond (b := (c2 == 92)) (by kernel_rfl) (by kernel_rfl) (fun hc22 => ?_) (fun hc22 => ?_)
            · have hj18 := cond_t hc22 hj18
              refine gk_skip (by kernel_rfl) ?_
              obtain rfl := some_inj hj18
              exact ge_mid fun t ht => ⟨(Imm.refl _), rfl, ht.pick (l := [0, 4, 11, 14]) (by kernel_rfl)⟩
            · have hj18 := cond_f hc22 hj18
              refine gk_seq (by kernel_rfl) ?_
              refine gk_region (by kernel_rfl) ?_
              refine gl_pure 2 [0, 4, 11, 14] (K' := [(0, .string a0), (4, .int .u8 c2), (11, .int .u8 c2), (14, .bool (c2 == 34))]) (by kernel_rfl) ?_
              refine gl_atE (by kernel_rfl) ?_
              refine ge_seq ?_
              obtain ⟨j23, hj24, hj18⟩ := bind_some hj18
              refine gk_join (fun t I' L' => I ≤ I' ∧ L = L' ∧ Knows 48 [(0, .string a0), (4, .int .u8 c2), (11, .int .u8 c2), (14, .bool j23)] t) ?_ ?_
              · refine gk_cond (b := (c2 == 34)) (by kernel_rfl) (by kernel_rfl) (fun hc28 => ?_) (fun hc28 => ?_)
                · have hj24 := cond_t hc28 hj24
                  refine gk_skip (by kernel_rfl) ?_
                  obtain rfl := some_inj hj24
                  exact ge_mid fun t ht => ⟨(Imm.refl _), rfl, ht.pick (l := [0, 4, 11, 14]) (by kernel_rfl)⟩
                · have hj24 := cond_f hc28 hj24
                  refine gk_region (by kernel_rfl) ?_
                  refine gl_pure 2 [0, 4, 11, 14] (K' := [(0, .string a0), (4, .int .u8 c2), (11, .int .u8 c2), (14, .bool (c2 == 39))]) (by kernel_rfl) ?_
                  refine gl_atE (by kernel_rfl) ?_
                  obtain rfl := some_inj hj24
                  exact ge_mid fun t ht => ⟨(Imm.refl _), rfl, ht.pick (l := [0, 4, 11, 14]) (by kernel_rfl)⟩
              · rintro t I27 L' ⟨hI25, rfl, hK26⟩
                refine ge_at hK26 ?_
                obtain rfl := some_inj hj18
                exact ge_mid fun t ht => ⟨hI25, rfl, ht.pick (l := [0, 4, 11, 14]) (by kernel_rfl)⟩
          · rintro t I21 L' ⟨hI19, rfl, hK20⟩
            refine ge_at hK20 ?_
            refine ge_seq ?_
            refine gk_cond (b := j17) (by kernel_rfl) (by kernel_rfl) (fun hc29 => ?_) (fun hc29 => ?_)
            · have hj11 := cond_t hc29 hj11
              refine gk_exit (by kernel_rfl) ?_
              refine ge_seq_exit ?_
              refine ge_seq_exit ?_
              refine ge_block_miss (by kernel_rfl) ?_
              refine ge_seq_exit ?_
              refine ge_block_hit (by kernel_rfl) ?_
              obtain rfl := some_inj hj11
              exact ge_mid fun t ht => ⟨_, rfl, hI19, rfl, ht.pick (l := [4]) (by kernel_rfl)⟩
            · have hj11 := cond_f hc29 hj11
              refine gk_skip (by kernel_rfl) ?_
              refine ge_seq ?_
              refine gk_seq (by kernel_rfl) ?_
              refine gk_seq (by kernel_rfl) ?_
              refine gk_region (by kernel_rfl) ?_
              refine gl_pure 2 [0, 11, 18] (K' := [(0, .string a0), (11, .int .u8 c2), (18, .bool (c2 == 116))]) (by kernel_rfl) ?_
              refine gl_atE (by kernel_rfl) ?_
              refine ge_seq ?_
              refine gk_cond (b := (c2 == 116)) (by kernel_rfl) (by kernel_rfl) (fun hc30 => ?_) (fun hc30 => ?_)
              · have hj11 := cond_t hc30 hj11
                refine gk_exit (by kernel_rfl) ?_
                refine ge_seq_exit ?_
                refine ge_seq_exit ?_
                refine ge_block_miss (by kernel_rfl) ?_
                refine ge_seq_exit ?_
                refine ge_block_miss (by kernel_rfl) ?_
                refine ge_seq_exit ?_
                obtain rfl := some_inj hj11
                refine ge_seq_exit ?_
                refine ge_block_hit (by kernel_rfl) ?_
                refine ge_seq ?_
                refine gk_seq (by kernel_rfl) ?_
                refine gk_seq (by kernel_rfl) ?_
                refine gk_region (by kernel_rfl) ?_
                refine gl_pure 2 [2, 3] (K' := [(2, .int .u8 9), (3, .int .i64 1)]) (by kernel_rfl) ?_
                refine gl_atE (by kernel_rfl) ?_
                refine ge_seq ?_
                refine gk_ret (by kernel_rfl) ?_
                refine ge_seq_ret ?_
                refine ge_block_ret ?_
                refine ge_seq_ret ?_
                refine ge_block_ret ?_
                refine ge_seq_ret ?_
                refine ge_block_ret ?_
                refine ge_seq_ret ?_
                obtain rfl := some_inj hj5
                refine ge_seq_ret ?_
                obtain rfl := some_inj hr
                exact ge_result trivial (ResOk.tmp (by kernel_rfl) (ResOk.tmp (by kernel_rfl) ResOk.nil)) hI19 ⟨rfl, rfl⟩
              · have hj11 := cond_f hc30 hj11
                refine gk_skip (by kernel_rfl) ?_
                refine ge_seq ?_
                refine gk_seq (by kernel_rfl) ?_
                refine gk_seq (by kernel_rfl) ?_
                refine gk_region (by kernel_rfl) ?_
                refine gl_pure 2 [0, 11, 20] (K' := [(0, .string a0), (11, .int .u8 c2), (20, .bool (c2 == 114))]) (by kernel_rfl) ?_
                refine gl_atE (by kernel_rfl) ?_
                refine ge_seq ?_
                refine gk_cond (b := (c2 == 114)) (by kernel_rfl) (by kernel_rfl) (fun hc31 => ?_) (fun hc31 => ?_)
                · have hj11 := cond_t hc31 hj11
                  refine gk_exit (by kernel_rfl) ?_
                  refine ge_seq_exit ?_
                  refine ge_seq_exit ?_
                  refine ge_block_miss (by kernel_rfl) ?_
                  refine ge_seq_exit ?_
                  refine ge_block_miss (by kernel_rfl) ?_
                  refine ge_seq_exit ?_
                  obtain rfl := some_inj hj11
                  refine ge_seq_exit ?_
                  refine ge_block_miss (by kernel_rfl) ?_
                  refine ge_seq_exit ?_
                  refine ge_block_hit (by kernel_rfl) ?_
                  refine ge_seq ?_
                  refine gk_seq (by kernel_rfl) ?_
                  refine gk_seq (by kernel_rfl) ?_
                  refine gk_region (by kernel_rfl) ?_
                  refine gl_pure 2 [2, 3] (K' := [(2, .int .u8 13), (3, .int .i64 1)]) (by kernel_rfl) ?_
                  refine gl_atE (by kernel_rfl) ?_
                  refine ge_seq ?_
                  refine gk_ret (by kernel_rfl) ?_
                  refine ge_seq_ret ?_
                  refine ge_block_ret ?_
                  refine ge_seq_ret ?_
                  refine ge_block_ret ?_
                  refine ge_seq_ret ?_
                  obtain rfl := some_inj hj5
                  refine ge_seq_ret ?_
                  obtain rfl := some_inj hr
                  exact ge_result trivial (ResOk.tmp (by kernel_rfl) (ResOk.tmp (by kernel_rfl) ResOk.nil)) hI19 ⟨rfl, rfl⟩
                · have hj11 := cond_f hc31 hj11
                  refine gk_skip (by kernel_rfl) ?_
                  refine ge_seq ?_
                  refine gk_seq (by kernel_rfl) ?_
                  refine gk_region (by kernel_rfl) ?_
                  refine gl_pure 2 [0, 22] (K' := [(0, .string a0), (22, .bool (c2 == 120))]) (by kernel_rfl) ?_
                  refine gl_atE (by kernel_rfl) ?_
                  refine ge_seq ?_
                  refine gk_cond (b := (c2 == 120)) (by kernel_rfl) (by kernel_rfl) (fun hc32 => ?_) (fun hc32 => ?_)
                  · have hj11 := cond_t hc32 hj11
                    refine gk_exit (by kernel_rfl) ?_
                    refine ge_seq_exit ?_
                    refine ge_block_miss (by kernel_rfl) ?_
                    refine ge_seq_exit ?_
                    refine ge_block_miss (by kernel_rfl) ?_
                    refine ge_seq_exit ?_
                    obtain ⟨v57, hv58, hq59⟩ := bind_some hj11
                    obtain rfl := some_inj hq59
                    replace hj5 := Eq.trans hv58 hj5
                    refine ge_seq_exit ?_
                    refine ge_block_miss (by kernel_rfl) ?_
                    refine ge_seq_exit ?_
                    refine ge_block_miss (by kernel_rfl) ?_
                    refine ge_seq_exit ?_
                    refine ge_block_hit (by kernel_rfl) ?_
                    refine ge_seq ?_
                    refine gk_seq (by kernel_rfl) ?_
                    refine gk_seq (by kernel_rfl) ?_
                    obtain ⟨j33, hj34, hj5⟩ := bind_some hj5
                    refine gk_join (fun t I' L' => I21 ≤ I' ∧ L = L' ∧ Knows 48 [(0, .string a0), (37, .bool j33)] t) ?_ ?_
                    · refine gk_region (by kernel_rfl) ?_
                      refine gl_pure 4 [0, 28] (K' := [(0, .string a0), (28, .bool (decide ((a0.size : Int) > 2)))]) (by kernel_rfl) ?_
                      refine gl_case 28 (b := (decide ((a0.size : Int) > 2))) (by kernel_rfl) (fun hc38 => ?_) (fun hc38 => ?_)
                      · have hj34 := cond_t hc38 hj34
                        refine gl_pure 1 [0, 28, 29] (K' := [(0, .string a0), (28, .bool true), (29, .string a0)]) (by kernel_rfl) ?_
                        obtain ⟨c39, hx40, hj34⟩ := bind_some hj34
                        refine gl_index' (T' := 9) (xs := (.tmp 29)) (xi := (.const (.int .i64 1))) (kd := .i64) hx40 (by kernel_rfl) (by kernel_rfl) (by kernel_rfl) (by kernel_rfl) (by kernel_rfl) ?_
                        refine gl_callQ (by kernel_rfl) (lex_hex_walk (r := (lex_hex c39))  rfl _) ?_
                        refine gl_pure 2 [0, 33] (K' := [(0, .string a0), (33, .bool (lex_hex c39))]) (by kernel_rfl) ?_
                        refine gl_case 33 (b := (lex_hex c39)) (by kernel_rfl) (fun hc41 => ?_) (fun hc41 => ?_)
                        · have hj34 := cond_t hc41 hj34
                          refine gl_pure 1 [0, 33, 34] (K' := [(0, .string a0), (33, .bool true), (34, .string a0)]) (by kernel_rfl) ?_
                          obtain ⟨c42, hx43, hj34⟩ := bind_some hj34
                          refine gl_index' (T' := 9) (xs := (.tmp 34)) (xi := (.const (.int .i64 2))) (kd := .i64) hx43 (by kernel_rfl) (by kernel_rfl) (by kernel_rfl) (by kernel_rfl) (by kernel_rfl) ?_
                          refine gl_callQ (by kernel_rfl) (lex_hex_walk (r := (lex_hex c42))  rfl _) ?_
                          refine gl_pure 1 [0, 37] (K' := [(0, .string a0), (37, .bool (lex_hex c42))]) (by kernel_rfl) ?_
                          refine gl_atE (by kernel_rfl) ?_
                          obtain rfl := some_inj hj34
                          exact ge_mid fun t ht => ⟨(Imm.refl _), rfl, ht.pick (l := [0, 37]) (by kernel_rfl)⟩
                        · have hj34 := cond_f hc41 hj34
                          refine gl_pure 4 [0, 37] (K' := [(0, .string a0), (37, .bool false)]) (by kernel_rfl) ?_
                          refine gl_atE (by kernel_rfl) ?_
                          obtain rfl := some_inj hj34
                          exact ge_mid fun t ht => ⟨(Imm.refl _), rfl, ht.pick (l := [0, 37]) (by kernel_rfl)⟩
                      · have hj34 := cond_f hc38 hj34
                        refine gl_pure 9 [0, 37] (K' := [(0, .string a0), (37, .bool false)]) (by kernel_rfl) ?_
                        refine gl_atE (by kernel_rfl) ?_
                        obtain rfl := some_inj hj34
                        exact ge_mid fun t ht => ⟨(Imm.refl _), rfl, ht.pick (l := [0, 37]) (by kernel_rfl)⟩
                    · rintro t I37 L' ⟨hI35, rfl, hK36⟩
                      refine ge_at hK36 ?_
                      refine ge_seq ?_
                      obtain ⟨j44, hj45, hj5⟩ := bind_some hj5
                      refine gk_join (fun t I' L' => ∃ j46, j44 = Sum.inl j46 ∧ I37 ≤ I' ∧ L = L' ∧ Knows 48 [] t) ?_ ?_
                      · refine gk_cond (b := j33) (by kernel_rfl) (by kernel_rfl) (fun hc50 => ?_) (fun hc50 => ?_)
                        · have hj45 := cond_t hc50 hj45
                          refine gk_seq (by kernel_rfl) ?_
                          refine gk_region (by kernel_rfl) ?_
                          refine gl_pure 1 [39] (K' := [(39, .string a0)]) (by kernel_rfl) ?_
                          obtain ⟨s52, hx51, hj45⟩ := bind_some hj45
                          refine gl_slice' (T' := 9) (xs := (.tmp 39)) (lo := (some (.const (.int .i64 1)))) (hi := (some (.const (.int .i64 3)))) hx51 (by kernel_rfl) (by kernel_rfl) (by kernel_rfl) (by kernel_rfl) (by kernel_rfl) (by kernel_rfl) ?_
                          obtain ⟨y53, hx54, hj45⟩ := bind_some hj45
                          refine gl_callQ (by kernel_rfl) (strconv_ParseUint_walk (r := y53)  hx54 _) ?_
                          refine gl_pure 5 [5] (K' := [(5, .int .u64 y53.1)]) (by kernel_rfl) ?_
                          refine gl_atE (by kernel_rfl) ?_
                          refine ge_seq ?_
                          refine gk_seq (by kernel_rfl) ?_
                          refine gk_region (by kernel_rfl) ?_
                          refine gl_pure 2 [5, 45] (K' := [(5, .int .u64 y53.1), (45, .bool (decide (y53.1 < 128)))]) (by kernel_rfl) ?_
                          refine gl_atE (by kernel_rfl) ?_
                          refine ge_seq ?_
                          refine gk_cond (b := (decide (y53.1 < 128))) (by kernel_rfl) (by kernel_rfl) (fun hc55 => ?_) (fun hc55 => ?_)
                          · have hj45 := cond_t hc55 hj45
                            refine gk_seq (by kernel_rfl) ?_
                            refine gk_region (by kernel_rfl) ?_
                            refine gl_pure 4 [2, 3] (K' := [(2, .int .u8 (IntKind.wrap .u8 y53.1)), (3, .int .i64 3)]) (by kernel_rfl) ?_
                            refine gl_atE (by kernel_rfl) ?_
                            refine ge_seq ?_
                            refine gk_ret (by kernel_rfl) ?_
                            refine ge_seq_ret ?_
                            obtain rfl := some_inj hj45
                            refine ge_seq_ret ?_
                            refine ge_block_ret ?_
                            refine ge_seq_ret ?_
                            obtain rfl := some_inj hj5
                            refine ge_seq_ret ?_
                            obtain rfl := some_inj hr
                            exact ge_result trivial (ResOk.tmp (by kernel_rfl) (ResOk.tmp (by kernel_rfl) ResOk.nil)) (Imm.trans hI19 hI35) ⟨rfl, rfl⟩
                          · have hj45 := cond_f hc55 hj45
                            refine gk_skip (by kernel_rfl) ?_
                            obtain rfl := some_inj hj45
                            exact ge_mid fun t ht => ⟨_, rfl, (Imm.refl _), rfl, ht.pick (l := []) (by kernel_rfl)⟩
                        · have hj45 := cond_f hc50 hj45
                          refine gk_skip (by kernel_rfl) ?_
                          obtain rfl := some_inj hj45
                          exact ge_mid fun t ht => ⟨_, rfl, (Imm.refl _), rfl, ht.pick (l := []) (by kernel_rfl)⟩
                      · rintro t I49 L' ⟨j46, rfl, hI47, rfl, hK48⟩
                        refine ge_at hK48 ?_
                        refine ge_seq ?_
                        refine gk_exit (by kernel_rfl) ?_
                        refine ge_block_hit (by kernel_rfl) ?_
                        obtain rfl := some_inj hj5
                        exact ge_mid fun t ht => ⟨_, rfl, (Imm.trans (Imm.trans hI19 hI35) hI47), rfl, ht.pick (l := []) (by kernel_rfl)⟩
                  · have hj11 := cond_f hc32 hj11
                    refine gk_skip (by kernel_rfl) ?_
                    refine ge_seq ?_
                    refine gk_exit (by kernel_rfl) ?_
                    refine ge_block_miss (by kernel_rfl) ?_
                    refine ge_seq_exit ?_
                    refine ge_block_miss (by kernel_rfl) ?_
                    refine ge_seq_exit ?_
                    obtain rfl := some_inj hj11
                    refine ge_seq_exit ?_
                    refine ge_block_miss (by kernel_rfl) ?_
                    refine ge_seq_exit ?_
                    refine ge_block_miss (by kernel_rfl) ?_
                    refine ge_seq_exit ?_
                    refine ge_block_miss (by kernel_rfl) ?_
                    refine ge_seq_exit ?_
                    refine ge_block_hit (by kernel_rfl) ?_
                    obtain rfl := some_inj hj5
                    exact ge_mid fun t ht => ⟨_, rfl, hI19, rfl, ht.pick (l := []) (by kernel_rfl)⟩
      · rintro t I15 L' ⟨j12, rfl, hI13, rfl, hK14⟩
        refine ge_at hK14 ?_
        refine ge_seq ?_
        refine gk_seq (by kernel_rfl) ?_
        refine gk_seq (by kernel_rfl) ?_
        refine gk_region (by kernel_rfl) ?_
        refine gl_pure 3 [2, 3] (K' := [(2, .int .u8 j12), (3, .int .i64 1)]) (by kernel_rfl) ?_
        refine gl_atE (by kernel_rfl) ?_
        refine ge_seq ?_
        refine gk_ret (by kernel_rfl) ?_
        refine ge_seq_ret ?_
        refine ge_block_ret ?_
        refine ge_seq_ret ?_
        refine ge_block_ret ?_
        refine ge_seq_ret ?_
        refine ge_block_ret ?_
        refine ge_seq_ret ?_
        refine ge_block_ret ?_
        refine ge_seq_ret ?_
        obtain rfl := some_inj hj5
        refine ge_seq_ret ?_
        obtain rfl := some_inj hr
        exact ge_result trivial (ResOk.tmp (by kernel_rfl) (ResOk.tmp (by kernel_rfl) ResOk.nil)) hI13 ⟨rfl, rfl⟩
    · rintro t I9 L' ⟨j6, rfl, hI7, rfl, hK8⟩
      refine ge_at hK8 ?_
      refine ge_seq ?_
      refine gk_seq (by kernel_rfl) ?_
      refine gk_region (by kernel_rfl) ?_
      refine gl_pure 2 [2, 3] (K' := [(2, .int .u8 0), (3, .int .i64 0)]) (by kernel_rfl) ?_
      refine gl_atE (by kernel_rfl) ?_
      refine ge_seq ?_
      refine gk_ret (by kernel_rfl) ?_
      obtain rfl := some_inj hr
      exact ge_result trivial (ResOk.tmp (by kernel_rfl) (ResOk.tmp (by kernel_rfl) ResOk.nil)) hI7 ⟨rfl, rfl⟩
/-! 26 strings_Builder_WriteByte ('obj', 'imm') -/
noncomputable def strings_Builder_WriteByte (a0 : S50) (a1 : Int) : Option (Unit × S50) :=
  Option.bind (app ((strings_Builder_copyCheck (⟨a0.f1⟩ : S50)).f1) [a1]) fun (zs14 : List Int) =>
  some ((), (⟨zs14⟩ : S50))
theorem strings_Builder_WriteByte_walk {a0 : S50} {g0 : Nat} {q0_0 : Option Addr} {A0_1 : Option Addr} {c0_1 : Nat} {C0_1 : Own} {a1 : Int} {I : Imm} {r : Unit × S50}  (hq0_0 : q0_0 = none ∨ q0_0 = some (⟨g0, 0, none⟩ : Addr)) (hO0_1 : OwnS (Kd.int .u8) 5 I A0_1 c0_1 a0.f1 C0_1) (hr : strings_Builder_WriteByte a0 a1 = some r) (L : Own) :
    CallsTo Tryd.prog 26 #[.pointer (some ⟨g0, 0, none⟩), .int .u8 a1] I ((g0, .cells #[.pointer q0_0, .slice A0_1 a0.f1.length c0_1] 51) :: (C0_1 ++ L)) (fun v I' L' => ∃ q1_0 A1_1 c1_1 C1_1, (q1_0 = none ∨ q1_0 = some (⟨g0, 0, none⟩ : Addr)) ∧ OwnS (Kd.int .u8) 5 I' A1_1 c1_1 r.2.f1 C1_1 ∧ v = .nilIface ∧ (g0, .cells #[.pointer q1_0, .slice A1_1 r.2.f1.length c1_1] 51) :: (C1_1 ++ L) = L') := by
  unfold strings_Builder_WriteByte at hr
  refine callsTo_body (N := 17) Tryd.func26 (by kernel_rfl) (by kernel_rfl) (by kernel_rfl) ?_
  refine gk_pick [0, 1] (K' := [(0, .pointer (some ⟨g0, 0, none⟩)), (1, .int .u8 a1)]) (by kernel_rfl) ?_
  refine gk_seq (by kernel_rfl) ?_
  refine gk_region (by kernel_rfl) ?_
  refine gl_pure 1 [0, 1] (K' := [(0, .pointer (some ⟨g0, 0, none⟩)), (1, .int .u8 a1)]) (by kernel_rfl) ?_
  refine gl_atE (by kernel_rfl) ?_
  refine ge_seq ?_
  refine gk_seq (by kernel_rfl) ?_
  refine gk_region (by kernel_rfl) ?_
  refine gl_pure 1 [0, 1, 5] (K' := [(0, .pointer (some ⟨g0, 0, none⟩)), (1, .int .u8 a1), (5, .pointer (some ⟨g0, 0, none⟩))]) (by kernel_rfl) ?_
  refine gl_call (by kernel_rfl) (strings_Builder_copyCheck_walk (r := (strings_Builder_copyCheck (⟨a0.f1⟩ : S50))) (g0 := g0) (q0_0 := q0_0) (A0_1 := A0_1) (c0_1 := c0_1) (C0_1 := C0_1) (a0 := (⟨a0.f1⟩ : S50)) hq0_0 hO0_1 rfl _) ?_
  rintro v I1 L2 hI3 ⟨z4, A5, c6, C7, hO8, hO9, rfl, rfl⟩
  refine gl_atE (by kernel_rfl) ?_
  refine ge_seq ?_
  refine gk_seq (by kernel_rfl) ?_
  refine gk_region (by kernel_rfl) ?_
  refine gl_pure 4 [1, 7, 10] (K' := [(1, .int .u8 a1), (7, .pointer (some ⟨g0, 0, none⟩)), (10, .pointer (some ⟨g0, 1, none⟩))]) (by kernel_rfl) ?_
  refine gl_loadB (T' := 41) (xp := (.tmp 10)) (v := .slice A5 ((strings_Builder_copyCheck (⟨a0.f1⟩ : S50)).f1).length c6) (g := g0) (off := 1) (cs := #[.pointer z4, .slice A5 ((strings_Builder_copyCheck (⟨a0.f1⟩ : S50)).f1).length c6]) (e := 51) (fz := (0, 0)) (by kernel_rfl) (by kernel_rfl) (by kernel_rfl) List.mem_cons_self (by kernel_rfl) ?_
  refine gl_pure 1 [7, 11, 12] (K' := [(7, .pointer (some ⟨g0, 0, none⟩)), (11, .slice A5 ((strings_Builder_copyCheck (⟨a0.f1⟩ : S50)).f1).length c6), (12, .int .u8 a1)]) (by kernel_rfl) ?_
  refine gl_buildSlice (T' := 41) (e := 5) (n := 1) (len := 1) (parts := #[(0, (.tmp 12))]) (l := [(0, .int .u8 a1)]) (cs := #[.int .u8 a1]) (by kernel_rfl) (by kernel_rfl) (by kernel_rfl) (by kernel_rfl) (by kernel_rfl) (fun g10 => ?_)
  have hO11 : OwnS (Kd.int .u8) 5 I1 (some ⟨g10, 0, none⟩) 1 [a1] [(g10, .cells #[.int .u8 a1] 5)] := OwnS.lit (row_cons (l := [.int .u8 a1]) rfl (row_nil _ _)) rfl rfl rfl
  refine gl_reord (D := [(g10, .cells #[.int .u8 a1] 5)] ++ ((g0, .cells #[.pointer z4, .slice A5 ((strings_Builder_copyCheck (⟨a0.f1⟩ : S50)).f1).length c6] 51) :: (C7 ++ L))) (Reord.refl _) ?_
  obtain ⟨zs14, hz15, hr⟩ := bind_some hr
  refine gl_append (xv := .slice (some ⟨g10, 0, none⟩) [a1].length 1) (d := (Kd.int .u8)) (t := 41) (tx := 41) (e := 5) (s := (.tmp 11)) (x := (.tmp 13)) (xs := (strings_Builder_copyCheck (⟨a0.f1⟩ : S50)).f1) (fun X => [(g10, .cells #[.int .u8 a1] 5)] ++ ((g0, .cells #[.pointer z4, .slice A5 ((strings_Builder_copyCheck (⟨a0.f1⟩ : S50)).f1).length c6] 51) :: (X ++ L))) hz15 (by kernel_rfl) (by kernel_rfl) (by kernel_rfl) (by kernel_rfl) (by kernel_rfl) (by kernel_rfl) (fun X => (Upd.app _ (Upd.one _ (Upd.head _ X _)))) hO9 (SrcOk.slice (c := 1) (e := 5) (n := 1) (OwnS.rd hO11 (Upd.selfC _ _)) (by kernel_rfl)) (fun A16 n17 C18 hO19 => ?_)
  refine gl_pure 2 [14, 16] (K' := [(14, .slice A16 zs14.length n17), (16, .pointer (some ⟨g0, 1, none⟩))]) (by kernel_rfl) ?_
  refine gl_storeB (T' := 41) (xp := (.tmp 16)) (xv := (.tmp 14)) (v := .slice A16 zs14.length n17) (g := g0) (off := 1) (cs := #[.pointer z4, .slice A5 ((strings_Builder_copyCheck (⟨a0.f1⟩ : S50)).f1).length c6]) (cs' := #[.pointer z4, .slice A16 zs14.length n17]) (by kernel_rfl) (by kernel_rfl) (by kernel_rfl) (by kernel_rfl) (by kernel_rfl) (Upd.app _ (Upd.set _ _ _ _)) ?_ (by kernel_rfl)
  refine gl_atE (by kernel_rfl) ?_
  refine ge_seq ?_
  refine gk_seq (by kernel_rfl) ?_
  refine gk_region (by kernel_rfl) ?_
  refine gl_pure 1 [4] (K' := [(4, .nilIface)]) (by kernel_rfl) ?_
  refine gl_atE (by kernel_rfl) ?_
  refine ge_seq ?_
  refine gk_reord (D := (g0, .cells #[.pointer z4, .slice A16 zs14.length n17] 51) :: (C18 ++ L)) (Reord.step1 (Upd.app _ (Upd.rm1 _ _)) (Reord.step (Upd.app _ (Upd.rmC _ _)) (Reord.skipC (Reord.refl _)))) ?_
  refine gk_ret (by kernel_rfl) ?_
  obtain rfl := some_inj hr
  exact ge_result trivial (ResOk.tmp (by kernel_rfl) ResOk.nil) hI3 ⟨z4, A16, n17, C18, hO8, hO19, rfl, rfl⟩
/-! 79 utf8_appendRuneNonASCII_f79 ('own', 'imm') -/
noncomputable def utf8_appendRuneNonASCII_f79 (a0 : List Int) (a1 : Int) : Option (List Int) :=
  bif (decide ((IntKind.wrap .u32 a1) ≤ 2047)) then
  (Option.bind (app a0 [(bitOr .u8 192 (IntKind.wrap .u8 (shr .i32 a1 6))), (bitOr .u8 128 (bitAnd .u8 (IntKind.wrap .u8 a1) 63))]) fun (zs6 : List Int) =>
    some zs6)
  else
  (Option.bind (bif (decide ((IntKind.wrap .u32 a1) < 55296)) then
      (some (decide ((IntKind.wrap .u32 a1) < 55296)))
      else
      (some ((decide (57343 < (IntKind.wrap .u32 a1))) && (decide ((IntKind.wrap .u32 a1) ≤ 65535))))) fun (j12 : Bool) =>
    bif j12 then
    (Option.bind (app a0 [(bitOr .u8 224 (IntKind.wrap .u8 (shr .i32 a1 12))), (bitOr .u8 128 (bitAnd .u8 (IntKind.wrap .u8 (shr .i32 a1 6)) 63)), (bitOr .u8 128 (bitAnd .u8 (IntKind.wrap .u8 a1) 63))]) fun (zs29 : List Int) =>
      some zs29)
    else
    (bif ((decide ((IntKind.wrap .u32 a1) > 65535)) && (decide ((IntKind.wrap .u32 a1) ≤ 1114111))) then
      (Option.bind (app a0 [(bitOr .u8 240 (IntKind.wrap .u8 (shr .i32 a1 18))), (bitOr .u8 128 (bitAnd .u8 (IntKind.wrap .u8 (shr .i32 a1 12)) 63)), (bitOr .u8 128 (bitAnd .u8 (IntKind.wrap .u8 (shr .i32 a1 6)) 63)), (bitOr .u8 128 (bitAnd .u8 (IntKind.wrap .u8 a1) 63))]) fun (zs46 : List Int) =>
        some zs46)
      else
      (Option.bind (app a0 [239, 191, 189]) fun (zs56 : List Int) =>
        some zs56)))
theorem utf8_appendRuneNonASCII_f79_walk {a0 : List Int} {A0 : Option Addr} {c0 : Nat} {C0 : Own} {a1 : Int} {I : Imm} {r : (List Int)} (hO0 : OwnS (Kd.int .u8) 5 I A0 c0 a0 C0) (hr : utf8_appendRuneNonASCII_f79 a0 a1 = some r) (L : Own) :
    CallsTo Tryd.prog 79 #[.slice A0 a0.length c0, .int .i32 a1] I (C0 ++ L) (fun v I' L' => ∃ A0 c0 C0, OwnS (Kd.int .u8) 5 I' A0 c0 r C0 ∧ v = .slice A0 r.length c0 ∧ C0 ++ L = L') := by
  unfold utf8_appendRuneNonASCII_f79 at hr
  refine callsTo_body (N := 78) Tryd.func79 (by kernel_rfl) (by kernel_rfl) (by kernel_rfl) ?_
  refine gk_pick [0, 1] (K' := [(0, .slice A0 a0.length c0), (1, .int .i32 a1)]) (by kernel_rfl) ?_
  refine gk_seq (by kernel_rfl) ?_
  refine gk_region (by kernel_rfl) ?_
  refine gl_pure 1 [0, 1] (K' := [(0, .slice A0 a0.length c0), (1, .int .i32 a1)]) (by kernel_rfl) ?_
  refine gl_atE (by kernel_rfl) ?_
  refine ge_seq ?_
  refine gk_seq (by kernel_rfl) ?_
  refine gk_region (by kernel_rfl) ?_
  refine gl_pure 3 [0, 1, 5] (K' := [(0, .slice A0 a0.length c0), (1, .int .i32 a1), (5, .int .u32 (IntKind.wrap .u32 a1))]) (by kernel_rfl) ?_
  refine gl_atE (by kernel_rfl) ?_
  refine ge_seq ?_
  refine gk_block (by kernel_rfl) ?_
  refine gk_seq (by kernel_rfl) ?_
  refine gk_region (by kernel_rfl) ?_
  refine gl_pure 3 [0, 1, 5, 11] (K' := [(0, .slice A0 a0.length c0), (1, .int .i32 a1), (5, .int .u32 (IntKind.wrap .u32 a1)), (11, .bool (decide ((IntKind.wrap .u32 a1) ≤ 2047)))]) (by kernel_rfl) ?_
  refine gl_atE (by kernel_rfl) ?_
  refine ge_seq ?_
  refine gk_cond (b := (decide ((IntKind.wrap .u32 a1) ≤ 2047))) (by kernel_rfl) (by kernel_rfl) (fun hc1 => ?_) (fun hc1 => ?_)
  · have hr := cond_t hc1 hr
    refine gk_seq (by kernel_rfl) ?_
    refine gk_region (by kernel_rfl) ?_
    refine gl_pure 9 [14, 18, 22] (K' := [(14, .slice A0 a0.length c0), (18, .int .u8 (bitOr .u8 192 (IntKind.wrap .u8 (shr .i32 a1 6)))), (22, .int .u8 (bitOr .u8 128 (bitAnd .u8 (IntKind.wrap .u8 a1) 63)))]) (by kernel_rfl) ?_
    refine gl_buildSlice (T' := 41) (e := 5) (n := 1) (len := 2) (parts := #[(0, (.tmp 18)), (1, (.tmp 22))]) (l := [(0, .int .u8 (bitOr .u8 192 (IntKind.wrap .u8 (shr .i32 a1 6)))), (1, .int .u8 (bitOr .u8 128 (bitAnd .u8 (IntKind.wrap .u8 a1) 63)))]) (cs := #[.int .u8 (bitOr .u8 192 (IntKind.wrap .u8 (shr .i32 a1 6))), .int .u8 (bitOr .u8 128 (bitAnd .u8 (IntKind.wrap .u8 a1) 63))]) (by kernel_rfl) (by kernel_rfl) (by kernel_rfl) (by kernel_rfl) (by kernel_rfl) (fun g2 => ?_)
    have hO3 : OwnS (Kd.int .u8) 5 I (some ⟨g2, 0, none⟩) 2 [(bitOr .u8 192 (IntKind.wrap .u8 (shr .i32 a1 6))), (bitOr .u8 128 (bitAnd .u8 (IntKind.wrap .u8 a1) 63))] [(g2, .cells #[.int .u8 (bitOr .u8 192 (IntKind.wrap .u8 (shr .i32 a1 6))), .int .u8 (bitOr .u8 128 (bitAnd .u8 (IntKind.wrap .u8 a1) 63))] 5)] := OwnS.lit (row_cons (l := [.int .u8 (bitOr .u8 192 (IntKind.wrap .u8 (shr .i32 a1 6)))]) rfl (row_cons (l := [.int .u8 (bitOr .u8 128 (bitAnd .u8 (IntKind.wrap .u8 a1) 63))]) rfl (row_nil _ _))) rfl rfl rfl
    refine gl_reord (D := [(g2, .cells #[.int .u8 (bitOr .u8 192 (IntKind.wrap .u8 (shr .i32 a1 6))), .int .u8 (bitOr .u8 128 (bitAnd .u8 (IntKind.wrap .u8 a1) 63))] 5)] ++ (C0 ++ L)) (Reord.refl _) ?_
    obtain ⟨zs6, hz7, hr⟩ := bind_some hr
    refine gl_append (xv := .slice (some ⟨g2, 0, none⟩) [(bitOr .u8 192 (IntKind.wrap .u8 (shr .i32 a1 6))), (bitOr .u8 128 (bitAnd .u8 (IntKind.wrap .u8 a1) 63))].length 2) (d := (Kd.int .u8)) (t := 41) (tx := 41) (e := 5) (s := (.tmp 14)) (x := (.tmp 23)) (xs := a0) (fun X => [(g2, .cells #[.int .u8 (bitOr .u8 192 (IntKind.wrap .u8 (shr .i32 a1 6))), .int .u8 (bitOr .u8 128 (bitAnd .u8 (IntKind.wrap .u8 a1) 63))] 5)] ++ (X ++ L)) hz7 (by kernel_rfl) (by kernel_rfl) (by kernel_rfl) (by kernel_rfl) (by kernel_rfl) (by kernel_rfl) (fun X => (Upd.app _ (Upd.head _ X _))) hO0 (SrcOk.slice (c := 2) (e := 5) (n := 1) (OwnS.rd hO3 (Upd.selfC _ _)) (by kernel_rfl)) (fun A8 n9 C10 hO11 => ?_)
    refine gl_pure 1 [4] (K' := [(4, .slice A8 zs6.length n9)]) (by kernel_rfl) ?_
    refine gl_atE (by kernel_rfl) ?_
    refine ge_seq ?_
    refine gk_reord (D := C10 ++ L) (Reord.step (Upd.app _ (Upd.rmC _ _)) (Reord.skipC (Reord.refl _))) ?_
    refine gk_ret (by kernel_rfl) ?_
    refine ge_block_ret ?_
    obtain rfl := some_inj hr
    exact ge_result trivial (ResOk.tmp (by kernel_rfl) ResOk.nil) (Imm.refl _) ⟨A8, n9, C10, hO11, rfl, rfl⟩
  · have hr := cond_f hc1 hr
    refine gk_seq (by kernel_rfl) ?_
    refine gk_seq (by kernel_rfl) ?_
    refine gk_region (by kernel_rfl) ?_
    refine gl_pure 3 [0, 1, 5, 25] (K' := [(0, .slice A0 a0.length c0), (1, .int .i32 a1), (5, .int .u32 (IntKind.wrap .u32 a1)), (25, .bool (decide ((IntKind.wrap .u32 a1) < 55296)))]) (by kernel_rfl) ?_
    refine gl_atE (by kernel_rfl) ?_
    refine ge_seq ?_
    obtain ⟨j12, hj13, hr⟩ := bind_some hr
    refine gk_join (fun t I' L' => I ≤ I' ∧ C0 ++ L = L' ∧ Knows 78 [(0, .slice A0 a0.length c0), (1, .int .i32 a1), (5, .int .u32 (IntKind.wrap .u32 a1)), (25, .bool j12)] t) ?_ ?_
    · refine gk_cond (b := (decide ((IntKind.wrap .u32 a1) < 55296))) (by kernel_rfl) (by kernel_rfl) (fun hc17 => ?_) (fun hc17 => ?_)
      · have hj13 := cond_t hc17 hj13
        refine gk_skip (by kernel_rfl) ?_
        obtain rfl := some_inj hj13
        exact ge_mid fun t ht => ⟨(Imm.refl _), rfl, ht.pick (l := [0, 1, 5, 25]) (by kernel_rfl)⟩
      · have hj13 := cond_f hc17 hj13
        obtain ⟨b20, hb21⟩ : ∃ z, z = ((decide (57343 < (IntKind.wrap .u32 a1))) && (decide ((IntKind.wrap .u32 a1) ≤ 65535))) := ⟨_, rfl⟩
        refine gk_join (fun t I' L' => I ≤ I' ∧ C0 ++ L = L' ∧ Knows 78 [(0, .slice A0 a0.length c0), (1, .int .i32 a1), (5, .int .u32 (IntKind.wrap .u32 a1)), (25, .bool b20)] t) ?_ ?_
        · refine gk_region (by kernel_rfl) ?_
          refine gl_pure 3 [0, 1, 5, 30] (K' := [(0, .slice A0 a0.length c0), (1, .int .i32 a1), (5, .int .u32 (IntKind.wrap .u32 a1)), (30, .bool (decide (57343 < (IntKind.wrap .u32 a1))))]) (by kernel_rfl) ?_
          refine gl_case 30 (b := (decide (57343 < (IntKind.wrap .u32 a1)))) (by kernel_rfl) (fun hc23 => ?_) (fun hc23 => ?_)
          · refine gl_pure 4 [0, 1, 5, 25] (K' := [(0, .slice A0 a0.length c0), (1, .int .i32 a1), (5, .int .u32 (IntKind.wrap .u32 a1)), (25, .bool (decide ((IntKind.wrap .u32 a1) ≤ 65535)))]) (by kernel_rfl) ?_
            refine gl_atE (by kernel_rfl) ?_
            exact ge_mid fun t ht => ⟨(Imm.refl _), rfl, by rw [(show b20 = (decide ((IntKind.wrap .u32 a1) ≤ 65535)) from hb21.trans (by rw [hc23]; try rfl))]; exact ht.pick (l := [0, 1, 5, 25]) (by kernel_rfl)⟩
          · refine gl_pure 4 [0, 1, 5, 25] (K' := [(0, .slice A0 a0.length c0), (1, .int .i32 a1), (5, .int .u32 (IntKind.wrap .u32 a1)), (25, .bool false)]) (by kernel_rfl) ?_
            refine gl_atE (by kernel_rfl) ?_
            exact ge_mid fun t ht => ⟨(Imm.refl _), rfl, by rw [(show b20 = false from hb21.trans (by rw [hc23]; try rfl))]; exact ht.pick (l := [0, 1, 5, 25]) (by kernel_rfl)⟩
        · rintro t I22 L' ⟨hI18, rfl, hK19⟩
          subst hb21
          refine ge_at hK19 ?_
          obtain rfl := some_inj hj13
          exact ge_mid fun t ht => ⟨hI18, rfl, ht.pick (l := [0, 1, 5, 25]) (by kernel_rfl)⟩
    · rintro t I16 L' ⟨hI14, rfl, hK15⟩
      refine ge_at hK15 ?_
      refine ge_seq ?_
      refine gk_cond (b := j12) (by kernel_rfl) (by kernel_rfl) (fun hc24 => ?_) (fun hc24 => ?_)
      · have hr := cond_t hc24 hr
        refine gk_seq (by kernel_rfl) ?_
        refine gk_region (by kernel_rfl) ?_
        refine gl_pure 14 [34, 38, 43, 47] (K' := [(34, .slice A0 a0.length c0), (38, .int .u8 (bitOr .u8 224 (IntKind.wrap .u8 (shr .i32 a1 12)))), (43, .int .u8 (bitOr .u8 128 (bitAnd .u8 (IntKind.wrap .u8 (shr .i32 a1 6)) 63))), (47, .int .u8 (bitOr .u8 128 (bitAnd .u8 (IntKind.wrap .u8 a1) 63)))]) (by kernel_rfl) ?_
        refine gl_buildSlice (T' := 41) (e := 5) (n := 1) (len := 3) (parts := #[(0, (.tmp 38)), (1, (.tmp 43)), (2, (.tmp 47))]) (l := [(0, .int .u8 (bitOr .u8 224 (IntKind.wrap .u8 (shr .i32 a1 12)))), (1, .int .u8 (bitOr .u8 128 (bitAnd .u8 (IntKind.wrap .u8 (shr .i32 a1 6)) 63))), (2, .int .u8 (bitOr .u8 128 (bitAnd .u8 (IntKind.wrap .u8 a1) 63)))]) (cs := #[.int .u8 (bitOr .u8 224 (IntKind.wrap .u8 (shr .i32 a1 12))), .int .u8 (bitOr .u8 128 (bitAnd .u8 (IntKind.wrap .u8 (shr .i32 a1 6)) 63)), .int .u8 (bitOr .u8 128 (bitAnd .u8 (IntKind.wrap .u8 a1) 63))]) (by kernel_rfl) (by kernel_rfl) (by kernel_rfl) (by kernel_rfl) (by kernel_rfl) (fun g25 => ?_)
        have hO26 : OwnS (Kd.int .u8) 5 I16 (some ⟨g25, 0, none⟩) 3 [(bitOr .u8 224 (IntKind.wrap .u8 (shr .i32 a1 12))), (bitOr .u8 128 (bitAnd .u8 (IntKind.wrap .u8 (shr .i32 a1 6)) 63)), (bitOr .u8 128 (bitAnd .u8 (IntKind.wrap .u8 a1) 63))] [(g25, .cells #[.int .u8 (bitOr .u8 224 (IntKind.wrap .u8 (shr .i32 a1 12))), .int .u8 (bitOr .u8 128 (bitAnd .u8 (IntKind.wrap .u8 (shr .i32 a1 6)) 63)), .int .u8 (bitOr .u8 128 (bitAnd .u8 (IntKind.wrap .u8 a1) 63))] 5)] := OwnS.lit (row_cons (l := [.int .u8 (bitOr .u8 224 (IntKind.wrap .u8 (shr .i32 a1 12)))]) rfl (row_cons (l := [.int .u8 (bitOr .u8 128 (bitAnd .u8 (IntKind.wrap .u8 (shr .i32 a1 6)) 63))]) rfl (row_cons (l := [.int .u8 (bitOr .u8 128 (bitAnd .u8 (IntKind.wrap .u8 a1) 63))]) rfl (row_nil _ _)))) rfl rfl rfl
        refine gl_reord (D := [(g25, .cells #[.int .u8 (bitOr .u8 224 (IntKind.wrap .u8 (shr .i32 a1 12))), .int .u8 (bitOr .u8 128 (bitAnd .u8 (IntKind.wrap .u8 (shr .i32 a1 6)) 63)), .int .u8 (bitOr .u8 128 (bitAnd .u8 (IntKind.wrap .u8 a1) 63))] 5)] ++ (C0 ++ L)) (Reord.refl _) ?_
        obtain ⟨zs29, hz30, hr⟩ := bind_some hr
        refine gl_append (xv := .slice (some ⟨g25, 0, none⟩) [(bitOr .u8 224 (IntKind.wrap .u8 (shr .i32 a1 12))), (bitOr .u8 128 (bitAnd .u8 (IntKind.wrap .u8 (shr .i32 a1 6)) 63)), (bitOr .u8 128 (bitAnd .u8 (IntKind.wrap .u8 a1) 63))].length 3) (d := (Kd.int .u8)) (t := 41) (tx := 41) (e := 5) (s := (.tmp 34)) (x := (.tmp 48)) (xs := a0) (fun X => [(g25, .cells #[.int .u8 (bitOr .u8 224 (IntKind.wrap .u8 (shr .i32 a1 12))), .int .u8 (bitOr .u8 128 (bitAnd .u8 (IntKind.wrap .u8 (shr .i32 a1 6)) 63)), .int .u8 (bitOr .u8 128 (bitAnd .u8 (IntKind.wrap .u8 a1) 63))] 5)] ++ (X ++ L)) hz30 (by kernel_rfl) (by kernel_rfl) (by kernel_rfl) (by kernel_rfl) (by kernel_rfl) (by kernel_rfl) (fun X => (Upd.app _ (Upd.head _ X _))) (hO0.mono hI14) (SrcOk.slice (c := 3) (e := 5) (n := 1) (OwnS.rd hO26 (Upd.selfC _ _)) (by kernel_rfl)) (fun A31 n32 C33 hO34 => ?_)
        refine gl_pure 1 [4] (K' := [(4, .slice A31 zs29.length n32)]) (by kernel_rfl) ?_
        refine gl_atE (by kernel_rfl) ?_
        refine ge_seq ?_
        refine gk_reord (D := C33 ++ L) (Reord.step (Upd.app _ (Upd.rmC _ _)) (Reord.skipC (Reord.refl _))) ?_
        refine gk_ret (by kernel_rfl) ?_
        refine ge_block_ret ?_
        obtain rfl := some_inj hr
        exact ge_result trivial (ResOk.tmp (by kernel_rfl) ResOk.nil) hI14 ⟨A31, n32, C33, hO34, rfl, rfl⟩
      · have hr := cond_f hc24 hr
        refine gk_seq (by kernel_rfl) ?_
        obtain ⟨b37, hb38⟩ : ∃ z, z = ((decide ((IntKind.wrap .u32 a1) > 65535)) && (decide ((IntKind.wrap .u32 a1) ≤ 1114111))) := ⟨_, rfl⟩
        refine gk_join (fun t I' L' => I16 ≤ I' ∧ C0 ++ L = L' ∧ Knows 78 [(0, .slice A0 a0.length c0), (1, .int .i32 a1), (50, .bool b37)] t) ?_ ?_
        · refine gk_region (by kernel_rfl) ?_
          refine gl_pure 3 [0, 1, 5, 53] (K' := [(0, .slice A0 a0.length c0), (1, .int .i32 a1), (5, .int .u32 (IntKind.wrap .u32 a1)), (53, .bool (decide ((IntKind.wrap .u32 a1) > 65535)))]) (by kernel_rfl) ?_
          refine gl_case 53 (b := (decide ((IntKind.wrap .u32 a1) > 65535))) (by kernel_rfl) (fun hc40 => ?_) (fun hc40 => ?_)
          · refine gl_pure 4 [0, 1, 50] (K' := [(0, .slice A0 a0.length c0), (1, .int .i32 a1), (50, .bool (decide ((IntKind.wrap .u32 a1) ≤ 1114111)))]) (by kernel_rfl) ?_
            refine gl_atE (by kernel_rfl) ?_
            exact ge_mid fun t ht => ⟨(Imm.refl _), rfl, by rw [(show b37 = (decide ((IntKind.wrap .u32 a1) ≤ 1114111)) from hb38.trans (by rw [hc40]; try rfl))]; exact ht.pick (l := [0, 1, 50]) (by kernel_rfl)⟩
          · refine gl_pure 4 [0, 1, 50] (K' := [(0, .slice A0 a0.length c0), (1, .int .i32 a1), (50, .bool false)]) (by kernel_rfl) ?_
            refine gl_atE (by kernel_rfl) ?_
            exact ge_mid fun t ht => ⟨(Imm.refl _), rfl, by rw [(show b37 = false from hb38.trans (by rw [hc40]; try rfl))]; exact ht.pick (l := [0, 1, 50]) (by kernel_rfl)⟩
        · rintro t I39 L' ⟨hI35, rfl, hK36⟩
          subst hb38
          refine ge_at hK36 ?_
          refine ge_seq ?_
          refine gk_cond (b := ((decide ((IntKind.wrap .u32 a1) > 65535)) && (decide ((IntKind.wrap .u32 a1) ≤ 1114111)))) (by kernel_rfl) (by kernel_rfl) (fun hc41 => ?_) (fun hc41 => ?_)
          · have hr := cond_t hc41 hr
            refine gk_seq (by kernel_rfl) ?_
            refine gk_region (by kernel_rfl) ?_
            refine gl_pure 19 [57, 61, 66, 71, 75] (K' := [(57, .slice A0 a0.length c0), (61, .int .u8 (bitOr .u8 240 (IntKind.wrap .u8 (shr .i32 a1 18)))), (66, .int .u8 (bitOr .u8 128 (bitAnd .u8 (IntKind.wrap .u8 (shr .i32 a1 12)) 63))), (71, .int .u8 (bitOr .u8 128 (bitAnd .u8 (IntKind.wrap .u8 (shr .i32 a1 6)) 63))), (75, .int .u8 (bitOr .u8 128 (bitAnd .u8 (IntKind.wrap .u8 a1) 63)))]) (by kernel_rfl) ?_
            refine gl_buildSlice (T' := 41) (e := 5) (n := 1) (len := 4) (parts := #[(0, (.tmp 61)), (1, (.tmp 66)), (2, (.tmp 71)), (3, (.tmp 75))]) (l := [(0, .int .u8 (bitOr .u8 240 (IntKind.wrap .u8 (shr .i32 a1 18)))), (1, .int .u8 (bitOr .u8 128 (bitAnd .u8 (IntKind.wrap .u8 (shr .i32 a1 12)) 63))), (2, .int .u8 (bitOr .u8 128 (bitAnd .u8 (IntKind.wrap .u8 (shr .i32 a1 6)) 63))), (3, .int .u8 (bitOr .u8 128 (bitAnd .u8 (IntKind.wrap .u8 a1) 63)))]) (cs := #[.int .u8 (bitOr .u8 240 (IntKind.wrap .u8 (shr .i32 a1 18))), .int .u8 (bitOr .u8 128 (bitAnd .u8 (IntKind.wrap .u8 (shr .i32 a1 12)) 63)), .int .u8 (bitOr .u8 128 (bitAnd .u8 (IntKind.wrap .u8 (shr .i32 a1 6)) 63)), .int .u8 (bitOr .u8 128 (bitAnd .u8 (IntKind.wrap .u8 a1) 63))]) (by kernel_rfl) (by kernel_rfl) (by kernel_rfl) (by kernel_rfl) (by kernel_rfl) (fun g42 => ?_)
            have hO43 : OwnS (Kd.int .u8) 5 I39 (some ⟨g42, 0, none⟩) 4 [(bitOr .u8 240 (IntKind.wrap .u8 (shr .i32 a1 18))), (bitOr .u8 128 (bitAnd .u8 (IntKind.wrap .u8 (shr .i32 a1 12)) 63)), (bitOr .u8 128 (bitAnd .u8 (IntKind.wrap .u8 (shr .i32 a1 6)) 63)), (bitOr .u8 128 (bitAnd .u8 (IntKind.wrap .u8 a1) 63))] [(g42, .cells #[.int .u8 (bitOr .u8 240 (IntKind.wrap .u8 (shr .i32 a1 18))), .int .u8 (bitOr .u8 128 (bitAnd .u8 (IntKind.wrap .u8 (shr .i32 a1 12)) 63)), .int .u8 (bitOr .u8 128 (bitAnd .u8 (IntKind.wrap .u8 (shr .i32 a1 6)) 63)), .int .u8 (bitOr .u8 128 (bitAnd .u8 (IntKind.wrap .u8 a1) 63))] 5)] := OwnS.lit (row_cons (l := [.int .u8 (bitOr .u8 240 (IntKind.wrap .u8 (shr .i32 a1 18)))]) rfl (row_cons (l := [.int .u8 (bitOr .u8 128 (bitAnd .u8 (IntKind.wrap .u8 (shr .i32 a1 12)) 63))]) rfl (row_cons (l := [.int .u8 (bitOr .u8 128 (bitAnd .u8 (IntKind.wrap .u8 (shr .i32 a1 6)) 63))]) rfl (row_cons (l := [.int .u8 (bitOr .u8 128 (bitAnd .u8 (IntKind.wrap .u8 a1) 63))]) rfl (row_nil _ _))))) rfl rfl rfl
            refine gl_reord (D := [(g42, .cells #[.int .u8 (bitOr .u8 240 (IntKind.wrap .u8 (shr .i32 a1 18))), .int .u8 (bitOr .u8 128 (bitAnd .u8 (IntKind.wrap .u8 (shr .i32 a1 12)) 63)), .int .u8 (bitOr .u8 128 (bitAnd .u8 (IntKind.wrap .u8 (shr .i32 a1 6)) 63)), .int .u8 (bitOr .u8 128 (bitAnd .u8 (IntKind.wrap .u8 a1) 63))] 5)] ++ (C0 ++ L)) (Reord.refl _) ?_
            obtain ⟨zs46, hz47, hr⟩ := bind_some hr
            refine gl_append (xv := .slice (some ⟨g42, 0, none⟩) [(bitOr .u8 240 (IntKind.wrap .u8 (shr .i32 a1 18))), (bitOr .u8 128 (bitAnd .u8 (IntKind.wrap .u8 (shr .i32 a1 12)) 63)), (bitOr .u8 128 (bitAnd .u8 (IntKind.wrap .u8 (shr .i32 a1 6)) 63)), (bitOr .u8 128 (bitAnd .u8 (IntKind.wrap .u8 a1) 63))].length 4) (d := (Kd.int .u8)) (t := 41) (tx := 41) (e := 5) (s := (.tmp 57)) (x := (.tmp 76)) (xs := a0) (fun X => [(g42, .cells #[.int .u8 (bitOr .u8 240 (IntKind.wrap .u8 (shr .i32 a1 18))), .int .u8 (bitOr .u8 128 (bitAnd .u8 (IntKind.wrap .u8 (shr .i32 a1 12)) 63)), .int .u8 (bitOr .u8 128 (bitAnd .u8 (IntKind.wrap .u8 (shr .i32 a1 6)) 63)), .int .u8 (bitOr .u8 128 (bitAnd .u8 (IntKind.wrap .u8 a1) 63))] 5)] ++ (X ++ L)) hz47 (by kernel_rfl) (by kernel_rfl) (by kernel_rfl) (by kernel_rfl) (by kernel_rfl) (by kernel_rfl) (fun X => (Upd.app _ (Upd.head _ X _))) (hO0.mono (Imm.trans hI14 hI35)) (SrcOk.slice (c := 4) (e := 5) (n := 1) (OwnS.rd hO43 (Upd.selfC _ _)) (by kernel_rfl)) (fun A48 n49 C50 hO51 => ?_)
            refine gl_pure 1 [4] (K' := [(4, .slice A48 zs46.length n49)]) (by kernel_rfl) ?_
            refine gl_atE (by kernel_rfl) ?_
            refine ge_seq ?_
            refine gk_reord (D := C50 ++ L) (Reord.step (Upd.app _ (Upd.rmC _ _)) (Reord.skipC (Reord.refl _))) ?_
            refine gk_ret (by kernel_rfl) ?_
            refine ge_block_ret ?_
            obtain rfl := some_inj hr
            exact ge_result trivial (ResOk.tmp (by kernel_rfl) ResOk.nil) (Imm.trans hI14 hI35) ⟨A48, n49, C50, hO51, rfl, rfl⟩
          · have hr := cond_f hc41 hr
            refine gk_seq (by kernel_rfl) ?_
            refine gk_region (by kernel_rfl) ?_
            refine gl_pure 1 [8] (K' := [(8, .slice A0 a0.length c0)]) (by kernel_rfl) ?_
            refine gl_buildSlice (T' := 41) (e := 5) (n := 1) (len := 3) (parts := #[(0, (.const (.int .u8 239))), (1, (.const (.int .u8 191))), (2, (.const (.int .u8 189)))]) (l := [(0, .int .u8 239), (1, .int .u8 191), (2, .int .u8 189)]) (cs := #[.int .u8 239, .int .u8 191, .int .u8 189]) (by kernel_rfl) (by kernel_rfl) (by kernel_rfl) (by kernel_rfl) (by kernel_rfl) (fun g52 => ?_)
            have hO53 : OwnS (Kd.int .u8) 5 I39 (some ⟨g52, 0, none⟩) 3 [239, 191, 189] [(g52, .cells #[.int .u8 239, .int .u8 191, .int .u8 189] 5)] := OwnS.lit (row_cons (l := [.int .u8 239]) rfl (row_cons (l := [.int .u8 191]) rfl (row_cons (l := [.int .u8 189]) rfl (row_nil _ _)))) rfl rfl rfl
            refine gl_reord (D := [(g52, .cells #[.int .u8 239, .int .u8 191, .int .u8 189] 5)] ++ (C0 ++ L)) (Reord.refl _) ?_
            obtain ⟨zs56, hz57, hr⟩ := bind_some hr
            refine gl_append (xv := .slice (some ⟨g52, 0, none⟩) [239, 191, 189].length 3) (d := (Kd.int .u8)) (t := 41) (tx := 41) (e := 5) (s := (.tmp 8)) (x := (.tmp 9)) (xs := a0) (fun X => [(g52, .cells #[.int .u8 239, .int .u8 191, .int .u8 189] 5)] ++ (X ++ L)) hz57 (by kernel_rfl) (by kernel_rfl) (by kernel_rfl) (by kernel_rfl) (by kernel_rfl) (by kernel_rfl) (fun X => (Upd.app _ (Upd.head _ X _))) (hO0.mono (Imm.trans hI14 hI35)) (SrcOk.slice (c := 3) (e := 5) (n := 1) (OwnS.rd hO53 (Upd.selfC _ _)) (by kernel_rfl)) (fun A58 n59 C60 hO61 => ?_)
            refine gl_pure 1 [4] (K' := [(4, .slice A58 zs56.length n59)]) (by kernel_rfl) ?_
            refine gl_atE (by kernel_rfl) ?_
            refine ge_seq ?_
            refine gk_reord (D := C60 ++ L) (Reord.step (Upd.app _ (Upd.rmC _ _)) (Reord.skipC (Reord.refl _))) ?_
            refine gk_ret (by kernel_rfl) ?_
            refine ge_block_ret ?_
            obtain rfl := some_inj hr
            exact ge_result trivial (ResOk.tmp (by kernel_rfl) ResOk.nil) (Imm.trans hI14 hI35) ⟨A58, n59, C60, hO61, rfl, rfl⟩
/-! 71 utf8_AppendRune_f71 ('own', 'imm') -/
noncomputable def utf8_AppendRune_f71 (a0 : List Int) (a1 : Int) : Option (List Int) :=
  bif (decide ((IntKind.wrap .u32 a1) ≤ 127)) then
  (Option.bind (app a0 [(IntKind.wrap .u8 a1)]) fun (zs6 : List Int) =>
    some zs6)
  else
  (Option.bind (utf8_appendRuneNonASCII_f79 a0 a1) fun (y12 : (List Int)) =>
    some y12)
theorem utf8_AppendRune_f71_walk {a0 : List Int} {A0 : Option Addr} {c0 : Nat} {C0 : Own} {a1 : Int} {I : Imm} {r : (List Int)} (hO0 : OwnS (Kd.int .u8) 5 I A0 c0 a0 C0) (hr : utf8_AppendRune_f71 a0 a1 = some r) (L : Own) :
    CallsTo Tryd.prog 71 #[.slice A0 a0.length c0, .int .i32 a1] I (C0 ++ L) (fun v I' L' => ∃ A0 c0 C0, OwnS (Kd.int .u8) 5 I' A0 c0 r C0 ∧ v = .slice A0 r.length c0 ∧ C0 ++ L = L') := by
  unfold utf8_AppendRune_f71 at hr
  refine callsTo_body (N := 16) Tryd.func71 (by kernel_rfl) (by kernel_rfl) (by kernel_rfl) ?_
  refine gk_pick [0, 1] (K' := [(0, .slice A0 a0.length c0), (1, .int .i32 a1)]) (by kernel_rfl) ?_
  refine gk_seq (by kernel_rfl) ?_
  refine gk_region (by kernel_rfl) ?_
  refine gl_pure 1 [0, 1] (K' := [(0, .slice A0 a0.length c0), (1, .int .i32 a1)]) (by kernel_rfl) ?_
  refine gl_atE (by kernel_rfl) ?_
  refine ge_seq ?_
  refine gk_seq (by kernel_rfl) ?_
  refine gk_seq (by kernel_rfl) ?_
  refine gk_region (by kernel_rfl) ?_
  refine gl_pure 3 [0, 1, 7] (K' := [(0, .slice A0 a0.length c0), (1, .int .i32 a1), (7, .bool (decide ((IntKind.wrap .u32 a1) ≤ 127)))]) (by kernel_rfl) ?_
  refine gl_atE (by kernel_rfl) ?_
  refine ge_seq ?_
  refine gk_cond (b := (decide ((IntKind.wrap .u32 a1) ≤ 127))) (by kernel_rfl) (by kernel_rfl) (fun hc1 => ?_) (fun hc1 => ?_)
  · have hr := cond_t hc1 hr
    refine gk_seq (by kernel_rfl) ?_
    refine gk_region (by kernel_rfl) ?_
    refine gl_pure 3 [8, 10] (K' := [(8, .slice A0 a0.length c0), (10, .int .u8 (IntKind.wrap .u8 a1))]) (by kernel_rfl) ?_
    refine gl_buildSlice (T' := 41) (e := 5) (n := 1) (len := 1) (parts := #[(0, (.tmp 10))]) (l := [(0, .int .u8 (IntKind.wrap .u8 a1))]) (cs := #[.int .u8 (IntKind.wrap .u8 a1)]) (by kernel_rfl) (by kernel_rfl) (by kernel_rfl) (by kernel_rfl) (by kernel_rfl) (fun g2 => ?_)
    have hO3 : OwnS (Kd.int .u8) 5 I (some ⟨g2, 0, none⟩) 1 [(IntKind.wrap .u8 a1)] [(g2, .cells #[.int .u8 (IntKind.wrap .u8 a1)] 5)] := OwnS.lit (row_cons (l := [.int .u8 (IntKind.wrap .u8 a1)]) rfl (row_nil _ _)) rfl rfl rfl
    refine gl_reord (D := [(g2, .cells #[.int .u8 (IntKind.wrap .u8 a1)] 5)] ++ (C0 ++ L)) (Reord.refl _) ?_
    obtain ⟨zs6, hz7, hr⟩ := bind_some hr
    refine gl_append (xv := .slice (some ⟨g2, 0, none⟩) [(IntKind.wrap .u8 a1)].length 1) (d := (Kd.int .u8)) (t := 41) (tx := 41) (e := 5) (s := (.tmp 8)) (x := (.tmp 11)) (xs := a0) (fun X => [(g2, .cells #[.int .u8 (IntKind.wrap .u8 a1)] 5)] ++ (X ++ L)) hz7 (by kernel_rfl) (by kernel_rfl) (by kernel_rfl) (by kernel_rfl) (by kernel_rfl) (by kernel_rfl) (fun X => (Upd.app _ (Upd.head _ X _))) hO0 (SrcOk.slice (c := 1) (e := 5) (n := 1) (OwnS.rd hO3 (Upd.selfC _ _)) (by kernel_rfl)) (fun A8 n9 C10 hO11 => ?_)
    refine gl_pure 1 [4] (K' := [(4, .slice A8 zs6.length n9)]) (by kernel_rfl) ?_
    refine gl_atE (by kernel_rfl) ?_
    refine ge_seq ?_
    refine gk_reord (D := C10 ++ L) (Reord.step (Upd.app _ (Upd.rmC _ _)) (Reord.skipC (Reord.refl _))) ?_
    refine gk_ret (by kernel_rfl) ?_
    refine ge_seq_ret ?_
    obtain rfl := some_inj hr
    exact ge_result trivial (ResOk.tmp (by kernel_rfl) ResOk.nil) (Imm.refl _) ⟨A8, n9, C10, hO11, rfl, rfl⟩
  · have hr := cond_f hc1 hr
    refine gk_skip (by kernel_rfl) ?_
    refine ge_seq ?_
    refine gk_seq (by kernel_rfl) ?_
    refine gk_region (by kernel_rfl) ?_
    refine gl_pure 2 [13, 14] (K' := [(13, .slice A0 a0.length c0), (14, .int .i32 a1)]) (by kernel_rfl) ?_
    obtain ⟨y12, hx13, hr⟩ := bind_some hr
    refine gl_call (by kernel_rfl) (utf8_appendRuneNonASCII_f79_walk (r := y12) (A0 := A0) (c0 := c0) (C0 := C0) (a0 := a0) hO0 hx13 _) ?_
    rintro v I14 L15 hI16 ⟨A17, c18, C19, hO20, rfl, rfl⟩
    refine gl_pure 1 [4] (K' := [(4, .slice A17 y12.length c18)]) (by kernel_rfl) ?_
    refine gl_atE (by kernel_rfl) ?_
    refine ge_seq ?_
    refine gk_ret (by kernel_rfl) ?_
    obtain rfl := some_inj hr
    exact ge_result trivial (ResOk.tmp (by kernel_rfl) ResOk.nil) hI16 ⟨A17, c18, C19, hO20, rfl, rfl⟩
/-! 57 strings_Builder_WriteRune ('obj', 'imm') -/
noncomputable def strings_Builder_WriteRune (a0 : S50) (a1 : Int) : Option (Int × Unit × S50) :=
  Option.bind (utf8_AppendRune_f71 ((strings_Builder_copyCheck (⟨a0.f1⟩ : S50)).f1) a1) fun (y10 : (List Int)) =>
  some ((IntKind.wrap .i64 ((y10.length : Int) - (((strings_Builder_copyCheck (⟨a0.f1⟩ : S50)).f1).length : Int))), (), (⟨y10⟩ : S50))
theorem strings_Builder_WriteRune_walk {a0 : S50} {g0 : Nat} {q0_0 : Option Addr} {A0_1 : Option Addr} {c0_1 : Nat} {C0_1 : Own} {a1 : Int} {I : Imm} {r : Int × Unit × S50}  (hq0_0 : q0_0 = none ∨ q0_0 = some (⟨g0, 0, none⟩ : Addr)) (hO0_1 : OwnS (Kd.int .u8) 5 I A0_1 c0_1 a0.f1 C0_1) (hr : strings_Builder_WriteRune a0 a1 = some r) (L : Own) :
    CallsTo Tryd.prog 57 #[.pointer (some ⟨g0, 0, none⟩), .int .i32 a1] I ((g0, .cells #[.pointer q0_0, .slice A0_1 a0.f1.length c0_1] 51) :: (C0_1 ++ L)) (fun v I' L' => ∃ q2_0 A2_1 c2_1 C2_1, (q2_0 = none ∨ q2_0 = some (⟨g0, 0, none⟩ : Addr)) ∧ OwnS (Kd.int .u8) 5 I' A2_1 c2_1 r.2.2.f1 C2_1 ∧ v = .tuple #[.int .i64 r.1, .nilIface] ∧ (g0, .cells #[.pointer q2_0, .slice A2_1 r.2.2.f1.length c2_1] 51) :: (C2_1 ++ L) = L') := by
  unfold strings_Builder_WriteRune at hr
  refine callsTo_body (N := 30) Tryd.func57 (by kernel_rfl) (by kernel_rfl) (by kernel_rfl) ?_
  refine gk_pick [0, 1] (K' := [(0, .pointer (some ⟨g0, 0, none⟩)), (1, .int .i32 a1)]) (by kernel_rfl) ?_
  refine gk_seq (by kernel_rfl) ?_
  refine gk_region (by kernel_rfl) ?_
  refine gl_pure 2 [0, 1] (K' := [(0, .pointer (some ⟨g0, 0, none⟩)), (1, .int .i32 a1)]) (by kernel_rfl) ?_
  refine gl_atE (by kernel_rfl) ?_
  refine ge_seq ?_
  refine gk_seq (by kernel_rfl) ?_
  refine gk_region (by kernel_rfl) ?_
  refine gl_pure 1 [0, 1, 7] (K' := [(0, .pointer (some ⟨g0, 0, none⟩)), (1, .int .i32 a1), (7, .pointer (some ⟨g0, 0, none⟩))]) (by kernel_rfl) ?_
  refine gl_call (by kernel_rfl) (strings_Builder_copyCheck_walk (r := (strings_Builder_copyCheck (⟨a0.f1⟩ : S50))) (g0 := g0) (q0_0 := q0_0) (A0_1 := A0_1) (c0_1 := c0_1) (C0_1 := C0_1) (a0 := (⟨a0.f1⟩ : S50)) hq0_0 hO0_1 rfl _) ?_
  rintro v I1 L2 hI3 ⟨z4, A5, c6, C7, hO8, hO9, rfl, rfl⟩
  refine gl_atE (by kernel_rfl) ?_
  refine ge_seq ?_
  refine gk_seq (by kernel_rfl) ?_
  refine gk_region (by kernel_rfl) ?_
  refine gl_pure 3 [0, 1, 11] (K' := [(0, .pointer (some ⟨g0, 0, none⟩)), (1, .int .i32 a1), (11, .pointer (some ⟨g0, 1, none⟩))]) (by kernel_rfl) ?_
  refine gl_loadB (T' := 41) (xp := (.tmp 11)) (v := .slice A5 ((strings_Builder_copyCheck (⟨a0.f1⟩ : S50)).f1).length c6) (g := g0) (off := 1) (cs := #[.pointer z4, .slice A5 ((strings_Builder_copyCheck (⟨a0.f1⟩ : S50)).f1).length c6]) (e := 51) (fz := (0, 0)) (by kernel_rfl) (by kernel_rfl) (by kernel_rfl) List.mem_cons_self (by kernel_rfl) ?_
  refine gl_pure 2 [0, 1, 6] (K' := [(0, .pointer (some ⟨g0, 0, none⟩)), (1, .int .i32 a1), (6, .int .i64 (((strings_Builder_copyCheck (⟨a0.f1⟩ : S50)).f1).length : Int))]) (by kernel_rfl) ?_
  refine gl_atE (by kernel_rfl) ?_
  refine ge_seq ?_
  refine gk_seq (by kernel_rfl) ?_
  refine gk_region (by kernel_rfl) ?_
  refine gl_pure 4 [0, 1, 6, 14, 17] (K' := [(0, .pointer (some ⟨g0, 0, none⟩)), (1, .int .i32 a1), (6, .int .i64 (((strings_Builder_copyCheck (⟨a0.f1⟩ : S50)).f1).length : Int)), (14, .pointer (some ⟨g0, 0, none⟩)), (17, .pointer (some ⟨g0, 1, none⟩))]) (by kernel_rfl) ?_
  refine gl_loadB (T' := 41) (xp := (.tmp 17)) (v := .slice A5 ((strings_Builder_copyCheck (⟨a0.f1⟩ : S50)).f1).length c6) (g := g0) (off := 1) (cs := #[.pointer z4, .slice A5 ((strings_Builder_copyCheck (⟨a0.f1⟩ : S50)).f1).length c6]) (e := 51) (fz := (0, 0)) (by kernel_rfl) (by kernel_rfl) (by kernel_rfl) List.mem_cons_self (by kernel_rfl) ?_
  refine gl_pure 1 [0, 6, 14, 18, 19] (K' := [(0, .pointer (some ⟨g0, 0, none⟩)), (6, .int .i64 (((strings_Builder_copyCheck (⟨a0.f1⟩ : S50)).f1).length : Int)), (14, .pointer (some ⟨g0, 0, none⟩)), (18, .slice A5 ((strings_Builder_copyCheck (⟨a0.f1⟩ : S50)).f1).length c6), (19, .int .i32 a1)]) (by kernel_rfl) ?_
  obtain ⟨y10, hx11, hr⟩ := bind_some hr
  refine gl_reord (D := C7 ++ ((g0, .cells #[.pointer z4, .slice A5 ((strings_Builder_copyCheck (⟨a0.f1⟩ : S50)).f1).length c6] 51) :: L)) (Reord.step (Upd.one _ (Upd.rmC _ _)) (Reord.step1 (Upd.rm1 _ _) (Reord.refl _))) ?_
  refine gl_call (by kernel_rfl) (utf8_AppendRune_f71_walk (r := y10) (A0 := A5) (c0 := c6) (C0 := C7) (a0 := (strings_Builder_copyCheck (⟨a0.f1⟩ : S50)).f1) hO9 hx11 _) ?_
  rintro v I12 L13 hI14 ⟨A15, c16, C17, hO18, rfl, rfl⟩
  refine gl_pure 2 [0, 6, 20, 22] (K' := [(0, .pointer (some ⟨g0, 0, none⟩)), (6, .int .i64 (((strings_Builder_copyCheck (⟨a0.f1⟩ : S50)).f1).length : Int)), (20, .slice A15 y10.length c16), (22, .pointer (some ⟨g0, 1, none⟩))]) (by kernel_rfl) ?_
  refine gl_storeB (T' := 41) (xp := (.tmp 22)) (xv := (.tmp 20)) (v := .slice A15 y10.length c16) (g := g0) (off := 1) (cs := #[.pointer z4, .slice A5 ((strings_Builder_copyCheck (⟨a0.f1⟩ : S50)).f1).length c6]) (cs' := #[.pointer z4, .slice A15 y10.length c16]) (by kernel_rfl) (by kernel_rfl) (by kernel_rfl) (by kernel_rfl) (by kernel_rfl) (Upd.app _ (Upd.set _ _ _ _)) ?_ (by kernel_rfl)
  refine gl_atE (by kernel_rfl) ?_
  refine ge_seq ?_
  refine gk_seq (by kernel_rfl) ?_
  refine gk_region (by kernel_rfl) ?_
  refine gl_pure 3 [6, 25] (K' := [(6, .int .i64 (((strings_Builder_copyCheck (⟨a0.f1⟩ : S50)).f1).length : Int)), (25, .pointer (some ⟨g0, 1, none⟩))]) (by kernel_rfl) ?_
  refine gl_loadB (T' := 41) (xp := (.tmp 25)) (v := .slice A15 y10.length c16) (g := g0) (off := 1) (cs := #[.pointer z4, .slice A15 y10.length c16]) (e := 51) (fz := (0, 0)) (by kernel_rfl) (by kernel_rfl) (by kernel_rfl) (List.mem_append_right _ List.mem_cons_self) (by kernel_rfl) ?_
  refine gl_pure 5 [4, 5] (K' := [(4, .int .i64 (IntKind.wrap .i64 ((y10.length : Int) - (((strings_Builder_copyCheck (⟨a0.f1⟩ : S50)).f1).length : Int)))), (5, .nilIface)]) (by kernel_rfl) ?_
  refine gl_atE (by kernel_rfl) ?_
  refine ge_seq ?_
  refine gk_reord (D := (g0, .cells #[.pointer z4, .slice A15 y10.length c16] 51) :: (C17 ++ L)) (Reord.step1 (Upd.app _ (Upd.rm1 _ _)) (Reord.step (Upd.rmC _ _) (Reord.refl _))) ?_
  refine gk_ret (by kernel_rfl) ?_
  obtain rfl := some_inj hr
  exact ge_result trivial (ResOk.tmp (by kernel_rfl) (ResOk.tmp (by kernel_rfl) ResOk.nil)) (Imm.trans hI3 hI14) ⟨z4, A15, c16, C17, hO8, hO18, rfl, rfl⟩
/-! 40 lex_quoted  -/
noncomputable def lex_quoted_l32 (a0 : ByteArray) (c2 : Int) : (Unit × (List Int) × Int) → Option ((Unit × (List Int) × Int) ⊕ ((Unit) ⊕ (ByteArray × Int))) := fun s16 =>
  bif (decide (s16.2.2 < (a0.size : Int))) then
  (Option.bind (sx a0 s16.2.2 (a0.size : Int)) fun (s36 : ByteArray) =>
    Option.bind (utf8_DecodeRuneInString s36) fun (y37 : Int × Int) =>
    bif (y37.1 == (IntKind.wrap .i32 c2)) then
    (Option.bind (strings_Builder_String (⟨s16.2.1⟩ : S50)) fun (y40 : ByteArray) =>
      some (Sum.inr (Sum.inr (y40, (IntKind.wrap .i64 (s16.2.2 + 1))))))
    else
    (Option.bind (bif ((y37.1 == 65533) && (y37.2 == 1)) then
        (some ((y37.1 == 65533) && (y37.2 == 1)))
        else
        (some (y37.1 == 10))) fun (j51 : Bool) =>
      bif j51 then
      (some (Sum.inr (Sum.inr ((⟨#[]⟩ : ByteArray), 0))))
      else
      (Option.bind ((bif (y37.1 == 92) then
          (Option.bind (sx a0 (IntKind.wrap .i64 (s16.2.2 + 1)) (a0.size : Int)) fun (s72 : ByteArray) =>
            Option.bind (lex_escape s72) fun (y73 : Int × Int) =>
            bif (y73.2 == 0) then
            (some (Sum.inr (Sum.inr (Sum.inr ((⟨#[]⟩ : ByteArray), 0)))))
            else
            (Option.bind (strings_Builder_WriteByte (⟨s16.2.1⟩ : S50) y73.1) fun (y76 : Unit × S50) =>
              some (Sum.inl ((IntKind.wrap .i64 (s16.2.2 + (IntKind.wrap .i64 (1 + y73.2)))), (), y76.2.f1))))
          else
          (Option.bind (strings_Builder_WriteRune (⟨s16.2.1⟩ : S50) y37.1) fun (y87 : Int × Unit × S50) =>
            some (Sum.inl ((IntKind.wrap .i64 (s16.2.2 + y37.2)), (), y87.2.2.f1))) : Option ((Int × Unit × (List Int)) ⊕ ((Unit × (List Int) × Int) ⊕ ((Unit) ⊕ (ByteArray × Int)))))) fun (j58 : (Int × Unit × (List Int)) ⊕ ((Unit × (List Int) × Int) ⊕ ((Unit) ⊕ (ByteArray × Int)))) =>
        match j58 with
        | Sum.inl j60 => some (Sum.inl ((), j60.2.2, j60.1))
        | Sum.inr v98 => some v98)))
  else
  (some (Sum.inr (Sum.inl ())))
noncomputable def lex_quoted (a0 : ByteArray) : Option (ByteArray × Int) :=
  Option.bind (bx a0 0) fun (c2 : Int) =>
  Option.bind (loopO (lex_quoted_l32 a0 c2) ((), [], 1)) fun (r14 : (Unit) ⊕ (ByteArray × Int)) =>
  match r14 with
  | Sum.inl r28 => some ((⟨#[]⟩ : ByteArray), 0)
  | Sum.inr v99 => some v99
theorem lex_quoted_walk {a0 : ByteArray} {I : Imm} {r : ByteArray × Int} (hG : Gl I) (hr : lex_quoted a0 = some r) (L : Own) :
    CallsTo Tryd.prog 40 #[.string a0] I L (fun v I' L' => v = .tuple #[.string r.1, .int .i64 r.2] ∧ L = L') := by
  unfold lex_quoted at hr
  refine callsTo_body (N := 65) Tryd.func40 (by kernel_rfl) (by kernel_rfl) (by kernel_rfl) ?_
  refine gk_pick [0] (K' := [(0, .string a0)]) (by kernel_rfl) ?_
  refine gk_seq (by kernel_rfl) ?_
  refine gk_region (by kernel_rfl) ?_
  refine gl_pure 2 [0] (K' := [(0, .string a0)]) (by kernel_rfl) ?_
  refine gl_atE (by kernel_rfl) ?_
  refine ge_seq ?_
  refine gk_seq (by kernel_rfl) ?_
  refine gk_region (by kernel_rfl) ?_
  refine gl_alloc (T' := 51) (cs := #[.pointer none, .slice none 0 0]) (by kernel_rfl) (by kernel_rfl) (by kernel_rfl) (fun g1 => ?_)
  refine gl_atE (by kernel_rfl) ?_
  refine ge_seq ?_
  refine gk_seq (by kernel_rfl) ?_
  refine gk_region (by kernel_rfl) ?_
  refine gl_pure 1 [0, 4, 11] (K' := [(0, .string a0), (4, .pointer (some ⟨g1, 0, none⟩)), (11, .string a0)]) (by kernel_rfl) ?_
  obtain ⟨c2, hx3, hr⟩ := bind_some hr
  refine gl_index' (T' := 9) (xs := (.tmp 11)) (xi := (.const (.int .i64 0))) (kd := .i64) hx3 (by kernel_rfl) (by kernel_rfl) (by kernel_rfl) (by kernel_rfl) (by kernel_rfl) ?_
  refine gl_pure 2 [0, 4, 5] (K' := [(0, .string a0), (4, .pointer (some ⟨g1, 0, none⟩)), (5, .int .i32 (IntKind.wrap .i32 c2))]) (by kernel_rfl) ?_
  refine gl_atE (by kernel_rfl) ?_
  refine ge_seq ?_
  refine gk_seq (by kernel_rfl) ?_
  refine gk_seq (by kernel_rfl) ?_
  refine gk_region (by kernel_rfl) ?_
  refine gl_pure 1 [0, 4, 5, 6] (K' := [(0, .string a0), (4, .pointer (some ⟨g1, 0, none⟩)), (5, .int .i32 (IntKind.wrap .i32 c2)), (6, .int .i64 1)]) (by kernel_rfl) ?_
  refine gl_atE (by kernel_rfl) ?_
  refine ge_seq ?_
  obtain ⟨r14, hl15, hr⟩ := bind_some hr
  refine gk_join (fun t I' L' => ∃ r28, r14 = Sum.inl r28 ∧ I ≤ I' ∧ L = L' ∧ Knows 65 [] t) ?_ ?_
  · refine gk_block (by kernel_rfl) ?_
    refine gk_pick [0, 4, 5, 6] (K' := [(0, .string a0), (4, .pointer (some ⟨g1, 0, none⟩)), (5, .int .i32 (IntKind.wrap .i32 c2)), (6, .int .i64 1)]) (by kernel_rfl) ?_
    intro t hK
    refine gc_loop (lex_quoted_l32 a0 c2) (fun s16 t I' L' => ∃ q20 A22 n23 C24, (q20 = none ∨ q20 = some (⟨g1, 0, none⟩ : Addr)) ∧ OwnS (Kd.int .u8) 5 I' A22 n23 s16.2.1 C24 ∧ I ≤ I' ∧ C24 ++ ((g1, .cells #[.pointer q20, .slice A22 s16.2.1.length n23] 51) :: L) = L' ∧ Knows 65 [(0, .string a0), (4, .pointer (some ⟨g1, 0, none⟩)), (5, .int .i32 (IntKind.wrap .i32 c2)), (6, .int .i64 s16.2.2)] t) (by kernel_rfl) ?_ hl15 ⟨none, none, 0, [], (Or.inl rfl), OwnS.nil _ _ _ _, (Imm.refl _), rfl, hK⟩
    rintro s16 o17 t I27 L' hb18 ⟨q20, A22, n23, C24, hq21, hO25, hI19, rfl, hK26⟩
    unfold lex_quoted_l32 at hb18
    refine gk_at hK26 ?_
    refine gk_seq (by kernel_rfl) ?_
    refine gk_seq (by kernel_rfl) ?_
    refine gk_region (by kernel_rfl) ?_
    refine gl_pure 4 [0, 4, 5, 6, 17] (K' := [(0, .string a0), (4, .pointer (some ⟨g1, 0, none⟩)), (5, .int .i32 (IntKind.wrap .i32 c2)), (6, .int .i64 s16.2.2), (17, .bool (decide (s16.2.2 < (a0.size : Int))))]) (by kernel_rfl) ?_
    refine gl_atE (by kernel_rfl) ?_
    refine ge_seq ?_
    refine gk_cond (b := (decide (s16.2.2 < (a0.size : Int)))) (by kernel_rfl) (by kernel_rfl) (fun hc34 => ?_) (fun hc34 => ?_)
    · have hb18 := cond_t hc34 hb18
      refine gk_skip (by kernel_rfl) ?_
      refine ge_seq ?_
      refine gk_block (by kernel_rfl) ?_
      refine gk_seq (by kernel_rfl) ?_
      refine gk_region (by kernel_rfl) ?_
      refine gl_pure 2 [0, 4, 5, 6, 19, 20] (K' := [(0, .string a0), (4, .pointer (some ⟨g1, 0, none⟩)), (5, .int .i32 (IntKind.wrap .i32 c2)), (6, .int .i64 s16.2.2), (19, .string a0), (20, .int .i64 s16.2.2)]) (by kernel_rfl) ?_
      obtain ⟨s36, hx35, hb18⟩ := bind_some hb18
      refine gl_slice' (T' := 9) (xs := (.tmp 19)) (lo := (some (.tmp 20))) (hi := none) hx35 (by kernel_rfl) (by kernel_rfl) (by kernel_rfl) (by kernel_rfl) (by kernel_rfl) (by kernel_rfl) ?_
      obtain ⟨y37, hx38, hb18⟩ := bind_some hb18
      refine gl_callQ (by kernel_rfl) (utf8_DecodeRuneInString_walk (r := y37) (hG.mono hI19) hx38 _) ?_
      refine gl_pure 5 [0, 4, 5, 6, 7, 8] (K' := [(0, .string a0), (4, .pointer (some ⟨g1, 0, none⟩)), (5, .int .i32 (IntKind.wrap .i32 c2)), (6, .int .i64 s16.2.2), (7, .int .i32 y37.1), (8, .int .i64 y37.2)]) (by kernel_rfl) ?_
      refine gl_atE (by kernel_rfl) ?_
      refine ge_seq ?_
      refine gk_block (by kernel_rfl) ?_
      refine gk_seq (by kernel_rfl) ?_
      refine gk_region (by kernel_rfl) ?_
      refine gl_pure 4 [0, 4, 5, 6, 7, 8, 30] (K' := [(0, .string a0), (4, .pointer (some ⟨g1, 0, none⟩)), (5, .int .i32 (IntKind.wrap .i32 c2)), (6, .int .i64 s16.2.2), (7, .int .i32 y37.1), (8, .int .i64 y37.2), (30, .bool (y37.1 == (IntKind.wrap .i32 c2)))]) (by kernel_rfl) ?_
      refine gl_atE (by kernel_rfl) ?_
      refine ge_seq ?_
      refine gk_cond (b := (y37.1 == (IntKind.wrap .i32 c2))) (by kernel_rfl) (by kernel_rfl) (fun hc39 => ?_) (fun hc39 => ?_)
      · have hb18 := cond_t hc39 hb18
        refine gk_seq (by kernel_rfl) ?_
        refine gk_region (by kernel_rfl) ?_
        obtain ⟨y40, hx41, hb18⟩ := bind_some hb18
        refine gl_reord (D := (g1, .cells #[.pointer q20, .slice A22 s16.2.1.length n23] 51) :: (C24 ++ L)) (Reord.step1 (Upd.app _ (Upd.rm1 _ _)) (Reord.step (Upd.rmC _ _) (Reord.refl _))) ?_
        refine gl_call (by kernel_rfl) (strings_Builder_String_walk (r := y40) (g0 := g1) (q0_0 := q20) (A0_1 := A22) (c0_1 := n23) (C0_1 := C24) (a0 := (⟨s16.2.1⟩ : S50)) hq21 hO25 hx41 _) ?_
        rintro v I42 L43 hI44 ⟨rfl, rfl⟩
        refine gl_pure 4 [2, 3] (K' := [(2, .string y40), (3, .int .i64 (IntKind.wrap .i64 (s16.2.2 + 1)))]) (by kernel_rfl) ?_
        refine gl_atE (by kernel_rfl) ?_
        refine ge_seq ?_
        refine gk_ret (by kernel_rfl) ?_
        refine ge_block_ret ?_
        refine ge_block_ret ?_
        obtain rfl := some_inj hb18
        refine ge_round_out (fun hrr => ?_) (by intro h; cases h)
        obtain rfl := hrr
        refine ge_block_ret ?_
        refine ge_seq_ret ?_
        refine ge_seq_ret ?_
        obtain rfl := some_inj hr
        exact ge_result trivial (ResOk.tmp (by kernel_rfl) (ResOk.tmp (by kernel_rfl) ResOk.nil)) (Imm.trans hI19 hI44) ⟨rfl, rfl⟩
      · have hb18 := cond_f hc39 hb18
        refine gk_seq (by kernel_rfl) ?_
        refine gk_seq (by kernel_rfl) ?_
        obtain ⟨b47, hb48⟩ : ∃ z, z = ((y37.1 == 65533) && (y37.2 == 1)) := ⟨_, rfl⟩
        refine gk_join (fun t I' L' => I27 ≤ I' ∧ C24 ++ ((g1, .cells #[.pointer q20, .slice A22 s16.2.1.length n23] 51) :: L) = L' ∧ Knows 65 [(0, .string a0), (4, .pointer (some ⟨g1, 0, none⟩)), (5, .int .i32 (IntKind.wrap .i32 c2)), (6, .int .i64 s16.2.2), (7, .int .i32 y37.1), (8, .int .i64 y37.2), (37, .bool b47)] t) ?_ ?_
        · refine gk_region (by kernel_rfl) ?_
          refine gl_pure 3 [0, 4, 5, 6, 7, 8, 40] (K' := [(0, .string a0), (4, .pointer (some ⟨g1, 0, none⟩)), (5, .int .i32 (IntKind.wrap .i32 c2)), (6, .int .i64 s16.2.2), (7, .int .i32 y37.1), (8, .int .i64 y37.2), (40, .bool (y37.1 == 65533))]) (by kernel_rfl) ?_
          refine gl_case 40 (b := (y37.1 == 65533)) (by kernel_rfl) (fun hc50 => ?_) (fun hc50 => ?_)
          · refine gl_pure 4 [0, 4, 5, 6, 7, 8, 37] (K' := [(0, .string a0), (4, .pointer (some ⟨g1, 0, none⟩)), (5, .int .i32 (IntKind.wrap .i32 c2)), (6, .int .i64 s16.2.2), (7, .int .i32 y37.1), (8, .int .i64 y37.2), (37, .bool (y37.2 == 1))]) (by kernel_rfl) ?_
            refine gl_atE (by kernel_rfl) ?_
            exact ge_mid fun t ht => ⟨(Imm.refl _), rfl, by rw [(show b47 = (y37.2 == 1) from hb48.trans (by rw [hc50]; try rfl))]; exact ht.pick (l := [0, 4, 5, 6, 7, 8, 37]) (by kernel_rfl)⟩
          · refine gl_pure 4 [0, 4, 5, 6, 7, 8, 37] (K' := [(0, .string a0), (4, .pointer (some ⟨g1, 0, none⟩)), (5, .int .i32 (IntKind.wrap .i32 c2)), (6, .int .i64 s16.2.2), (7, .int .i32 y37.1), (8, .int .i64 y37.2), (37, .bool false)]) (by kernel_rfl) ?_
            refine gl_atE (by kernel_rfl) ?_
            exact ge_mid fun t ht => ⟨(Imm.refl _), rfl, by rw [(show b47 = false from hb48.trans (by rw [hc50]; try rfl))]; exact ht.pick (l := [0, 4, 5, 6, 7, 8, 37]) (by kernel_rfl)⟩
        · rintro t I49 L' ⟨hI45, rfl, hK46⟩
          subst hb48
          refine ge_at hK46 ?_
          refine ge_seq ?_
          obtain ⟨j51, hj52, hb18⟩ := bind_some hb18
          refine gk_join (fun t I' L' => I49 ≤ I' ∧ C24 ++ ((g1, .cells #[.pointer q20, .slice A22 s16.2.1.length n23] 51) :: L) = L' ∧ Knows 65 [(0, .string a0), (4, .pointer (some ⟨g1, 0, none⟩)), (5, .int .i32 (IntKind.wrap .i32 c2)), (6, .int .i64 s16.2.2), (7, .int .i32 y37.1), (8, .int .i64 y37.2), (37, .bool j51)] t) ?_ ?_
          · refine gk_cond (b := ((y37.1 == 65533) && (y37.2 == 1))) (by kernel_rfl) (by kernel_rfl) (fun hc56 => ?_) (fun hc56 => ?_)
            · have hj52 := cond_t hc56 hj52
              refine gk_skip (by kernel_rfl) ?_
              obtain rfl := some_inj hj52
              exact ge_mid fun t ht => ⟨(Imm.refl _), rfl, ht.pick (l := [0, 4, 5, 6, 7, 8, 37]) (by kernel_rfl)⟩
            · have hj52 := cond_f hc56 hj52
              refine gk_region (by kernel_rfl) ?_
              refine gl_pure 3 [0, 4, 5, 6, 7, 8, 37] (K' := [(0, .string a0), (4, .pointer (some ⟨g1, 0, none⟩)), (5, .int .i32 (IntKind.wrap .i32 c2)), (6, .int .i64 s16.2.2), (7, .int .i32 y37.1), (8, .int .i64 y37.2), (37, .bool (y37.1 == 10))]) (by kernel_rfl) ?_
              refine gl_atE (by kernel_rfl) ?_
              obtain rfl := some_inj hj52
              exact ge_mid fun t ht => ⟨(Imm.refl _), rfl, ht.pick (l := [0, 4, 5, 6, 7, 8, 37]) (by kernel_rfl)⟩
          · rintro t I55 L' ⟨hI53, rfl, hK54⟩
            refine ge_at hK54 ?_
            refine ge_seq ?_
            refine gk_cond (b := j51) (by kernel_rfl) (by kernel_rfl) (fun hc57 => ?_) (fun hc57 => ?_)
            · have hb18 := cond_t hc57 hb18
              refine gk_seq (by kernel_rfl) ?_
              refine gk_region (by kernel_rfl) ?_
              refine gl_pure 2 [2, 3] (K' := [(2, .string (⟨#[]⟩ : ByteArray)), (3, .int .i64 0)]) (by kernel_rfl) ?_
              refine gl_atE (by kernel_rfl) ?_
              refine ge_seq ?_
              refine gk_reord (D := L) (Reord.skipC (Reord.skip (Reord.refl _))) ?_
              refine gk_ret (by kernel_rfl) ?_
              refine ge_block_ret ?_
              refine ge_block_ret ?_
              obtain rfl := some_inj hb18
              refine ge_round_out (fun hrr => ?_) (by intro h; cases h)
              obtain rfl := hrr
              refine ge_block_ret ?_
              refine ge_seq_ret ?_
              refine ge_seq_ret ?_
              obtain rfl := some_inj hr
              exact ge_result trivial (ResOk.tmp (by kernel_rfl) (ResOk.tmp (by kernel_rfl) ResOk.nil)) (Imm.trans (Imm.trans hI19 hI45) hI53) ⟨rfl, rfl⟩
            · have hb18 := cond_f hc57 hb18
              refine gk_seq (by kernel_rfl) ?_
              refine gk_region (by kernel_rfl) ?_
              refine gl_pure 3 [0, 4, 5, 6, 7, 8, 46] (K' := [(0, .string a0), (4, .pointer (some ⟨g1, 0, none⟩)), (5, .int .i32 (IntKind.wrap .i32 c2)), (6, .int .i64 s16.2.2), (7, .int .i32 y37.1), (8, .int .i64 y37.2), (46, .bool (y37.1 == 92))]) (by kernel_rfl) ?_
              refine gl_atE (by kernel_rfl) ?_
              refine ge_seq ?_
              obtain ⟨j58, hj59, hb18⟩ := bind_some hb18
              refine gk_join (fun t I' L' => ∃ j60, j58 = Sum.inl j60 ∧ ∃ q62 A64 n65 C66, (q62 = none ∨ q62 = some (⟨g1, 0, none⟩ : Addr)) ∧ OwnS (Kd.int .u8) 5 I' A64 n65 j60.2.2 C66 ∧ I55 ≤ I' ∧ C66 ++ ((g1, .cells #[.pointer q62, .slice A64 j60.2.2.length n65] 51) :: L) = L' ∧ Knows 65 [(0, .string a0), (4, .pointer (some ⟨g1, 0, none⟩)), (5, .int .i32 (IntKind.wrap .i32 c2)), (6, .int .i64 j60.1)] t) ?_ ?_
              · refine gk_cond (b := (y37.1 == 92)) (by kernel_rfl) (by kernel_rfl) (fun hc70 => ?_) (fun hc70 => ?_)
                · have hj59 := cond_t hc70 hj59
                  refine gk_seq (by kernel_rfl) ?_
                  refine gk_region (by kernel_rfl) ?_
                  refine gl_pure 3 [0, 4, 5, 6, 50, 52] (K' := [(0, .string a0), (4, .pointer (some ⟨g1, 0, none⟩)), (5, .int .i32 (IntKind.wrap .i32 c2)), (6, .int .i64 s16.2.2), (50, .string a0), (52, .int .i64 (IntKind.wrap .i64 (s16.2.2 + 1)))]) (by kernel_rfl) ?_
                  obtain ⟨s72, hx71, hj59⟩ := bind_some hj59
                  refine gl_slice' (T' := 9) (xs := (.tmp 50)) (lo := (some (.tmp 52))) (hi := none) hx71 (by kernel_rfl) (by kernel_rfl) (by kernel_rfl) (by kernel_rfl) (by kernel_rfl) (by kernel_rfl) ?_
                  obtain ⟨y73, hx74, hj59⟩ := bind_some hj59
                  refine gl_callQ (by kernel_rfl) (lex_escape_walk (r := y73)  hx74 _) ?_
                  refine gl_pure 5 [0, 4, 5, 6, 9, 10] (K' := [(0, .string a0), (4, .pointer (some ⟨g1, 0, none⟩)), (5, .int .i32 (IntKind.wrap .i32 c2)), (6, .int .i64 s16.2.2), (9, .int .u8 y73.1), (10, .int .i64 y73.2)]) (by kernel_rfl) ?_
                  refine gl_atE (by kernel_rfl) ?_
                  refine ge_seq ?_
                  refine gk_seq (by kernel_rfl) ?_
                  refine gk_seq (by kernel_rfl) ?_
                  refine gk_region (by kernel_rfl) ?_
                  refine gl_pure 2 [0, 4, 5, 6, 9, 10, 58] (K' := [(0, .string a0), (4, .pointer (some ⟨g1, 0, none⟩)), (5, .int .i32 (IntKind.wrap .i32 c2)), (6, .int .i64 s16.2.2), (9, .int .u8 y73.1), (10, .int .i64 y73.2), (58, .bool (y73.2 == 0))]) (by kernel_rfl) ?_
                  refine gl_atE (by kernel_rfl) ?_
                  refine ge_seq ?_
                  refine gk_cond (b := (y73.2 == 0)) (by kernel_rfl) (by kernel_rfl) (fun hc75 => ?_) (fun hc75 => ?_)
                  · have hj59 := cond_t hc75 hj59
                    refine gk_seq (by kernel_rfl) ?_
                    refine gk_region (by kernel_rfl) ?_
                    refine gl_pure 2 [2, 3] (K' := [(2, .string (⟨#[]⟩ : ByteArray)), (3, .int .i64 0)]) (by kernel_rfl) ?_
                    refine gl_atE (by kernel_rfl) ?_
                    refine ge_seq ?_
                    refine gk_reord (D := L) (Reord.skipC (Reord.skip (Reord.refl _))) ?_
                    refine gk_ret (by kernel_rfl) ?_
                    refine ge_seq_ret ?_
                    refine ge_seq_ret ?_
                    obtain rfl := some_inj hj59
                    refine ge_block_ret ?_
                    refine ge_block_ret ?_
                    obtain rfl := some_inj hb18
                    refine ge_round_out (fun hrr => ?_) (by intro h; cases h)
                    obtain rfl := hrr
                    refine ge_block_ret ?_
                    refine ge_seq_ret ?_
                    refine ge_seq_ret ?_
                    obtain rfl := some_inj hr
                    exact ge_result trivial (ResOk.tmp (by kernel_rfl) (ResOk.tmp (by kernel_rfl) ResOk.nil)) (Imm.trans (Imm.trans hI19 hI45) hI53) ⟨rfl, rfl⟩
                  · have hj59 := cond_f hc75 hj59
                    refine gk_skip (by kernel_rfl) ?_
                    refine ge_seq ?_
                    refine gk_seq (by kernel_rfl) ?_
                    refine gk_region (by kernel_rfl) ?_
                    refine gl_pure 1 [0, 4, 5, 6, 10, 59] (K' := [(0, .string a0), (4, .pointer (some ⟨g1, 0, none⟩)), (5, .int .i32 (IntKind.wrap .i32 c2)), (6, .int .i64 s16.2.2), (10, .int .i64 y73.2), (59, .int .u8 y73.1)]) (by kernel_rfl) ?_
                    obtain ⟨y76, hx77, hj59⟩ := bind_some hj59
                    refine gl_reord (D := (g1, .cells #[.pointer q20, .slice A22 s16.2.1.length n23] 51) :: (C24 ++ L)) (Reord.step1 (Upd.app _ (Upd.rm1 _ _)) (Reord.step (Upd.rmC _ _) (Reord.refl _))) ?_
                    refine gl_call (by kernel_rfl) (strings_Builder_WriteByte_walk (r := y76) (g0 := g1) (q0_0 := q20) (A0_1 := A22) (c0_1 := n23) (C0_1 := C24) (a0 := (⟨s16.2.1⟩ : S50)) hq21 (hO25.mono (Imm.trans hI45 hI53)) hx77 _) ?_
                    rintro v I78 L79 hI80 ⟨z81, A82, c83, C84, hO85, hO86, rfl, rfl⟩
                    refine gl_atE (by kernel_rfl) ?_
                    refine ge_seq ?_
                    refine gk_region (by kernel_rfl) ?_
                    refine gl_pure 5 [0, 4, 5, 6] (K' := [(0, .string a0), (4, .pointer (some ⟨g1, 0, none⟩)), (5, .int .i32 (IntKind.wrap .i32 c2)), (6, .int .i64 (IntKind.wrap .i64 (s16.2.2 + (IntKind.wrap .i64 (1 + y73.2)))))]) (by kernel_rfl) ?_
                    refine gl_reord (D := C84 ++ ((g1, .cells #[.pointer z81, .slice A82 y76.2.f1.length c83] 51) :: L)) (Reord.step (Upd.one _ (Upd.rmC _ _)) (Reord.step1 (Upd.rm1 _ _) (Reord.refl _))) ?_
                    refine gl_atE (by kernel_rfl) ?_
                    obtain rfl := some_inj hj59
                    exact ge_mid fun t ht => ⟨_, rfl, z81, A82, c83, C84, hO85, hO86, hI80, rfl, ht.pick (l := [0, 4, 5, 6]) (by kernel_rfl)⟩
                · have hj59 := cond_f hc70 hj59
                  refine gk_seq (by kernel_rfl) ?_
                  refine gk_region (by kernel_rfl) ?_
                  refine gl_pure 1 [0, 4, 5, 6, 8, 25] (K' := [(0, .string a0), (4, .pointer (some ⟨g1, 0, none⟩)), (5, .int .i32 (IntKind.wrap .i32 c2)), (6, .int .i64 s16.2.2), (8, .int .i64 y37.2), (25, .int .i32 y37.1)]) (by kernel_rfl) ?_
                  obtain ⟨y87, hx88, hj59⟩ := bind_some hj59
                  refine gl_reord (D := (g1, .cells #[.pointer q20, .slice A22 s16.2.1.length n23] 51) :: (C24 ++ L)) (Reord.step1 (Upd.app _ (Upd.rm1 _ _)) (Reord.step (Upd.rmC _ _) (Reord.refl _))) ?_
                  refine gl_call (by kernel_rfl) (strings_Builder_WriteRune_walk (r := y87) (g0 := g1) (q0_0 := q20) (A0_1 := A22) (c0_1 := n23) (C0_1 := C24) (a0 := (⟨s16.2.1⟩ : S50)) hq21 (hO25.mono (Imm.trans hI45 hI53)) hx88 _) ?_
                  rintro v I89 L90 hI91 ⟨z92, A93, c94, C95, hO96, hO97, rfl, rfl⟩
                  refine gl_atE (by kernel_rfl) ?_
                  refine ge_seq ?_
                  refine gk_region (by kernel_rfl) ?_
                  refine gl_pure 4 [0, 4, 5, 6] (K' := [(0, .string a0), (4, .pointer (some ⟨g1, 0, none⟩)), (5, .int .i32 (IntKind.wrap .i32 c2)), (6, .int .i64 (IntKind.wrap .i64 (s16.2.2 + y37.2)))]) (by kernel_rfl) ?_
                  refine gl_reord (D := C95 ++ ((g1, .cells #[.pointer z92, .slice A93 y87.2.2.f1.length c94] 51) :: L)) (Reord.step (Upd.one _ (Upd.rmC _ _)) (Reord.step1 (Upd.rm1 _ _) (Reord.refl _))) ?_
                  refine gl_atE (by kernel_rfl) ?_
                  obtain rfl := some_inj hj59
                  exact ge_mid fun t ht => ⟨_, rfl, z92, A93, c94, C95, hO96, hO97, hI91, rfl, ht.pick (l := [0, 4, 5, 6]) (by kernel_rfl)⟩
              · rintro t I69 L' ⟨j60, rfl, q62, A64, n65, C66, hq63, hO67, hI61, rfl, hK68⟩
                refine ge_at hK68 ?_
                refine ge_block_normal ?_
                refine ge_block_normal ?_
                obtain rfl := some_inj hb18
                exact ge_round fun t ht => ⟨q62, A64, n65, C66, hq63, hO67, (Imm.trans (Imm.trans (Imm.trans hI19 hI45) hI53) hI61), rfl, ht.pick (l := [0, 4, 5, 6]) (by kernel_rfl)⟩
    · have hb18 := cond_f hc34 hb18
      refine gk_reord (D := L) (Reord.skipC (Reord.skip (Reord.refl _))) ?_
      refine gk_exit (by kernel_rfl) ?_
      refine ge_seq_exit ?_
      obtain rfl := some_inj hb18
      refine ge_round_out (fun hrr => ?_) (by intro h; cases h)
      obtain rfl := hrr
      refine ge_block_hit (by kernel_rfl) ?_
      exact ge_mid fun t ht => ⟨_, rfl, hI19, rfl, ht.pick (l := []) (by kernel_rfl)⟩
  · rintro t I31 L' ⟨r28, rfl, hI29, rfl, hK30⟩
    refine ge_at hK30 ?_
    refine ge_seq ?_
    refine gk_seq (by kernel_rfl) ?_
    refine gk_region (by kernel_rfl) ?_
    refine gl_pure 2 [2, 3] (K' := [(2, .string (⟨#[]⟩ : ByteArray)), (3, .int .i64 0)]) (by kernel_rfl) ?_
    refine gl_atE (by kernel_rfl) ?_
    refine ge_seq ?_
    refine gk_ret (by kernel_rfl) ?_
    obtain rfl := some_inj hr
    exact ge_result trivial (ResOk.tmp (by kernel_rfl) (ResOk.tmp (by kernel_rfl) ResOk.nil)) hI29 ⟨rfl, rfl⟩
/-! 41 lex_signs  -/
noncomputable def lex_signs : (List ByteArray) :=
  [(⟨#[33, 61]⟩ : ByteArray), (⟨#[61, 126]⟩ : ByteArray), (⟨#[33, 126]⟩ : ByteArray), (⟨#[61, 61]⟩ : ByteArray), (⟨#[62, 61]⟩ : ByteArray), (⟨#[60, 61]⟩ : ByteArray), (⟨#[40]⟩ : ByteArray), (⟨#[41]⟩ : ByteArray), (⟨#[123]⟩ : ByteArray), (⟨#[125]⟩ : ByteArray), (⟨#[91]⟩ : ByteArray), (⟨#[93]⟩ : ByteArray), (⟨#[44]⟩ : ByteArray), (⟨#[61]⟩ : ByteArray), (⟨#[43]⟩ : ByteArray), (⟨#[45]⟩ : ByteArray), (⟨#[42]⟩ : ByteArray), (⟨#[47]⟩ : ByteArray), (⟨#[37]⟩ : ByteArray), (⟨#[94]⟩ : ByteArray), (⟨#[62]⟩ : ByteArray), (⟨#[60]⟩ : ByteArray)]
theorem lex_signs_walk  {I : Imm} {r : (List ByteArray)}  (hr : lex_signs = r) (L : Own) :
    CallsTo Tryd.prog 41 #[] I L (fun v I' L' => ∃ A0 c0 C0, OwnS Kd.str 9 I' A0 c0 r C0 ∧ v = .slice A0 r.length c0 ∧ C0 ++ L = L') := by
  replace hr : some (lex_signs) = some r := congrArg some hr
  unfold lex_signs at hr
  refine callsTo_body (N := 2) Tryd.func41 (by kernel_rfl) (by kernel_rfl) (by kernel_rfl) ?_
  refine gk_pick [] (K' := []) (by kernel_rfl) ?_
  refine gk_seq (by kernel_rfl) ?_
  refine gk_region (by kernel_rfl) ?_
  refine gl_pure 1 [] (K' := []) (by kernel_rfl) ?_
  refine gl_atE (by kernel_rfl) ?_
  refine ge_seq ?_
  refine gk_seq (by kernel_rfl) ?_
  refine gk_region (by kernel_rfl) ?_
  refine gl_buildSlice (T' := 40) (e := 9) (n := 1) (len := 22) (parts := #[(0, (.const (.string (⟨#[33, 61]⟩ : ByteArray)))), (1, (.const (.string (⟨#[61, 126]⟩ : ByteArray)))), (2, (.const (.string (⟨#[33, 126]⟩ : ByteArray)))), (3, (.const (.string (⟨#[61, 61]⟩ : ByteArray)))), (4, (.const (.string (⟨#[62, 61]⟩ : ByteArray)))), (5, (.const (.string (⟨#[60, 61]⟩ : ByteArray)))), (6, (.const (.string (⟨#[40]⟩ : ByteArray)))), (7, (.const (.string (⟨#[41]⟩ : ByteArray)))), (8, (.const (.string (⟨#[123]⟩ : ByteArray)))), (9, (.const (.string (⟨#[125]⟩ : ByteArray)))), (10, (.const (.string (⟨#[91]⟩ : ByteArray)))), (11, (.const (.string (⟨#[93]⟩ : ByteArray)))), (12, (.const (.string (⟨#[44]⟩ : ByteArray)))), (13, (.const (.string (⟨#[61]⟩ : ByteArray)))), (14, (.const (.string (⟨#[43]⟩ : ByteArray)))), (15, (.const (.string (⟨#[45]⟩ : ByteArray)))), (16, (.const (.string (⟨#[42]⟩ : ByteArray)))), (17, (.const (.string (⟨#[47]⟩ : ByteArray)))), (18, (.const (.string (⟨#[37]⟩ : ByteArray)))), (19, (.const (.string (⟨#[94]⟩ : ByteArray)))), (20, (.const (.string (⟨#[62]⟩ : ByteArray)))), (21, (.const (.string (⟨#[60]⟩ : ByteArray))))]) (l := [(0, .string (⟨#[33, 61]⟩ : ByteArray)), (1, .string (⟨#[61, 126]⟩ : ByteArray)), (2, .string (⟨#[33, 126]⟩ : ByteArray)), (3, .string (⟨#[61, 61]⟩ : ByteArray)), (4, .string (⟨#[62, 61]⟩ : ByteArray)), (5, .string (⟨#[60, 61]⟩ : ByteArray)), (6, .string (⟨#[40]⟩ : ByteArray)), (7, .string (⟨#[41]⟩ : ByteArray)), (8, .string (⟨#[123]⟩ : ByteArray)), (9, .string (⟨#[125]⟩ : ByteArray)), (10, .string (⟨#[91]⟩ : ByteArray)), (11, .string (⟨#[93]⟩ : ByteArray)), (12, .string (⟨#[44]⟩ : ByteArray)), (13, .string (⟨#[61]⟩ : ByteArray)), (14, .string (⟨#[43]⟩ : ByteArray)), (15, .string (⟨#[45]⟩ : ByteArray)), (16, .string (⟨#[42]⟩ : ByteArray)), (17, .string (⟨#[47]⟩ : ByteArray)), (18, .string (⟨#[37]⟩ : ByteArray)), (19, .string (⟨#[94]⟩ : ByteArray)), (20, .string (⟨#[62]⟩ : ByteArray)), (21, .string (⟨#[60]⟩ : ByteArray))]) (cs := #[.string (⟨#[33, 61]⟩ : ByteArray), .string (⟨#[61, 126]⟩ : ByteArray), .string (⟨#[33, 126]⟩ : ByteArray), .string (⟨#[61, 61]⟩ : ByteArray), .string (⟨#[62, 61]⟩ : ByteArray), .string (⟨#[60, 61]⟩ : ByteArray), .string (⟨#[40]⟩ : ByteArray), .string (⟨#[41]⟩ : ByteArray), .string (⟨#[123]⟩ : ByteArray), .string (⟨#[125]⟩ : ByteArray), .string (⟨#[91]⟩ : ByteArray), .string (⟨#[93]⟩ : ByteArray), .string (⟨#[44]⟩ : ByteArray), .string (⟨#[61]⟩ : ByteArray), .string (⟨#[43]⟩ : ByteArray), .string (⟨#[45]⟩ : ByteArray), .string (⟨#[42]⟩ : ByteArray), .string (⟨#[47]⟩ : ByteArray), .string (⟨#[37]⟩ : ByteArray), .string (⟨#[94]⟩ : ByteArray), .string (⟨#[62]⟩ : ByteArray), .string (⟨#[60]⟩ : ByteArray)]) (by kernel_rfl) (by kernel_rfl) (by kernel_rfl) (by kernel_rfl) (by kernel_rfl) (fun g1 => ?_)
  have hO2 : OwnS Kd.str 9 I (some ⟨g1, 0, none⟩) 22 [(⟨#[33, 61]⟩ : ByteArray), (⟨#[61, 126]⟩ : ByteArray), (⟨#[33, 126]⟩ : ByteArray), (⟨#[61, 61]⟩ : ByteArray), (⟨#[62, 61]⟩ : ByteArray), (⟨#[60, 61]⟩ : ByteArray), (⟨#[40]⟩ : ByteArray), (⟨#[41]⟩ : ByteArray), (⟨#[123]⟩ : ByteArray), (⟨#[125]⟩ : ByteArray), (⟨#[91]⟩ : ByteArray), (⟨#[93]⟩ : ByteArray), (⟨#[44]⟩ : ByteArray), (⟨#[61]⟩ : ByteArray), (⟨#[43]⟩ : ByteArray), (⟨#[45]⟩ : ByteArray), (⟨#[42]⟩ : ByteArray), (⟨#[47]⟩ : ByteArray), (⟨#[37]⟩ : ByteArray), (⟨#[94]⟩ : ByteArray), (⟨#[62]⟩ : ByteArray), (⟨#[60]⟩ : ByteArray)] [(g1, .cells #[.string (⟨#[33, 61]⟩ : ByteArray), .string (⟨#[61, 126]⟩ : ByteArray), .string (⟨#[33, 126]⟩ : ByteArray), .string (⟨#[61, 61]⟩ : ByteArray), .string (⟨#[62, 61]⟩ : ByteArray), .string (⟨#[60, 61]⟩ : ByteArray), .string (⟨#[40]⟩ : ByteArray), .string (⟨#[41]⟩ : ByteArray), .string (⟨#[123]⟩ : ByteArray), .string (⟨#[125]⟩ : ByteArray), .string (⟨#[91]⟩ : ByteArray), .string (⟨#[93]⟩ : ByteArray), .string (⟨#[44]⟩ : ByteArray), .string (⟨#[61]⟩ : ByteArray), .string (⟨#[43]⟩ : ByteArray), .string (⟨#[45]⟩ : ByteArray), .string (⟨#[42]⟩ : ByteArray), .string (⟨#[47]⟩ : ByteArray), .string (⟨#[37]⟩ : ByteArray), .string (⟨#[94]⟩ : ByteArray), .string (⟨#[62]⟩ : ByteArray), .string (⟨#[60]⟩ : ByteArray)] 9)] := OwnS.lit (row_cons (l := [.string (⟨#[33, 61]⟩ : ByteArray)]) rfl (row_cons (l := [.string (⟨#[61, 126]⟩ : ByteArray)]) rfl (row_cons (l := [.string (⟨#[33, 126]⟩ : ByteArray)]) rfl (row_cons (l := [.string (⟨#[61, 61]⟩ : ByteArray)]) rfl (row_cons (l := [.string (⟨#[62, 61]⟩ : ByteArray)]) rfl (row_cons (l := [.string (⟨#[60, 61]⟩ : ByteArray)]) rfl (row_cons (l := [.string (⟨#[40]⟩ : ByteArray)]) rfl (row_cons (l := [.string (⟨#[41]⟩ : ByteArray)]) rfl (row_cons (l := [.string (⟨#[123]⟩ : ByteArray)]) rfl (row_cons (l := [.string (⟨#[125]⟩ : ByteArray)]) rfl (row_cons (l := [.string (⟨#[91]⟩ : ByteArray)]) rfl (row_cons (l := [.string (⟨#[93]⟩ : ByteArray)]) rfl (row_cons (l := [.string (⟨#[44]⟩ : ByteArray)]) rfl (row_cons (l := [.string (⟨#[61]⟩ : ByteArray)]) rfl (row_cons (l := [.string (⟨#[43]⟩ : ByteArray)]) rfl (row_cons (l := [.string (⟨#[45]⟩ : ByteArray)]) rfl (row_cons (l := [.string (⟨#[42]⟩ : ByteArray)]) rfl (row_cons (l := [.string (⟨#[47]⟩ : ByteArray)]) rfl (row_cons (l := [.string (⟨#[37]⟩ : ByteArray)]) rfl (row_cons (l := [.string (⟨#[94]⟩ : ByteArray)]) rfl (row_cons (l := [.string (⟨#[62]⟩ : ByteArray)]) rfl (row_cons (l := [.string (⟨#[60]⟩ : ByteArray)]) rfl (row_nil _ _))))))))))))))))))))))) rfl rfl rfl
  refine gl_reord (D := [(g1, .cells #[.string (⟨#[33, 61]⟩ : ByteArray), .string (⟨#[61, 126]⟩ : ByteArray), .string (⟨#[33, 126]⟩ : ByteArray), .string (⟨#[61, 61]⟩ : ByteArray), .string (⟨#[62, 61]⟩ : ByteArray), .string (⟨#[60, 61]⟩ : ByteArray), .string (⟨#[40]⟩ : ByteArray), .string (⟨#[41]⟩ : ByteArray), .string (⟨#[123]⟩ : ByteArray), .string (⟨#[125]⟩ : ByteArray), .string (⟨#[91]⟩ : ByteArray), .string (⟨#[93]⟩ : ByteArray), .string (⟨#[44]⟩ : ByteArray), .string (⟨#[61]⟩ : ByteArray), .string (⟨#[43]⟩ : ByteArray), .string (⟨#[45]⟩ : ByteArray), .string (⟨#[42]⟩ : ByteArray), .string (⟨#[47]⟩ : ByteArray), .string (⟨#[37]⟩ : ByteArray), .string (⟨#[94]⟩ : ByteArray), .string (⟨#[62]⟩ : ByteArray), .string (⟨#[60]⟩ : ByteArray)] 9)] ++ L) (Reord.refl _) ?_
  refine gl_pure 1 [0] (K' := [(0, .slice (some ⟨g1, 0, none⟩) [(⟨#[33, 61]⟩ : ByteArray), (⟨#[61, 126]⟩ : ByteArray), (⟨#[33, 126]⟩ : ByteArray), (⟨#[61, 61]⟩ : ByteArray), (⟨#[62, 61]⟩ : ByteArray), (⟨#[60, 61]⟩ : ByteArray), (⟨#[40]⟩ : ByteArray), (⟨#[41]⟩ : ByteArray), (⟨#[123]⟩ : ByteArray), (⟨#[125]⟩ : ByteArray), (⟨#[91]⟩ : ByteArray), (⟨#[93]⟩ : ByteArray), (⟨#[44]⟩ : ByteArray), (⟨#[61]⟩ : ByteArray), (⟨#[43]⟩ : ByteArray), (⟨#[45]⟩ : ByteArray), (⟨#[42]⟩ : ByteArray), (⟨#[47]⟩ : ByteArray), (⟨#[37]⟩ : ByteArray), (⟨#[94]⟩ : ByteArray), (⟨#[62]⟩ : ByteArray), (⟨#[60]⟩ : ByteArray)].length 22)]) (by kernel_rfl) ?_
  refine gl_atE (by kernel_rfl) ?_
  refine ge_seq ?_
  refine gk_ret (by kernel_rfl) ?_
  obtain rfl := some_inj hr
  exact ge_result trivial (ResOk.tmp (by kernel_rfl) ResOk.nil) (Imm.refl _) ⟨(some ⟨g1, 0, none⟩), 22, [(g1, .cells #[.string (⟨#[33, 61]⟩ : ByteArray), .string (⟨#[61, 126]⟩ : ByteArray), .string (⟨#[33, 126]⟩ : ByteArray), .string (⟨#[61, 61]⟩ : ByteArray), .string (⟨#[62, 61]⟩ : ByteArray), .string (⟨#[60, 61]⟩ : ByteArray), .string (⟨#[40]⟩ : ByteArray), .string (⟨#[41]⟩ : ByteArray), .string (⟨#[123]⟩ : ByteArray), .string (⟨#[125]⟩ : ByteArray), .string (⟨#[91]⟩ : ByteArray), .string (⟨#[93]⟩ : ByteArray), .string (⟨#[44]⟩ : ByteArray), .string (⟨#[61]⟩ : ByteArray), .string (⟨#[43]⟩ : ByteArray), .string (⟨#[45]⟩ : ByteArray), .string (⟨#[42]⟩ : ByteArray), .string (⟨#[47]⟩ : ByteArray), .string (⟨#[37]⟩ : ByteArray), .string (⟨#[94]⟩ : ByteArray), .string (⟨#[62]⟩ : ByteArray), .string (⟨#[60]⟩ : ByteArray)] 9)], hO2, rfl, rfl⟩
structure S27 where
  f0 : Int
  f1 : ByteArray
  f2 : Int
def kS27 : Kd S27 := Kd.iso (Kd.pair (Kd.int .i64) (Kd.pair Kd.str (Kd.int .i64))) (fun x => (x.f0, x.f1, x.f2))
def wS27 (x : S27) (n : Nat) : Prop := ∃ n0 n1 n2, n0 + n1 + n2 + 1 ≤ n ∧ (wInt .i64) x.f0 n0 ∧ wStr x.f1 n1 ∧ (wInt .i64) x.f2 n2
theorem kS27_open {I : Imm} {x : S27} {cs : List Value} (h : kS27.R I x cs) : cs = [.int .i64 x.f0, .string x.f1, .int .i64 x.f2] := by
  obtain ⟨_, _, rfl, h_0, ⟨_, _, rfl, h_1, h_2⟩⟩ := h
  obtain rfl := h_0
  obtain rfl := h_1
  obtain rfl := h_2
  exact rfl
theorem kS27_mk {I : Imm} {x : S27}   : kS27.R I x [.int .i64 x.f0, .string x.f1, .int .i64 x.f2] :=
  ⟨[.int .i64 x.f0], [.string x.f1, .int .i64 x.f2], rfl, rfl, ⟨[.string x.f1], [.int .i64 x.f2], rfl, rfl, rfl⟩⟩
/-! 21 lex_one  -/
noncomputable def lex_one_l89 (a0 : ByteArray) : Int → Option ((Int) ⊕ ((Unit) ⊕ (S27 × Int))) := fun s79 =>
  bif (decide (s79 < (lex_signs.length : Int))) then
  (Option.bind (ix lex_signs s79) fun (x92 : ByteArray) =>
    Option.bind (strings_HasPrefix a0 x92) fun (y101 : Bool) =>
    bif y101 then
    (some (Sum.inr (Sum.inr ((⟨5, x92, 0⟩ : S27), (x92.size : Int)))))
    else
    (some (Sum.inl (IntKind.wrap .i64 (s79 + 1)))))
  else
  (some (Sum.inr (Sum.inl ())))
noncomputable def lex_one (a0 : ByteArray) : Option (S27 × Int) :=
  Option.bind (bx a0 0) fun (c2 : Int) =>
  bif (lex_letter c2) then
  (Option.bind (lex_run a0 0 (fun x0 => some (lex_one_1 x0))) fun (y5 : Int) =>
    Option.bind (sx a0 0 y5) fun (s8 : ByteArray) =>
    some ((⟨1, s8, 0⟩ : S27), y5))
  else
  (bif ((lex_digit c2) || (c2 == 46)) then
    (Option.bind (lex_number a0) fun (y20 : Int) =>
      Option.bind (lex_span a0) fun (y22 : Int × Int) =>
      Option.bind (bif (decide (y22.1 > y20)) then
        (some (3, y22.1))
        else
        (some (2, y20))) fun (j24 : Int × Int) =>
      Option.bind (bif (decide (j24.2 < (a0.size : Int))) then
        (Option.bind (bx a0 j24.2) fun (c36 : Int) =>
          bif (lex_letter c36) then
          (some true)
          else
          (Option.bind (bx a0 j24.2) fun (c39 : Int) =>
            bif (lex_digit c39) then
            (some true)
            else
            (Option.bind (bx a0 j24.2) fun (c42 : Int) =>
              some (c42 == 46))))
        else
        (some false)) fun (j30 : Bool) =>
      bif j30 then
      (some ((⟨0, (⟨#[]⟩ : ByteArray), 0⟩ : S27), 0))
      else
      (Option.bind (sx a0 0 j24.2) fun (s50 : ByteArray) =>
        some ((⟨j24.1, s50, 0⟩ : S27), j24.2)))
    else
    (bif ((c2 == 34) || (c2 == 39)) then
      (Option.bind (lex_quoted a0) fun (y60 : ByteArray × Int) =>
        some ((⟨4, y60.1, 0⟩ : S27), y60.2))
      else
      (Option.bind (loopO (lex_one_l89 a0) 0) fun (r77 : (Unit) ⊕ (S27 × Int)) =>
        match r77 with
        | Sum.inl r85 => some ((⟨0, (⟨#[]⟩ : ByteArray), 0⟩ : S27), 0)
        | Sum.inr v112 => some v112)))
theorem lex_one_walk {a0 : ByteArray} {I : Imm} {r : S27 × Int} (hG : Gl I) (hr : lex_one a0 = some r) (L : Own) :
    CallsTo Tryd.prog 21 #[.string a0] I L (fun v I' L' => v = .tuple #[.agg #[.int .i64 r.1.f0, .string r.1.f1, .int .i64 r.1.f2], .int .i64 r.2] ∧ L = L') := by
  unfold lex_one at hr
  refine callsTo_body (N := 103) Tryd.func21 (by kernel_rfl) (by kernel_rfl) (by kernel_rfl) ?_
  refine gk_pick [0] (K' := [(0, .string a0)]) (by kernel_rfl) ?_
  refine gk_seq (by kernel_rfl) ?_
  refine gk_region (by kernel_rfl) ?_
  refine gl_alloc (T' := 28) (cs := #[.int .i64 0, .string (⟨#[]⟩ : ByteArray), .int .i64 0]) (by kernel_rfl) (by kernel_rfl) (by kernel_rfl) (fun g1 => ?_)
  refine gl_pure 1 [0, 2] (K' := [(0, .string a0), (2, .pointer (some ⟨g1, 0, none⟩))]) (by kernel_rfl) ?_
  refine gl_atE (by kernel_rfl) ?_
  refine ge_seq ?_
  refine gk_seq (by kernel_rfl) ?_
  refine gk_region (by kernel_rfl) ?_
  refine gl_pure 1 [0, 2, 14] (K' := [(0, .string a0), (2, .pointer (some ⟨g1, 0, none⟩)), (14, .string a0)]) (by kernel_rfl) ?_
  obtain ⟨c2, hx3, hr⟩ := bind_some hr
  refine gl_index' (T' := 9) (xs := (.tmp 14)) (xi := (.const (.int .i64 0))) (kd := .i64) hx3 (by kernel_rfl) (by kernel_rfl) (by kernel_rfl) (by kernel_rfl) (by kernel_rfl) ?_
  refine gl_pure 1 [0, 2, 4] (K' := [(0, .string a0), (2, .pointer (some ⟨g1, 0, none⟩)), (4, .int .u8 c2)]) (by kernel_rfl) ?_
  refine gl_atE (by kernel_rfl) ?_
  refine ge_seq ?_
  refine gk_seq (by kernel_rfl) ?_
  refine gk_block (by kernel_rfl) ?_
  refine gk_seq (by kernel_rfl) ?_
  refine gk_region (by kernel_rfl) ?_
  refine gl_pure 1 [0, 2, 4, 17] (K' := [(0, .string a0), (2, .pointer (some ⟨g1, 0, none⟩)), (4, .int .u8 c2), (17, .int .u8 c2)]) (by kernel_rfl) ?_
  refine gl_callQ (by kernel_rfl) (lex_letter_walk (r := (lex_letter c2))  rfl _) ?_
  refine gl_pure 1 [0, 2, 4, 16] (K' := [(0, .string a0), (2, .pointer (some ⟨g1, 0, none⟩)), (4, .int .u8 c2), (16, .bool (lex_letter c2))]) (by kernel_rfl) ?_
  refine gl_atE (by kernel_rfl) ?_
  refine ge_seq ?_
  refine gk_cond (b := (lex_letter c2)) (by kernel_rfl) (by kernel_rfl) (fun hc4 => ?_) (fun hc4 => ?_)
  · have hr := cond_t hc4 hr
    refine gk_seq (by kernel_rfl) ?_
    refine gk_region (by kernel_rfl) ?_
    refine gl_pure 1 [0, 2, 19] (K' := [(0, .string a0), (2, .pointer (some ⟨g1, 0, none⟩)), (19, .string a0)]) (by kernel_rfl) ?_
    obtain ⟨y5, hx6, hr⟩ := bind_some hr
    refine gl_callQ (by kernel_rfl) (lex_run_walk (r := y5) lex_one_1_impl46 hx6 _) ?_
    refine gl_pure 1 [0, 2, 5] (K' := [(0, .string a0), (2, .pointer (some ⟨g1, 0, none⟩)), (5, .int .i64 y5)]) (by kernel_rfl) ?_
    refine gl_atE (by kernel_rfl) ?_
    refine ge_seq ?_
    refine gk_seq (by kernel_rfl) ?_
    refine gk_region (by kernel_rfl) ?_
    refine gl_pure 2 [2, 5, 21, 22] (K' := [(2, .pointer (some ⟨g1, 0, none⟩)), (5, .int .i64 y5), (21, .string a0), (22, .int .i64 y5)]) (by kernel_rfl) ?_
    obtain ⟨s8, hx7, hr⟩ := bind_some hr
    refine gl_slice' (T' := 9) (xs := (.tmp 21)) (lo := none) (hi := (some (.tmp 22))) hx7 (by kernel_rfl) (by kernel_rfl) (by kernel_rfl) (by kernel_rfl) (by kernel_rfl) (by kernel_rfl) ?_
    refine gl_pure 2 [2, 24, 25] (K' := [(2, .pointer (some ⟨g1, 0, none⟩)), (24, .agg #[.int .i64 1, .string s8, .int .i64 0]), (25, .int .i64 y5)]) (by kernel_rfl) ?_
    refine gl_storeB (T' := 28) (xp := (.tmp 2)) (xv := (.tmp 24)) (v := .agg #[.int .i64 1, .string s8, .int .i64 0]) (g := g1) (off := 0) (cs := #[.int .i64 0, .string (⟨#[]⟩ : ByteArray), .int .i64 0]) (cs' := #[.int .i64 1, .string s8, .int .i64 0]) (by kernel_rfl) (by kernel_rfl) (by kernel_rfl) (by kernel_rfl) (by kernel_rfl) (Upd.set _ _ _ _) ?_ (by kernel_rfl)
    refine gl_pure 1 [2, 3] (K' := [(2, .pointer (some ⟨g1, 0, none⟩)), (3, .int .i64 y5)]) (by kernel_rfl) ?_
    refine gl_atE (by kernel_rfl) ?_
    refine ge_seq ?_
    refine gk_rest (Tk.step (Upd.rm1 _ _) (Tk.nil _)) (fun J9 hJ10 hC11 => ?_)
    have hf12 := hC11.left.blk
    refine gk_ret (by kernel_rfl) ?_
    refine ge_block_ret ?_
    refine ge_seq_ret ?_
    obtain rfl := some_inj hr
    exact ge_result trivial (ResOk.cell (v := .agg #[.int .i64 1, .string s8, .int .i64 0]) (by kernel_rfl) (loadR_agg (cs := [.int .i64 1, .string s8, .int .i64 0]) (by kernel_rfl) (RunAt.take hf12 3)) (ResOk.tmp (by kernel_rfl) ResOk.nil)) hJ10 ⟨rfl, rfl⟩
  · have hr := cond_f hc4 hr
    refine gk_seq (by kernel_rfl) ?_
    obtain ⟨b15, hb16⟩ : ∃ z, z = ((lex_digit c2) || (c2 == 46)) := ⟨_, rfl⟩
    refine gk_join (fun t I' L' => I ≤ I' ∧ (g1, .cells #[.int .i64 0, .string (⟨#[]⟩ : ByteArray), .int .i64 0] 28) :: L = L' ∧ Knows 103 [(0, .string a0), (2, .pointer (some ⟨g1, 0, none⟩)), (4, .int .u8 c2), (26, .bool b15)] t) ?_ ?_
    · refine gk_region (by kernel_rfl) ?_
      refine gl_pure 1 [0, 2, 4, 27] (K' := [(0, .string a0), (2, .pointer (some ⟨g1, 0, none⟩)), (4, .int .u8 c2), (27, .int .u8 c2)]) (by kernel_rfl) ?_
      refine gl_callQ (by kernel_rfl) (lex_digit_walk (r := (lex_digit c2))  rfl _) ?_
      refine gl_pure 1 [0, 2, 4, 29] (K' := [(0, .string a0), (2, .pointer (some ⟨g1, 0, none⟩)), (4, .int .u8 c2), (29, .bool (lex_digit c2))]) (by kernel_rfl) ?_
      refine gl_case 29 (b := (lex_digit c2)) (by kernel_rfl) (fun hc18 => ?_) (fun hc18 => ?_)
      · refine gl_pure 4 [0, 2, 4, 26] (K' := [(0, .string a0), (2, .pointer (some ⟨g1, 0, none⟩)), (4, .int .u8 c2), (26, .bool true)]) (by kernel_rfl) ?_
        refine gl_atE (by kernel_rfl) ?_
        exact ge_mid fun t ht => ⟨(Imm.refl _), rfl, by rw [(show b15 = true from hb16.trans (by rw [hc18]; try rfl))]; exact ht.pick (l := [0, 2, 4, 26]) (by kernel_rfl)⟩
      · refine gl_pure 4 [0, 2, 4, 26] (K' := [(0, .string a0), (2, .pointer (some ⟨g1, 0, none⟩)), (4, .int .u8 c2), (26, .bool (c2 == 46))]) (by kernel_rfl) ?_
        refine gl_atE (by kernel_rfl) ?_
        exact ge_mid fun t ht => ⟨(Imm.refl _), rfl, by rw [(show b15 = (c2 == 46) from hb16.trans (by rw [hc18]; try rfl))]; exact ht.pick (l := [0, 2, 4, 26]) (by kernel_rfl)⟩
    · rintro t I17 L' ⟨hI13, rfl, hK14⟩
      subst hb16
      refine ge_at hK14 ?_
      refine ge_seq ?_
      refine gk_cond (b := ((lex_digit c2) || (c2 == 46))) (by kernel_rfl) (by kernel_rfl) (fun hc19 => ?_) (fun hc19 => ?_)
      · have hr := cond_t hc19 hr
        refine gk_seq (by kernel_rfl) ?_
        refine gk_region (by kernel_rfl) ?_
        refine gl_pure 1 [0, 2, 33] (K' := [(0, .string a0), (2, .pointer (some ⟨g1, 0, none⟩)), (33, .string a0)]) (by kernel_rfl) ?_
        obtain ⟨y20, hx21, hr⟩ := bind_some hr
        refine gl_callQ (by kernel_rfl) (lex_number_walk (r := y20)  hx21 _) ?_
        refine gl_pure 2 [0, 2, 6, 7] (K' := [(0, .string a0), (2, .pointer (some ⟨g1, 0, none⟩)), (6, .int .i64 2), (7, .int .i64 y20)]) (by kernel_rfl) ?_
        refine gl_atE (by kernel_rfl) ?_
        refine ge_seq ?_
        refine gk_seq (by kernel_rfl) ?_
        refine gk_seq (by kernel_rfl) ?_
        refine gk_region (by kernel_rfl) ?_
        refine gl_pure 1 [0, 2, 6, 7, 36] (K' := [(0, .string a0), (2, .pointer (some ⟨g1, 0, none⟩)), (6, .int .i64 2), (7, .int .i64 y20), (36, .string a0)]) (by kernel_rfl) ?_
        obtain ⟨y22, hx23, hr⟩ := bind_some hr
        refine gl_callQ (by kernel_rfl) (lex_span_walk (r := y22)  hx23 _) ?_
        refine gl_pure 5 [0, 2, 6, 7, 8] (K' := [(0, .string a0), (2, .pointer (some ⟨g1, 0, none⟩)), (6, .int .i64 2), (7, .int .i64 y20), (8, .int .i64 y22.1)]) (by kernel_rfl) ?_
        refine gl_atE (by kernel_rfl) ?_
        refine ge_seq ?_
        refine gk_seq (by kernel_rfl) ?_
        refine gk_region (by kernel_rfl) ?_
        refine gl_pure 3 [0, 2, 6, 7, 8, 42] (K' := [(0, .string a0), (2, .pointer (some ⟨g1, 0, none⟩)), (6, .int .i64 2), (7, .int .i64 y20), (8, .int .i64 y22.1), (42, .bool (decide (y22.1 > y20)))]) (by kernel_rfl) ?_
        refine gl_atE (by kernel_rfl) ?_
        refine ge_seq ?_
        obtain ⟨j24, hj25, hr⟩ := bind_some hr
        refine gk_join (fun t I' L' => I17 ≤ I' ∧ (g1, .cells #[.int .i64 0, .string (⟨#[]⟩ : ByteArray), .int .i64 0] 28) :: L = L' ∧ Knows 103 [(0, .string a0), (2, .pointer (some ⟨g1, 0, none⟩)), (6, .int .i64 j24.1), (7, .int .i64 j24.2)] t) ?_ ?_
        · refine gk_cond (b := (decide (y22.1 > y20))) (by kernel_rfl) (by kernel_rfl) (fun hc29 => ?_) (fun hc29 => ?_)
          · have hj25 := cond_t hc29 hj25
            refine gk_region (by kernel_rfl) ?_
            refine gl_pure 3 [0, 2, 6, 7] (K' := [(0, .string a0), (2, .pointer (some ⟨g1, 0, none⟩)), (6, .int .i64 3), (7, .int .i64 y22.1)]) (by kernel_rfl) ?_
            refine gl_atE (by kernel_rfl) ?_
            obtain rfl := some_inj hj25
            exact ge_mid fun t ht => ⟨(Imm.refl _), rfl, ht.pick (l := [0, 2, 6, 7]) (by kernel_rfl)⟩
          · have hj25 := cond_f hc29 hj25
            refine gk_skip (by kernel_rfl) ?_
            obtain rfl := some_inj hj25
            exact ge_mid fun t ht => ⟨(Imm.refl _), rfl, ht.pick (l := [0, 2, 6, 7]) (by kernel_rfl)⟩
        · rintro t I28 L' ⟨hI26, rfl, hK27⟩
          refine ge_at hK27 ?_
          refine ge_seq ?_
          refine gk_seq (by kernel_rfl) ?_
          refine gk_seq (by kernel_rfl) ?_
          obtain ⟨j30, hj31, hr⟩ := bind_some hr
          refine gk_join (fun t I' L' => I28 ≤ I' ∧ (g1, .cells #[.int .i64 0, .string (⟨#[]⟩ : ByteArray), .int .i64 0] 28) :: L = L' ∧ Knows 103 [(0, .string a0), (2, .pointer (some ⟨g1, 0, none⟩)), (6, .int .i64 j24.1), (7, .int .i64 j24.2), (65, .bool j30)] t) ?_ ?_
          · refine gk_region (by kernel_rfl) ?_
            refine gl_pure 5 [0, 2, 6, 7, 48] (K' := [(0, .string a0), (2, .pointer (some ⟨g1, 0, none⟩)), (6, .int .i64 j24.1), (7, .int .i64 j24.2), (48, .bool (decide (j24.2 < (a0.size : Int))))]) (by kernel_rfl) ?_
            refine gl_case 48 (b := (decide (j24.2 < (a0.size : Int)))) (by kernel_rfl) (fun hc35 => ?_) (fun hc35 => ?_)
            · have hj31 := cond_t hc35 hj31
              refine gl_pure 2 [0, 2, 6, 7, 48, 49, 50] (K' := [(0, .string a0), (2, .pointer (some ⟨g1, 0, none⟩)), (6, .int .i64 j24.1), (7, .int .i64 j24.2), (48, .bool true), (49, .string a0), (50, .int .i64 j24.2)]) (by kernel_rfl) ?_
              obtain ⟨c36, hx37, hj31⟩ := bind_some hj31
              refine gl_index' (T' := 9) (xs := (.tmp 49)) (xi := (.tmp 50)) (kd := .i64) hx37 (by kernel_rfl) (by kernel_rfl) (by kernel_rfl) (by kernel_rfl) (by kernel_rfl) ?_
              refine gl_callQ (by kernel_rfl) (lex_letter_walk (r := (lex_letter c36))  rfl _) ?_
              refine gl_pure 1 [0, 2, 6, 7, 48, 53] (K' := [(0, .string a0), (2, .pointer (some ⟨g1, 0, none⟩)), (6, .int .i64 j24.1), (7, .int .i64 j24.2), (48, .bool true), (53, .bool (lex_letter c36))]) (by kernel_rfl) ?_
              refine gl_case 53 (b := (lex_letter c36)) (by kernel_rfl) (fun hc38 => ?_) (fun hc38 => ?_)
              · have hj31 := cond_t hc38 hj31
                refine gl_pure 12 [0, 2, 6, 7, 65] (K' := [(0, .string a0), (2, .pointer (some ⟨g1, 0, none⟩)), (6, .int .i64 j24.1), (7, .int .i64 j24.2), (65, .bool true)]) (by kernel_rfl) ?_
                refine gl_atE (by kernel_rfl) ?_
                obtain rfl := some_inj hj31
                exact ge_mid fun t ht => ⟨(Imm.refl _), rfl, ht.pick (l := [0, 2, 6, 7, 65]) (by kernel_rfl)⟩
              · have hj31 := cond_f hc38 hj31
                refine gl_pure 2 [0, 2, 6, 7, 48, 53, 54, 55] (K' := [(0, .string a0), (2, .pointer (some ⟨g1, 0, none⟩)), (6, .int .i64 j24.1), (7, .int .i64 j24.2), (48, .bool true), (53, .bool false), (54, .string a0), (55, .int .i64 j24.2)]) (by kernel_rfl) ?_
                obtain ⟨c39, hx40, hj31⟩ := bind_some hj31
                refine gl_index' (T' := 9) (xs := (.tmp 54)) (xi := (.tmp 55)) (kd := .i64) hx40 (by kernel_rfl) (by kernel_rfl) (by kernel_rfl) (by kernel_rfl) (by kernel_rfl) ?_
                refine gl_callQ (by kernel_rfl) (lex_digit_walk (r := (lex_digit c39))  rfl _) ?_
                refine gl_pure 2 [0, 2, 6, 7, 48, 59] (K' := [(0, .string a0), (2, .pointer (some ⟨g1, 0, none⟩)), (6, .int .i64 j24.1), (7, .int .i64 j24.2), (48, .bool true), (59, .bool (lex_digit c39))]) (by kernel_rfl) ?_
                refine gl_case 59 (b := (lex_digit c39)) (by kernel_rfl) (fun hc41 => ?_) (fun hc41 => ?_)
                · have hj31 := cond_t hc41 hj31
                  refine gl_pure 6 [0, 2, 6, 7, 65] (K' := [(0, .string a0), (2, .pointer (some ⟨g1, 0, none⟩)), (6, .int .i64 j24.1), (7, .int .i64 j24.2), (65, .bool true)]) (by kernel_rfl) ?_
                  refine gl_atE (by kernel_rfl) ?_
                  obtain rfl := some_inj hj31
                  exact ge_mid fun t ht => ⟨(Imm.refl _), rfl, ht.pick (l := [0, 2, 6, 7, 65]) (by kernel_rfl)⟩
                · have hj31 := cond_f hc41 hj31
                  refine gl_pure 2 [0, 2, 6, 7, 48, 59, 60, 61] (K' := [(0, .string a0), (2, .pointer (some ⟨g1, 0, none⟩)), (6, .int .i64 j24.1), (7, .int .i64 j24.2), (48, .bool true), (59, .bool false), (60, .string a0), (61, .int .i64 j24.2)]) (by kernel_rfl) ?_
                  obtain ⟨c42, hx43, hj31⟩ := bind_some hj31
                  refine gl_index' (T' := 9) (xs := (.tmp 60)) (xi := (.tmp 61)) (kd := .i64) hx43 (by kernel_rfl) (by kernel_rfl) (by kernel_rfl) (by kernel_rfl) (by kernel_rfl) ?_
                  refine gl_pure 3 [0, 2, 6, 7, 65] (K' := [(0, .string a0), (2, .pointer (some ⟨g1, 0, none⟩)), (6, .int .i64 j24.1), (7, .int .i64 j24.2), (65, .bool (c42 == 46))]) (by kernel_rfl) ?_
                  refine gl_atE (by kernel_rfl) ?_
                  obtain rfl := some_inj hj31
                  exact ge_mid fun t ht => ⟨(Imm.refl _), rfl, ht.pick (l := [0, 2, 6, 7, 65]) (by kernel_rfl)⟩
            · have hj31 := cond_f hc35 hj31
              refine gl_pure 17 [0, 2, 6, 7, 65] (K' := [(0, .string a0), (2, .pointer (some ⟨g1, 0, none⟩)), (6, .int .i64 j24.1), (7, .int .i64 j24.2), (65, .bool false)]) (by kernel_rfl) ?_
              refine gl_atE (by kernel_rfl) ?_
              obtain rfl := some_inj hj31
              exact ge_mid fun t ht => ⟨(Imm.refl _), rfl, ht.pick (l := [0, 2, 6, 7, 65]) (by kernel_rfl)⟩
          · rintro t I34 L' ⟨hI32, rfl, hK33⟩
            refine ge_at hK33 ?_
            refine ge_seq ?_
            refine gk_cond (b := j30) (by kernel_rfl) (by kernel_rfl) (fun hc44 => ?_) (fun hc44 => ?_)
            · have hr := cond_t hc44 hr
              refine gk_seq (by kernel_rfl) ?_
              refine gk_region (by kernel_rfl) ?_
              refine gl_pure 1 [2, 66] (K' := [(2, .pointer (some ⟨g1, 0, none⟩)), (66, .agg #[.int .i64 0, .string (⟨#[]⟩ : ByteArray), .int .i64 0])]) (by kernel_rfl) ?_
              refine gl_storeB (T' := 28) (xp := (.tmp 2)) (xv := (.tmp 66)) (v := .agg #[.int .i64 0, .string (⟨#[]⟩ : ByteArray), .int .i64 0]) (g := g1) (off := 0) (cs := #[.int .i64 0, .string (⟨#[]⟩ : ByteArray), .int .i64 0]) (cs' := #[.int .i64 0, .string (⟨#[]⟩ : ByteArray), .int .i64 0]) (by kernel_rfl) (by kernel_rfl) (by kernel_rfl) (by kernel_rfl) (by kernel_rfl) (Upd.set _ _ _ _) ?_ (by kernel_rfl)
              refine gl_pure 1 [2, 3] (K' := [(2, .pointer (some ⟨g1, 0, none⟩)), (3, .int .i64 0)]) (by kernel_rfl) ?_
              refine gl_atE (by kernel_rfl) ?_
              refine ge_seq ?_
              refine gk_rest (Tk.step (Upd.rm1 _ _) (Tk.nil _)) (fun J45 hJ46 hC47 => ?_)
              have hf48 := hC47.left.blk
              refine gk_ret (by kernel_rfl) ?_
              refine ge_seq_ret ?_
              refine ge_block_ret ?_
              refine ge_seq_ret ?_
              obtain rfl := some_inj hr
              exact ge_result trivial (ResOk.cell (v := .agg #[.int .i64 0, .string (⟨#[]⟩ : ByteArray), .int .i64 0]) (by kernel_rfl) (loadR_agg (cs := [.int .i64 0, .string (⟨#[]⟩ : ByteArray), .int .i64 0]) (by kernel_rfl) (RunAt.take hf48 3)) (ResOk.tmp (by kernel_rfl) ResOk.nil)) (Imm.trans (Imm.trans (Imm.trans hI13 hI26) hI32) hJ46) ⟨rfl, rfl⟩
            · have hr := cond_f hc44 hr
              refine gk_skip (by kernel_rfl) ?_
              refine ge_seq ?_
              refine gk_seq (by kernel_rfl) ?_
              refine gk_region (by kernel_rfl) ?_
              refine gl_pure 3 [2, 7, 67, 68, 69] (K' := [(2, .pointer (some ⟨g1, 0, none⟩)), (7, .int .i64 j24.2), (67, .int .i64 j24.1), (68, .string a0), (69, .int .i64 j24.2)]) (by kernel_rfl) ?_
              obtain ⟨s50, hx49, hr⟩ := bind_some hr
              refine gl_slice' (T' := 9) (xs := (.tmp 68)) (lo := none) (hi := (some (.tmp 69))) hx49 (by kernel_rfl) (by kernel_rfl) (by kernel_rfl) (by kernel_rfl) (by kernel_rfl) (by kernel_rfl) ?_
              refine gl_pure 2 [2, 71, 72] (K' := [(2, .pointer (some ⟨g1, 0, none⟩)), (71, .agg #[.int .i64 j24.1, .string s50, .int .i64 0]), (72, .int .i64 j24.2)]) (by kernel_rfl) ?_
              refine gl_storeB (T' := 28) (xp := (.tmp 2)) (xv := (.tmp 71)) (v := .agg #[.int .i64 j24.1, .string s50, .int .i64 0]) (g := g1) (off := 0) (cs := #[.int .i64 0, .string (⟨#[]⟩ : ByteArray), .int .i64 0]) (cs' := #[.int .i64 j24.1, .string s50, .int .i64 0]) (by kernel_rfl) (by kernel_rfl) (by kernel_rfl) (by kernel_rfl) (by kernel_rfl) (Upd.set _ _ _ _) ?_ (by kernel_rfl)
              refine gl_pure 1 [2, 3] (K' := [(2, .pointer (some ⟨g1, 0, none⟩)), (3, .int .i64 j24.2)]) (by kernel_rfl) ?_
              refine gl_atE (by kernel_rfl) ?_
              refine ge_seq ?_
              refine gk_rest (Tk.step (Upd.rm1 _ _) (Tk.nil _)) (fun J51 hJ52 hC53 => ?_)
              have hf54 := hC53.left.blk
              refine gk_ret (by kernel_rfl) ?_
              refine ge_block_ret ?_
              refine ge_seq_ret ?_
              obtain rfl := some_inj hr
              exact ge_result trivial (ResOk.cell (v := .agg #[.int .i64 j24.1, .string s50, .int .i64 0]) (by kernel_rfl) (loadR_agg (cs := [.int .i64 j24.1, .string s50, .int .i64 0]) (by kernel_rfl) (RunAt.take hf54 3)) (ResOk.tmp (by kernel_rfl) ResOk.nil)) (Imm.trans (Imm.trans (Imm.trans hI13 hI26) hI32) hJ52) ⟨rfl, rfl⟩
      · have hr := cond_f hc19 hr
        refine gk_seq (by kernel_rfl) ?_
        refine gk_join (fun t I' L' => I17 ≤ I' ∧ (g1, .cells #[.int .i64 0, .string (⟨#[]⟩ : ByteArray), .int .i64 0] 28) :: L = L' ∧ Knows 103 [(0, .string a0), (2, .pointer (some ⟨g1, 0, none⟩)), (73, .bool ((c2 == 34) || (c2 == 39)))] t) ?_ ?_
        · refine gk_region (by kernel_rfl) ?_
          refine gl_pure 3 [0, 2, 4, 76] (K' := [(0, .string a0), (2, .pointer (some ⟨g1, 0, none⟩)), (4, .int .u8 c2), (76, .bool (c2 == 34))]) (by kernel_rfl) ?_
          refine gl_case 76 (b := (c2 == 34)) (by kernel_rfl) (fun hc58 => ?_) (fun hc58 => ?_)
          · refine gl_pure 4 [0, 2, 73] (K' := [(0, .string a0), (2, .pointer (some ⟨g1, 0, none⟩)), (73, .bool true)]) (by kernel_rfl) ?_
            refine gl_atE (by kernel_rfl) ?_
            exact ge_mid fun t ht => ⟨(Imm.refl _), rfl, by rw [(show ((c2 == 34) || (c2 == 39)) = true from by rw [hc58]; try rfl)]; exact ht.pick (l := [0, 2, 73]) (by kernel_rfl)⟩
          · refine gl_pure 4 [0, 2, 73] (K' := [(0, .string a0), (2, .pointer (some ⟨g1, 0, none⟩)), (73, .bool (c2 == 39))]) (by kernel_rfl) ?_
            refine gl_atE (by kernel_rfl) ?_
            exact ge_mid fun t ht => ⟨(Imm.refl _), rfl, by rw [(show ((c2 == 34) || (c2 == 39)) = (c2 == 39) from by rw [hc58]; try rfl)]; exact ht.pick (l := [0, 2, 73]) (by kernel_rfl)⟩
        · rintro t I57 L' ⟨hI55, rfl, hK56⟩
          refine ge_at hK56 ?_
          refine ge_seq ?_
          refine gk_cond (b := ((c2 == 34) || (c2 == 39))) (by kernel_rfl) (by kernel_rfl) (fun hc59 => ?_) (fun hc59 => ?_)
          · have hr := cond_t hc59 hr
            refine gk_seq (by kernel_rfl) ?_
            refine gk_region (by kernel_rfl) ?_
            refine gl_pure 1 [2, 81] (K' := [(2, .pointer (some ⟨g1, 0, none⟩)), (81, .string a0)]) (by kernel_rfl) ?_
            obtain ⟨y60, hx61, hr⟩ := bind_some hr
            refine gl_callQ (by kernel_rfl) (lex_quoted_walk (r := y60) (hG.mono (Imm.trans hI13 hI55)) hx61 _) ?_
            refine gl_pure 5 [2, 10, 11] (K' := [(2, .pointer (some ⟨g1, 0, none⟩)), (10, .string y60.1), (11, .int .i64 y60.2)]) (by kernel_rfl) ?_
            refine gl_atE (by kernel_rfl) ?_
            refine ge_seq ?_
            refine gk_seq (by kernel_rfl) ?_
            refine gk_region (by kernel_rfl) ?_
            refine gl_pure 3 [2, 86, 87] (K' := [(2, .pointer (some ⟨g1, 0, none⟩)), (86, .agg #[.int .i64 4, .string y60.1, .int .i64 0]), (87, .int .i64 y60.2)]) (by kernel_rfl) ?_
            refine gl_storeB (T' := 28) (xp := (.tmp 2)) (xv := (.tmp 86)) (v := .agg #[.int .i64 4, .string y60.1, .int .i64 0]) (g := g1) (off := 0) (cs := #[.int .i64 0, .string (⟨#[]⟩ : ByteArray), .int .i64 0]) (cs' := #[.int .i64 4, .string y60.1, .int .i64 0]) (by kernel_rfl) (by kernel_rfl) (by kernel_rfl) (by kernel_rfl) (by kernel_rfl) (Upd.set _ _ _ _) ?_ (by kernel_rfl)
            refine gl_pure 1 [2, 3] (K' := [(2, .pointer (some ⟨g1, 0, none⟩)), (3, .int .i64 y60.2)]) (by kernel_rfl) ?_
            refine gl_atE (by kernel_rfl) ?_
            refine ge_seq ?_
            refine gk_rest (Tk.step (Upd.rm1 _ _) (Tk.nil _)) (fun J62 hJ63 hC64 => ?_)
            have hf65 := hC64.left.blk
            refine gk_ret (by kernel_rfl) ?_
            refine ge_block_ret ?_
            refine ge_seq_ret ?_
            obtain rfl := some_inj hr
            exact ge_result trivial (ResOk.cell (v := .agg #[.int .i64 4, .string y60.1, .int .i64 0]) (by kernel_rfl) (loadR_agg (cs := [.int .i64 4, .string y60.1, .int .i64 0]) (by kernel_rfl) (RunAt.take hf65 3)) (ResOk.tmp (by kernel_rfl) ResOk.nil)) (Imm.trans (Imm.trans hI13 hI55) hJ63) ⟨rfl, rfl⟩
          · have hr := cond_f hc59 hr
            refine gk_skip (by kernel_rfl) ?_
            refine ge_block_normal ?_
            refine ge_seq ?_
            refine gk_seq (by kernel_rfl) ?_
            refine gk_seq (by kernel_rfl) ?_
            refine gk_region (by kernel_rfl) ?_
            refine gl_call (by kernel_rfl) (lex_signs_walk (r := lex_signs)  rfl _) ?_
            rintro v I66 L67 hI68 ⟨A69, c70, C71, hO72, rfl, rfl⟩
            refine gl_pure 2 [0, 2, 88, 89, 90] (K' := [(0, .string a0), (2, .pointer (some ⟨g1, 0, none⟩)), (88, .slice A69 lex_signs.length c70), (89, .int .i64 (lex_signs.length : Int)), (90, .int .i64 0)]) (by kernel_rfl) ?_
            refine gl_atE (by kernel_rfl) ?_
            refine ge_seq ?_
            obtain ⟨r77, hl78, hr⟩ := bind_some hr
            refine gk_join (fun t I' L' => ∃ r85, r77 = Sum.inl r85 ∧ I66 ≤ I' ∧ (g1, .cells #[.int .i64 0, .string (⟨#[]⟩ : ByteArray), .int .i64 0] 28) :: L = L' ∧ Knows 103 [(2, .pointer (some ⟨g1, 0, none⟩))] t) ?_ ?_
            · refine gk_block (by kernel_rfl) ?_
              refine gk_pick [0, 2, 88, 89, 90] (K' := [(0, .string a0), (2, .pointer (some ⟨g1, 0, none⟩)), (88, .slice A69 lex_signs.length c70), (89, .int .i64 (lex_signs.length : Int)), (90, .int .i64 0)]) (by kernel_rfl) ?_
              intro t hK
              refine gc_loop (lex_one_l89 a0) (fun s79 t I' L' => I66 ≤ I' ∧ C71 ++ ((g1, .cells #[.int .i64 0, .string (⟨#[]⟩ : ByteArray), .int .i64 0] 28) :: L) = L' ∧ Knows 103 [(0, .string a0), (2, .pointer (some ⟨g1, 0, none⟩)), (88, .slice A69 lex_signs.length c70), (89, .int .i64 (lex_signs.length : Int)), (90, .int .i64 s79)] t) (by kernel_rfl) ?_ hl78 ⟨(Imm.refl _), rfl, hK⟩
              rintro s79 o80 t I84 L' hb81 ⟨hI82, rfl, hK83⟩
              unfold lex_one_l89 at hb81
              refine gk_at hK83 ?_
              refine gk_seq (by kernel_rfl) ?_
              refine gk_region (by kernel_rfl) ?_
              refine gl_pure 1 [0, 2, 88, 89, 90, 91] (K' := [(0, .string a0), (2, .pointer (some ⟨g1, 0, none⟩)), (88, .slice A69 lex_signs.length c70), (89, .int .i64 (lex_signs.length : Int)), (90, .int .i64 s79), (91, .bool (decide (s79 < (lex_signs.length : Int))))]) (by kernel_rfl) ?_
              refine gl_atE (by kernel_rfl) ?_
              refine ge_seq ?_
              refine gk_seq (by kernel_rfl) ?_
              refine gk_cond (b := (decide (s79 < (lex_signs.length : Int)))) (by kernel_rfl) (by kernel_rfl) (fun hc91 => ?_) (fun hc91 => ?_)
              · have hb81 := cond_t hc91 hb81
                refine gk_skip (by kernel_rfl) ?_
                refine ge_seq ?_
                refine gk_seq (by kernel_rfl) ?_
                refine gk_block (by kernel_rfl) ?_
                refine gk_seq (by kernel_rfl) ?_
                refine gk_region (by kernel_rfl) ?_
                obtain ⟨x92, hx93, hb81⟩ := bind_some hb81
                refine gl_indexAddrW (d := Kd.str) (c := c70) (T' := 40) (e := 9) (xs := (.tmp 88)) (xi := (.tmp 90)) (kd := .i64) hx93 (hO72.mono hI82) (Upd.selfC _ _) (by kernel_rfl) (by kernel_rfl) (by kernel_rfl) (by kernel_rfl) (by kernel_rfl) (fun p94 cs95 hR96 hA97 hp100 => ?_)
                obtain rfl := hR96
                refine gl_loadO (T' := 9) (xp := (.tmp 92)) (p := p94) (c := .string x92) (n := 1) (by kernel_rfl) (by kernel_rfl) (by kernel_rfl) (by kernel_rfl) hA97 ?_
                refine gl_pure 1 [0, 2, 13, 88, 89, 90] (K' := [(0, .string a0), (2, .pointer (some ⟨g1, 0, none⟩)), (13, .string x92), (88, .slice A69 lex_signs.length c70), (89, .int .i64 (lex_signs.length : Int)), (90, .int .i64 s79)]) (by kernel_rfl) ?_
                refine gl_atE (by kernel_rfl) ?_
                refine ge_seq ?_
                refine gk_seq (by kernel_rfl) ?_
                refine gk_region (by kernel_rfl) ?_
                refine gl_pure 2 [0, 2, 13, 88, 89, 90, 94, 95] (K' := [(0, .string a0), (2, .pointer (some ⟨g1, 0, none⟩)), (13, .string x92), (88, .slice A69 lex_signs.length c70), (89, .int .i64 (lex_signs.length : Int)), (90, .int .i64 s79), (94, .string a0), (95, .string x92)]) (by kernel_rfl) ?_
                obtain ⟨y101, hx102, hb81⟩ := bind_some hb81
                refine gl_callQ (by kernel_rfl) (strings_HasPrefix_walk (r := y101)  hx102 _) ?_
                refine gl_atE (by kernel_rfl) ?_
                refine ge_seq ?_
                refine gk_cond (b := y101) (by kernel_rfl) (by kernel_rfl) (fun hc103 => ?_) (fun hc103 => ?_)
                · have hb81 := cond_t hc103 hb81
                  refine gk_seq (by kernel_rfl) ?_
                  refine gk_region (by kernel_rfl) ?_
                  refine gl_pure 4 [2, 98, 100] (K' := [(2, .pointer (some ⟨g1, 0, none⟩)), (98, .agg #[.int .i64 5, .string x92, .int .i64 0]), (100, .int .i64 (x92.size : Int))]) (by kernel_rfl) ?_
                  refine gl_storeB (T' := 28) (xp := (.tmp 2)) (xv := (.tmp 98)) (v := .agg #[.int .i64 5, .string x92, .int .i64 0]) (g := g1) (off := 0) (cs := #[.int .i64 0, .string (⟨#[]⟩ : ByteArray), .int .i64 0]) (cs' := #[.int .i64 5, .string x92, .int .i64 0]) (by kernel_rfl) (by kernel_rfl) (by kernel_rfl) (by kernel_rfl) (by kernel_rfl) (Upd.app _ (Upd.set _ _ _ _)) ?_ (by kernel_rfl)
                  refine gl_pure 1 [2, 3] (K' := [(2, .pointer (some ⟨g1, 0, none⟩)), (3, .int .i64 (x92.size : Int))]) (by kernel_rfl) ?_
                  refine gl_atE (by kernel_rfl) ?_
                  refine ge_seq ?_
                  refine gk_rest (Tk.step (Upd.app _ (Upd.rm1 _ _)) (Tk.nil _)) (fun J104 hJ105 hC106 => ?_)
                  have hf107 := hC106.left.blk
                  refine gk_reord (D := L) (Reord.skipC (Reord.refl _)) ?_
                  refine gk_ret (by kernel_rfl) ?_
                  refine ge_block_ret ?_
                  refine ge_seq_ret ?_
                  obtain rfl := some_inj hb81
                  refine ge_round_out (fun hrr => ?_) (by intro h; cases h)
                  obtain rfl := hrr
                  refine ge_block_ret ?_
                  refine ge_seq_ret ?_
                  refine ge_seq_ret ?_
                  obtain rfl := some_inj hr
                  exact ge_result trivial (ResOk.cell (v := .agg #[.int .i64 5, .string x92, .int .i64 0]) (by kernel_rfl) (loadR_agg (cs := [.int .i64 5, .string x92, .int .i64 0]) (by kernel_rfl) (RunAt.take hf107 3)) (ResOk.tmp (by kernel_rfl) ResOk.nil)) (Imm.trans (Imm.trans (Imm.trans (Imm.trans hI13 hI55) hI68) hI82) hJ105) ⟨rfl, rfl⟩
                · have hb81 := cond_f hc103 hb81
                  refine gk_skip (by kernel_rfl) ?_
                  refine ge_block_normal ?_
                  refine ge_seq ?_
                  refine gk_region (by kernel_rfl) ?_
                  refine gl_pure 2 [0, 2, 88, 89, 90] (K' := [(0, .string a0), (2, .pointer (some ⟨g1, 0, none⟩)), (88, .slice A69 lex_signs.length c70), (89, .int .i64 (lex_signs.length : Int)), (90, .int .i64 (IntKind.wrap .i64 (s79 + 1)))]) (by kernel_rfl) ?_
                  refine gl_atE (by kernel_rfl) ?_
                  obtain rfl := some_inj hb81
                  exact ge_round fun t ht => ⟨hI82, rfl, ht.pick (l := [0, 2, 88, 89, 90]) (by kernel_rfl)⟩
              · have hb81 := cond_f hc91 hb81
                refine gk_reord (D := (g1, .cells #[.int .i64 0, .string (⟨#[]⟩ : ByteArray), .int .i64 0] 28) :: L) (Reord.step1 (Upd.app _ (Upd.rm1 _ _)) (Reord.skipC (Reord.refl _))) ?_
                refine gk_exit (by kernel_rfl) ?_
                refine ge_seq_exit ?_
                obtain rfl := some_inj hb81
                refine ge_round_out (fun hrr => ?_) (by intro h; cases h)
                obtain rfl := hrr
                refine ge_block_hit (by kernel_rfl) ?_
                exact ge_mid fun t ht => ⟨_, rfl, hI82, rfl, ht.pick (l := [2]) (by kernel_rfl)⟩
            · rintro t I88 L' ⟨r85, rfl, hI86, rfl, hK87⟩
              refine ge_at hK87 ?_
              refine ge_seq ?_
              refine gk_seq (by kernel_rfl) ?_
              refine gk_region (by kernel_rfl) ?_
              refine gl_pure 1 [2, 102] (K' := [(2, .pointer (some ⟨g1, 0, none⟩)), (102, .agg #[.int .i64 0, .string (⟨#[]⟩ : ByteArray), .int .i64 0])]) (by kernel_rfl) ?_
              refine gl_storeB (T' := 28) (xp := (.tmp 2)) (xv := (.tmp 102)) (v := .agg #[.int .i64 0, .string (⟨#[]⟩ : ByteArray), .int .i64 0]) (g := g1) (off := 0) (cs := #[.int .i64 0, .string (⟨#[]⟩ : ByteArray), .int .i64 0]) (cs' := #[.int .i64 0, .string (⟨#[]⟩ : ByteArray), .int .i64 0]) (by kernel_rfl) (by kernel_rfl) (by kernel_rfl) (by kernel_rfl) (by kernel_rfl) (Upd.set _ _ _ _) ?_ (by kernel_rfl)
              refine gl_pure 1 [2, 3] (K' := [(2, .pointer (some ⟨g1, 0, none⟩)), (3, .int .i64 0)]) (by kernel_rfl) ?_
              refine gl_atE (by kernel_rfl) ?_
              refine ge_seq ?_
              refine gk_rest (Tk.step (Upd.rm1 _ _) (Tk.nil _)) (fun J108 hJ109 hC110 => ?_)
              have hf111 := hC110.left.blk
              refine gk_ret (by kernel_rfl) ?_
              obtain rfl := some_inj hr
              exact ge_result trivial (ResOk.cell (v := .agg #[.int .i64 0, .string (⟨#[]⟩ : ByteArray), .int .i64 0]) (by kernel_rfl) (loadR_agg (cs := [.int .i64 0, .string (⟨#[]⟩ : ByteArray), .int .i64 0]) (by kernel_rfl) (RunAt.take hf111 3)) (ResOk.tmp (by kernel_rfl) ResOk.nil)) (Imm.trans (Imm.trans (Imm.trans (Imm.trans hI13 hI55) hI68) hI86) hJ109) ⟨rfl, rfl⟩
/-! 8 lex_Tokens  -/
noncomputable def lex_Tokens_l32 (a0 : ByteArray) : ((List S27) × Int) → Option (((List S27) × Int) ⊕ (((List S27)) ⊕ ((List S27) × Int × Int))) := fun s14 =>
  bif (decide (s14.2 < (a0.size : Int))) then
  (Option.bind (sx a0 s14.2 (a0.size : Int)) fun (s36 : ByteArray) =>
    Option.bind (lex_one s36) fun (y37 : S27 × Int) =>
    bif (y37.2 == 0) then
    (some (Sum.inr (Sum.inr ([], 130, s14.2))))
    else
    (Option.bind (app s14.1 [(⟨y37.1.f0, y37.1.f1, s14.2⟩ : S27)]) fun (zs45 : List S27) =>
      Option.bind (lex_skip a0 (IntKind.wrap .i64 (s14.2 + y37.2))) fun (y51 : Int) =>
      some (Sum.inl (zs45, y51))))
  else
  (some (Sum.inr (Sum.inl s14.1)))
noncomputable def lex_Tokens (a0 : ByteArray) : Option ((List S27) × Int × Int) :=
  bif (decide ((a0.size : Int) > 65536)) then
  (some ([], 4, 0))
  else
  (Option.bind (lex_skip a0 0) fun (y2 : Int) =>
    Option.bind (loopO (lex_Tokens_l32 a0) ([], y2)) fun (r12 : ((List S27)) ⊕ ((List S27) × Int × Int)) =>
    match r12 with
    | Sum.inl r24 => Option.bind (app r24 [(⟨0, (⟨#[]⟩ : ByteArray), (a0.size : Int)⟩ : S27)]) fun (zs57 : List S27) =>
      bif (decide ((zs57.length : Int) > 4096)) then
      (some ([], 7, 0))
      else
      (some (zs57, 0, 0))
    | Sum.inr v64 => some v64)
theorem lex_Tokens_walk {a0 : ByteArray} {I : Imm} {r : (List S27) × Int × Int} (hG : Gl I) (hr : lex_Tokens a0 = some r) (L : Own) :
    CallsTo Tryd.prog 8 #[.string a0] I L (fun v I' L' => ∃ A0 c0 C0, OwnS kS27 28 I' A0 c0 r.1 C0 ∧ v = .tuple #[.slice A0 r.1.length c0, .int .i64 r.2.1, .int .i64 r.2.2] ∧ C0 ++ L = L') := by
  unfold lex_Tokens at hr
  refine callsTo_body (N := 49) Tryd.func8 (by kernel_rfl) (by kernel_rfl) (by kernel_rfl) ?_
  refine gk_pick [0] (K' := [(0, .string a0)]) (by kernel_rfl) ?_
  refine gk_seq (by kernel_rfl) ?_
  refine gk_region (by kernel_rfl) ?_
  refine gl_pure 3 [0] (K' := [(0, .string a0)]) (by kernel_rfl) ?_
  refine gl_atE (by kernel_rfl) ?_
  refine ge_seq ?_
  refine gk_seq (by kernel_rfl) ?_
  refine gk_seq (by kernel_rfl) ?_
  refine gk_region (by kernel_rfl) ?_
  refine gl_pure 3 [0, 11] (K' := [(0, .string a0), (11, .bool (decide ((a0.size : Int) > 65536)))]) (by kernel_rfl) ?_
  refine gl_atE (by kernel_rfl) ?_
  refine ge_seq ?_
  refine gk_cond (b := (decide ((a0.size : Int) > 65536))) (by kernel_rfl) (by kernel_rfl) (fun hc1 => ?_) (fun hc1 => ?_)
  · have hr := cond_t hc1 hr
    refine gk_seq (by kernel_rfl) ?_
    refine gk_region (by kernel_rfl) ?_
    refine gl_pure 3 [2, 3, 4] (K' := [(2, .slice none 0 0), (3, .int .i64 4), (4, .int .i64 0)]) (by kernel_rfl) ?_
    refine gl_atE (by kernel_rfl) ?_
    refine ge_seq ?_
    refine gk_ret (by kernel_rfl) ?_
    refine ge_seq_ret ?_
    obtain rfl := some_inj hr
    exact ge_result trivial (ResOk.tmp (by kernel_rfl) (ResOk.tmp (by kernel_rfl) (ResOk.tmp (by kernel_rfl) ResOk.nil))) (Imm.refl _) ⟨none, 0, [], OwnS.nil _ _ _ _, rfl, rfl⟩
  · have hr := cond_f hc1 hr
    refine gk_skip (by kernel_rfl) ?_
    refine ge_seq ?_
    refine gk_seq (by kernel_rfl) ?_
    refine gk_region (by kernel_rfl) ?_
    refine gl_pure 1 [0, 5] (K' := [(0, .string a0), (5, .slice none 0 0)]) (by kernel_rfl) ?_
    refine gl_atE (by kernel_rfl) ?_
    refine ge_seq ?_
    refine gk_seq (by kernel_rfl) ?_
    refine gk_seq (by kernel_rfl) ?_
    refine gk_region (by kernel_rfl) ?_
    refine gl_pure 1 [0, 5, 12] (K' := [(0, .string a0), (5, .slice none 0 0), (12, .string a0)]) (by kernel_rfl) ?_
    obtain ⟨y2, hx3, hr⟩ := bind_some hr
    refine gl_callQ (by kernel_rfl) (lex_skip_walk (r := y2)  hx3 _) ?_
    refine gl_pure 1 [0, 5, 6] (K' := [(0, .string a0), (5, .slice none 0 0), (6, .int .i64 y2)]) (by kernel_rfl) ?_
    refine gl_atE (by kernel_rfl) ?_
    refine ge_seq ?_
    obtain ⟨r12, hl13, hr⟩ := bind_some hr
    refine gk_join (fun t I' L' => ∃ r24, r12 = Sum.inl r24 ∧ ∃ A26 n27 C28, OwnS kS27 28 I' A26 n27 r24 C28 ∧ I ≤ I' ∧ C28 ++ L = L' ∧ Knows 49 [(0, .string a0), (5, .slice A26 r24.length n27)] t) ?_ ?_
    · refine gk_block (by kernel_rfl) ?_
      refine gk_pick [0, 5, 6] (K' := [(0, .string a0), (5, .slice none 0 0), (6, .int .i64 y2)]) (by kernel_rfl) ?_
      intro t hK
      refine gc_loop (lex_Tokens_l32 a0) (fun s14 t I' L' => ∃ A18 n19 C20, OwnS kS27 28 I' A18 n19 s14.1 C20 ∧ I ≤ I' ∧ C20 ++ L = L' ∧ Knows 49 [(0, .string a0), (5, .slice A18 s14.1.length n19), (6, .int .i64 s14.2)] t) (by kernel_rfl) ?_ hl13 ⟨none, 0, [], OwnS.nil _ _ _ _, (Imm.refl _), rfl, hK⟩
      rintro s14 o15 t I23 L' hb16 ⟨A18, n19, C20, hO21, hI17, rfl, hK22⟩
      unfold lex_Tokens_l32 at hb16
      refine gk_at hK22 ?_
      refine gk_seq (by kernel_rfl) ?_
      refine gk_seq (by kernel_rfl) ?_
      refine gk_region (by kernel_rfl) ?_
      refine gl_pure 4 [0, 5, 6, 17] (K' := [(0, .string a0), (5, .slice A18 s14.1.length n19), (6, .int .i64 s14.2), (17, .bool (decide (s14.2 < (a0.size : Int))))]) (by kernel_rfl) ?_
      refine gl_atE (by kernel_rfl) ?_
      refine ge_seq ?_
      refine gk_cond (b := (decide (s14.2 < (a0.size : Int)))) (by kernel_rfl) (by kernel_rfl) (fun hc34 => ?_) (fun hc34 => ?_)
      · have hb16 := cond_t hc34 hb16
        refine gk_skip (by kernel_rfl) ?_
        refine ge_seq ?_
        refine gk_block (by kernel_rfl) ?_
        refine gk_seq (by kernel_rfl) ?_
        refine gk_region (by kernel_rfl) ?_
        refine gl_pure 2 [0, 5, 6, 19, 20] (K' := [(0, .string a0), (5, .slice A18 s14.1.length n19), (6, .int .i64 s14.2), (19, .string a0), (20, .int .i64 s14.2)]) (by kernel_rfl) ?_
        obtain ⟨s36, hx35, hb16⟩ := bind_some hb16
        refine gl_slice' (T' := 9) (xs := (.tmp 19)) (lo := (some (.tmp 20))) (hi := none) hx35 (by kernel_rfl) (by kernel_rfl) (by kernel_rfl) (by kernel_rfl) (by kernel_rfl) (by kernel_rfl) ?_
        obtain ⟨y37, hx38, hb16⟩ := bind_some hb16
        refine gl_callQ (by kernel_rfl) (lex_one_walk (r := y37) (hG.mono hI17) hx38 _) ?_
        refine gl_pure 3 [0, 5, 6, 23, 24] (K' := [(0, .string a0), (5, .slice A18 s14.1.length n19), (6, .int .i64 s14.2), (23, .agg #[.int .i64 y37.1.f0, .string y37.1.f1, .int .i64 y37.1.f2]), (24, .int .i64 y37.2)]) (by kernel_rfl) ?_
        refine gl_alloc (T' := 28) (cs := #[.int .i64 0, .string (⟨#[]⟩ : ByteArray), .int .i64 0]) (by kernel_rfl) (by kernel_rfl) (by kernel_rfl) (fun g39 => ?_)
        refine gl_storeB (T' := 28) (xp := (.tmp 7)) (xv := (.tmp 23)) (v := .agg #[.int .i64 y37.1.f0, .string y37.1.f1, .int .i64 y37.1.f2]) (g := g39) (off := 0) (cs := #[.int .i64 0, .string (⟨#[]⟩ : ByteArray), .int .i64 0]) (cs' := #[.int .i64 y37.1.f0, .string y37.1.f1, .int .i64 y37.1.f2]) (by kernel_rfl) (by kernel_rfl) (by kernel_rfl) (by kernel_rfl) (by kernel_rfl) (Upd.set _ _ _ _) ?_ (by kernel_rfl)
        refine gl_pure 1 [0, 5, 6, 7, 8] (K' := [(0, .string a0), (5, .slice A18 s14.1.length n19), (6, .int .i64 s14.2), (7, .pointer (some ⟨g39, 0, none⟩)), (8, .int .i64 y37.2)]) (by kernel_rfl) ?_
        refine gl_atE (by kernel_rfl) ?_
        refine ge_seq ?_
        refine gk_seq (by kernel_rfl) ?_
        refine gk_seq (by kernel_rfl) ?_
        refine gk_region (by kernel_rfl) ?_
        refine gl_pure 2 [0, 5, 6, 7, 8, 26] (K' := [(0, .string a0), (5, .slice A18 s14.1.length n19), (6, .int .i64 s14.2), (7, .pointer (some ⟨g39, 0, none⟩)), (8, .int .i64 y37.2), (26, .bool (y37.2 == 0))]) (by kernel_rfl) ?_
        refine gl_atE (by kernel_rfl) ?_
        refine ge_seq ?_
        refine gk_cond (b := (y37.2 == 0)) (by kernel_rfl) (by kernel_rfl) (fun hc40 => ?_) (fun hc40 => ?_)
        · have hb16 := cond_t hc40 hb16
          refine gk_seq (by kernel_rfl) ?_
          refine gk_region (by kernel_rfl) ?_
          refine gl_pure 4 [2, 3, 4] (K' := [(2, .slice none 0 0), (3, .int .i64 130), (4, .int .i64 s14.2)]) (by kernel_rfl) ?_
          refine gl_atE (by kernel_rfl) ?_
          refine ge_seq ?_
          refine gk_reord (D := L) (Reord.skip (Reord.skipC (Reord.refl _))) ?_
          refine gk_ret (by kernel_rfl) ?_
          refine ge_seq_ret ?_
          refine ge_block_ret ?_
          obtain rfl := some_inj hb16
          refine ge_round_out (fun hrr => ?_) (by intro h; cases h)
          obtain rfl := hrr
          refine ge_block_ret ?_
          refine ge_seq_ret ?_
          refine ge_seq_ret ?_
          obtain rfl := some_inj hr
          exact ge_result trivial (ResOk.tmp (by kernel_rfl) (ResOk.tmp (by kernel_rfl) (ResOk.tmp (by kernel_rfl) ResOk.nil))) hI17 ⟨none, 0, [], OwnS.nil _ _ _ _, rfl, rfl⟩
        · have hb16 := cond_f hc40 hb16
          refine gk_skip (by kernel_rfl) ?_
          refine ge_seq ?_
          refine gk_seq (by kernel_rfl) ?_
          refine gk_region (by kernel_rfl) ?_
          refine gl_pure 2 [0, 5, 6, 7, 8, 28, 29] (K' := [(0, .string a0), (5, .slice A18 s14.1.length n19), (6, .int .i64 s14.2), (7, .pointer (some ⟨g39, 0, none⟩)), (8, .int .i64 y37.2), (28, .int .i64 s14.2), (29, .pointer (some ⟨g39, 2, none⟩))]) (by kernel_rfl) ?_
          refine gl_storeB (T' := 3) (xp := (.tmp 29)) (xv := (.tmp 28)) (v := .int .i64 s14.2) (g := g39) (off := 2) (cs := #[.int .i64 y37.1.f0, .string y37.1.f1, .int .i64 y37.1.f2]) (cs' := #[.int .i64 y37.1.f0, .string y37.1.f1, .int .i64 s14.2]) (by kernel_rfl) (by kernel_rfl) (by kernel_rfl) (by kernel_rfl) (by kernel_rfl) (Upd.set _ _ _ _) ?_ (by kernel_rfl)
          refine gl_atE (by kernel_rfl) ?_
          refine ge_seq ?_
          refine gk_seq (by kernel_rfl) ?_
          refine gk_region (by kernel_rfl) ?_
          refine gl_pure 1 [0, 6, 7, 8, 30] (K' := [(0, .string a0), (6, .int .i64 s14.2), (7, .pointer (some ⟨g39, 0, none⟩)), (8, .int .i64 y37.2), (30, .slice A18 s14.1.length n19)]) (by kernel_rfl) ?_
          refine gl_loadB (T' := 28) (xp := (.tmp 7)) (v := .agg #[.int .i64 y37.1.f0, .string y37.1.f1, .int .i64 s14.2]) (g := g39) (off := 0) (cs := #[.int .i64 y37.1.f0, .string y37.1.f1, .int .i64 s14.2]) (e := 28) (fz := (0, 0)) (by kernel_rfl) (by kernel_rfl) (by kernel_rfl) List.mem_cons_self (by kernel_rfl) ?_
          refine gl_buildSlice (T' := 22) (e := 28) (n := 3) (len := 1) (parts := #[(0, (.tmp 31))]) (l := [(0, .agg #[.int .i64 y37.1.f0, .string y37.1.f1, .int .i64 s14.2])]) (cs := #[.int .i64 y37.1.f0, .string y37.1.f1, .int .i64 s14.2]) (by kernel_rfl) (by kernel_rfl) (by kernel_rfl) (by kernel_rfl) (by kernel_rfl) (fun g41 => ?_)
          have hO42 : OwnS kS27 28 I23 (some ⟨g41, 0, none⟩) 1 [(⟨y37.1.f0, y37.1.f1, s14.2⟩ : S27)] [(g41, .cells #[.int .i64 y37.1.f0, .string y37.1.f1, .int .i64 s14.2] 28)] := OwnS.lit (row_cons (l := [.int .i64 y37.1.f0, .string y37.1.f1, .int .i64 s14.2]) (kS27_mk (x := (⟨y37.1.f0, y37.1.f1, s14.2⟩ : S27)) ) (row_nil _ _)) rfl rfl rfl
          refine gl_reord (D := [(g41, .cells #[.int .i64 y37.1.f0, .string y37.1.f1, .int .i64 s14.2] 28)] ++ ((g39, .cells #[.int .i64 y37.1.f0, .string y37.1.f1, .int .i64 s14.2] 28) :: (C20 ++ L))) (Reord.refl _) ?_
          obtain ⟨zs45, hz46, hb16⟩ := bind_some hb16
          refine gl_append (xv := .slice (some ⟨g41, 0, none⟩) [(⟨y37.1.f0, y37.1.f1, s14.2⟩ : S27)].length 1) (d := kS27) (t := 22) (tx := 22) (e := 28) (s := (.tmp 30)) (x := (.tmp 32)) (xs := s14.1) (fun X => [(g41, .cells #[.int .i64 y37.1.f0, .string y37.1.f1, .int .i64 s14.2] 28)] ++ ((g39, .cells #[.int .i64 y37.1.f0, .string y37.1.f1, .int .i64 s14.2] 28) :: (X ++ L))) hz46 (by kernel_rfl) (by kernel_rfl) (by kernel_rfl) (by kernel_rfl) (by kernel_rfl) (by kernel_rfl) (fun X => (Upd.app _ (Upd.one _ (Upd.head _ X _)))) hO21 (SrcOk.slice (c := 1) (e := 28) (n := 3) (OwnS.rd hO42 (Upd.selfC _ _)) (by kernel_rfl)) (fun A47 n48 C49 hO50 => ?_)
          refine gl_pure 1 [0, 5, 6, 8] (K' := [(0, .string a0), (5, .slice A47 zs45.length n48), (6, .int .i64 s14.2), (8, .int .i64 y37.2)]) (by kernel_rfl) ?_
          refine gl_atE (by kernel_rfl) ?_
          refine ge_seq ?_
          refine gk_region (by kernel_rfl) ?_
          refine gl_pure 4 [0, 5, 34, 37] (K' := [(0, .string a0), (5, .slice A47 zs45.length n48), (34, .string a0), (37, .int .i64 (IntKind.wrap .i64 (s14.2 + y37.2)))]) (by kernel_rfl) ?_
          obtain ⟨y51, hx52, hb16⟩ := bind_some hb16
          refine gl_callQ (by kernel_rfl) (lex_skip_walk (r := y51)  hx52 _) ?_
          refine gl_pure 1 [0, 5, 6] (K' := [(0, .string a0), (5, .slice A47 zs45.length n48), (6, .int .i64 y51)]) (by kernel_rfl) ?_
          refine gl_reord (D := C49 ++ L) (Reord.step (Upd.app _ (Upd.one _ (Upd.rmC _ _))) (Reord.skipC (Reord.skip (Reord.refl _)))) ?_
          refine gl_atE (by kernel_rfl) ?_
          refine ge_block_normal ?_
          obtain rfl := some_inj hb16
          exact ge_round fun t ht => ⟨A47, n48, C49, hO50, hI17, rfl, ht.pick (l := [0, 5, 6]) (by kernel_rfl)⟩
      · have hb16 := cond_f hc34 hb16
        refine gk_exit (by kernel_rfl) ?_
        refine ge_seq_exit ?_
        obtain rfl := some_inj hb16
        refine ge_round_out (fun hrr => ?_) (by intro h; cases h)
        obtain rfl := hrr
        refine ge_block_hit (by kernel_rfl) ?_
        exact ge_mid fun t ht => ⟨_, rfl, A18, n19, C20, hO21, hI17, rfl, ht.pick (l := [0, 5]) (by kernel_rfl)⟩
    · rintro t I31 L' ⟨r24, rfl, A26, n27, C28, hO29, hI25, rfl, hK30⟩
      refine ge_at hK30 ?_
      refine ge_seq ?_
      refine gk_seq (by kernel_rfl) ?_
      refine gk_seq (by kernel_rfl) ?_
      refine gk_region (by kernel_rfl) ?_
      refine gl_pure 4 [39, 42] (K' := [(39, .slice A26 r24.length n27), (42, .agg #[.int .i64 0, .string (⟨#[]⟩ : ByteArray), .int .i64 (a0.size : Int)])]) (by kernel_rfl) ?_
      refine gl_buildSlice (T' := 22) (e := 28) (n := 3) (len := 1) (parts := #[(0, (.tmp 42))]) (l := [(0, .agg #[.int .i64 0, .string (⟨#[]⟩ : ByteArray), .int .i64 (a0.size : Int)])]) (cs := #[.int .i64 0, .string (⟨#[]⟩ : ByteArray), .int .i64 (a0.size : Int)]) (by kernel_rfl) (by kernel_rfl) (by kernel_rfl) (by kernel_rfl) (by kernel_rfl) (fun g53 => ?_)
      have hO54 : OwnS kS27 28 I31 (some ⟨g53, 0, none⟩) 1 [(⟨0, (⟨#[]⟩ : ByteArray), (a0.size : Int)⟩ : S27)] [(g53, .cells #[.int .i64 0, .string (⟨#[]⟩ : ByteArray), .int .i64 (a0.size : Int)] 28)] := OwnS.lit (row_cons (l := [.int .i64 0, .string (⟨#[]⟩ : ByteArray), .int .i64 (a0.size : Int)]) (kS27_mk (x := (⟨0, (⟨#[]⟩ : ByteArray), (a0.size : Int)⟩ : S27)) ) (row_nil _ _)) rfl rfl rfl
      refine gl_reord (D := [(g53, .cells #[.int .i64 0, .string (⟨#[]⟩ : ByteArray), .int .i64 (a0.size : Int)] 28)] ++ (C28 ++ L)) (Reord.refl _) ?_
      obtain ⟨zs57, hz58, hr⟩ := bind_some hr
      refine gl_append (xv := .slice (some ⟨g53, 0, none⟩) [(⟨0, (⟨#[]⟩ : ByteArray), (a0.size : Int)⟩ : S27)].length 1) (d := kS27) (t := 22) (tx := 22) (e := 28) (s := (.tmp 39)) (x := (.tmp 43)) (xs := r24) (fun X => [(g53, .cells #[.int .i64 0, .string (⟨#[]⟩ : ByteArray), .int .i64 (a0.size : Int)] 28)] ++ (X ++ L)) hz58 (by kernel_rfl) (by kernel_rfl) (by kernel_rfl) (by kernel_rfl) (by kernel_rfl) (by kernel_rfl) (fun X => (Upd.app _ (Upd.head _ X _))) hO29 (SrcOk.slice (c := 1) (e := 28) (n := 3) (OwnS.rd hO54 (Upd.selfC _ _)) (by kernel_rfl)) (fun A59 n60 C61 hO62 => ?_)
      refine gl_pure 1 [5] (K' := [(5, .slice A59 zs57.length n60)]) (by kernel_rfl) ?_
      refine gl_atE (by kernel_rfl) ?_
      refine ge_seq ?_
      refine gk_seq (by kernel_rfl) ?_
      refine gk_region (by kernel_rfl) ?_
      refine gl_pure 3 [5, 47] (K' := [(5, .slice A59 zs57.length n60), (47, .bool (decide ((zs57.length : Int) > 4096)))]) (by kernel_rfl) ?_
      refine gl_atE (by kernel_rfl) ?_
      refine ge_seq ?_
      refine gk_cond (b := (decide ((zs57.length : Int) > 4096))) (by kernel_rfl) (by kernel_rfl) (fun hc63 => ?_) (fun hc63 => ?_)
      · have hr := cond_t hc63 hr
        refine gk_seq (by kernel_rfl) ?_
        refine gk_region (by kernel_rfl) ?_
        refine gl_pure 3 [2, 3, 4] (K' := [(2, .slice none 0 0), (3, .int .i64 7), (4, .int .i64 0)]) (by kernel_rfl) ?_
        refine gl_atE (by kernel_rfl) ?_
        refine ge_seq ?_
        refine gk_reord (D := L) (Reord.skipC (Reord.skipC (Reord.refl _))) ?_
        refine gk_ret (by kernel_rfl) ?_
        refine ge_seq_ret ?_
        obtain rfl := some_inj hr
        exact ge_result trivial (ResOk.tmp (by kernel_rfl) (ResOk.tmp (by kernel_rfl) (ResOk.tmp (by kernel_rfl) ResOk.nil))) hI25 ⟨none, 0, [], OwnS.nil _ _ _ _, rfl, rfl⟩
      · have hr := cond_f hc63 hr
        refine gk_skip (by kernel_rfl) ?_
        refine ge_seq ?_
        refine gk_seq (by kernel_rfl) ?_
        refine gk_region (by kernel_rfl) ?_
        refine gl_pure 4 [2, 3, 4] (K' := [(2, .slice A59 zs57.length n60), (3, .int .i64 0), (4, .int .i64 0)]) (by kernel_rfl) ?_
        refine gl_atE (by kernel_rfl) ?_
        refine ge_seq ?_
        refine gk_reord (D := C61 ++ L) (Reord.step (Upd.app _ (Upd.rmC _ _)) (Reord.skipC (Reord.refl _))) ?_
        refine gk_ret (by kernel_rfl) ?_
        obtain rfl := some_inj hr
        exact ge_result trivial (ResOk.tmp (by kernel_rfl) (ResOk.tmp (by kernel_rfl) (ResOk.tmp (by kernel_rfl) ResOk.nil))) hI25 ⟨A59, n60, C61, hO62, rfl, rfl⟩
/-! 24 lex_alone  -/
noncomputable def lex_alone (a0 : ByteArray) (a1 : Int) : Option Bool :=
  bif (a0.toList == (⟨#[]⟩ : ByteArray).toList) then
  (some false)
  else
  (Option.bind (lex_one a0) fun (y2 : S27 × Int) =>
    some ((y2.2 == (a0.size : Int)) && (y2.1.f0 == a1)))
theorem lex_alone_walk {a0 : ByteArray} {a1 : Int} {I : Imm} {r : Bool} (hG : Gl I) (hr : lex_alone a0 a1 = some r) (L : Own) :
    CallsTo Tryd.prog 24 #[.string a0, .int .i64 a1] I L (fun v I' L' => v = .bool r ∧ L = L') := by
  unfold lex_alone at hr
  refine callsTo_body (N := 24) Tryd.func24 (by kernel_rfl) (by kernel_rfl) (by kernel_rfl) ?_
  refine gk_pick [0, 1] (K' := [(0, .string a0), (1, .int .i64 a1)]) (by kernel_rfl) ?_
  refine gk_seq (by kernel_rfl) ?_
  refine gk_region (by kernel_rfl) ?_
  refine gl_pure 1 [0, 1] (K' := [(0, .string a0), (1, .int .i64 a1)]) (by kernel_rfl) ?_
  refine gl_atE (by kernel_rfl) ?_
  refine ge_seq ?_
  refine gk_seq (by kernel_rfl) ?_
  refine gk_seq (by kernel_rfl) ?_
  refine gk_region (by kernel_rfl) ?_
  refine gl_pure 2 [0, 1, 8] (K' := [(0, .string a0), (1, .int .i64 a1), (8, .bool (a0.toList == (⟨#[]⟩ : ByteArray).toList))]) (by kernel_rfl) ?_
  refine gl_atE (by kernel_rfl) ?_
  refine ge_seq ?_
  refine gk_cond (b := (a0.toList == (⟨#[]⟩ : ByteArray).toList)) (by kernel_rfl) (by kernel_rfl) (fun hc1 => ?_) (fun hc1 => ?_)
  · have hr := cond_t hc1 hr
    refine gk_seq (by kernel_rfl) ?_
    refine gk_region (by kernel_rfl) ?_
    refine gl_pure 1 [4] (K' := [(4, .bool false)]) (by kernel_rfl) ?_
    refine gl_atE (by kernel_rfl) ?_
    refine ge_seq ?_
    refine gk_ret (by kernel_rfl) ?_
    refine ge_seq_ret ?_
    obtain rfl := some_inj hr
    exact ge_result trivial (ResOk.tmp (by kernel_rfl) ResOk.nil) (Imm.refl _) ⟨rfl, rfl⟩
  · have hr := cond_f hc1 hr
    refine gk_skip (by kernel_rfl) ?_
    refine ge_seq ?_
    refine gk_seq (by kernel_rfl) ?_
    refine gk_region (by kernel_rfl) ?_
    refine gl_pure 1 [0, 1, 10] (K' := [(0, .string a0), (1, .int .i64 a1), (10, .string a0)]) (by kernel_rfl) ?_
    obtain ⟨y2, hx3, hr⟩ := bind_some hr
    refine gl_callQ (by kernel_rfl) (lex_one_walk (r := y2) hG hx3 _) ?_
    refine gl_pure 3 [0, 1, 12, 13] (K' := [(0, .string a0), (1, .int .i64 a1), (12, .agg #[.int .i64 y2.1.f0, .string y2.1.f1, .int .i64 y2.1.f2]), (13, .int .i64 y2.2)]) (by kernel_rfl) ?_
    refine gl_alloc (T' := 28) (cs := #[.int .i64 0, .string (⟨#[]⟩ : ByteArray), .int .i64 0]) (by kernel_rfl) (by kernel_rfl) (by kernel_rfl) (fun g4 => ?_)
    refine gl_storeB (T' := 28) (xp := (.tmp 5)) (xv := (.tmp 12)) (v := .agg #[.int .i64 y2.1.f0, .string y2.1.f1, .int .i64 y2.1.f2]) (g := g4) (off := 0) (cs := #[.int .i64 0, .string (⟨#[]⟩ : ByteArray), .int .i64 0]) (cs' := #[.int .i64 y2.1.f0, .string y2.1.f1, .int .i64 y2.1.f2]) (by kernel_rfl) (by kernel_rfl) (by kernel_rfl) (by kernel_rfl) (by kernel_rfl) (Upd.set _ _ _ _) ?_ (by kernel_rfl)
    refine gl_pure 1 [0, 1, 5, 6] (K' := [(0, .string a0), (1, .int .i64 a1), (5, .pointer (some ⟨g4, 0, none⟩)), (6, .int .i64 y2.2)]) (by kernel_rfl) ?_
    refine gl_atE (by kernel_rfl) ?_
    refine ge_seq ?_
    refine gk_seq (by kernel_rfl) ?_
    obtain ⟨b7, hb8⟩ : ∃ z, z = ((y2.2 == (a0.size : Int)) && (y2.1.f0 == a1)) := ⟨_, rfl⟩
    refine gk_join (fun t I' L' => I ≤ I' ∧ (g4, .cells #[.int .i64 y2.1.f0, .string y2.1.f1, .int .i64 y2.1.f2] 28) :: L = L' ∧ Knows 24 [(4, .bool b7)] t) ?_ ?_
    · refine gk_region (by kernel_rfl) ?_
      refine gl_pure 5 [1, 5, 18] (K' := [(1, .int .i64 a1), (5, .pointer (some ⟨g4, 0, none⟩)), (18, .bool (y2.2 == (a0.size : Int)))]) (by kernel_rfl) ?_
      refine gl_case 18 (b := (y2.2 == (a0.size : Int))) (by kernel_rfl) (fun hc10 => ?_) (fun hc10 => ?_)
      · refine gl_pure 1 [1, 18, 19] (K' := [(1, .int .i64 a1), (18, .bool true), (19, .pointer (some ⟨g4, 0, none⟩))]) (by kernel_rfl) ?_
        refine gl_loadB (T' := 3) (xp := (.tmp 19)) (v := .int .i64 y2.1.f0) (g := g4) (off := 0) (cs := #[.int .i64 y2.1.f0, .string y2.1.f1, .int .i64 y2.1.f2]) (e := 28) (fz := (0, 0)) (by kernel_rfl) (by kernel_rfl) (by kernel_rfl) List.mem_cons_self (by kernel_rfl) ?_
        refine gl_pure 4 [4] (K' := [(4, .bool (y2.1.f0 == a1))]) (by kernel_rfl) ?_
        refine gl_atE (by kernel_rfl) ?_
        exact ge_mid fun t ht => ⟨(Imm.refl _), rfl, by rw [(show b7 = (y2.1.f0 == a1) from hb8.trans (by rw [hc10]; try rfl))]; exact ht.pick (l := [4]) (by kernel_rfl)⟩
      · refine gl_pure 6 [4] (K' := [(4, .bool false)]) (by kernel_rfl) ?_
        refine gl_atE (by kernel_rfl) ?_
        exact ge_mid fun t ht => ⟨(Imm.refl _), rfl, by rw [(show b7 = false from hb8.trans (by rw [hc10]; try rfl))]; exact ht.pick (l := [4]) (by kernel_rfl)⟩
    · rintro t I9 L' ⟨hI5, rfl, hK6⟩
      subst hb8
      refine ge_at hK6 ?_
      refine ge_seq ?_
      refine gk_reord (D := L) (Reord.skip (Reord.refl _)) ?_
      refine gk_ret (by kernel_rfl) ?_
      obtain rfl := some_inj hr
      exact ge_result trivial (ResOk.tmp (by kernel_rfl) ResOk.nil) hI5 ⟨rfl, rfl⟩
/-! 19 lex_Span  -/
noncomputable def lex_Span (a0 : ByteArray) : Option (Int × Int) :=
  Option.bind (lex_alone a0 3) fun (y1 : Bool) =>
  bif (!y1) then
  (some (0, 130))
  else
  (Option.bind (lex_span a0) fun (y4 : Int × Int) =>
    bif (decide (y4.2 > 1099511627776)) then
    (some (0, 7))
    else
    (some (y4.2, 0)))
theorem lex_Span_walk {a0 : ByteArray} {I : Imm} {r : Int × Int} (hG : Gl I) (hr : lex_Span a0 = some r) (L : Own) :
    CallsTo Tryd.prog 19 #[.string a0] I L (fun v I' L' => v = .tuple #[.int .i64 r.1, .int .i64 r.2] ∧ L = L') := by
  unfold lex_Span at hr
  refine callsTo_body (N := 17) Tryd.func19 (by kernel_rfl) (by kernel_rfl) (by kernel_rfl) ?_
  refine gk_pick [0] (K' := [(0, .string a0)]) (by kernel_rfl) ?_
  refine gk_seq (by kernel_rfl) ?_
  refine gk_region (by kernel_rfl) ?_
  refine gl_pure 2 [0] (K' := [(0, .string a0)]) (by kernel_rfl) ?_
  refine gl_atE (by kernel_rfl) ?_
  refine ge_seq ?_
  refine gk_seq (by kernel_rfl) ?_
  refine gk_seq (by kernel_rfl) ?_
  refine gk_region (by kernel_rfl) ?_
  refine gl_pure 1 [0, 6] (K' := [(0, .string a0), (6, .string a0)]) (by kernel_rfl) ?_
  obtain ⟨y1, hx2, hr⟩ := bind_some hr
  refine gl_callQ (by kernel_rfl) (lex_alone_walk (r := y1) hG hx2 _) ?_
  refine gl_pure 1 [0, 8] (K' := [(0, .string a0), (8, .bool (!y1))]) (by kernel_rfl) ?_
  refine gl_atE (by kernel_rfl) ?_
  refine ge_seq ?_
  refine gk_cond (b := (!y1)) (by kernel_rfl) (by kernel_rfl) (fun hc3 => ?_) (fun hc3 => ?_)
  · have hr := cond_t hc3 hr
    refine gk_seq (by kernel_rfl) ?_
    refine gk_region (by kernel_rfl) ?_
    refine gl_pure 2 [2, 3] (K' := [(2, .int .i64 0), (3, .int .i64 130)]) (by kernel_rfl) ?_
    refine gl_atE (by kernel_rfl) ?_
    refine ge_seq ?_
    refine gk_ret (by kernel_rfl) ?_
    refine ge_seq_ret ?_
    obtain rfl := some_inj hr
    exact ge_result trivial (ResOk.tmp (by kernel_rfl) (ResOk.tmp (by kernel_rfl) ResOk.nil)) (Imm.refl _) ⟨rfl, rfl⟩
  · have hr := cond_f hc3 hr
    refine gk_skip (by kernel_rfl) ?_
    refine ge_seq ?_
    refine gk_seq (by kernel_rfl) ?_
    refine gk_region (by kernel_rfl) ?_
    refine gl_pure 1 [10] (K' := [(10, .string a0)]) (by kernel_rfl) ?_
    obtain ⟨y4, hx5, hr⟩ := bind_some hr
    refine gl_callQ (by kernel_rfl) (lex_span_walk (r := y4)  hx5 _) ?_
    refine gl_pure 5 [5] (K' := [(5, .int .i64 y4.2)]) (by kernel_rfl) ?_
    refine gl_atE (by kernel_rfl) ?_
    refine ge_seq ?_
    refine gk_seq (by kernel_rfl) ?_
    refine gk_seq (by kernel_rfl) ?_
    refine gk_region (by kernel_rfl) ?_
    refine gl_pure 2 [5, 15] (K' := [(5, .int .i64 y4.2), (15, .bool (decide (y4.2 > 1099511627776)))]) (by kernel_rfl) ?_
    refine gl_atE (by kernel_rfl) ?_
    refine ge_seq ?_
    refine gk_cond (b := (decide (y4.2 > 1099511627776))) (by kernel_rfl) (by kernel_rfl) (fun hc6 => ?_) (fun hc6 => ?_)
    · have hr := cond_t hc6 hr
      refine gk_seq (by kernel_rfl) ?_
      refine gk_region (by kernel_rfl) ?_
      refine gl_pure 2 [2, 3] (K' := [(2, .int .i64 0), (3, .int .i64 7)]) (by kernel_rfl) ?_
      refine gl_atE (by kernel_rfl) ?_
      refine ge_seq ?_
      refine gk_ret (by kernel_rfl) ?_
      refine ge_seq_ret ?_
      obtain rfl := some_inj hr
      exact ge_result trivial (ResOk.tmp (by kernel_rfl) (ResOk.tmp (by kernel_rfl) ResOk.nil)) (Imm.refl _) ⟨rfl, rfl⟩
    · have hr := cond_f hc6 hr
      refine gk_skip (by kernel_rfl) ?_
      refine ge_seq ?_
      refine gk_seq (by kernel_rfl) ?_
      refine gk_region (by kernel_rfl) ?_
      refine gl_pure 3 [2, 3] (K' := [(2, .int .i64 y4.2), (3, .int .i64 0)]) (by kernel_rfl) ?_
      refine gl_atE (by kernel_rfl) ?_
      refine ge_seq ?_
      refine gk_ret (by kernel_rfl) ?_
      obtain rfl := some_inj hr
      exact ge_result trivial (ResOk.tmp (by kernel_rfl) (ResOk.tmp (by kernel_rfl) ResOk.nil)) (Imm.refl _) ⟨rfl, rfl⟩
def lays173_ren : Go.Shelf.Ren := ⟨fun x => if x = 173 then 33 else if x = 246 then 51 else if x = 283 then 66 else if x = 284 then 67 else if x = 285 then 68 else if x = 286 then 69 else if x = 129 then 75 else if x = 317 then 74 else if x = 318 then 76 else if x = 319 then 77 else if x = 320 then 78 else if x = 337 then 86 else if x = 338 then 87 else x, fun x => if x = 171 then 100 else if x = 53 then 89 else if x = 37 then 41 else if x = 173 then 103 else if x = 212 then 109 else if x = 51 then 110 else if x = 213 then 111 else if x = 46 then 82 else if x = 232 then 124 else if x = 233 then 125 else x, fun x => if x = 17 then 2 else if x = 18 then 5 else if x = 19 then 6 else x⟩
theorem lays173 : Go.Proofs.LaysM.n173 Tryd.prog lays173_ren := {
  mixed := by kernel_rfl,
  f129 := Tryd.func75.trans (congrArg some (by kernel_rfl)),
  f173 := Tryd.func33.trans (congrArg some (by kernel_rfl)),
  f246 := Tryd.func51.trans (congrArg some (by kernel_rfl)),
  f283 := Tryd.func66.trans (congrArg some (by kernel_rfl)),
  f284 := Tryd.func67.trans (congrArg some (by kernel_rfl)),
  f285 := Tryd.func68.trans (congrArg some (by kernel_rfl)),
  f286 := Tryd.func69.trans (congrArg some (by kernel_rfl)),
  f317 := Tryd.func74.trans (congrArg some (by kernel_rfl)),
  f318 := Tryd.func76.trans (congrArg some (by kernel_rfl)),
  f319 := Tryd.func77.trans (congrArg some (by kernel_rfl)),
  f320 := Tryd.func78.trans (congrArg some (by kernel_rfl)),
  f337 := Tryd.func86.trans (congrArg some (by kernel_rfl)),
  f338 := Tryd.func87.trans (congrArg some (by kernel_rfl)),
  t0 := Tryd.underlying0,
  a0 := Tryd.isAgg0,
  z0 := Tryd.sizeOf0,
  v0 := Tryd.zeroValue0,
  t2 := Tryd.underlying2,
  a2 := Tryd.isAgg2,
  z2 := Tryd.sizeOf2,
  v2 := Tryd.zeroValue2,
  t3 := Tryd.underlying3,
  a3 := Tryd.isAgg3,
  z3 := Tryd.sizeOf3,
  v3 := Tryd.zeroValue3,
  t4 := Tryd.underlying4,
  a4 := Tryd.isAgg4,
  z4 := Tryd.sizeOf4,
  v4 := Tryd.zeroValue4,
  t5 := Tryd.underlying5,
  a5 := Tryd.isAgg5,
  z5 := Tryd.sizeOf5,
  v5 := Tryd.zeroValue5,
  t9 := Tryd.underlying9,
  a9 := Tryd.isAgg9,
  z9 := Tryd.sizeOf9,
  v9 := Tryd.zeroValue9,
  t20 := Tryd.underlying20,
  a20 := Tryd.isAgg20,
  z20 := Tryd.sizeOf20,
  v20 := Tryd.zeroValue20,
  t37 := Tryd.underlying41,
  a37 := Tryd.isAgg41,
  z37 := Tryd.sizeOf41,
  v37 := Tryd.zeroValue41,
  t46 := Tryd.underlying82,
  a46 := Tryd.isAgg82,
  z46 := Tryd.sizeOf82,
  v46 := Tryd.zeroValue82,
  t51 := Tryd.underlying110,
  a51 := Tryd.isAgg110,
  z51 := Tryd.sizeOf110,
  v51 := Tryd.zeroValue110,
  t53 := Tryd.underlying89,
  a53 := Tryd.isAgg89,
  z53 := Tryd.sizeOf89,
  v53 := Tryd.zeroValue89,
  t171 := Tryd.underlying100,
  a171 := Tryd.isAgg100,
  z171 := Tryd.sizeOf100,
  v171 := Tryd.zeroValue100,
  t173 := Tryd.underlying103,
  a173 := Tryd.isAgg103,
  z173 := Tryd.sizeOf103,
  v173 := Tryd.zeroValue103,
  t212 := Tryd.underlying109,
  a212 := Tryd.isAgg109,
  z212 := Tryd.sizeOf109,
  v212 := Tryd.zeroValue109,
  t213 := Tryd.underlying111,
  a213 := Tryd.isAgg111,
  z213 := Tryd.sizeOf111,
  t232 := Tryd.underlying124,
  a232 := Tryd.isAgg124,
  z232 := Tryd.sizeOf124,
  v232 := Tryd.zeroValue124,
  t233 := Tryd.underlying125,
  a233 := Tryd.isAgg125,
  z233 := Tryd.sizeOf125,
  v233 := Tryd.zeroValue125,
  g17 := by kernel_rfl,
  g18 := by kernel_rfl,
  g19 := by kernel_rfl,
  i0 := by kernel_rfl,
  i2 := by kernel_rfl,
  i3 := by kernel_rfl,
  i4 := by kernel_rfl,
  i5 := by kernel_rfl,
  i9 := by kernel_rfl,
  i20 := by kernel_rfl,
  i37 := by kernel_rfl,
  i46 := by kernel_rfl,
  i51 := by kernel_rfl,
  i53 := by kernel_rfl,
  i171 := by kernel_rfl,
  i173 := by kernel_rfl,
  i212 := by kernel_rfl,
  i232 := by kernel_rfl,
  i233 := by kernel_rfl,
  m17 := by kernel_rfl,
  m18 := by kernel_rfl,
  m19 := by kernel_rfl }

theorem gl_pow10 {I : Imm} {L : Own} {W : World} (hG : Gl I) (hW : Holds I L W) : Go.Lib.TabIs Tryd.prog W "internal/strconv.uint64pow10" .u64 Go.Lib.pow10Tab := by
  obtain ⟨t, fz, hb⟩ := hG.b2
  have h1 := hW.imm _ _ hb
  unfold Go.Lib.TabIs World.var?
  rw [show Tryd.prog.globalNamed "internal/strconv.uint64pow10" = some 2 by kernel_rfl]
  simp only [Option.bind_some, h1]
  rfl
def strconv_FormatInt (a0 a1 : Int) : Option ByteArray := if a1 = 10 ∧ -9223372036854775808 ≤ a0 ∧ a0 ≤ 9223372036854775807 then some ⟨(itoaF a0).toArray⟩ else none
theorem strconv_FormatInt_walk {a0 a1 : Int} {I : Imm} {r : ByteArray} (hG : Gl I) (hr : strconv_FormatInt a0 a1 = some r) (L : Own) :
    CallsTo Tryd.prog 33 #[.int .i64 a0, .int .i64 a1] I L (fun v I' L' => v = .string r ∧ L = L') := by
  unfold strconv_FormatInt at hr
  split at hr <;> cases hr
  rename_i hs
  obtain ⟨rfl, h0, h1⟩ := hs
  intro W hW
  refine (Go.Proofs.Any.strconv_FormatInt_10 lays173 a0 h0 h1 W (gl_pow10 hG hW)).mono ?_
  rintro e W' ⟨he, k, os, rfl⟩
  exact ⟨_, I, L, he, Imm.refl I, Holds.grow (hW.drawn (W.drawn + k)) os, by rw [itoaF_eq h0 h1], rfl⟩

/-! 27 strings_Builder_WriteString ('obj', 'imm') -/
noncomputable def strings_Builder_WriteString (a0 : S50) (a1 : ByteArray) : Option (Int × Unit × S50) :=
  Option.bind (app ((strings_Builder_copyCheck (⟨a0.f1⟩ : S50)).f1) (bytesOf a1)) fun (zs10 : List Int) =>
  some ((a1.size : Int), (), (⟨zs10⟩ : S50))
theorem strings_Builder_WriteString_walk {a0 : S50} {g0 : Nat} {q0_0 : Option Addr} {A0_1 : Option Addr} {c0_1 : Nat} {C0_1 : Own} {a1 : ByteArray} {I : Imm} {r : Int × Unit × S50}  (hq0_0 : q0_0 = none ∨ q0_0 = some (⟨g0, 0, none⟩ : Addr)) (hO0_1 : OwnS (Kd.int .u8) 5 I A0_1 c0_1 a0.f1 C0_1) (hr : strings_Builder_WriteString a0 a1 = some r) (L : Own) :
    CallsTo Tryd.prog 27 #[.pointer (some ⟨g0, 0, none⟩), .string a1] I ((g0, .cells #[.pointer q0_0, .slice A0_1 a0.f1.length c0_1] 51) :: (C0_1 ++ L)) (fun v I' L' => ∃ q2_0 A2_1 c2_1 C2_1, (q2_0 = none ∨ q2_0 = some (⟨g0, 0, none⟩ : Addr)) ∧ OwnS (Kd.int .u8) 5 I' A2_1 c2_1 r.2.2.f1 C2_1 ∧ v = .tuple #[.int .i64 r.1, .nilIface] ∧ (g0, .cells #[.pointer q2_0, .slice A2_1 r.2.2.f1.length c2_1] 51) :: (C2_1 ++ L) = L') := by
  unfold strings_Builder_WriteString at hr
  refine callsTo_body (N := 19) Tryd.func27 (by kernel_rfl) (by kernel_rfl) (by kernel_rfl) ?_
  refine gk_pick [0, 1] (K' := [(0, .pointer (some ⟨g0, 0, none⟩)), (1, .string a1)]) (by kernel_rfl) ?_
  refine gk_seq (by kernel_rfl) ?_
  refine gk_region (by kernel_rfl) ?_
  refine gl_pure 2 [0, 1] (K' := [(0, .pointer (some ⟨g0, 0, none⟩)), (1, .string a1)]) (by kernel_rfl) ?_
  refine gl_atE (by kernel_rfl) ?_
  refine ge_seq ?_
  refine gk_seq (by kernel_rfl) ?_
  refine gk_region (by kernel_rfl) ?_
  refine gl_pure 1 [0, 1, 6] (K' := [(0, .pointer (some ⟨g0, 0, none⟩)), (1, .string a1), (6, .pointer (some ⟨g0, 0, none⟩))]) (by kernel_rfl) ?_
  refine gl_call (by kernel_rfl) (strings_Builder_copyCheck_walk (r := (strings_Builder_copyCheck (⟨a0.f1⟩ : S50))) (g0 := g0) (q0_0 := q0_0) (A0_1 := A0_1) (c0_1 := c0_1) (C0_1 := C0_1) (a0 := (⟨a0.f1⟩ : S50)) hq0_0 hO0_1 rfl _) ?_
  rintro v I1 L2 hI3 ⟨z4, A5, c6, C7, hO8, hO9, rfl, rfl⟩
  refine gl_atE (by kernel_rfl) ?_
  refine ge_seq ?_
  refine gk_seq (by kernel_rfl) ?_
  refine gk_region (by kernel_rfl) ?_
  refine gl_pure 4 [1, 8, 11] (K' := [(1, .string a1), (8, .pointer (some ⟨g0, 0, none⟩)), (11, .pointer (some ⟨g0, 1, none⟩))]) (by kernel_rfl) ?_
  refine gl_loadB (T' := 41) (xp := (.tmp 11)) (v := .slice A5 ((strings_Builder_copyCheck (⟨a0.f1⟩ : S50)).f1).length c6) (g := g0) (off := 1) (cs := #[.pointer z4, .slice A5 ((strings_Builder_copyCheck (⟨a0.f1⟩ : S50)).f1).length c6]) (e := 51) (fz := (0, 0)) (by kernel_rfl) (by kernel_rfl) (by kernel_rfl) List.mem_cons_self (by kernel_rfl) ?_
  refine gl_pure 1 [1, 8, 12, 13] (K' := [(1, .string a1), (8, .pointer (some ⟨g0, 0, none⟩)), (12, .slice A5 ((strings_Builder_copyCheck (⟨a0.f1⟩ : S50)).f1).length c6), (13, .string a1)]) (by kernel_rfl) ?_
  obtain ⟨zs10, hz11, hr⟩ := bind_some hr
  refine gl_append (xv := .string a1) (d := (Kd.int .u8)) (t := 41) (tx := 9) (e := 5) (s := (.tmp 12)) (x := (.tmp 13)) (xs := (strings_Builder_copyCheck (⟨a0.f1⟩ : S50)).f1) (fun X => (g0, .cells #[.pointer z4, .slice A5 ((strings_Builder_copyCheck (⟨a0.f1⟩ : S50)).f1).length c6] 51) :: (X ++ L)) hz11 (by kernel_rfl) (by kernel_rfl) (by kernel_rfl) (by kernel_rfl) (by kernel_rfl) (by kernel_rfl) (fun X => (Upd.one _ (Upd.head _ X _))) hO9 (SrcOk.str (by kernel_rfl)) (fun A12 n13 C14 hO15 => ?_)
  refine gl_pure 2 [1, 14, 16] (K' := [(1, .string a1), (14, .slice A12 zs10.length n13), (16, .pointer (some ⟨g0, 1, none⟩))]) (by kernel_rfl) ?_
  refine gl_storeB (T' := 41) (xp := (.tmp 16)) (xv := (.tmp 14)) (v := .slice A12 zs10.length n13) (g := g0) (off := 1) (cs := #[.pointer z4, .slice A5 ((strings_Builder_copyCheck (⟨a0.f1⟩ : S50)).f1).length c6]) (cs' := #[.pointer z4, .slice A12 zs10.length n13]) (by kernel_rfl) (by kernel_rfl) (by kernel_rfl) (by kernel_rfl) (by kernel_rfl) (Upd.set _ _ _ _) ?_ (by kernel_rfl)
  refine gl_atE (by kernel_rfl) ?_
  refine ge_seq ?_
  refine gk_seq (by kernel_rfl) ?_
  refine gk_region (by kernel_rfl) ?_
  refine gl_pure 4 [4, 5] (K' := [(4, .int .i64 (a1.size : Int)), (5, .nilIface)]) (by kernel_rfl) ?_
  refine gl_atE (by kernel_rfl) ?_
  refine ge_seq ?_
  refine gk_ret (by kernel_rfl) ?_
  obtain rfl := some_inj hr
  exact ge_result trivial (ResOk.tmp (by kernel_rfl) (ResOk.tmp (by kernel_rfl) ResOk.nil)) hI3 ⟨z4, A12, n13, C14, hO8, hO15, rfl, rfl⟩
/-! 18 lex_SpanText  -/
noncomputable def lex_SpanText_l50 : (Unit × (List Int) × Int × Int) → Option ((Unit × (List Int) × Int × Int) ⊕ (Unit × (List Int))) := fun s29 =>
  bif (decide (s29.2.2.2 < (lex_units.length : Int))) then
  (Option.bind (ix lex_units s29.2.2.2) fun (x53 : S62) =>
    Option.bind (quox .i64 s29.2.2.1 x53.f1) fun (q63 : Int) =>
    Option.bind (bif (decide (q63 > 0)) then
      (Option.bind (strconv_FormatInt q63 10) fun (y77 : ByteArray) =>
        Option.bind (sadd y77 x53.f0) fun (s79 : ByteArray) =>
        Option.bind (strings_Builder_WriteString (⟨s29.2.1⟩ : S50) s79) fun (y81 : Int × Unit × S50) =>
        some ((IntKind.wrap .i64 (s29.2.2.1 - (IntKind.wrap .i64 (q63 * x53.f1)))), (), y81.2.2.f1))
      else
      (some (s29.2.2.1, (), s29.2.1))) fun (j65 : Int × Unit × (List Int)) =>
    some (Sum.inl ((), j65.2.2, j65.1, (IntKind.wrap .i64 (s29.2.2.2 + 1)))))
  else
  (some (Sum.inr ((), s29.2.1)))
noncomputable def lex_SpanText (a0 : Int) : Option (ByteArray × Int) :=
  bif ((decide (a0 < 0)) || (decide (a0 > 1099511627776))) then
  (some ((⟨#[]⟩ : ByteArray), 1))
  else
  (bif (a0 == 0) then
    (some ((⟨#[48, 115]⟩ : ByteArray), 0))
    else
    (Option.bind (loopO lex_SpanText_l50 ((), [], a0, 0)) fun (r27 : Unit × (List Int)) =>
      Option.bind (strings_Builder_String (⟨r27.2⟩ : S50)) fun (y92 : ByteArray) =>
      some (y92, 0)))
theorem lex_SpanText_walk {a0 : Int} {I : Imm} {r : ByteArray × Int} (hG : Gl I) (hr : lex_SpanText a0 = some r) (L : Own) :
    CallsTo Tryd.prog 18 #[.int .i64 a0] I L (fun v I' L' => v = .tuple #[.string r.1, .int .i64 r.2] ∧ L = L') := by
  unfold lex_SpanText at hr
  refine callsTo_body (N := 44) Tryd.func18 (by kernel_rfl) (by kernel_rfl) (by kernel_rfl) ?_
  refine gk_pick [0] (K' := [(0, .int .i64 a0)]) (by kernel_rfl) ?_
  refine gk_seq (by kernel_rfl) ?_
  refine gk_region (by kernel_rfl) ?_
  refine gl_pure 2 [0] (K' := [(0, .int .i64 a0)]) (by kernel_rfl) ?_
  refine gl_atE (by kernel_rfl) ?_
  refine ge_seq ?_
  refine gk_seq (by kernel_rfl) ?_
  refine gk_block (by kernel_rfl) ?_
  refine gk_seq (by kernel_rfl) ?_
  obtain ⟨b3, hb4⟩ : ∃ z, z = ((decide (a0 < 0)) || (decide (a0 > 1099511627776))) := ⟨_, rfl⟩
  refine gk_join (fun t I' L' => I ≤ I' ∧ L = L' ∧ Knows 44 [(0, .int .i64 a0), (8, .bool b3)] t) ?_ ?_
  · refine gk_region (by kernel_rfl) ?_
    refine gl_pure 3 [0, 11] (K' := [(0, .int .i64 a0), (11, .bool (decide (a0 < 0)))]) (by kernel_rfl) ?_
    refine gl_case 11 (b := (decide (a0 < 0))) (by kernel_rfl) (fun hc6 => ?_) (fun hc6 => ?_)
    · refine gl_pure 4 [0, 8] (K' := [(0, .int .i64 a0), (8, .bool true)]) (by kernel_rfl) ?_
      refine gl_atE (by kernel_rfl) ?_
      exact ge_mid fun t ht => ⟨(Imm.refl _), rfl, by rw [(show b3 = true from hb4.trans (by rw [hc6]; try rfl))]; exact ht.pick (l := [0, 8]) (by kernel_rfl)⟩
    · refine gl_pure 4 [0, 8] (K' := [(0, .int .i64 a0), (8, .bool (decide (a0 > 1099511627776)))]) (by kernel_rfl) ?_
      refine gl_atE (by kernel_rfl) ?_
      exact ge_mid fun t ht => ⟨(Imm.refl _), rfl, by rw [(show b3 = (decide (a0 > 1099511627776)) from hb4.trans (by rw [hc6]; try rfl))]; exact ht.pick (l := [0, 8]) (by kernel_rfl)⟩
  · rintro t I5 L' ⟨hI1, rfl, hK2⟩
    subst hb4
    refine ge_at hK2 ?_
    refine ge_seq ?_
    refine gk_cond (b := ((decide (a0 < 0)) || (decide (a0 > 1099511627776)))) (by kernel_rfl) (by kernel_rfl) (fun hc7 => ?_) (fun hc7 => ?_)
    · have hr := cond_t hc7 hr
      refine gk_seq (by kernel_rfl) ?_
      refine gk_region (by kernel_rfl) ?_
      refine gl_pure 2 [2, 3] (K' := [(2, .string (⟨#[]⟩ : ByteArray)), (3, .int .i64 1)]) (by kernel_rfl) ?_
      refine gl_atE (by kernel_rfl) ?_
      refine ge_seq ?_
      refine gk_ret (by kernel_rfl) ?_
      refine ge_block_ret ?_
      refine ge_seq_ret ?_
      obtain rfl := some_inj hr
      exact ge_result trivial (ResOk.tmp (by kernel_rfl) (ResOk.tmp (by kernel_rfl) ResOk.nil)) hI1 ⟨rfl, rfl⟩
    · have hr := cond_f hc7 hr
      refine gk_seq (by kernel_rfl) ?_
      refine gk_region (by kernel_rfl) ?_
      refine gl_pure 3 [0, 15] (K' := [(0, .int .i64 a0), (15, .bool (a0 == 0))]) (by kernel_rfl) ?_
      refine gl_atE (by kernel_rfl) ?_
      refine ge_seq ?_
      refine gk_cond (b := (a0 == 0)) (by kernel_rfl) (by kernel_rfl) (fun hc8 => ?_) (fun hc8 => ?_)
      · have hr := cond_t hc8 hr
        refine gk_seq (by kernel_rfl) ?_
        refine gk_region (by kernel_rfl) ?_
        refine gl_pure 2 [2, 3] (K' := [(2, .string (⟨#[48, 115]⟩ : ByteArray)), (3, .int .i64 0)]) (by kernel_rfl) ?_
        refine gl_atE (by kernel_rfl) ?_
        refine ge_seq ?_
        refine gk_ret (by kernel_rfl) ?_
        refine ge_block_ret ?_
        refine ge_seq_ret ?_
        obtain rfl := some_inj hr
        exact ge_result trivial (ResOk.tmp (by kernel_rfl) (ResOk.tmp (by kernel_rfl) ResOk.nil)) hI1 ⟨rfl, rfl⟩
      · have hr := cond_f hc8 hr
        refine gk_skip (by kernel_rfl) ?_
        refine ge_block_normal ?_
        refine ge_seq ?_
        refine gk_seq (by kernel_rfl) ?_
        refine gk_region (by kernel_rfl) ?_
        refine gl_alloc (T' := 51) (cs := #[.pointer none, .slice none 0 0]) (by kernel_rfl) (by kernel_rfl) (by kernel_rfl) (fun g9 => ?_)
        refine gl_atE (by kernel_rfl) ?_
        refine ge_seq ?_
        refine gk_seq (by kernel_rfl) ?_
        refine gk_seq (by kernel_rfl) ?_
        refine gk_region (by kernel_rfl) ?_
        refine gl_call (by kernel_rfl) (lex_units_walk (r := lex_units)  rfl _) ?_
        rintro v I10 L11 hI12 ⟨A13, c14, C15, hO16, rfl, rfl⟩
        refine gl_pure 2 [0, 4, 18, 19, 20] (K' := [(0, .int .i64 a0), (4, .pointer (some ⟨g9, 0, none⟩)), (18, .slice A13 lex_units.length c14), (19, .int .i64 (lex_units.length : Int)), (20, .int .i64 0)]) (by kernel_rfl) ?_
        refine gl_atE (by kernel_rfl) ?_
        refine ge_seq ?_
        obtain ⟨r27, hl28, hr⟩ := bind_some hr
        refine gk_join (fun t I' L' => ∃ q42 A44 n45 C46, (q42 = none ∨ q42 = some (⟨g9, 0, none⟩ : Addr)) ∧ OwnS (Kd.int .u8) 5 I' A44 n45 r27.2 C46 ∧ I10 ≤ I' ∧ C46 ++ ((g9, .cells #[.pointer q42, .slice A44 r27.2.length n45] 51) :: L) = L' ∧ Knows 44 [(4, .pointer (some ⟨g9, 0, none⟩))] t) ?_ ?_
        · refine gk_block (by kernel_rfl) ?_
          refine gk_pick [0, 4, 18, 19, 20] (K' := [(0, .int .i64 a0), (4, .pointer (some ⟨g9, 0, none⟩)), (18, .slice A13 lex_units.length c14), (19, .int .i64 (lex_units.length : Int)), (20, .int .i64 0)]) (by kernel_rfl) ?_
          intro t hK
          refine gc_loop (lex_SpanText_l50) (fun s29 t I' L' => ∃ q33 A35 n36 C37, (q33 = none ∨ q33 = some (⟨g9, 0, none⟩ : Addr)) ∧ OwnS (Kd.int .u8) 5 I' A35 n36 s29.2.1 C37 ∧ I10 ≤ I' ∧ C37 ++ (C15 ++ ((g9, .cells #[.pointer q33, .slice A35 s29.2.1.length n36] 51) :: L)) = L' ∧ Knows 44 [(0, .int .i64 s29.2.2.1), (4, .pointer (some ⟨g9, 0, none⟩)), (18, .slice A13 lex_units.length c14), (19, .int .i64 (lex_units.length : Int)), (20, .int .i64 s29.2.2.2)] t) (by kernel_rfl) ?_ hl28 ⟨none, none, 0, [], (Or.inl rfl), OwnS.nil _ _ _ _, (Imm.refl _), rfl, hK⟩
          rintro s29 o30 t I40 L' hb31 ⟨q33, A35, n36, C37, hq34, hO38, hI32, rfl, hK39⟩
          unfold lex_SpanText_l50 at hb31
          refine gk_at hK39 ?_
          refine gk_seq (by kernel_rfl) ?_
          refine gk_region (by kernel_rfl) ?_
          refine gl_pure 1 [0, 4, 18, 19, 20, 21] (K' := [(0, .int .i64 s29.2.2.1), (4, .pointer (some ⟨g9, 0, none⟩)), (18, .slice A13 lex_units.length c14), (19, .int .i64 (lex_units.length : Int)), (20, .int .i64 s29.2.2.2), (21, .bool (decide (s29.2.2.2 < (lex_units.length : Int))))]) (by kernel_rfl) ?_
          refine gl_atE (by kernel_rfl) ?_
          refine ge_seq ?_
          refine gk_seq (by kernel_rfl) ?_
          refine gk_cond (b := (decide (s29.2.2.2 < (lex_units.length : Int)))) (by kernel_rfl) (by kernel_rfl) (fun hc52 => ?_) (fun hc52 => ?_)
          · have hb31 := cond_t hc52 hb31
            refine gk_skip (by kernel_rfl) ?_
            refine ge_seq ?_
            refine gk_seq (by kernel_rfl) ?_
            refine gk_block (by kernel_rfl) ?_
            refine gk_seq (by kernel_rfl) ?_
            refine gk_region (by kernel_rfl) ?_
            obtain ⟨x53, hx54, hb31⟩ := bind_some hb31
            refine gl_indexAddrW (d := kS62) (c := c14) (T' := 60) (e := 63) (xs := (.tmp 18)) (xi := (.tmp 20)) (kd := .i64) hx54 (hO16.mono hI32) (Upd.app _ (Upd.selfC _ _)) (by kernel_rfl) (by kernel_rfl) (by kernel_rfl) (by kernel_rfl) (by kernel_rfl) (fun p55 cs56 hR57 hA58 hp61 => ?_)
            obtain rfl := kS62_open hR57
            refine gl_loadOA (T' := 63) (xp := (.tmp 22)) (p := p55) (cs := [.string x53.f0, .int .i64 x53.f1]) (by kernel_rfl) (by kernel_rfl) (by kernel_rfl) (by kernel_rfl) (hA58.take 2) ?_
            refine gl_alloc (T' := 63) (cs := #[.string (⟨#[]⟩ : ByteArray), .int .i64 0]) (by kernel_rfl) (by kernel_rfl) (by kernel_rfl) (fun g62 => ?_)
            refine gl_storeB (T' := 63) (xp := (.tmp 6)) (xv := (.tmp 23)) (v := .agg #[.string x53.f0, .int .i64 x53.f1]) (g := g62) (off := 0) (cs := #[.string (⟨#[]⟩ : ByteArray), .int .i64 0]) (cs' := #[.string x53.f0, .int .i64 x53.f1]) (by kernel_rfl) (by kernel_rfl) (by kernel_rfl) (by kernel_rfl) (by kernel_rfl) (Upd.set _ _ _ _) ?_ (by kernel_rfl)
            refine gl_atE (by kernel_rfl) ?_
            refine ge_seq ?_
            refine gk_seq (by kernel_rfl) ?_
            refine gk_region (by kernel_rfl) ?_
            refine gl_pure 2 [0, 4, 6, 18, 19, 20, 24, 25] (K' := [(0, .int .i64 s29.2.2.1), (4, .pointer (some ⟨g9, 0, none⟩)), (6, .pointer (some ⟨g62, 0, none⟩)), (18, .slice A13 lex_units.length c14), (19, .int .i64 (lex_units.length : Int)), (20, .int .i64 s29.2.2.2), (24, .int .i64 s29.2.2.1), (25, .pointer (some ⟨g62, 1, none⟩))]) (by kernel_rfl) ?_
            refine gl_loadB (T' := 2) (xp := (.tmp 25)) (v := .int .i64 x53.f1) (g := g62) (off := 1) (cs := #[.string x53.f0, .int .i64 x53.f1]) (e := 63) (fz := (0, 0)) (by kernel_rfl) (by kernel_rfl) (by kernel_rfl) List.mem_cons_self (by kernel_rfl) ?_
            obtain ⟨q63, hx64, hb31⟩ := bind_some hb31
            refine gl_quo (t := 2) (t' := 2) (x := (.tmp 24)) (y := (.tmp 26)) (kx := .i64) hx64 (by kernel_rfl) (by kernel_rfl) (by kernel_rfl) (by kernel_rfl) ?_
            refine gl_pure 1 [0, 4, 6, 7, 18, 19, 20] (K' := [(0, .int .i64 s29.2.2.1), (4, .pointer (some ⟨g9, 0, none⟩)), (6, .pointer (some ⟨g62, 0, none⟩)), (7, .int .i64 q63), (18, .slice A13 lex_units.length c14), (19, .int .i64 (lex_units.length : Int)), (20, .int .i64 s29.2.2.2)]) (by kernel_rfl) ?_
            refine gl_atE (by kernel_rfl) ?_
            refine ge_seq ?_
            refine gk_seq (by kernel_rfl) ?_
            refine gk_region (by kernel_rfl) ?_
            refine gl_pure 2 [0, 4, 6, 7, 18, 19, 20, 29] (K' := [(0, .int .i64 s29.2.2.1), (4, .pointer (some ⟨g9, 0, none⟩)), (6, .pointer (some ⟨g62, 0, none⟩)), (7, .int .i64 q63), (18, .slice A13 lex_units.length c14), (19, .int .i64 (lex_units.length : Int)), (20, .int .i64 s29.2.2.2), (29, .bool (decide (q63 > 0)))]) (by kernel_rfl) ?_
            refine gl_atE (by kernel_rfl) ?_
            refine ge_seq ?_
            obtain ⟨j65, hj66, hb31⟩ := bind_some hb31
            refine gk_join (fun t I' L' => ∃ q68 A70 n71 C72, (q68 = none ∨ q68 = some (⟨g9, 0, none⟩ : Addr)) ∧ OwnS (Kd.int .u8) 5 I' A70 n71 j65.2.2 C72 ∧ I40 ≤ I' ∧ C72 ++ (C15 ++ ((g9, .cells #[.pointer q68, .slice A70 j65.2.2.length n71] 51) :: L)) = L' ∧ Knows 44 [(0, .int .i64 j65.1), (4, .pointer (some ⟨g9, 0, none⟩)), (18, .slice A13 lex_units.length c14), (19, .int .i64 (lex_units.length : Int)), (20, .int .i64 s29.2.2.2)] t) ?_ ?_
            · refine gk_cond (b := (decide (q63 > 0))) (by kernel_rfl) (by kernel_rfl) (fun hc76 => ?_) (fun hc76 => ?_)
              · have hj66 := cond_t hc76 hj66
                refine gk_seq (by kernel_rfl) ?_
                refine gk_draw 5 [(0, true), (1, true), (2, true), (3, true), (4, true)] [(g62, .cells #[.string x53.f0, .int .i64 x53.f1] 63), (g9, .cells #[.pointer q33, .slice A35 s29.2.1.length n36] 51)] (List.forall_mem_cons.2 ⟨List.mem_cons_self, (List.forall_mem_cons.2 ⟨(List.mem_cons_of_mem _ (List.mem_append_right _ (List.mem_append_right _ List.mem_cons_self))), (fun p hp => by cases hp)⟩)⟩) (by kernel_rfl) (by kernel_rfl) (by kernel_rfl) ?_ (by kernel_rfl)
                refine gd_pure 1 [0, 4, 6, 7, 18, 19, 20, 30] (K' := [(0, .int .i64 s29.2.2.1), (4, .pointer (some ⟨g9, 0, none⟩)), (6, .pointer (some ⟨g62, 0, none⟩)), (7, .int .i64 q63), (18, .slice A13 lex_units.length c14), (19, .int .i64 (lex_units.length : Int)), (20, .int .i64 s29.2.2.2), (30, .int .i64 q63)]) (s' := [(1, true), (2, true), (3, true), (4, true)]) (CC.refl (List.forall_mem_cons.2 ⟨List.mem_cons_self, (List.forall_mem_cons.2 ⟨(List.mem_cons_of_mem _ (List.mem_append_right _ (List.mem_append_right _ List.mem_cons_self))), (fun p hp => by cases hp)⟩)⟩)) (by kernel_rfl) ?_
                obtain ⟨y77, hx78, hj66⟩ := bind_some hj66
                refine gd_q (v := .string y77) (by kernel_rfl) (by kernel_rfl) (CC.refl (List.forall_mem_cons.2 ⟨List.mem_cons_self, (List.forall_mem_cons.2 ⟨(List.mem_cons_of_mem _ (List.mem_append_right _ (List.mem_append_right _ List.mem_cons_self))), (fun p hp => by cases hp)⟩)⟩)) (fun I' L' T hC kk => gl_callQ (by kernel_rfl) (strconv_FormatInt_walk (r := y77) ((hG.mono (Imm.trans (Imm.trans hI1 hI12) hI32)).mono hC.le) hx78 _) kk) ?_
                refine gd_pure 1 [0, 4, 6, 7, 18, 19, 20, 31, 32] (K' := [(0, .int .i64 s29.2.2.1), (4, .pointer (some ⟨g9, 0, none⟩)), (6, .pointer (some ⟨g62, 0, none⟩)), (7, .int .i64 q63), (18, .slice A13 lex_units.length c14), (19, .int .i64 (lex_units.length : Int)), (20, .int .i64 s29.2.2.2), (31, .string y77), (32, .pointer (some ⟨g62, 0, none⟩))]) (s' := [(3, true), (4, true)]) (CC.refl (List.forall_mem_cons.2 ⟨List.mem_cons_self, (List.forall_mem_cons.2 ⟨(List.mem_cons_of_mem _ (List.mem_append_right _ (List.mem_append_right _ List.mem_cons_self))), (fun p hp => by cases hp)⟩)⟩)) (by kernel_rfl) ?_
                refine gd_q (v := .string x53.f0) (by kernel_rfl) (by kernel_rfl) (CC.refl (List.forall_mem_cons.2 ⟨List.mem_cons_self, (List.forall_mem_cons.2 ⟨(List.mem_cons_of_mem _ (List.mem_append_right _ (List.mem_append_right _ List.mem_cons_self))), (fun p hp => by cases hp)⟩)⟩)) (fun I' L' T hC kk => gl_loadB (T' := 9) (xp := (.tmp 32)) (v := .string x53.f0) (g := g62) (off := 0) (cs := #[.string x53.f0, .int .i64 x53.f1]) (e := 63) (fz := (0, 0)) (by kernel_rfl) (by kernel_rfl) (by kernel_rfl) (hC.sub _ List.mem_cons_self) (by kernel_rfl) kk) ?_
                obtain ⟨s79, hx80, hj66⟩ := bind_some hj66
                refine gd_q (v := .string s79) (by kernel_rfl) (by kernel_rfl) (CC.refl (List.forall_mem_cons.2 ⟨List.mem_cons_self, (List.forall_mem_cons.2 ⟨(List.mem_cons_of_mem _ (List.mem_append_right _ (List.mem_append_right _ List.mem_cons_self))), (fun p hp => by cases hp)⟩)⟩)) (fun I' L' T hC kk => gl_sadd (t := 9) (t' := 9) (x := (.tmp 31)) (y := (.tmp 33)) hx80 (by kernel_rfl) (by kernel_rfl) (by kernel_rfl) (by kernel_rfl) kk) ?_
                refine gd_done ?_
                obtain ⟨y81, hx82, hj66⟩ := bind_some hj66
                refine gl_reord (D := (g9, .cells #[.pointer q33, .slice A35 s29.2.1.length n36] 51) :: (C37 ++ ((g62, .cells #[.string x53.f0, .int .i64 x53.f1] 63) :: (C15 ++ L)))) (Reord.step1 (Upd.one _ (Upd.app _ (Upd.app _ (Upd.rm1 _ _)))) (Reord.step (Upd.one _ (Upd.rmC _ _)) (Reord.step1 (Upd.rm1 _ _) (Reord.step (Upd.rmC _ _) (Reord.refl _))))) ?_
                refine gl_call (by kernel_rfl) (strings_Builder_WriteString_walk (r := y81) (g0 := g9) (q0_0 := q33) (A0_1 := A35) (c0_1 := n36) (C0_1 := C37) (a0 := (⟨s29.2.1⟩ : S50)) hq34 hO38 hx82 _) ?_
                rintro v I83 L84 hI85 ⟨z86, A87, c88, C89, hO90, hO91, rfl, rfl⟩
                refine gl_atE (by kernel_rfl) ?_
                refine ge_seq ?_
                refine gk_region (by kernel_rfl) ?_
                refine gl_pure 3 [4, 18, 19, 20, 36, 37, 38] (K' := [(4, .pointer (some ⟨g9, 0, none⟩)), (18, .slice A13 lex_units.length c14), (19, .int .i64 (lex_units.length : Int)), (20, .int .i64 s29.2.2.2), (36, .int .i64 s29.2.2.1), (37, .int .i64 q63), (38, .pointer (some ⟨g62, 1, none⟩))]) (by kernel_rfl) ?_
                refine gl_loadB (T' := 2) (xp := (.tmp 38)) (v := .int .i64 x53.f1) (g := g62) (off := 1) (cs := #[.string x53.f0, .int .i64 x53.f1]) (e := 63) (fz := (0, 0)) (by kernel_rfl) (by kernel_rfl) (by kernel_rfl) (List.mem_cons_of_mem _ (List.mem_append_right _ List.mem_cons_self)) (by kernel_rfl) ?_
                refine gl_pure 3 [0, 4, 18, 19, 20] (K' := [(0, .int .i64 (IntKind.wrap .i64 (s29.2.2.1 - (IntKind.wrap .i64 (q63 * x53.f1))))), (4, .pointer (some ⟨g9, 0, none⟩)), (18, .slice A13 lex_units.length c14), (19, .int .i64 (lex_units.length : Int)), (20, .int .i64 s29.2.2.2)]) (by kernel_rfl) ?_
                refine gl_reord (D := C89 ++ (C15 ++ ((g9, .cells #[.pointer z86, .slice A87 y81.2.2.f1.length c88] 51) :: L))) (Reord.step (Upd.one _ (Upd.rmC _ _)) (Reord.step (Upd.one _ (Upd.one _ (Upd.rmC _ _))) (Reord.step1 (Upd.rm1 _ _) (Reord.skip (Reord.refl _))))) ?_
                refine gl_atE (by kernel_rfl) ?_
                obtain rfl := some_inj hj66
                exact ge_mid fun t ht => ⟨z86, A87, c88, C89, hO90, hO91, hI85, rfl, ht.pick (l := [0, 4, 18, 19, 20]) (by kernel_rfl)⟩
              · have hj66 := cond_f hc76 hj66
                refine gk_reord (D := C37 ++ (C15 ++ ((g9, .cells #[.pointer q33, .slice A35 s29.2.1.length n36] 51) :: L))) (Reord.step (Upd.one _ (Upd.rmC _ _)) (Reord.step (Upd.one _ (Upd.rmC _ _)) (Reord.step1 (Upd.one _ (Upd.rm1 _ _)) (Reord.skip (Reord.refl _))))) ?_
                refine gk_skip (by kernel_rfl) ?_
                obtain rfl := some_inj hj66
                exact ge_mid fun t ht => ⟨q33, A35, n36, C37, hq34, hO38, (Imm.refl _), rfl, ht.pick (l := [0, 4, 18, 19, 20]) (by kernel_rfl)⟩
            · rintro t I75 L' ⟨q68, A70, n71, C72, hq69, hO73, hI67, rfl, hK74⟩
              refine ge_at hK74 ?_
              refine ge_block_normal ?_
              refine ge_seq ?_
              refine gk_region (by kernel_rfl) ?_
              refine gl_pure 2 [0, 4, 18, 19, 20] (K' := [(0, .int .i64 j65.1), (4, .pointer (some ⟨g9, 0, none⟩)), (18, .slice A13 lex_units.length c14), (19, .int .i64 (lex_units.length : Int)), (20, .int .i64 (IntKind.wrap .i64 (s29.2.2.2 + 1)))]) (by kernel_rfl) ?_
              refine gl_atE (by kernel_rfl) ?_
              obtain rfl := some_inj hb31
              exact ge_round fun t ht => ⟨q68, A70, n71, C72, hq69, hO73, (Imm.trans hI32 hI67), rfl, ht.pick (l := [0, 4, 18, 19, 20]) (by kernel_rfl)⟩
          · have hb31 := cond_f hc52 hb31
            refine gk_reord (D := C37 ++ ((g9, .cells #[.pointer q33, .slice A35 s29.2.1.length n36] 51) :: L)) (Reord.step (Upd.rmC _ _) (Reord.step1 (Upd.app _ (Upd.rm1 _ _)) (Reord.skipC (Reord.refl _)))) ?_
            refine gk_exit (by kernel_rfl) ?_
            refine ge_seq_exit ?_
            obtain rfl := some_inj hb31
            refine ge_round_out (fun hrr => ?_) (by intro h; cases h)
            obtain rfl := hrr
            refine ge_block_hit (by kernel_rfl) ?_
            exact ge_mid fun t ht => ⟨q33, A35, n36, C37, hq34, hO38, hI32, rfl, ht.pick (l := [4]) (by kernel_rfl)⟩
        · rintro t I49 L' ⟨q42, A44, n45, C46, hq43, hO47, hI41, rfl, hK48⟩
          refine ge_at hK48 ?_
          refine ge_seq ?_
          refine gk_seq (by kernel_rfl) ?_
          refine gk_region (by kernel_rfl) ?_
          obtain ⟨y92, hx93, hr⟩ := bind_some hr
          refine gl_reord (D := (g9, .cells #[.pointer q42, .slice A44 r27.2.length n45] 51) :: (C46 ++ L)) (Reord.step1 (Upd.app _ (Upd.rm1 _ _)) (Reord.step (Upd.rmC _ _) (Reord.refl _))) ?_
          refine gl_call (by kernel_rfl) (strings_Builder_String_walk (r := y92) (g0 := g9) (q0_0 := q42) (A0_1 := A44) (c0_1 := n45) (C0_1 := C46) (a0 := (⟨r27.2⟩ : S50)) hq43 hO47 hx93 _) ?_
          rintro v I94 L95 hI96 ⟨rfl, rfl⟩
          refine gl_pure 2 [2, 3] (K' := [(2, .string y92), (3, .int .i64 0)]) (by kernel_rfl) ?_
          refine gl_atE (by kernel_rfl) ?_
          refine ge_seq ?_
          refine gk_ret (by kernel_rfl) ?_
          obtain rfl := some_inj hr
          exact ge_result trivial (ResOk.tmp (by kernel_rfl) (ResOk.tmp (by kernel_rfl) ResOk.nil)) (Imm.trans (Imm.trans (Imm.trans hI1 hI12) hI41) hI96) ⟨rfl, rfl⟩
/-! 11 tocsinlaw13_known  -/
noncomputable def tocsinlaw13_known : Option Bool :=
  Option.bind (lex_Tokens (⟨#[97, 58, 98, 123, 120, 61, 126, 34, 99, 46, 42, 34, 125, 91, 53, 109, 93, 32, 62, 32, 49, 46, 53, 101, 51, 32, 35, 32, 101, 110, 100]⟩ : ByteArray)) fun (y1 : (List S27) × Int × Int) =>
  Option.bind (lex_Span (⟨#[49, 104, 51, 48, 109]⟩ : ByteArray)) fun (y10 : Int × Int) =>
  Option.bind (lex_SpanText 1500) fun (y12 : ByteArray × Int) =>
  Option.bind (bif (y1.2.1 == 0) then
    (bif ((y1.1.length : Int) == 12) then
      (Option.bind (ix y1.1 4) fun (x21 : S27) =>
        bif (x21.f1.toList == (⟨#[99, 46, 42]⟩ : ByteArray).toList) then
        (Option.bind (ix y1.1 7) fun (x31 : S27) =>
          bif (x31.f0 == 3) then
          (bif (y10.2 == 0) then
            (bif (y10.1 == 5400000) then
              (bif (y12.2 == 0) then
                (some (y12.1.toList == (⟨#[49, 115, 53, 48, 48, 109, 115]⟩ : ByteArray).toList))
                else
                (some false))
              else
              (some false))
            else
            (some false))
          else
          (some false))
        else
        (some false))
      else
      (some false))
    else
    (some false)) fun (j14 : Bool) =>
  some j14
theorem tocsinlaw13_known_walk  {I : Imm} {r : Bool} (hG : Gl I) (hr : tocsinlaw13_known = some r) (L : Own) :
    CallsTo Tryd.prog 11 #[] I L (fun v I' L' => v = .bool r ∧ L = L') := by
  unfold tocsinlaw13_known at hr
  refine callsTo_body (N := 58) Tryd.func11 (by kernel_rfl) (by kernel_rfl) (by kernel_rfl) ?_
  refine gk_pick [] (K' := []) (by kernel_rfl) ?_
  refine gk_seq (by kernel_rfl) ?_
  refine gk_region (by kernel_rfl) ?_
  refine gl_pure 1 [] (K' := []) (by kernel_rfl) ?_
  refine gl_atE (by kernel_rfl) ?_
  refine ge_seq ?_
  refine gk_seq (by kernel_rfl) ?_
  refine gk_region (by kernel_rfl) ?_
  obtain ⟨y1, hx2, hr⟩ := bind_some hr
  refine gl_call (by kernel_rfl) (lex_Tokens_walk (r := y1) hG hx2 _) ?_
  rintro v I3 L4 hI5 ⟨A6, c7, C8, hO9, rfl, rfl⟩
  refine gl_pure 7 [1, 2] (K' := [(1, .slice A6 y1.1.length c7), (2, .int .i64 y1.2.1)]) (by kernel_rfl) ?_
  refine gl_atE (by kernel_rfl) ?_
  refine ge_seq ?_
  refine gk_seq (by kernel_rfl) ?_
  refine gk_region (by kernel_rfl) ?_
  obtain ⟨y10, hx11, hr⟩ := bind_some hr
  refine gl_callQ (by kernel_rfl) (lex_Span_walk (r := y10) (hG.mono hI5) hx11 _) ?_
  refine gl_pure 5 [1, 2, 4, 5] (K' := [(1, .slice A6 y1.1.length c7), (2, .int .i64 y1.2.1), (4, .int .i64 y10.1), (5, .int .i64 y10.2)]) (by kernel_rfl) ?_
  refine gl_atE (by kernel_rfl) ?_
  refine ge_seq ?_
  refine gk_seq (by kernel_rfl) ?_
  refine gk_region (by kernel_rfl) ?_
  obtain ⟨y12, hx13, hr⟩ := bind_some hr
  refine gl_callQ (by kernel_rfl) (lex_SpanText_walk (r := y12) (hG.mono hI5) hx13 _) ?_
  refine gl_pure 5 [1, 2, 4, 5, 6, 7] (K' := [(1, .slice A6 y1.1.length c7), (2, .int .i64 y1.2.1), (4, .int .i64 y10.1), (5, .int .i64 y10.2), (6, .string y12.1), (7, .int .i64 y12.2)]) (by kernel_rfl) ?_
  refine gl_atE (by kernel_rfl) ?_
  refine ge_seq ?_
  refine gk_seq (by kernel_rfl) ?_
  obtain ⟨j14, hj15, hr⟩ := bind_some hr
  refine gk_join (fun t I' L' => I3 ≤ I' ∧ L = L' ∧ Knows 58 [(0, .bool j14)] t) ?_ ?_
  · refine gk_region (by kernel_rfl) ?_
    refine gl_pure 3 [1, 4, 5, 6, 7, 23] (K' := [(1, .slice A6 y1.1.length c7), (4, .int .i64 y10.1), (5, .int .i64 y10.2), (6, .string y12.1), (7, .int .i64 y12.2), (23, .bool (y1.2.1 == 0))]) (by kernel_rfl) ?_
    refine gl_case 23 (b := (y1.2.1 == 0)) (by kernel_rfl) (fun hc19 => ?_) (fun hc19 => ?_)
    · have hj15 := cond_t hc19 hj15
      refine gl_pure 5 [1, 4, 5, 6, 7, 28] (K' := [(1, .slice A6 y1.1.length c7), (4, .int .i64 y10.1), (5, .int .i64 y10.2), (6, .string y12.1), (7, .int .i64 y12.2), (28, .bool ((y1.1.length : Int) == 12))]) (by kernel_rfl) ?_
      refine gl_case 28 (b := ((y1.1.length : Int) == 12)) (by kernel_rfl) (fun hc20 => ?_) (fun hc20 => ?_)
      · have hj15 := cond_t hc20 hj15
        refine gl_pure 1 [1, 4, 5, 6, 7, 28, 29] (K' := [(1, .slice A6 y1.1.length c7), (4, .int .i64 y10.1), (5, .int .i64 y10.2), (6, .string y12.1), (7, .int .i64 y12.2), (28, .bool true), (29, .slice A6 y1.1.length c7)]) (by kernel_rfl) ?_
        obtain ⟨x21, hx22, hj15⟩ := bind_some hj15
        refine gl_indexAddrW (d := kS27) (c := c7) (T' := 22) (e := 28) (xs := (.tmp 29)) (xi := (.const (.int .i64 4))) (kd := .i64) hx22 hO9 (Upd.selfC _ _) (by kernel_rfl) (by kernel_rfl) (by kernel_rfl) (by kernel_rfl) (by kernel_rfl) (fun p23 cs24 hR25 hA26 hp29 => ?_)
        obtain rfl := kS27_open hR25
        refine gl_pure 1 [1, 4, 5, 6, 7, 28, 31] (K' := [(1, .slice A6 y1.1.length c7), (4, .int .i64 y10.1), (5, .int .i64 y10.2), (6, .string y12.1), (7, .int .i64 y12.2), (28, .bool true), (31, .pointer (some (p23.add 1)))]) (by kernel_rfl) ?_
        refine gl_loadO (T' := 9) (xp := (.tmp 31)) (p := (p23.add 1)) (c := .string x21.f1) (n := 1) (by kernel_rfl) (by kernel_rfl) (by kernel_rfl) (by kernel_rfl) (hA26.drop 1) ?_
        refine gl_pure 3 [1, 4, 5, 6, 7, 35] (K' := [(1, .slice A6 y1.1.length c7), (4, .int .i64 y10.1), (5, .int .i64 y10.2), (6, .string y12.1), (7, .int .i64 y12.2), (35, .bool (x21.f1.toList == (⟨#[99, 46, 42]⟩ : ByteArray).toList))]) (by kernel_rfl) ?_
        refine gl_case 35 (b := (x21.f1.toList == (⟨#[99, 46, 42]⟩ : ByteArray).toList)) (by kernel_rfl) (fun hc30 => ?_) (fun hc30 => ?_)
        · have hj15 := cond_t hc30 hj15
          refine gl_pure 1 [4, 5, 6, 7, 35, 36] (K' := [(4, .int .i64 y10.1), (5, .int .i64 y10.2), (6, .string y12.1), (7, .int .i64 y12.2), (35, .bool true), (36, .slice A6 y1.1.length c7)]) (by kernel_rfl) ?_
          obtain ⟨x31, hx32, hj15⟩ := bind_some hj15
          refine gl_indexAddrW (d := kS27) (c := c7) (T' := 22) (e := 28) (xs := (.tmp 36)) (xi := (.const (.int .i64 7))) (kd := .i64) hx32 hO9 (Upd.selfC _ _) (by kernel_rfl) (by kernel_rfl) (by kernel_rfl) (by kernel_rfl) (by kernel_rfl) (fun p33 cs34 hR35 hA36 hp39 => ?_)
          obtain rfl := kS27_open hR35
          refine gl_pure 1 [4, 5, 6, 7, 35, 38] (K' := [(4, .int .i64 y10.1), (5, .int .i64 y10.2), (6, .string y12.1), (7, .int .i64 y12.2), (35, .bool true), (38, .pointer (some (p33.add 0)))]) (by kernel_rfl) ?_
          refine gl_loadO (T' := 3) (xp := (.tmp 38)) (p := (p33.add 0)) (c := .int .i64 x31.f0) (n := 1) (by kernel_rfl) (by kernel_rfl) (by kernel_rfl) (by kernel_rfl) (hA36.drop 0) ?_
          refine gl_pure 3 [4, 5, 6, 7, 42] (K' := [(4, .int .i64 y10.1), (5, .int .i64 y10.2), (6, .string y12.1), (7, .int .i64 y12.2), (42, .bool (x31.f0 == 3))]) (by kernel_rfl) ?_
          refine gl_case 42 (b := (x31.f0 == 3)) (by kernel_rfl) (fun hc40 => ?_) (fun hc40 => ?_)
          · have hj15 := cond_t hc40 hj15
            refine gl_pure 4 [4, 6, 7, 46] (K' := [(4, .int .i64 y10.1), (6, .string y12.1), (7, .int .i64 y12.2), (46, .bool (y10.2 == 0))]) (by kernel_rfl) ?_
            refine gl_case 46 (b := (y10.2 == 0)) (by kernel_rfl) (fun hc41 => ?_) (fun hc41 => ?_)
            · have hj15 := cond_t hc41 hj15
              refine gl_pure 4 [6, 7, 50] (K' := [(6, .string y12.1), (7, .int .i64 y12.2), (50, .bool (y10.1 == 5400000))]) (by kernel_rfl) ?_
              refine gl_case 50 (b := (y10.1 == 5400000)) (by kernel_rfl) (fun hc42 => ?_) (fun hc42 => ?_)
              · have hj15 := cond_t hc42 hj15
                refine gl_pure 4 [6, 54] (K' := [(6, .string y12.1), (54, .bool (y12.2 == 0))]) (by kernel_rfl) ?_
                refine gl_case 54 (b := (y12.2 == 0)) (by kernel_rfl) (fun hc43 => ?_) (fun hc43 => ?_)
                · have hj15 := cond_t hc43 hj15
                  refine gl_pure 4 [0] (K' := [(0, .bool (y12.1.toList == (⟨#[49, 115, 53, 48, 48, 109, 115]⟩ : ByteArray).toList))]) (by kernel_rfl) ?_
                  refine gl_reord (D := L) (Reord.skipC (Reord.refl _)) ?_
                  refine gl_atE (by kernel_rfl) ?_
                  obtain rfl := some_inj hj15
                  exact ge_mid fun t ht => ⟨(Imm.refl _), rfl, ht.pick (l := [0]) (by kernel_rfl)⟩
                · have hj15 := cond_f hc43 hj15
                  refine gl_pure 4 [0] (K' := [(0, .bool false)]) (by kernel_rfl) ?_
                  refine gl_reord (D := L) (Reord.skipC (Reord.refl _)) ?_
                  refine gl_atE (by kernel_rfl) ?_
                  obtain rfl := some_inj hj15
                  exact ge_mid fun t ht => ⟨(Imm.refl _), rfl, ht.pick (l := [0]) (by kernel_rfl)⟩
              · have hj15 := cond_f hc42 hj15
                refine gl_pure 8 [0] (K' := [(0, .bool false)]) (by kernel_rfl) ?_
                refine gl_reord (D := L) (Reord.skipC (Reord.refl _)) ?_
                refine gl_atE (by kernel_rfl) ?_
                obtain rfl := some_inj hj15
                exact ge_mid fun t ht => ⟨(Imm.refl _), rfl, ht.pick (l := [0]) (by kernel_rfl)⟩
            · have hj15 := cond_f hc41 hj15
              refine gl_pure 12 [0] (K' := [(0, .bool false)]) (by kernel_rfl) ?_
              refine gl_reord (D := L) (Reord.skipC (Reord.refl _)) ?_
              refine gl_atE (by kernel_rfl) ?_
              obtain rfl := some_inj hj15
              exact ge_mid fun t ht => ⟨(Imm.refl _), rfl, ht.pick (l := [0]) (by kernel_rfl)⟩
          · have hj15 := cond_f hc40 hj15
            refine gl_pure 16 [0] (K' := [(0, .bool false)]) (by kernel_rfl) ?_
            refine gl_reord (D := L) (Reord.skipC (Reord.refl _)) ?_
            refine gl_atE (by kernel_rfl) ?_
            obtain rfl := some_inj hj15
            exact ge_mid fun t ht => ⟨(Imm.refl _), rfl, ht.pick (l := [0]) (by kernel_rfl)⟩
        · have hj15 := cond_f hc30 hj15
          refine gl_pure 23 [0] (K' := [(0, .bool false)]) (by kernel_rfl) ?_
          refine gl_reord (D := L) (Reord.skipC (Reord.refl _)) ?_
          refine gl_atE (by kernel_rfl) ?_
          obtain rfl := some_inj hj15
          exact ge_mid fun t ht => ⟨(Imm.refl _), rfl, ht.pick (l := [0]) (by kernel_rfl)⟩
      · have hj15 := cond_f hc20 hj15
        refine gl_pure 30 [0] (K' := [(0, .bool false)]) (by kernel_rfl) ?_
        refine gl_reord (D := L) (Reord.skipC (Reord.refl _)) ?_
        refine gl_atE (by kernel_rfl) ?_
        obtain rfl := some_inj hj15
        exact ge_mid fun t ht => ⟨(Imm.refl _), rfl, ht.pick (l := [0]) (by kernel_rfl)⟩
    · have hj15 := cond_f hc19 hj15
      refine gl_pure 35 [0] (K' := [(0, .bool false)]) (by kernel_rfl) ?_
      refine gl_reord (D := L) (Reord.skipC (Reord.refl _)) ?_
      refine gl_atE (by kernel_rfl) ?_
      obtain rfl := some_inj hj15
      exact ge_mid fun t ht => ⟨(Imm.refl _), rfl, ht.pick (l := [0]) (by kernel_rfl)⟩
  · rintro t I18 L' ⟨hI16, rfl, hK17⟩
    refine ge_at hK17 ?_
    refine ge_seq ?_
    refine gk_ret (by kernel_rfl) ?_
    obtain rfl := some_inj hr
    exact ge_result trivial (ResOk.tmp (by kernel_rfl) ResOk.nil) (Imm.trans hI5 hI16) ⟨rfl, rfl⟩
/-! 12 lex_Same  -/
noncomputable def lex_Same_l18 (a0 : List S27) (a1 : List S27) : Int → Option ((Int) ⊕ ((Unit) ⊕ (Bool))) := fun s8 =>
  bif (decide (s8 < (a0.length : Int))) then
  (Option.bind (ix a0 s8) fun (x21 : S27) =>
    Option.bind (Option.bind (ix a1 s8) fun (x35 : S27) =>
      bif (x21.f0 != x35.f0) then
      (some true)
      else
      (Option.bind (ix a1 s8) fun (x44 : S27) =>
        some (!(x21.f1.toList == x44.f1.toList)))) fun (j30 : Bool) =>
    bif j30 then
    (some (Sum.inr (Sum.inr false)))
    else
    (some (Sum.inl (IntKind.wrap .i64 (s8 + 1)))))
  else
  (some (Sum.inr (Sum.inl ())))
noncomputable def lex_Same (a0 : List S27) (a1 : List S27) : Option Bool :=
  bif ((a0.length : Int) != (a1.length : Int)) then
  (some false)
  else
  (Option.bind (loopO (lex_Same_l18 a0 a1) 0) fun (r6 : (Unit) ⊕ (Bool)) =>
    match r6 with
    | Sum.inl r14 => some true
    | Sum.inr v53 => some v53)
theorem lex_Same_walk {a0 : List S27} {A0_0 : Option Addr} {n0_0 : Nat} {a1 : List S27} {A1_0 : Option Addr} {n1_0 : Nat} {I : Imm} {r : Bool}  (hf0_0 : RepS kS27 I A0_0 n0_0 a0)  (hf1_0 : RepS kS27 I A1_0 n1_0 a1) (hr : lex_Same a0 a1 = some r) (L : Own) :
    CallsTo Tryd.prog 12 #[.slice A0_0 a0.length n0_0, .slice A1_0 a1.length n1_0] I L (fun v I' L' => v = .bool r ∧ L = L') := by
  unfold lex_Same at hr
  refine callsTo_body (N := 38) Tryd.func12 (by kernel_rfl) (by kernel_rfl) (by kernel_rfl) ?_
  refine gk_pick [0, 1] (K' := [(0, .slice A0_0 a0.length n0_0), (1, .slice A1_0 a1.length n1_0)]) (by kernel_rfl) ?_
  refine gk_seq (by kernel_rfl) ?_
  refine gk_region (by kernel_rfl) ?_
  refine gl_pure 1 [0, 1] (K' := [(0, .slice A0_0 a0.length n0_0), (1, .slice A1_0 a1.length n1_0)]) (by kernel_rfl) ?_
  refine gl_atE (by kernel_rfl) ?_
  refine ge_seq ?_
  refine gk_seq (by kernel_rfl) ?_
  refine gk_seq (by kernel_rfl) ?_
  refine gk_region (by kernel_rfl) ?_
  refine gl_pure 5 [0, 1, 11] (K' := [(0, .slice A0_0 a0.length n0_0), (1, .slice A1_0 a1.length n1_0), (11, .bool ((a0.length : Int) != (a1.length : Int)))]) (by kernel_rfl) ?_
  refine gl_atE (by kernel_rfl) ?_
  refine ge_seq ?_
  refine gk_cond (b := ((a0.length : Int) != (a1.length : Int))) (by kernel_rfl) (by kernel_rfl) (fun hc1 => ?_) (fun hc1 => ?_)
  · have hr := cond_t hc1 hr
    refine gk_seq (by kernel_rfl) ?_
    refine gk_region (by kernel_rfl) ?_
    refine gl_pure 1 [4] (K' := [(4, .bool false)]) (by kernel_rfl) ?_
    refine gl_atE (by kernel_rfl) ?_
    refine ge_seq ?_
    refine gk_ret (by kernel_rfl) ?_
    refine ge_seq_ret ?_
    obtain rfl := some_inj hr
    exact ge_result trivial (ResOk.tmp (by kernel_rfl) ResOk.nil) (Imm.refl _) ⟨rfl, rfl⟩
  · have hr := cond_f hc1 hr
    refine gk_skip (by kernel_rfl) ?_
    refine ge_seq ?_
    refine gk_seq (by kernel_rfl) ?_
    refine gk_seq (by kernel_rfl) ?_
    refine gk_region (by kernel_rfl) ?_
    refine gl_pure 3 [1, 12, 13, 14] (K' := [(1, .slice A1_0 a1.length n1_0), (12, .slice A0_0 a0.length n0_0), (13, .int .i64 (a0.length : Int)), (14, .int .i64 0)]) (by kernel_rfl) ?_
    refine gl_atE (by kernel_rfl) ?_
    refine ge_seq ?_
    obtain ⟨r6, hl7, hr⟩ := bind_some hr
    refine gk_join (fun t I' L' => ∃ r14, r6 = Sum.inl r14 ∧ I ≤ I' ∧ L = L' ∧ Knows 38 [] t) ?_ ?_
    · refine gk_block (by kernel_rfl) ?_
      refine gk_pick [1, 12, 13, 14] (K' := [(1, .slice A1_0 a1.length n1_0), (12, .slice A0_0 a0.length n0_0), (13, .int .i64 (a0.length : Int)), (14, .int .i64 0)]) (by kernel_rfl) ?_
      intro t hK
      refine gc_loop (lex_Same_l18 a0 a1) (fun s8 t I' L' => I ≤ I' ∧ L = L' ∧ Knows 38 [(1, .slice A1_0 a1.length n1_0), (12, .slice A0_0 a0.length n0_0), (13, .int .i64 (a0.length : Int)), (14, .int .i64 s8)] t) (by kernel_rfl) ?_ hl7 ⟨(Imm.refl _), rfl, hK⟩
      rintro s8 o9 t I13 L' hb10 ⟨hI11, rfl, hK12⟩
      unfold lex_Same_l18 at hb10
      refine gk_at hK12 ?_
      refine gk_seq (by kernel_rfl) ?_
      refine gk_region (by kernel_rfl) ?_
      refine gl_pure 1 [1, 12, 13, 14, 15] (K' := [(1, .slice A1_0 a1.length n1_0), (12, .slice A0_0 a0.length n0_0), (13, .int .i64 (a0.length : Int)), (14, .int .i64 s8), (15, .bool (decide (s8 < (a0.length : Int))))]) (by kernel_rfl) ?_
      refine gl_atE (by kernel_rfl) ?_
      refine ge_seq ?_
      refine gk_seq (by kernel_rfl) ?_
      refine gk_cond (b := (decide (s8 < (a0.length : Int)))) (by kernel_rfl) (by kernel_rfl) (fun hc20 => ?_) (fun hc20 => ?_)
      · have hb10 := cond_t hc20 hb10
        refine gk_skip (by kernel_rfl) ?_
        refine ge_seq ?_
        refine gk_seq (by kernel_rfl) ?_
        refine gk_block (by kernel_rfl) ?_
        refine gk_seq (by kernel_rfl) ?_
        refine gk_region (by kernel_rfl) ?_
        refine gl_pure 1 [1, 12, 13, 14, 16] (K' := [(1, .slice A1_0 a1.length n1_0), (12, .slice A0_0 a0.length n0_0), (13, .int .i64 (a0.length : Int)), (14, .int .i64 s8), (16, .int .i64 s8)]) (by kernel_rfl) ?_
        obtain ⟨x21, hx22, hb10⟩ := bind_some hb10
        obtain ⟨p23, cs24, hR25, hA26, ha27⟩ := RepS.ixAt hx22 (hf0_0.mono hI11)
        have hi28 := ix_some hx22
        obtain rfl := kS27_open hR25
        refine gl_indexAddrF (c := n0_0) (T' := 22) (e := 28) (xs := (.tmp 12)) (xi := (.tmp 14)) (kd := .i64) ha27 hi28.1 hi28.2.1 (by kernel_rfl) (by kernel_rfl) (by kernel_rfl) (by kernel_rfl) (by kernel_rfl) ?_
        refine gl_loadA (T' := 28) (xp := (.tmp 17)) (p := p23) (cs := [.int .i64 x21.f0, .string x21.f1, .int .i64 x21.f2]) (by kernel_rfl) (by kernel_rfl) (by kernel_rfl) (by kernel_rfl) (hA26.take 3) ?_
        refine gl_alloc (T' := 28) (cs := #[.int .i64 0, .string (⟨#[]⟩ : ByteArray), .int .i64 0]) (by kernel_rfl) (by kernel_rfl) (by kernel_rfl) (fun g29 => ?_)
        refine gl_pure 1 [1, 5, 6, 12, 13, 14, 18] (K' := [(1, .slice A1_0 a1.length n1_0), (5, .int .i64 s8), (6, .pointer (some ⟨g29, 0, none⟩)), (12, .slice A0_0 a0.length n0_0), (13, .int .i64 (a0.length : Int)), (14, .int .i64 s8), (18, .agg #[.int .i64 x21.f0, .string x21.f1, .int .i64 x21.f2])]) (by kernel_rfl) ?_
        refine gl_storeB (T' := 28) (xp := (.tmp 6)) (xv := (.tmp 18)) (v := .agg #[.int .i64 x21.f0, .string x21.f1, .int .i64 x21.f2]) (g := g29) (off := 0) (cs := #[.int .i64 0, .string (⟨#[]⟩ : ByteArray), .int .i64 0]) (cs' := #[.int .i64 x21.f0, .string x21.f1, .int .i64 x21.f2]) (by kernel_rfl) (by kernel_rfl) (by kernel_rfl) (by kernel_rfl) (by kernel_rfl) (Upd.set _ _ _ _) ?_ (by kernel_rfl)
        refine gl_atE (by kernel_rfl) ?_
        refine ge_seq ?_
        refine gk_seq (by kernel_rfl) ?_
        obtain ⟨j30, hj31, hb10⟩ := bind_some hb10
        refine gk_join (fun t I' L' => I13 ≤ I' ∧ L = L' ∧ Knows 38 [(1, .slice A1_0 a1.length n1_0), (12, .slice A0_0 a0.length n0_0), (13, .int .i64 (a0.length : Int)), (14, .int .i64 s8), (36, .bool j30)] t) ?_ ?_
        · refine gk_draw 18 [(0, true), (1, true), (2, true), (3, true), (4, true), (5, true), (6, true), (7, true), (8, true), (9, true), (10, true), (11, true), (12, true), (13, true), (14, true), (15, true), (16, true), (17, true)] [(g29, .cells #[.int .i64 x21.f0, .string x21.f1, .int .i64 x21.f2] 28)] (List.forall_mem_cons.2 ⟨List.mem_cons_self, (fun p hp => by cases hp)⟩) (by kernel_rfl) (by kernel_rfl) (by kernel_rfl) ?_ (by kernel_rfl)
          refine gd_pure 1 [1, 5, 6, 12, 13, 14, 19] (K' := [(1, .slice A1_0 a1.length n1_0), (5, .int .i64 s8), (6, .pointer (some ⟨g29, 0, none⟩)), (12, .slice A0_0 a0.length n0_0), (13, .int .i64 (a0.length : Int)), (14, .int .i64 s8), (19, .pointer (some ⟨g29, 0, none⟩))]) (s' := [(1, true), (2, true), (3, true), (4, true), (5, true), (6, true), (7, true), (8, true), (9, true), (10, true), (11, true), (12, true), (13, true), (14, true), (15, true), (16, true), (17, true)]) (CC.refl (List.forall_mem_cons.2 ⟨List.mem_cons_self, (fun p hp => by cases hp)⟩)) (by kernel_rfl) ?_
          refine gd_q (v := .int .i64 x21.f0) (by kernel_rfl) (by kernel_rfl) (CC.refl (List.forall_mem_cons.2 ⟨List.mem_cons_self, (fun p hp => by cases hp)⟩)) (fun I' L' T hC kk => gl_loadB (T' := 3) (xp := (.tmp 19)) (v := .int .i64 x21.f0) (g := g29) (off := 0) (cs := #[.int .i64 x21.f0, .string x21.f1, .int .i64 x21.f2]) (e := 28) (fz := (0, 0)) (by kernel_rfl) (by kernel_rfl) (by kernel_rfl) (hC.sub _ List.mem_cons_self) (by kernel_rfl) kk) ?_
          refine gd_pure 2 [1, 5, 6, 12, 13, 14, 20, 21, 22] (K' := [(1, .slice A1_0 a1.length n1_0), (5, .int .i64 s8), (6, .pointer (some ⟨g29, 0, none⟩)), (12, .slice A0_0 a0.length n0_0), (13, .int .i64 (a0.length : Int)), (14, .int .i64 s8), (20, .int .i64 x21.f0), (21, .slice A1_0 a1.length n1_0), (22, .int .i64 s8)]) (s' := [(4, true), (5, true), (6, true), (7, true), (8, true), (9, true), (10, true), (11, true), (12, true), (13, true), (14, true), (15, true), (16, true), (17, true)]) (CC.refl (List.forall_mem_cons.2 ⟨List.mem_cons_self, (fun p hp => by cases hp)⟩)) (by kernel_rfl) ?_
          obtain ⟨x35, hx36, hj31⟩ := bind_some hj31
          obtain ⟨p37, cs38, hR39, hA40, ha41⟩ := RepS.ixAt hx36 (hf1_0.mono hI11)
          have hi42 := ix_some hx36
          obtain rfl := kS27_open hR39
          refine gd_q (v := .pointer (some p37)) (by kernel_rfl) (by kernel_rfl) (CC.refl (List.forall_mem_cons.2 ⟨List.mem_cons_self, (fun p hp => by cases hp)⟩)) (fun I' L' T hC kk => gl_indexAddrF (c := n1_0) (T' := 22) (e := 28) (xs := (.tmp 21)) (xi := (.tmp 22)) (kd := .i64) ha41 hi42.1 hi42.2.1 (by kernel_rfl) (by kernel_rfl) (by kernel_rfl) (by kernel_rfl) (by kernel_rfl) kk) ?_
          refine gd_pure 1 [1, 5, 6, 12, 13, 14, 20, 24] (K' := [(1, .slice A1_0 a1.length n1_0), (5, .int .i64 s8), (6, .pointer (some ⟨g29, 0, none⟩)), (12, .slice A0_0 a0.length n0_0), (13, .int .i64 (a0.length : Int)), (14, .int .i64 s8), (20, .int .i64 x21.f0), (24, .pointer (some (p37.add 0)))]) (s' := [(6, true), (7, true), (8, true), (9, true), (10, true), (11, true), (12, true), (13, true), (14, true), (15, true), (16, true), (17, true)]) (CC.refl (List.forall_mem_cons.2 ⟨List.mem_cons_self, (fun p hp => by cases hp)⟩)) (by kernel_rfl) ?_
          refine gd_q (v := .int .i64 x35.f0) (by kernel_rfl) (by kernel_rfl) (CC.refl (List.forall_mem_cons.2 ⟨List.mem_cons_self, (fun p hp => by cases hp)⟩)) (fun I' L' T hC kk => gl_load (T' := 3) (xp := (.tmp 24)) (p := (p37.add 0)) (c := .int .i64 x35.f0) (n := 1) (by kernel_rfl) (by kernel_rfl) (by kernel_rfl) (by kernel_rfl) ((hA40.drop 0).mono hC.le) kk) ?_
          refine gd_pure 2 [1, 5, 6, 12, 13, 14, 27] (K' := [(1, .slice A1_0 a1.length n1_0), (5, .int .i64 s8), (6, .pointer (some ⟨g29, 0, none⟩)), (12, .slice A0_0 a0.length n0_0), (13, .int .i64 (a0.length : Int)), (14, .int .i64 s8), (27, .bool (x21.f0 != x35.f0))]) (s' := [(9, true), (10, true), (11, true), (12, true), (13, true), (14, true), (15, true), (16, true), (17, true)]) (CC.refl (List.forall_mem_cons.2 ⟨List.mem_cons_self, (fun p hp => by cases hp)⟩)) (by kernel_rfl) ?_
          refine gd_case 27 (b := (x21.f0 != x35.f0)) (by kernel_rfl) (fun hc43 => ?_) (fun hc43 => ?_)
          · have hj31 := cond_t hc43 hj31
            refine gd_pure 9 [1, 12, 13, 14, 36] (K' := [(1, .slice A1_0 a1.length n1_0), (12, .slice A0_0 a0.length n0_0), (13, .int .i64 (a0.length : Int)), (14, .int .i64 s8), (36, .bool true)]) (s' := []) (CC.refl (List.forall_mem_cons.2 ⟨List.mem_cons_self, (fun p hp => by cases hp)⟩)) (by kernel_rfl) ?_
            refine gd_done ?_
            refine gl_reord (D := L) (Reord.skip (Reord.refl _)) ?_
            refine gl_atE (by kernel_rfl) ?_
            obtain rfl := some_inj hj31
            exact ge_mid fun t ht => ⟨(Imm.refl _), rfl, ht.pick (l := [1, 12, 13, 14, 36]) (by kernel_rfl)⟩
          · have hj31 := cond_f hc43 hj31
            refine gd_pure 1 [1, 5, 12, 13, 14, 27, 28] (K' := [(1, .slice A1_0 a1.length n1_0), (5, .int .i64 s8), (12, .slice A0_0 a0.length n0_0), (13, .int .i64 (a0.length : Int)), (14, .int .i64 s8), (27, .bool false), (28, .pointer (some ⟨g29, 1, none⟩))]) (s' := [(10, true), (11, true), (12, true), (13, true), (14, true), (15, true), (16, true), (17, true)]) (CC.refl (List.forall_mem_cons.2 ⟨List.mem_cons_self, (fun p hp => by cases hp)⟩)) (by kernel_rfl) ?_
            refine gd_q (v := .string x21.f1) (by kernel_rfl) (by kernel_rfl) (CC.refl (List.forall_mem_cons.2 ⟨List.mem_cons_self, (fun p hp => by cases hp)⟩)) (fun I' L' T hC kk => gl_loadB (T' := 9) (xp := (.tmp 28)) (v := .string x21.f1) (g := g29) (off := 1) (cs := #[.int .i64 x21.f0, .string x21.f1, .int .i64 x21.f2]) (e := 28) (fz := (0, 0)) (by kernel_rfl) (by kernel_rfl) (by kernel_rfl) (hC.sub _ List.mem_cons_self) (by kernel_rfl) kk) ?_
            refine gd_pure 2 [1, 12, 13, 14, 27, 29, 30, 31] (K' := [(1, .slice A1_0 a1.length n1_0), (12, .slice A0_0 a0.length n0_0), (13, .int .i64 (a0.length : Int)), (14, .int .i64 s8), (27, .bool false), (29, .string x21.f1), (30, .slice A1_0 a1.length n1_0), (31, .int .i64 s8)]) (s' := [(13, true), (14, true), (15, true), (16, true), (17, true)]) (CC.refl (List.forall_mem_cons.2 ⟨List.mem_cons_self, (fun p hp => by cases hp)⟩)) (by kernel_rfl) ?_
            obtain ⟨x44, hx45, hj31⟩ := bind_some hj31
            obtain ⟨p46, cs47, hR48, hA49, ha50⟩ := RepS.ixAt hx45 (hf1_0.mono hI11)
            have hi51 := ix_some hx45
            obtain rfl := kS27_open hR48
            refine gd_q (v := .pointer (some p46)) (by kernel_rfl) (by kernel_rfl) (CC.refl (List.forall_mem_cons.2 ⟨List.mem_cons_self, (fun p hp => by cases hp)⟩)) (fun I' L' T hC kk => gl_indexAddrF (c := n1_0) (T' := 22) (e := 28) (xs := (.tmp 30)) (xi := (.tmp 31)) (kd := .i64) ha50 hi51.1 hi51.2.1 (by kernel_rfl) (by kernel_rfl) (by kernel_rfl) (by kernel_rfl) (by kernel_rfl) kk) ?_
            refine gd_pure 1 [1, 12, 13, 14, 27, 29, 33] (K' := [(1, .slice A1_0 a1.length n1_0), (12, .slice A0_0 a0.length n0_0), (13, .int .i64 (a0.length : Int)), (14, .int .i64 s8), (27, .bool false), (29, .string x21.f1), (33, .pointer (some (p46.add 1)))]) (s' := [(15, true), (16, true), (17, true)]) (CC.refl (List.forall_mem_cons.2 ⟨List.mem_cons_self, (fun p hp => by cases hp)⟩)) (by kernel_rfl) ?_
            refine gd_q (v := .string x44.f1) (by kernel_rfl) (by kernel_rfl) (CC.refl (List.forall_mem_cons.2 ⟨List.mem_cons_self, (fun p hp => by cases hp)⟩)) (fun I' L' T hC kk => gl_load (T' := 9) (xp := (.tmp 33)) (p := (p46.add 1)) (c := .string x44.f1) (n := 1) (by kernel_rfl) (by kernel_rfl) (by kernel_rfl) (by kernel_rfl) ((hA49.drop 1).mono hC.le) kk) ?_
            refine gd_pure 2 [1, 12, 13, 14, 36] (K' := [(1, .slice A1_0 a1.length n1_0), (12, .slice A0_0 a0.length n0_0), (13, .int .i64 (a0.length : Int)), (14, .int .i64 s8), (36, .bool (!(x21.f1.toList == x44.f1.toList)))]) (s' := []) (CC.refl (List.forall_mem_cons.2 ⟨List.mem_cons_self, (fun p hp => by cases hp)⟩)) (by kernel_rfl) ?_
            refine gd_done ?_
            refine gl_reord (D := L) (Reord.skip (Reord.refl _)) ?_
            refine gl_atE (by kernel_rfl) ?_
            obtain rfl := some_inj hj31
            exact ge_mid fun t ht => ⟨(Imm.refl _), rfl, ht.pick (l := [1, 12, 13, 14, 36]) (by kernel_rfl)⟩
        · rintro t I34 L' ⟨hI32, rfl, hK33⟩
          refine ge_at hK33 ?_
          refine ge_seq ?_
          refine gk_cond (b := j30) (by kernel_rfl) (by kernel_rfl) (fun hc52 => ?_) (fun hc52 => ?_)
          · have hb10 := cond_t hc52 hb10
            refine gk_seq (by kernel_rfl) ?_
            refine gk_region (by kernel_rfl) ?_
            refine gl_pure 1 [4] (K' := [(4, .bool false)]) (by kernel_rfl) ?_
            refine gl_atE (by kernel_rfl) ?_
            refine ge_seq ?_
            refine gk_ret (by kernel_rfl) ?_
            refine ge_block_ret ?_
            refine ge_seq_ret ?_
            obtain rfl := some_inj hb10
            refine ge_round_out (fun hrr => ?_) (by intro h; cases h)
            obtain rfl := hrr
            refine ge_block_ret ?_
            refine ge_seq_ret ?_
            refine ge_seq_ret ?_
            obtain rfl := some_inj hr
            exact ge_result trivial (ResOk.tmp (by kernel_rfl) ResOk.nil) (Imm.trans hI11 hI32) ⟨rfl, rfl⟩
          · have hb10 := cond_f hc52 hb10
            refine gk_skip (by kernel_rfl) ?_
            refine ge_block_normal ?_
            refine ge_seq ?_
            refine gk_region (by kernel_rfl) ?_
            refine gl_pure 2 [1, 12, 13, 14] (K' := [(1, .slice A1_0 a1.length n1_0), (12, .slice A0_0 a0.length n0_0), (13, .int .i64 (a0.length : Int)), (14, .int .i64 (IntKind.wrap .i64 (s8 + 1)))]) (by kernel_rfl) ?_
            refine gl_atE (by kernel_rfl) ?_
            obtain rfl := some_inj hb10
            exact ge_round fun t ht => ⟨(Imm.trans hI11 hI32), rfl, ht.pick (l := [1, 12, 13, 14]) (by kernel_rfl)⟩
      · have hb10 := cond_f hc20 hb10
        refine gk_exit (by kernel_rfl) ?_
        refine ge_seq_exit ?_
        obtain rfl := some_inj hb10
        refine ge_round_out (fun hrr => ?_) (by intro h; cases h)
        obtain rfl := hrr
        refine ge_block_hit (by kernel_rfl) ?_
        exact ge_mid fun t ht => ⟨_, rfl, hI11, rfl, ht.pick (l := []) (by kernel_rfl)⟩
    · rintro t I17 L' ⟨r14, rfl, hI15, rfl, hK16⟩
      refine ge_at hK16 ?_
      refine ge_seq ?_
      refine gk_seq (by kernel_rfl) ?_
      refine gk_region (by kernel_rfl) ?_
      refine gl_pure 1 [4] (K' := [(4, .bool true)]) (by kernel_rfl) ?_
      refine gl_atE (by kernel_rfl) ?_
      refine ge_seq ?_
      refine gk_ret (by kernel_rfl) ?_
      obtain rfl := some_inj hr
      exact ge_result trivial (ResOk.tmp (by kernel_rfl) ResOk.nil) hI15 ⟨rfl, rfl⟩
end Go.Proofs.YtlhpclfkoblnkaaDoor
