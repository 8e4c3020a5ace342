/- Parts: L55b. -/
import Derived.Test.YtlhpclfkoblnkaaDoorL55as
set_option linter.unusedVariables false
set_option linter.unusedSimpArgs false
set_option maxRecDepth 100000
namespace Go.Proofs.YtlhpclfkoblnkaaDoor
open Go.GB
/-! 72 strconv_ParseUint_f72  -/
noncomputable def strconv_ParseUint_f72_l123 (a1 : Int) (j8 : ByteArray × Int) (j86 : Int) (q100 : Int) (l102 : List Int) : (Bool × Int × Int) → Option ((Bool × Int × Int) ⊕ (Bool × Int)) := fun s114 =>
  bif (decide (s114.2.2 < (l102.length : Int))) then
  (Option.bind (Option.bind (ix l102 s114.2.2) fun (x131 : Int) =>
      bif ((x131 == 95) && (a1 == 0)) then
      (some (true, s114.2.1))
      else
      (Option.bind (bif ((decide (48 ≤ x131)) && (decide (x131 ≤ 57))) then
          (some (IntKind.wrap .u8 (x131 - 48)))
          else
          (bif ((decide (97 ≤ (strconv_lower x131))) && (decide ((strconv_lower x131) ≤ 122))) then
            (some (IntKind.wrap .u8 ((IntKind.wrap .u8 ((strconv_lower x131) - 97)) + 10)))
            else
            (none))) fun (j151 : Int) =>
        bif (decide (j151 ≥ (IntKind.wrap .u8 j8.2))) then
        (none)
        else
        (bif (decide (s114.2.1 ≥ j86)) then
          (none)
          else
          (bif ((decide ((IntKind.wrap .u64 ((IntKind.wrap .u64 (s114.2.1 * (IntKind.wrap .u64 j8.2))) + (IntKind.wrap .u64 j151))) < (IntKind.wrap .u64 (s114.2.1 * (IntKind.wrap .u64 j8.2))))) || (decide ((IntKind.wrap .u64 ((IntKind.wrap .u64 (s114.2.1 * (IntKind.wrap .u64 j8.2))) + (IntKind.wrap .u64 j151))) > (IntKind.wrap .u64 (q100 - 1))))) then
            (none)
            else
            (some (s114.1, (IntKind.wrap .u64 ((IntKind.wrap .u64 (s114.2.1 * (IntKind.wrap .u64 j8.2))) + (IntKind.wrap .u64 j151))))))))) fun (j126 : Bool × Int) =>
    some (Sum.inl (j126.1, j126.2, (IntKind.wrap .i64 (s114.2.2 + 1)))))
  else
  (some (Sum.inr (s114.1, s114.2.1)))
noncomputable def strconv_ParseUint_f72 (a0 : ByteArray) (a1 : Int) (a2 : Int) : Option (Int × Unit) :=
  bif (a0.toList == (⟨#[]⟩ : ByteArray).toList) then
  (none)
  else
  (Option.bind (bif ((decide (2 ≤ a1)) && (decide (a1 ≤ 36))) then
      (some (a0, a1))
      else
      (bif (a1 == 0) then
        (Option.bind (bx a0 0) fun (c15 : Int) =>
          Option.bind (bif (c15 == 48) then
            (Option.bind (bif (decide ((a0.size : Int) ≥ 3)) then
                (Option.bind (bx a0 1) fun (c29 : Int) =>
                  some ((strconv_lower c29) == 98))
                else
                (some false)) fun (j23 : Bool) =>
              Option.bind (bif j23 then
                (Option.bind (sx a0 2 (a0.size : Int)) fun (s38 : ByteArray) =>
                  some (s38, 2))
                else
                (Option.bind (bif (decide ((a0.size : Int) ≥ 3)) then
                    (Option.bind (bx a0 1) fun (c45 : Int) =>
                      some ((strconv_lower c45) == 111))
                    else
                    (some false)) fun (j39 : Bool) =>
                  Option.bind (bif j39 then
                    (Option.bind (sx a0 2 (a0.size : Int)) fun (s54 : ByteArray) =>
                      some (s54, 8))
                    else
                    (Option.bind (bif (decide ((a0.size : Int) ≥ 3)) then
                        (Option.bind (bx a0 1) fun (c61 : Int) =>
                          some ((strconv_lower c61) == 120))
                        else
                        (some false)) fun (j55 : Bool) =>
                      Option.bind (bif j55 then
                        (Option.bind (sx a0 2 (a0.size : Int)) fun (s70 : ByteArray) =>
                          some (s70, 16))
                        else
                        (Option.bind (sx a0 1 (a0.size : Int)) fun (s72 : ByteArray) =>
                          some (s72, 8))) fun (j63 : ByteArray × Int) =>
                      some (j63.1, j63.2))) fun (j47 : ByteArray × Int) =>
                  some (j47.1, j47.2))) fun (j31 : ByteArray × Int) =>
              some (j31.1, j31.2))
            else
            (some (a0, 10))) fun (j17 : ByteArray × Int) =>
          some (j17.1, j17.2))
        else
        (none))) fun (j8 : ByteArray × Int) =>
    Option.bind (bif (a2 == 0) then
      (some 64)
      else
      (bif ((decide (a2 < 0)) || (decide (a2 > 64))) then
        (none)
        else
        (some a2))) fun (j73 : Int) =>
    Option.bind (bif (j8.2 == 10) then
      (some 1844674407370955162)
      else
      (Option.bind (bif (j8.2 == 16) then
          (some 1152921504606846976)
          else
          (Option.bind (quox .u64 18446744073709551615 (IntKind.wrap .u64 j8.2)) fun (q98 : Int) =>
            some (IntKind.wrap .u64 (q98 + 1)))) fun (j92 : Int) =>
        some j92)) fun (j86 : Int) =>
    Option.bind (shlx .u64 1 (IntKind.wrap .u64 j73)) fun (q100 : Int) =>
    Option.bind (sb j8.1) fun (l102 : List Int) =>
    Option.bind (loopO (strconv_ParseUint_f72_l123 a1 j8 j86 q100 l102) (false, 0, 0)) fun (r112 : Bool × Int) =>
    Option.bind (bif r112.1 then
      (Option.bind (strconv_underscoreOK a0) fun (y179 : Bool) =>
        some (!y179))
      else
      (some false)) fun (j173 : Bool) =>
    bif j173 then
    (none)
    else
    (some (r112.2, ())))
theorem strconv_ParseUint_f72_walk {a0 : ByteArray} {a1 : Int} {a2 : Int} {I : Imm} {r : Int × Unit}  (hr : strconv_ParseUint_f72 a0 a1 a2 = some r) (L : Own) :
    CallsTo Tryd.prog 72 #[.string a0, .int .i64 a1, .int .i64 a2] I L (fun v I' L' => v = .tuple #[.int .u64 r.1, .nilIface] ∧ L = L') := by
  unfold strconv_ParseUint_f72 at hr
  refine callsTo_body (N := 172) Tryd.func72 (by kernel_rfl) (by kernel_rfl) (by kernel_rfl) ?_
  refine gk_pick [0, 1, 2] (K' := [(0, .string a0), (1, .int .i64 a1), (2, .int .i64 a2)]) (by kernel_rfl) ?_
  refine gk_seq (by kernel_rfl) ?_
  refine gk_region (by kernel_rfl) ?_
  refine gl_pure 2 [0, 1, 2] (K' := [(0, .string a0), (1, .int .i64 a1), (2, .int .i64 a2)]) (by kernel_rfl) ?_
  refine gl_atE (by kernel_rfl) ?_
  refine ge_seq ?_
  refine gk_seq (by kernel_rfl) ?_
  refine gk_seq (by kernel_rfl) ?_
  refine gk_region (by kernel_rfl) ?_
  refine gl_pure 2 [0, 1, 2, 19] (K' := [(0, .string a0), (1, .int .i64 a1), (2, .int .i64 a2), (19, .bool (a0.toList == (⟨#[]⟩ : ByteArray).toList))]) (by kernel_rfl) ?_
  refine gl_atE (by kernel_rfl) ?_
  refine ge_seq ?_
  refine gk_cond (b := (a0.toList == (⟨#[]⟩ : ByteArray).toList)) (by kernel_rfl) (by kernel_rfl) (fun hc1 => ?_) (fun hc1 => ?_)
  · have hr := cond_t hc1 hr
    cases hr
  · have hr := cond_f hc1 hr
    refine gk_skip (by kernel_rfl) ?_
    refine ge_seq ?_
    refine gk_seq (by kernel_rfl) ?_
    refine gk_region (by kernel_rfl) ?_
    refine gl_pure 3 [0, 1, 2, 8] (K' := [(0, .string a0), (1, .int .i64 a1), (2, .int .i64 a2), (8, .bool (a1 == 0))]) (by kernel_rfl) ?_
    refine gl_atE (by kernel_rfl) ?_
    refine ge_seq ?_
    refine gk_seq (by kernel_rfl) ?_
    refine gk_region (by kernel_rfl) ?_
    refine gl_pure 2 [0, 1, 2, 8, 9] (K' := [(0, .string a0), (1, .int .i64 a1), (2, .int .i64 a2), (8, .bool (a1 == 0)), (9, .string a0)]) (by kernel_rfl) ?_
    refine gl_atE (by kernel_rfl) ?_
    refine ge_seq ?_
    refine gk_seq (by kernel_rfl) ?_
    refine gk_block (by kernel_rfl) ?_
    refine gk_seq (by kernel_rfl) ?_
    obtain ⟨b4, hb5⟩ : ∃ z, z = ((decide (2 ≤ a1)) && (decide (a1 ≤ 36))) := ⟨_, rfl⟩
    refine gk_join (fun t I' L' => I ≤ I' ∧ L = L' ∧ Knows 172 [(0, .string a0), (1, .int .i64 a1), (2, .int .i64 a2), (8, .bool (a1 == 0)), (9, .string a0), (25, .bool b4)] t) ?_ ?_
    · refine gk_region (by kernel_rfl) ?_
      refine gl_pure 3 [0, 1, 2, 8, 9, 28] (K' := [(0, .string a0), (1, .int .i64 a1), (2, .int .i64 a2), (8, .bool (a1 == 0)), (9, .string a0), (28, .bool (decide (2 ≤ a1)))]) (by kernel_rfl) ?_
      refine gl_case 28 (b := (decide (2 ≤ a1))) (by kernel_rfl) (fun hc7 => ?_) (fun hc7 => ?_)
      · refine gl_pure 4 [0, 1, 2, 8, 9, 25] (K' := [(0, .string a0), (1, .int .i64 a1), (2, .int .i64 a2), (8, .bool (a1 == 0)), (9, .string a0), (25, .bool (decide (a1 ≤ 36)))]) (by kernel_rfl) ?_
        refine gl_atE (by kernel_rfl) ?_
        exact ge_mid fun t ht => ⟨(Imm.refl _), rfl, by rw [(show b4 = (decide (a1 ≤ 36)) from hb5.trans (by rw [hc7]; try rfl))]; exact ht.pick (l := [0, 1, 2, 8, 9, 25]) (by kernel_rfl)⟩
      · refine gl_pure 4 [0, 1, 2, 8, 9, 25] (K' := [(0, .string a0), (1, .int .i64 a1), (2, .int .i64 a2), (8, .bool (a1 == 0)), (9, .string a0), (25, .bool false)]) (by kernel_rfl) ?_
        refine gl_atE (by kernel_rfl) ?_
        exact ge_mid fun t ht => ⟨(Imm.refl _), rfl, by rw [(show b4 = false from hb5.trans (by rw [hc7]; try rfl))]; exact ht.pick (l := [0, 1, 2, 8, 9, 25]) (by kernel_rfl)⟩
    · rintro t I6 L' ⟨hI2, rfl, hK3⟩
      subst hb5
      refine ge_at hK3 ?_
      refine ge_seq ?_
      obtain ⟨j8, hj9, hr⟩ := bind_some hr
      refine gk_join (fun t I' L' => I6 ≤ I' ∧ L = L' ∧ Knows 172 [(0, .string j8.1), (1, .int .i64 j8.2), (2, .int .i64 a2), (8, .bool (a1 == 0)), (9, .string a0)] t) ?_ ?_
      · refine gk_cond (b := ((decide (2 ≤ a1)) && (decide (a1 ≤ 36)))) (by kernel_rfl) (by kernel_rfl) (fun hc13 => ?_) (fun hc13 => ?_)
        · have hj9 := cond_t hc13 hj9
          refine gk_skip (by kernel_rfl) ?_
          obtain rfl := some_inj hj9
          exact ge_mid fun t ht => ⟨(Imm.refl _), rfl, ht.pick (l := [0, 1, 2, 8, 9]) (by kernel_rfl)⟩
        · have hj9 := cond_f hc13 hj9
          refine gk_seq (by kernel_rfl) ?_
          refine gk_region (by kernel_rfl) ?_
          refine gl_pure 3 [0, 2, 8, 9, 32] (K' := [(0, .string a0), (2, .int .i64 a2), (8, .bool (a1 == 0)), (9, .string a0), (32, .bool (a1 == 0))]) (by kernel_rfl) ?_
          refine gl_atE (by kernel_rfl) ?_
          refine ge_seq ?_
          refine gk_cond (b := (a1 == 0)) (by kernel_rfl) (by kernel_rfl) (fun hc14 => ?_) (fun hc14 => ?_)
          · have hj9 := cond_t hc14 hj9
            refine gk_seq (by kernel_rfl) ?_
            refine gk_region (by kernel_rfl) ?_
            refine gl_pure 1 [0, 1, 2, 8, 9] (K' := [(0, .string a0), (1, .int .i64 10), (2, .int .i64 a2), (8, .bool (a1 == 0)), (9, .string a0)]) (by kernel_rfl) ?_
            refine gl_atE (by kernel_rfl) ?_
            refine ge_seq ?_
            refine gk_seq (by kernel_rfl) ?_
            refine gk_region (by kernel_rfl) ?_
            refine gl_pure 1 [0, 1, 2, 8, 9, 35] (K' := [(0, .string a0), (1, .int .i64 10), (2, .int .i64 a2), (8, .bool (a1 == 0)), (9, .string a0), (35, .string a0)]) (by kernel_rfl) ?_
            obtain ⟨c15, hx16, hj9⟩ := bind_some hj9
            refine gl_index' (T' := 9) (xs := (.tmp 35)) (xi := (.const (.int .i64 0))) (kd := .i64) hx16 (by kernel_rfl) (by kernel_rfl) (by kernel_rfl) (by kernel_rfl) (by kernel_rfl) ?_
            refine gl_pure 1 [0, 1, 2, 8, 9, 37] (K' := [(0, .string a0), (1, .int .i64 10), (2, .int .i64 a2), (8, .bool (a1 == 0)), (9, .string a0), (37, .bool (c15 == 48))]) (by kernel_rfl) ?_
            refine gl_atE (by kernel_rfl) ?_
            refine ge_seq ?_
            obtain ⟨j17, hj18, hj9⟩ := bind_some hj9
            refine gk_join (fun t I' L' => I6 ≤ I' ∧ L = L' ∧ Knows 172 [(0, .string j17.1), (1, .int .i64 j17.2), (2, .int .i64 a2), (8, .bool (a1 == 0)), (9, .string a0)] t) ?_ ?_
            · refine gk_cond (b := (c15 == 48)) (by kernel_rfl) (by kernel_rfl) (fun hc22 => ?_) (fun hc22 => ?_)
              · have hj18 := cond_t hc22 hj18
                refine gk_block (by kernel_rfl) ?_
                refine gk_seq (by kernel_rfl) ?_
                obtain ⟨j23, hj24, hj18⟩ := bind_some hj18
                refine gk_join (fun t I' L' => I6 ≤ I' ∧ L = L' ∧ Knows 172 [(0, .string a0), (2, .int .i64 a2), (8, .bool (a1 == 0)), (9, .string a0), (40, .bool j23)] t) ?_ ?_
                · refine gk_region (by kernel_rfl) ?_
                  refine gl_pure 4 [0, 2, 8, 9, 44] (K' := [(0, .string a0), (2, .int .i64 a2), (8, .bool (a1 == 0)), (9, .string a0), (44, .bool (decide ((a0.size : Int) ≥ 3)))]) (by kernel_rfl) ?_
                  refine gl_case 44 (b := (decide ((a0.size : Int) ≥ 3))) (by kernel_rfl) (fun hc28 => ?_) (fun hc28 => ?_)
                  · have hj24 := cond_t hc28 hj24
                    refine gl_pure 1 [0, 2, 8, 9, 44, 45] (K' := [(0, .string a0), (2, .int .i64 a2), (8, .bool (a1 == 0)), (9, .string a0), (44, .bool true), (45, .string a0)]) (by kernel_rfl) ?_
                    obtain ⟨c29, hx30, hj24⟩ := bind_some hj24
                    refine gl_index' (T' := 9) (xs := (.tmp 45)) (xi := (.const (.int .i64 1))) (kd := .i64) hx30 (by kernel_rfl) (by kernel_rfl) (by kernel_rfl) (by kernel_rfl) (by kernel_rfl) ?_
                    refine gl_callQ (by kernel_rfl) (strconv_lower_walk (r := (strconv_lower c29))  rfl _) ?_
                    refine gl_pure 3 [0, 2, 8, 9, 40] (K' := [(0, .string a0), (2, .int .i64 a2), (8, .bool (a1 == 0)), (9, .string a0), (40, .bool ((strconv_lower c29) == 98))]) (by kernel_rfl) ?_
                    refine gl_atE (by kernel_rfl) ?_
                    obtain rfl := some_inj hj24
                    exact ge_mid fun t ht => ⟨(Imm.refl _), rfl, ht.pick (l := [0, 2, 8, 9, 40]) (by kernel_rfl)⟩
                  · have hj24 := cond_f hc28 hj24
                    refine gl_pure 6 [0, 2, 8, 9, 40] (K' := [(0, .string a0), (2, .int .i64 a2), (8, .bool (a1 == 0)), (9, .string a0), (40, .bool false)]) (by kernel_rfl) ?_
                    refine gl_atE (by kernel_rfl) ?_
                    obtain rfl := some_inj hj24
                    exact ge_mid fun t ht => ⟨(Imm.refl _), rfl, ht.pick (l := [0, 2, 8, 9, 40]) (by kernel_rfl)⟩
                · rintro t I27 L' ⟨hI25, rfl, hK26⟩
                  refine ge_at hK26 ?_
                  refine ge_seq ?_
                  obtain ⟨j31, hj32, hj18⟩ := bind_some hj18
                  refine gk_join (fun t I' L' => I27 ≤ I' ∧ L = L' ∧ Knows 172 [(0, .string j31.1), (1, .int .i64 j31.2), (2, .int .i64 a2), (8, .bool (a1 == 0)), (9, .string a0)] t) ?_ ?_
                  · refine gk_cond (b := j23) (by kernel_rfl) (by kernel_rfl) (fun hc36 => ?_) (fun hc36 => ?_)
                    · have hj32 := cond_t hc36 hj32
                      refine gk_seq (by kernel_rfl) ?_
                      refine gk_region (by kernel_rfl) ?_
                      refine gl_pure 1 [0, 1, 2, 8, 9] (K' := [(0, .string a0), (1, .int .i64 2), (2, .int .i64 a2), (8, .bool (a1 == 0)), (9, .string a0)]) (by kernel_rfl) ?_
                      refine gl_atE (by kernel_rfl) ?_
                      refine ge_seq ?_
                      refine gk_region (by kernel_rfl) ?_
                      refine gl_pure 1 [1, 2, 8, 9, 50] (K' := [(1, .int .i64 2), (2, .int .i64 a2), (8, .bool (a1 == 0)), (9, .string a0), (50, .string a0)]) (by kernel_rfl) ?_
                      obtain ⟨s38, hx37, hj32⟩ := bind_some hj32
                      refine gl_slice' (T' := 9) (xs := (.tmp 50)) (lo := (some (.const (.int .i64 2)))) (hi := none) hx37 (by kernel_rfl) (by kernel_rfl) (by kernel_rfl) (by kernel_rfl) (by kernel_rfl) (by kernel_rfl) ?_
                      refine gl_pure 1 [0, 1, 2, 8, 9] (K' := [(0, .string s38), (1, .int .i64 2), (2, .int .i64 a2), (8, .bool (a1 == 0)), (9, .string a0)]) (by kernel_rfl) ?_
                      refine gl_atE (by kernel_rfl) ?_
                      obtain rfl := some_inj hj32
                      exact ge_mid fun t ht => ⟨(Imm.refl _), rfl, ht.pick (l := [0, 1, 2, 8, 9]) (by kernel_rfl)⟩
                    · have hj32 := cond_f hc36 hj32
                      refine gk_seq (by kernel_rfl) ?_
                      obtain ⟨j39, hj40, hj32⟩ := bind_some hj32
                      refine gk_join (fun t I' L' => I27 ≤ I' ∧ L = L' ∧ Knows 172 [(0, .string a0), (2, .int .i64 a2), (8, .bool (a1 == 0)), (9, .string a0), (52, .bool j39)] t) ?_ ?_
                      · refine gk_region (by kernel_rfl) ?_
                        refine gl_pure 4 [0, 2, 8, 9, 56] (K' := [(0, .string a0), (2, .int .i64 a2), (8, .bool (a1 == 0)), (9, .string a0), (56, .bool (decide ((a0.size : Int) ≥ 3)))]) (by kernel_rfl) ?_
                        refine gl_case 56 (b := (decide ((a0.size : Int) ≥ 3))) (by kernel_rfl) (fun hc44 => ?_) (fun hc44 => ?_)
                        · have hj40 := cond_t hc44 hj40
                          refine gl_pure 1 [0, 2, 8, 9, 56, 57] (K' := [(0, .string a0), (2, .int .i64 a2), (8, .bool (a1 == 0)), (9, .string a0), (56, .bool true), (57, .string a0)]) (by kernel_rfl) ?_
                          obtain ⟨c45, hx46, hj40⟩ := bind_some hj40
                          refine gl_index' (T' := 9) (xs := (.tmp 57)) (xi := (.const (.int .i64 1))) (kd := .i64) hx46 (by kernel_rfl) (by kernel_rfl) (by kernel_rfl) (by kernel_rfl) (by kernel_rfl) ?_
                          refine gl_callQ (by kernel_rfl) (strconv_lower_walk (r := (strconv_lower c45))  rfl _) ?_
                          refine gl_pure 3 [0, 2, 8, 9, 52] (K' := [(0, .string a0), (2, .int .i64 a2), (8, .bool (a1 == 0)), (9, .string a0), (52, .bool ((strconv_lower c45) == 111))]) (by kernel_rfl) ?_
                          refine gl_atE (by kernel_rfl) ?_
                          obtain rfl := some_inj hj40
                          exact ge_mid fun t ht => ⟨(Imm.refl _), rfl, ht.pick (l := [0, 2, 8, 9, 52]) (by kernel_rfl)⟩
                        · have hj40 := cond_f hc44 hj40
                          refine gl_pure 6 [0, 2, 8, 9, 52] (K' := [(0, .string a0), (2, .int .i64 a2), (8, .bool (a1 == 0)), (9, .string a0), (52, .bool false)]) (by kernel_rfl) ?_
                          refine gl_atE (by kernel_rfl) ?_
                          obtain rfl := some_inj hj40
                          exact ge_mid fun t ht => ⟨(Imm.refl _), rfl, ht.pick (l := [0, 2, 8, 9, 52]) (by kernel_rfl)⟩
                      · rintro t I43 L' ⟨hI41, rfl, hK42⟩
                        refine ge_at hK42 ?_
                        refine ge_seq ?_
                        obtain ⟨j47, hj48, hj32⟩ := bind_some hj32
                        refine gk_join (fun t I' L' => I43 ≤ I' ∧ L = L' ∧ Knows 172 [(0, .string j47.1), (1, .int .i64 j47.2), (2, .int .i64 a2), (8, .bool (a1 == 0)), (9, .string a0)] t) ?_ ?_
                        · refine gk_cond (b := j39) (by kernel_rfl) (by kernel_rfl) (fun hc52 => ?_) (fun hc52 => ?_)
                          · have hj48 := cond_t hc52 hj48
                            refine gk_seq (by kernel_rfl) ?_
                            refine gk_region (by kernel_rfl) ?_
                            refine gl_pure 1 [0, 1, 2, 8, 9] (K' := [(0, .string a0), (1, .int .i64 8), (2, .int .i64 a2), (8, .bool (a1 == 0)), (9, .string a0)]) (by kernel_rfl) ?_
                            refine gl_atE (by kernel_rfl) ?_
                            refine ge_seq ?_
                            refine gk_region (by kernel_rfl) ?_
                            refine gl_pure 1 [1, 2, 8, 9, 62] (K' := [(1, .int .i64 8), (2, .int .i64 a2), (8, .bool (a1 == 0)), (9, .string a0), (62, .string a0)]) (by kernel_rfl) ?_
                            obtain ⟨s54, hx53, hj48⟩ := bind_some hj48
                            refine gl_slice' (T' := 9) (xs := (.tmp 62)) (lo := (some (.const (.int .i64 2)))) (hi := none) hx53 (by kernel_rfl) (by kernel_rfl) (by kernel_rfl) (by kernel_rfl) (by kernel_rfl) (by kernel_rfl) ?_
                            refine gl_pure 1 [0, 1, 2, 8, 9] (K' := [(0, .string s54), (1, .int .i64 8), (2, .int .i64 a2), (8, .bool (a1 == 0)), (9, .string a0)]) (by kernel_rfl) ?_
                            refine gl_atE (by kernel_rfl) ?_
                            obtain rfl := some_inj hj48
                            exact ge_mid fun t ht => ⟨(Imm.refl _), rfl, ht.pick (l := [0, 1, 2, 8, 9]) (by kernel_rfl)⟩
                          · have hj48 := cond_f hc52 hj48
                            refine gk_seq (by kernel_rfl) ?_
                            obtain ⟨j55, hj56, hj48⟩ := bind_some hj48
                            refine gk_join (fun t I' L' => I43 ≤ I' ∧ L = L' ∧ Knows 172 [(0, .string a0), (2, .int .i64 a2), (8, .bool (a1 == 0)), (9, .string a0), (64, .bool j55)] t) ?_ ?_
                            · refine gk_region (by kernel_rfl) ?_
                              refine gl_pure 4 [0, 2, 8, 9, 68] (K' := [(0, .string a0), (2, .int .i64 a2), (8, .bool (a1 == 0)), (9, .string a0), (68, .bool (decide ((a0.size : Int) ≥ 3)))]) (by kernel_rfl) ?_
                              refine gl_case 68 (b := (decide ((a0.size : Int) ≥ 3))) (by kernel_rfl) (fun hc60 => ?_) (fun hc60 => ?_)
                              · have hj56 := cond_t hc60 hj56
                                refine gl_pure 1 [0, 2, 8, 9, 68, 69] (K' := [(0, .string a0), (2, .int .i64 a2), (8, .bool (a1 == 0)), (9, .string a0), (68, .bool true), (69, .string a0)]) (by kernel_rfl) ?_
                                obtain ⟨c61, hx62, hj56⟩ := bind_some hj56
                                refine gl_index' (T' := 9) (xs := (.tmp 69)) (xi := (.const (.int .i64 1))) (kd := .i64) hx62 (by kernel_rfl) (by kernel_rfl) (by kernel_rfl) (by kernel_rfl) (by kernel_rfl) ?_
                                refine gl_callQ (by kernel_rfl) (strconv_lower_walk (r := (strconv_lower c61))  rfl _) ?_
                                refine gl_pure 3 [0, 2, 8, 9, 64] (K' := [(0, .string a0), (2, .int .i64 a2), (8, .bool (a1 == 0)), (9, .string a0), (64, .bool ((strconv_lower c61) == 120))]) (by kernel_rfl) ?_
                                refine gl_atE (by kernel_rfl) ?_
                                obtain rfl := some_inj hj56
                                exact ge_mid fun t ht => ⟨(Imm.refl _), rfl, ht.pick (l := [0, 2, 8, 9, 64]) (by kernel_rfl)⟩
                              · have hj56 := cond_f hc60 hj56
                                refine gl_pure 6 [0, 2, 8, 9, 64] (K' := [(0, .string a0), (2, .int .i64 a2), (8, .bool (a1 == 0)), (9, .string a0), (64, .bool false)]) (by kernel_rfl) ?_
                                refine gl_atE (by kernel_rfl) ?_
                                obtain rfl := some_inj hj56
                                exact ge_mid fun t ht => ⟨(Imm.refl _), rfl, ht.pick (l := [0, 2, 8, 9, 64]) (by kernel_rfl)⟩
                            · rintro t I59 L' ⟨hI57, rfl, hK58⟩
                              refine ge_at hK58 ?_
                              refine ge_seq ?_
                              obtain ⟨j63, hj64, hj48⟩ := bind_some hj48
                              refine gk_join (fun t I' L' => I59 ≤ I' ∧ L = L' ∧ Knows 172 [(0, .string j63.1), (1, .int .i64 j63.2), (2, .int .i64 a2), (8, .bool (a1 == 0)), (9, .string a0)] t) ?_ ?_
                              · refine gk_cond (b := j55) (by kernel_rfl) (by kernel_rfl) (fun hc68 => ?_) (fun hc68 => ?_)
                                · have hj64 := cond_t hc68 hj64
                                  refine gk_seq (by kernel_rfl) ?_
                                  refine gk_region (by kernel_rfl) ?_
                                  refine gl_pure 1 [0, 1, 2, 8, 9] (K' := [(0, .string a0), (1, .int .i64 16), (2, .int .i64 a2), (8, .bool (a1 == 0)), (9, .string a0)]) (by kernel_rfl) ?_
                                  refine gl_atE (by kernel_rfl) ?_
                                  refine ge_seq ?_
                                  refine gk_region (by kernel_rfl) ?_
                                  refine gl_pure 1 [1, 2, 8, 9, 74] (K' := [(1, .int .i64 16), (2, .int .i64 a2), (8, .bool (a1 == 0)), (9, .string a0), (74, .string a0)]) (by kernel_rfl) ?_
                                  obtain ⟨s70, hx69, hj64⟩ := bind_some hj64
                                  refine gl_slice' (T' := 9) (xs := (.tmp 74)) (lo := (some (.const (.int .i64 2)))) (hi := none) hx69 (by kernel_rfl) (by kernel_rfl) (by kernel_rfl) (by kernel_rfl) (by kernel_rfl) (by kernel_rfl) ?_
                                  refine gl_pure 1 [0, 1, 2, 8, 9] (K' := [(0, .string s70), (1, .int .i64 16), (2, .int .i64 a2), (8, .bool (a1 == 0)), (9, .string a0)]) (by kernel_rfl) ?_
                                  refine gl_atE (by kernel_rfl) ?_
                                  obtain rfl := some_inj hj64
                                  exact ge_mid fun t ht => ⟨(Imm.refl _), rfl, ht.pick (l := [0, 1, 2, 8, 9]) (by kernel_rfl)⟩
                                · have hj64 := cond_f hc68 hj64
                                  refine gk_seq (by kernel_rfl) ?_
                                  refine gk_region (by kernel_rfl) ?_
                                  refine gl_pure 1 [0, 1, 2, 8, 9] (K' := [(0, .string a0), (1, .int .i64 8), (2, .int .i64 a2), (8, .bool (a1 == 0)), (9, .string a0)]) (by kernel_rfl) ?_
                                  refine gl_atE (by kernel_rfl) ?_
                                  refine ge_seq ?_
                                  refine gk_region (by kernel_rfl) ?_
                                  refine gl_pure 1 [1, 2, 8, 9, 38] (K' := [(1, .int .i64 8), (2, .int .i64 a2), (8, .bool (a1 == 0)), (9, .string a0), (38, .string a0)]) (by kernel_rfl) ?_
                                  obtain ⟨s72, hx71, hj64⟩ := bind_some hj64
                                  refine gl_slice' (T' := 9) (xs := (.tmp 38)) (lo := (some (.const (.int .i64 1)))) (hi := none) hx71 (by kernel_rfl) (by kernel_rfl) (by kernel_rfl) (by kernel_rfl) (by kernel_rfl) (by kernel_rfl) ?_
                                  refine gl_pure 1 [0, 1, 2, 8, 9] (K' := [(0, .string s72), (1, .int .i64 8), (2, .int .i64 a2), (8, .bool (a1 == 0)), (9, .string a0)]) (by kernel_rfl) ?_
                                  refine gl_atE (by kernel_rfl) ?_
                                  obtain rfl := some_inj hj64
                                  exact ge_mid fun t ht => ⟨(Imm.refl _), rfl, ht.pick (l := [0, 1, 2, 8, 9]) (by kernel_rfl)⟩
                              · rintro t I67 L' ⟨hI65, rfl, hK66⟩
                                refine ge_at hK66 ?_
                                obtain rfl := some_inj hj48
                                exact ge_mid fun t ht => ⟨(Imm.trans hI57 hI65), rfl, ht.pick (l := [0, 1, 2, 8, 9]) (by kernel_rfl)⟩
                        · rintro t I51 L' ⟨hI49, rfl, hK50⟩
                          refine ge_at hK50 ?_
                          obtain rfl := some_inj hj32
                          exact ge_mid fun t ht => ⟨(Imm.trans hI41 hI49), rfl, ht.pick (l := [0, 1, 2, 8, 9]) (by kernel_rfl)⟩
                  · rintro t I35 L' ⟨hI33, rfl, hK34⟩
                    refine ge_at hK34 ?_
                    refine ge_block_normal ?_
                    obtain rfl := some_inj hj18
                    exact ge_mid fun t ht => ⟨(Imm.trans hI25 hI33), rfl, ht.pick (l := [0, 1, 2, 8, 9]) (by kernel_rfl)⟩
              · have hj18 := cond_f hc22 hj18
                refine gk_skip (by kernel_rfl) ?_
                obtain rfl := some_inj hj18
                exact ge_mid fun t ht => ⟨(Imm.refl _), rfl, ht.pick (l := [0, 1, 2, 8, 9]) (by kernel_rfl)⟩
            · rintro t I21 L' ⟨hI19, rfl, hK20⟩
              refine ge_at hK20 ?_
              obtain rfl := some_inj hj9
              exact ge_mid fun t ht => ⟨hI19, rfl, ht.pick (l := [0, 1, 2, 8, 9]) (by kernel_rfl)⟩
          · have hj9 := cond_f hc14 hj9
            cases hj9
      · rintro t I12 L' ⟨hI10, rfl, hK11⟩
        refine ge_at hK11 ?_
        refine ge_block_normal ?_
        refine ge_seq ?_
        refine gk_seq (by kernel_rfl) ?_
        refine gk_seq (by kernel_rfl) ?_
        refine gk_region (by kernel_rfl) ?_
        refine gl_pure 2 [0, 1, 2, 8, 9, 77] (K' := [(0, .string j8.1), (1, .int .i64 j8.2), (2, .int .i64 a2), (8, .bool (a1 == 0)), (9, .string a0), (77, .bool (a2 == 0))]) (by kernel_rfl) ?_
        refine gl_atE (by kernel_rfl) ?_
        refine ge_seq ?_
        obtain ⟨j73, hj74, hr⟩ := bind_some hr
        refine gk_join (fun t I' L' => I12 ≤ I' ∧ L = L' ∧ Knows 172 [(0, .string j8.1), (1, .int .i64 j8.2), (2, .int .i64 j73), (8, .bool (a1 == 0)), (9, .string a0)] t) ?_ ?_
        · refine gk_cond (b := (a2 == 0)) (by kernel_rfl) (by kernel_rfl) (fun hc78 => ?_) (fun hc78 => ?_)
          · have hj74 := cond_t hc78 hj74
            refine gk_region (by kernel_rfl) ?_
            refine gl_pure 1 [0, 1, 2, 8, 9] (K' := [(0, .string j8.1), (1, .int .i64 j8.2), (2, .int .i64 64), (8, .bool (a1 == 0)), (9, .string a0)]) (by kernel_rfl) ?_
            refine gl_atE (by kernel_rfl) ?_
            obtain rfl := some_inj hj74
            exact ge_mid fun t ht => ⟨(Imm.refl _), rfl, ht.pick (l := [0, 1, 2, 8, 9]) (by kernel_rfl)⟩
          · have hj74 := cond_f hc78 hj74
            refine gk_seq (by kernel_rfl) ?_
            obtain ⟨b81, hb82⟩ : ∃ z, z = ((decide (a2 < 0)) || (decide (a2 > 64))) := ⟨_, rfl⟩
            refine gk_join (fun t I' L' => I12 ≤ I' ∧ L = L' ∧ Knows 172 [(0, .string j8.1), (1, .int .i64 j8.2), (2, .int .i64 a2), (8, .bool (a1 == 0)), (9, .string a0), (83, .bool b81)] t) ?_ ?_
            · refine gk_region (by kernel_rfl) ?_
              refine gl_pure 3 [0, 1, 2, 8, 9, 80] (K' := [(0, .string j8.1), (1, .int .i64 j8.2), (2, .int .i64 a2), (8, .bool (a1 == 0)), (9, .string a0), (80, .bool (decide (a2 < 0)))]) (by kernel_rfl) ?_
              refine gl_case 80 (b := (decide (a2 < 0))) (by kernel_rfl) (fun hc84 => ?_) (fun hc84 => ?_)
              · refine gl_pure 3 [0, 1, 2, 8, 9, 83] (K' := [(0, .string j8.1), (1, .int .i64 j8.2), (2, .int .i64 a2), (8, .bool (a1 == 0)), (9, .string a0), (83, .bool true)]) (by kernel_rfl) ?_
                refine gl_atE (by kernel_rfl) ?_
                exact ge_mid fun t ht => ⟨(Imm.refl _), rfl, by rw [(show b81 = true from hb82.trans (by rw [hc84]; try rfl))]; exact ht.pick (l := [0, 1, 2, 8, 9, 83]) (by kernel_rfl)⟩
              · refine gl_pure 3 [0, 1, 2, 8, 9, 83] (K' := [(0, .string j8.1), (1, .int .i64 j8.2), (2, .int .i64 a2), (8, .bool (a1 == 0)), (9, .string a0), (83, .bool (decide (a2 > 64)))]) (by kernel_rfl) ?_
                refine gl_atE (by kernel_rfl) ?_
                exact ge_mid fun t ht => ⟨(Imm.refl _), rfl, by rw [(show b81 = (decide (a2 > 64)) from hb82.trans (by rw [hc84]; try rfl))]; exact ht.pick (l := [0, 1, 2, 8, 9, 83]) (by kernel_rfl)⟩
            · rintro t I83 L' ⟨hI79, rfl, hK80⟩
              subst hb82
              refine ge_at hK80 ?_
              refine ge_seq ?_
              refine gk_cond (b := ((decide (a2 < 0)) || (decide (a2 > 64)))) (by kernel_rfl) (by kernel_rfl) (fun hc85 => ?_) (fun hc85 => ?_)
              · have hj74 := cond_t hc85 hj74
                cases hj74
              · have hj74 := cond_f hc85 hj74
                refine gk_skip (by kernel_rfl) ?_
                obtain rfl := some_inj hj74
                exact ge_mid fun t ht => ⟨hI79, rfl, ht.pick (l := [0, 1, 2, 8, 9]) (by kernel_rfl)⟩
        · rintro t I77 L' ⟨hI75, rfl, hK76⟩
          refine ge_at hK76 ?_
          refine ge_seq ?_
          refine gk_seq (by kernel_rfl) ?_
          refine gk_region (by kernel_rfl) ?_
          refine gl_pure 1 [0, 1, 2, 8, 9] (K' := [(0, .string j8.1), (1, .int .i64 j8.2), (2, .int .i64 j73), (8, .bool (a1 == 0)), (9, .string a0)]) (by kernel_rfl) ?_
          refine gl_atE (by kernel_rfl) ?_
          refine ge_seq ?_
          refine gk_seq (by kernel_rfl) ?_
          refine gk_seq (by kernel_rfl) ?_
          refine gk_region (by kernel_rfl) ?_
          refine gl_pure 1 [0, 1, 2, 8, 9, 85] (K' := [(0, .string j8.1), (1, .int .i64 j8.2), (2, .int .i64 j73), (8, .bool (a1 == 0)), (9, .string a0), (85, .int .i64 j8.2)]) (by kernel_rfl) ?_
          refine gl_atE (by kernel_rfl) ?_
          refine ge_seq ?_
          refine gk_block (by kernel_rfl) ?_
          refine gk_seq (by kernel_rfl) ?_
          refine gk_region (by kernel_rfl) ?_
          refine gl_pure 2 [0, 1, 2, 8, 9, 85, 90] (K' := [(0, .string j8.1), (1, .int .i64 j8.2), (2, .int .i64 j73), (8, .bool (a1 == 0)), (9, .string a0), (85, .int .i64 j8.2), (90, .bool (j8.2 == 10))]) (by kernel_rfl) ?_
          refine gl_atE (by kernel_rfl) ?_
          refine ge_seq ?_
          obtain ⟨j86, hj87, hr⟩ := bind_some hr
          refine gk_join (fun t I' L' => I77 ≤ I' ∧ L = L' ∧ Knows 172 [(0, .string j8.1), (1, .int .i64 j8.2), (2, .int .i64 j73), (8, .bool (a1 == 0)), (9, .string a0), (10, .int .u64 j86)] t) ?_ ?_
          · refine gk_cond (b := (j8.2 == 10)) (by kernel_rfl) (by kernel_rfl) (fun hc91 => ?_) (fun hc91 => ?_)
            · have hj87 := cond_t hc91 hj87
              refine gk_region (by kernel_rfl) ?_
              refine gl_pure 1 [0, 1, 2, 8, 9, 10] (K' := [(0, .string j8.1), (1, .int .i64 j8.2), (2, .int .i64 j73), (8, .bool (a1 == 0)), (9, .string a0), (10, .int .u64 1844674407370955162)]) (by kernel_rfl) ?_
              refine gl_atE (by kernel_rfl) ?_
              obtain rfl := some_inj hj87
              exact ge_mid fun t ht => ⟨(Imm.refl _), rfl, ht.pick (l := [0, 1, 2, 8, 9, 10]) (by kernel_rfl)⟩
            · have hj87 := cond_f hc91 hj87
              refine gk_seq (by kernel_rfl) ?_
              refine gk_region (by kernel_rfl) ?_
              refine gl_pure 2 [0, 1, 2, 8, 9, 92] (K' := [(0, .string j8.1), (1, .int .i64 j8.2), (2, .int .i64 j73), (8, .bool (a1 == 0)), (9, .string a0), (92, .bool (j8.2 == 16))]) (by kernel_rfl) ?_
              refine gl_atE (by kernel_rfl) ?_
              refine ge_seq ?_
              obtain ⟨j92, hj93, hj87⟩ := bind_some hj87
              refine gk_join (fun t I' L' => I77 ≤ I' ∧ L = L' ∧ Knows 172 [(0, .string j8.1), (1, .int .i64 j8.2), (2, .int .i64 j73), (8, .bool (a1 == 0)), (9, .string a0), (10, .int .u64 j92)] t) ?_ ?_
              · refine gk_cond (b := (j8.2 == 16)) (by kernel_rfl) (by kernel_rfl) (fun hc97 => ?_) (fun hc97 => ?_)
                · have hj93 := cond_t hc97 hj93
                  refine gk_region (by kernel_rfl) ?_
                  refine gl_pure 1 [0, 1, 2, 8, 9, 10] (K' := [(0, .string j8.1), (1, .int .i64 j8.2), (2, .int .i64 j73), (8, .bool (a1 == 0)), (9, .string a0), (10, .int .u64 1152921504606846976)]) (by kernel_rfl) ?_
                  refine gl_atE (by kernel_rfl) ?_
                  obtain rfl := some_inj hj93
                  exact ge_mid fun t ht => ⟨(Imm.refl _), rfl, ht.pick (l := [0, 1, 2, 8, 9, 10]) (by kernel_rfl)⟩
                · have hj93 := cond_f hc97 hj93
                  refine gk_region (by kernel_rfl) ?_
                  refine gl_pure 2 [0, 1, 2, 8, 9, 87] (K' := [(0, .string j8.1), (1, .int .i64 j8.2), (2, .int .i64 j73), (8, .bool (a1 == 0)), (9, .string a0), (87, .int .u64 (IntKind.wrap .u64 j8.2))]) (by kernel_rfl) ?_
                  obtain ⟨q98, hx99, hj93⟩ := bind_some hj93
                  refine gl_quo (t := 89) (t' := 89) (x := (.const (.int .u64 18446744073709551615))) (y := (.tmp 87)) (kx := .u64) hx99 (by kernel_rfl) (by kernel_rfl) (by kernel_rfl) (by kernel_rfl) ?_
                  refine gl_pure 2 [0, 1, 2, 8, 9, 10] (K' := [(0, .string j8.1), (1, .int .i64 j8.2), (2, .int .i64 j73), (8, .bool (a1 == 0)), (9, .string a0), (10, .int .u64 (IntKind.wrap .u64 (q98 + 1)))]) (by kernel_rfl) ?_
                  refine gl_atE (by kernel_rfl) ?_
                  obtain rfl := some_inj hj93
                  exact ge_mid fun t ht => ⟨(Imm.refl _), rfl, ht.pick (l := [0, 1, 2, 8, 9, 10]) (by kernel_rfl)⟩
              · rintro t I96 L' ⟨hI94, rfl, hK95⟩
                refine ge_at hK95 ?_
                obtain rfl := some_inj hj87
                exact ge_mid fun t ht => ⟨hI94, rfl, ht.pick (l := [0, 1, 2, 8, 9, 10]) (by kernel_rfl)⟩
          · rintro t I90 L' ⟨hI88, rfl, hK89⟩
            refine ge_at hK89 ?_
            refine ge_block_normal ?_
            refine ge_seq ?_
            refine gk_seq (by kernel_rfl) ?_
            refine gk_region (by kernel_rfl) ?_
            refine gl_pure 2 [0, 1, 8, 9, 10, 95] (K' := [(0, .string j8.1), (1, .int .i64 j8.2), (8, .bool (a1 == 0)), (9, .string a0), (10, .int .u64 j86), (95, .int .u64 (IntKind.wrap .u64 j73))]) (by kernel_rfl) ?_
            obtain ⟨q100, hx101, hr⟩ := bind_some hr
            refine gl_shl (t := 89) (t' := 82) (x := (.const (.int .u64 1))) (y := (.tmp 95)) (kx := .u64) (ky := .u64) hx101 (by kernel_rfl) (by kernel_rfl) (by kernel_rfl) (by kernel_rfl) ?_
            refine gl_pure 2 [0, 1, 8, 9, 10, 11] (K' := [(0, .string j8.1), (1, .int .i64 j8.2), (8, .bool (a1 == 0)), (9, .string a0), (10, .int .u64 j86), (11, .int .u64 (IntKind.wrap .u64 (q100 - 1)))]) (by kernel_rfl) ?_
            refine gl_atE (by kernel_rfl) ?_
            refine ge_seq ?_
            refine gk_seq (by kernel_rfl) ?_
            refine gk_region (by kernel_rfl) ?_
            refine gl_pure 1 [0, 1, 8, 9, 10, 11, 12] (K' := [(0, .string j8.1), (1, .int .i64 j8.2), (8, .bool (a1 == 0)), (9, .string a0), (10, .int .u64 j86), (11, .int .u64 (IntKind.wrap .u64 (q100 - 1))), (12, .bool false)]) (by kernel_rfl) ?_
            refine gl_atE (by kernel_rfl) ?_
            refine ge_seq ?_
            refine gk_seq (by kernel_rfl) ?_
            refine gk_region (by kernel_rfl) ?_
            refine gl_pure 1 [0, 1, 8, 9, 10, 11, 12, 13] (K' := [(0, .string j8.1), (1, .int .i64 j8.2), (8, .bool (a1 == 0)), (9, .string a0), (10, .int .u64 j86), (11, .int .u64 (IntKind.wrap .u64 (q100 - 1))), (12, .bool false), (13, .int .u64 0)]) (by kernel_rfl) ?_
            refine gl_atE (by kernel_rfl) ?_
            refine ge_seq ?_
            refine gk_seq (by kernel_rfl) ?_
            refine gk_seq (by kernel_rfl) ?_
            refine gk_region (by kernel_rfl) ?_
            refine gl_pure 1 [1, 8, 9, 10, 11, 12, 13, 98] (K' := [(1, .int .i64 j8.2), (8, .bool (a1 == 0)), (9, .string a0), (10, .int .u64 j86), (11, .int .u64 (IntKind.wrap .u64 (q100 - 1))), (12, .bool false), (13, .int .u64 0), (98, .string j8.1)]) (by kernel_rfl) ?_
            obtain ⟨l102, hx103, hr⟩ := bind_some hr
            refine gl_strBytes (src := 9) (dst := 41) (e := 5) (n := 1) (x := (.tmp 98)) hx103 (by kernel_rfl) (by kernel_rfl) (by kernel_rfl) (by kernel_rfl) (by kernel_rfl) (by kernel_rfl) (fun A104 n105 C106 hO107 => ?_)
            refine gl_pure 2 [1, 8, 9, 10, 11, 12, 13, 99, 100, 101] (K' := [(1, .int .i64 j8.2), (8, .bool (a1 == 0)), (9, .string a0), (10, .int .u64 j86), (11, .int .u64 (IntKind.wrap .u64 (q100 - 1))), (12, .bool false), (13, .int .u64 0), (99, .slice A104 l102.length n105), (100, .int .i64 (l102.length : Int)), (101, .int .i64 0)]) (by kernel_rfl) ?_
            refine gl_atE (by kernel_rfl) ?_
            refine ge_seq ?_
            obtain ⟨r112, hl113, hr⟩ := bind_some hr
            refine gk_join (fun t I' L' => I90 ≤ I' ∧ L = L' ∧ Knows 172 [(9, .string a0), (12, .bool r112.1), (13, .int .u64 r112.2)] t) ?_ ?_
            · refine gk_block (by kernel_rfl) ?_
              refine gk_pick [1, 8, 9, 10, 11, 12, 13, 99, 100, 101] (K' := [(1, .int .i64 j8.2), (8, .bool (a1 == 0)), (9, .string a0), (10, .int .u64 j86), (11, .int .u64 (IntKind.wrap .u64 (q100 - 1))), (12, .bool false), (13, .int .u64 0), (99, .slice A104 l102.length n105), (100, .int .i64 (l102.length : Int)), (101, .int .i64 0)]) (by kernel_rfl) ?_
              intro t hK
              refine gc_loop (strconv_ParseUint_f72_l123 a1 j8 j86 q100 l102) (fun s114 t I' L' => I90 ≤ I' ∧ C106 ++ L = L' ∧ Knows 172 [(1, .int .i64 j8.2), (8, .bool (a1 == 0)), (9, .string a0), (10, .int .u64 j86), (11, .int .u64 (IntKind.wrap .u64 (q100 - 1))), (12, .bool s114.1), (13, .int .u64 s114.2.1), (99, .slice A104 l102.length n105), (100, .int .i64 (l102.length : Int)), (101, .int .i64 s114.2.2)] t) (by kernel_rfl) ?_ hl113 ⟨(Imm.refl _), rfl, hK⟩
              rintro s114 o115 t I119 L' hb116 ⟨hI117, rfl, hK118⟩
              unfold strconv_ParseUint_f72_l123 at hb116
              refine gk_at hK118 ?_
              refine gk_seq (by kernel_rfl) ?_
              refine gk_region (by kernel_rfl) ?_
              refine gl_pure 1 [1, 8, 9, 10, 11, 12, 13, 99, 100, 101, 102] (K' := [(1, .int .i64 j8.2), (8, .bool (a1 == 0)), (9, .string a0), (10, .int .u64 j86), (11, .int .u64 (IntKind.wrap .u64 (q100 - 1))), (12, .bool s114.1), (13, .int .u64 s114.2.1), (99, .slice A104 l102.length n105), (100, .int .i64 (l102.length : Int)), (101, .int .i64 s114.2.2), (102, .bool (decide (s114.2.2 < (l102.length : Int))))]) (by kernel_rfl) ?_
              refine gl_atE (by kernel_rfl) ?_
              refine ge_seq ?_
              refine gk_seq (by kernel_rfl) ?_
              refine gk_cond (b := (decide (s114.2.2 < (l102.length : Int)))) (by kernel_rfl) (by kernel_rfl) (fun hc125 => ?_) (fun hc125 => ?_)
              · have hb116 := cond_t hc125 hb116
                refine gk_skip (by kernel_rfl) ?_
                refine ge_seq ?_
                refine gk_seq (by kernel_rfl) ?_
                obtain ⟨j126, hj127, hb116⟩ := bind_some hb116
                refine gk_join (fun t I' L' => I119 ≤ I' ∧ C106 ++ L = L' ∧ Knows 172 [(1, .int .i64 j8.2), (8, .bool (a1 == 0)), (9, .string a0), (10, .int .u64 j86), (11, .int .u64 (IntKind.wrap .u64 (q100 - 1))), (12, .bool j126.1), (13, .int .u64 j126.2), (99, .slice A104 l102.length n105), (100, .int .i64 (l102.length : Int)), (101, .int .i64 s114.2.2)] t) ?_ ?_
                · refine gk_block (by kernel_rfl) ?_
                  refine gk_seq (by kernel_rfl) ?_
                  refine gk_region (by kernel_rfl) ?_
                  obtain ⟨x131, hx132, hj127⟩ := bind_some hj127
                  refine gl_indexAddrW (d := (Kd.int .u8)) (c := n105) (T' := 41) (e := 5) (xs := (.tmp 99)) (xi := (.tmp 101)) (kd := .i64) hx132 (hO107.mono hI117) (Upd.selfC _ _) (by kernel_rfl) (by kernel_rfl) (by kernel_rfl) (by kernel_rfl) (by kernel_rfl) (fun p133 cs134 hR135 hA136 hp139 => ?_)
                  obtain rfl := hR135
                  refine gl_loadO (T' := 5) (xp := (.tmp 103)) (p := p133) (c := .int .u8 x131) (n := 1) (by kernel_rfl) (by kernel_rfl) (by kernel_rfl) (by kernel_rfl) hA136 ?_
                  refine gl_pure 1 [1, 8, 9, 10, 11, 12, 13, 15, 99, 100, 101] (K' := [(1, .int .i64 j8.2), (8, .bool (a1 == 0)), (9, .string a0), (10, .int .u64 j86), (11, .int .u64 (IntKind.wrap .u64 (q100 - 1))), (12, .bool s114.1), (13, .int .u64 s114.2.1), (15, .int .u8 x131), (99, .slice A104 l102.length n105), (100, .int .i64 (l102.length : Int)), (101, .int .i64 s114.2.2)]) (by kernel_rfl) ?_
                  refine gl_atE (by kernel_rfl) ?_
                  refine ge_seq ?_
                  refine gk_seq (by kernel_rfl) ?_
                  refine gk_region (by kernel_rfl) ?_
                  refine gl_pure 1 [1, 8, 9, 10, 11, 12, 13, 15, 99, 100, 101] (K' := [(1, .int .i64 j8.2), (8, .bool (a1 == 0)), (9, .string a0), (10, .int .u64 j86), (11, .int .u64 (IntKind.wrap .u64 (q100 - 1))), (12, .bool s114.1), (13, .int .u64 s114.2.1), (15, .int .u8 x131), (99, .slice A104 l102.length n105), (100, .int .i64 (l102.length : Int)), (101, .int .i64 s114.2.2)]) (by kernel_rfl) ?_
                  refine gl_atE (by kernel_rfl) ?_
                  refine ge_seq ?_
                  refine gk_seq (by kernel_rfl) ?_
                  refine gk_block (by kernel_rfl) ?_
                  refine gk_seq (by kernel_rfl) ?_
                  refine gk_join (fun t I' L' => I119 ≤ I' ∧ C106 ++ L = L' ∧ Knows 172 [(1, .int .i64 j8.2), (8, .bool (a1 == 0)), (9, .string a0), (10, .int .u64 j86), (11, .int .u64 (IntKind.wrap .u64 (q100 - 1))), (12, .bool s114.1), (13, .int .u64 s114.2.1), (15, .int .u8 x131), (99, .slice A104 l102.length n105), (100, .int .i64 (l102.length : Int)), (101, .int .i64 s114.2.2), (106, .bool ((x131 == 95) && (a1 == 0)))] t) ?_ ?_
                  · refine gk_region (by kernel_rfl) ?_
                    refine gl_pure 3 [1, 8, 9, 10, 11, 12, 13, 15, 99, 100, 101, 109] (K' := [(1, .int .i64 j8.2), (8, .bool (a1 == 0)), (9, .string a0), (10, .int .u64 j86), (11, .int .u64 (IntKind.wrap .u64 (q100 - 1))), (12, .bool s114.1), (13, .int .u64 s114.2.1), (15, .int .u8 x131), (99, .slice A104 l102.length n105), (100, .int .i64 (l102.length : Int)), (101, .int .i64 s114.2.2), (109, .bool (x131 == 95))]) (by kernel_rfl) ?_
                    refine gl_case 109 (b := (x131 == 95)) (by kernel_rfl) (fun hc143 => ?_) (fun hc143 => ?_)
                    · refine gl_pure 3 [1, 8, 9, 10, 11, 12, 13, 15, 99, 100, 101, 106] (K' := [(1, .int .i64 j8.2), (8, .bool (a1 == 0)), (9, .string a0), (10, .int .u64 j86), (11, .int .u64 (IntKind.wrap .u64 (q100 - 1))), (12, .bool s114.1), (13, .int .u64 s114.2.1), (15, .int .u8 x131), (99, .slice A104 l102.length n105), (100, .int .i64 (l102.length : Int)), (101, .int .i64 s114.2.2), (106, .bool (a1 == 0))]) (by kernel_rfl) ?_
                      refine gl_atE (by kernel_rfl) ?_
                      exact ge_mid fun t ht => ⟨(Imm.refl _), rfl, by rw [(show ((x131 == 95) && (a1 == 0)) = (a1 == 0) from by rw [hc143]; try rfl)]; exact ht.pick (l := [1, 8, 9, 10, 11, 12, 13, 15, 99, 100, 101, 106]) (by kernel_rfl)⟩
                    · refine gl_pure 3 [1, 8, 9, 10, 11, 12, 13, 15, 99, 100, 101, 106] (K' := [(1, .int .i64 j8.2), (8, .bool (a1 == 0)), (9, .string a0), (10, .int .u64 j86), (11, .int .u64 (IntKind.wrap .u64 (q100 - 1))), (12, .bool s114.1), (13, .int .u64 s114.2.1), (15, .int .u8 x131), (99, .slice A104 l102.length n105), (100, .int .i64 (l102.length : Int)), (101, .int .i64 s114.2.2), (106, .bool false)]) (by kernel_rfl) ?_
                      refine gl_atE (by kernel_rfl) ?_
                      exact ge_mid fun t ht => ⟨(Imm.refl _), rfl, by rw [(show ((x131 == 95) && (a1 == 0)) = false from by rw [hc143]; try rfl)]; exact ht.pick (l := [1, 8, 9, 10, 11, 12, 13, 15, 99, 100, 101, 106]) (by kernel_rfl)⟩
                  · rintro t I142 L' ⟨hI140, rfl, hK141⟩
                    refine ge_at hK141 ?_
                    refine ge_seq ?_
                    refine gk_cond (b := ((x131 == 95) && (a1 == 0))) (by kernel_rfl) (by kernel_rfl) (fun hc144 => ?_) (fun hc144 => ?_)
                    · have hj127 := cond_t hc144 hj127
                      refine gk_seq (by kernel_rfl) ?_
                      refine gk_region (by kernel_rfl) ?_
                      refine gl_pure 1 [1, 8, 9, 10, 11, 12, 13, 99, 100, 101] (K' := [(1, .int .i64 j8.2), (8, .bool (a1 == 0)), (9, .string a0), (10, .int .u64 j86), (11, .int .u64 (IntKind.wrap .u64 (q100 - 1))), (12, .bool true), (13, .int .u64 s114.2.1), (99, .slice A104 l102.length n105), (100, .int .i64 (l102.length : Int)), (101, .int .i64 s114.2.2)]) (by kernel_rfl) ?_
                      refine gl_atE (by kernel_rfl) ?_
                      refine ge_seq ?_
                      refine gk_exit (by kernel_rfl) ?_
                      refine ge_block_miss (by kernel_rfl) ?_
                      refine ge_seq_exit ?_
                      refine ge_block_hit (by kernel_rfl) ?_
                      obtain rfl := some_inj hj127
                      exact ge_mid fun t ht => ⟨hI140, rfl, ht.pick (l := [1, 8, 9, 10, 11, 12, 13, 99, 100, 101]) (by kernel_rfl)⟩
                    · have hj127 := cond_f hc144 hj127
                      refine gk_seq (by kernel_rfl) ?_
                      obtain ⟨b147, hb148⟩ : ∃ z, z = ((decide (48 ≤ x131)) && (decide (x131 ≤ 57))) := ⟨_, rfl⟩
                      refine gk_join (fun t I' L' => I142 ≤ I' ∧ C106 ++ L = L' ∧ Knows 172 [(1, .int .i64 j8.2), (8, .bool (a1 == 0)), (9, .string a0), (10, .int .u64 j86), (11, .int .u64 (IntKind.wrap .u64 (q100 - 1))), (12, .bool s114.1), (13, .int .u64 s114.2.1), (15, .int .u8 x131), (99, .slice A104 l102.length n105), (100, .int .i64 (l102.length : Int)), (101, .int .i64 s114.2.2), (112, .bool b147)] t) ?_ ?_
                      · refine gk_region (by kernel_rfl) ?_
                        refine gl_pure 3 [1, 8, 9, 10, 11, 12, 13, 15, 99, 100, 101, 115] (K' := [(1, .int .i64 j8.2), (8, .bool (a1 == 0)), (9, .string a0), (10, .int .u64 j86), (11, .int .u64 (IntKind.wrap .u64 (q100 - 1))), (12, .bool s114.1), (13, .int .u64 s114.2.1), (15, .int .u8 x131), (99, .slice A104 l102.length n105), (100, .int .i64 (l102.length : Int)), (101, .int .i64 s114.2.2), (115, .bool (decide (48 ≤ x131)))]) (by kernel_rfl) ?_
                        refine gl_case 115 (b := (decide (48 ≤ x131))) (by kernel_rfl) (fun hc150 => ?_) (fun hc150 => ?_)
                        · refine gl_pure 4 [1, 8, 9, 10, 11, 12, 13, 15, 99, 100, 101, 112] (K' := [(1, .int .i64 j8.2), (8, .bool (a1 == 0)), (9, .string a0), (10, .int .u64 j86), (11, .int .u64 (IntKind.wrap .u64 (q100 - 1))), (12, .bool s114.1), (13, .int .u64 s114.2.1), (15, .int .u8 x131), (99, .slice A104 l102.length n105), (100, .int .i64 (l102.length : Int)), (101, .int .i64 s114.2.2), (112, .bool (decide (x131 ≤ 57)))]) (by kernel_rfl) ?_
                          refine gl_atE (by kernel_rfl) ?_
                          exact ge_mid fun t ht => ⟨(Imm.refl _), rfl, by rw [(show b147 = (decide (x131 ≤ 57)) from hb148.trans (by rw [hc150]; try rfl))]; exact ht.pick (l := [1, 8, 9, 10, 11, 12, 13, 15, 99, 100, 101, 112]) (by kernel_rfl)⟩
                        · refine gl_pure 4 [1, 8, 9, 10, 11, 12, 13, 15, 99, 100, 101, 112] (K' := [(1, .int .i64 j8.2), (8, .bool (a1 == 0)), (9, .string a0), (10, .int .u64 j86), (11, .int .u64 (IntKind.wrap .u64 (q100 - 1))), (12, .bool s114.1), (13, .int .u64 s114.2.1), (15, .int .u8 x131), (99, .slice A104 l102.length n105), (100, .int .i64 (l102.length : Int)), (101, .int .i64 s114.2.2), (112, .bool false)]) (by kernel_rfl) ?_
                          refine gl_atE (by kernel_rfl) ?_
                          exact ge_mid fun t ht => ⟨(Imm.refl _), rfl, by rw [(show b147 = false from hb148.trans (by rw [hc150]; try rfl))]; exact ht.pick (l := [1, 8, 9, 10, 11, 12, 13, 15, 99, 100, 101, 112]) (by kernel_rfl)⟩
                      · rintro t I149 L' ⟨hI145, rfl, hK146⟩
                        subst hb148
                        refine ge_at hK146 ?_
                        refine ge_seq ?_
                        obtain ⟨j151, hj152, hj127⟩ := bind_some hj127
                        refine gk_join (fun t I' L' => I149 ≤ I' ∧ C106 ++ L = L' ∧ Knows 172 [(1, .int .i64 j8.2), (8, .bool (a1 == 0)), (9, .string a0), (10, .int .u64 j86), (11, .int .u64 (IntKind.wrap .u64 (q100 - 1))), (12, .bool s114.1), (13, .int .u64 s114.2.1), (16, .int .u8 j151), (99, .slice A104 l102.length n105), (100, .int .i64 (l102.length : Int)), (101, .int .i64 s114.2.2)] t) ?_ ?_
                        · refine gk_cond (b := ((decide (48 ≤ x131)) && (decide (x131 ≤ 57)))) (by kernel_rfl) (by kernel_rfl) (fun hc156 => ?_) (fun hc156 => ?_)
                          · have hj152 := cond_t hc156 hj152
                            refine gk_region (by kernel_rfl) ?_
                            refine gl_pure 3 [1, 8, 9, 10, 11, 12, 13, 16, 99, 100, 101] (K' := [(1, .int .i64 j8.2), (8, .bool (a1 == 0)), (9, .string a0), (10, .int .u64 j86), (11, .int .u64 (IntKind.wrap .u64 (q100 - 1))), (12, .bool s114.1), (13, .int .u64 s114.2.1), (16, .int .u8 (IntKind.wrap .u8 (x131 - 48))), (99, .slice A104 l102.length n105), (100, .int .i64 (l102.length : Int)), (101, .int .i64 s114.2.2)]) (by kernel_rfl) ?_
                            refine gl_atE (by kernel_rfl) ?_
                            obtain rfl := some_inj hj152
                            exact ge_mid fun t ht => ⟨(Imm.refl _), rfl, ht.pick (l := [1, 8, 9, 10, 11, 12, 13, 16, 99, 100, 101]) (by kernel_rfl)⟩
                          · have hj152 := cond_f hc156 hj152
                            refine gk_seq (by kernel_rfl) ?_
                            obtain ⟨b159, hb160⟩ : ∃ z, z = ((decide (97 ≤ (strconv_lower x131))) && (decide ((strconv_lower x131) ≤ 122))) := ⟨_, rfl⟩
                            refine gk_join (fun t I' L' => I149 ≤ I' ∧ C106 ++ L = L' ∧ Knows 172 [(1, .int .i64 j8.2), (8, .bool (a1 == 0)), (9, .string a0), (10, .int .u64 j86), (11, .int .u64 (IntKind.wrap .u64 (q100 - 1))), (12, .bool s114.1), (13, .int .u64 s114.2.1), (15, .int .u8 x131), (99, .slice A104 l102.length n105), (100, .int .i64 (l102.length : Int)), (101, .int .i64 s114.2.2), (121, .bool b159)] t) ?_ ?_
                            · refine gk_region (by kernel_rfl) ?_
                              refine gl_pure 1 [1, 8, 9, 10, 11, 12, 13, 15, 99, 100, 101, 122] (K' := [(1, .int .i64 j8.2), (8, .bool (a1 == 0)), (9, .string a0), (10, .int .u64 j86), (11, .int .u64 (IntKind.wrap .u64 (q100 - 1))), (12, .bool s114.1), (13, .int .u64 s114.2.1), (15, .int .u8 x131), (99, .slice A104 l102.length n105), (100, .int .i64 (l102.length : Int)), (101, .int .i64 s114.2.2), (122, .int .u8 x131)]) (by kernel_rfl) ?_
                              refine gl_callQ (by kernel_rfl) (strconv_lower_walk (r := (strconv_lower x131))  rfl _) ?_
                              refine gl_pure 2 [1, 8, 9, 10, 11, 12, 13, 15, 99, 100, 101, 125] (K' := [(1, .int .i64 j8.2), (8, .bool (a1 == 0)), (9, .string a0), (10, .int .u64 j86), (11, .int .u64 (IntKind.wrap .u64 (q100 - 1))), (12, .bool s114.1), (13, .int .u64 s114.2.1), (15, .int .u8 x131), (99, .slice A104 l102.length n105), (100, .int .i64 (l102.length : Int)), (101, .int .i64 s114.2.2), (125, .bool (decide (97 ≤ (strconv_lower x131))))]) (by kernel_rfl) ?_
                              refine gl_case 125 (b := (decide (97 ≤ (strconv_lower x131)))) (by kernel_rfl) (fun hc162 => ?_) (fun hc162 => ?_)
                              · refine gl_pure 1 [1, 8, 9, 10, 11, 12, 13, 15, 99, 100, 101, 125, 126] (K' := [(1, .int .i64 j8.2), (8, .bool (a1 == 0)), (9, .string a0), (10, .int .u64 j86), (11, .int .u64 (IntKind.wrap .u64 (q100 - 1))), (12, .bool s114.1), (13, .int .u64 s114.2.1), (15, .int .u8 x131), (99, .slice A104 l102.length n105), (100, .int .i64 (l102.length : Int)), (101, .int .i64 s114.2.2), (125, .bool true), (126, .int .u8 x131)]) (by kernel_rfl) ?_
                                refine gl_callQ (by kernel_rfl) (strconv_lower_walk (r := (strconv_lower x131))  rfl _) ?_
                                refine gl_pure 3 [1, 8, 9, 10, 11, 12, 13, 15, 99, 100, 101, 121] (K' := [(1, .int .i64 j8.2), (8, .bool (a1 == 0)), (9, .string a0), (10, .int .u64 j86), (11, .int .u64 (IntKind.wrap .u64 (q100 - 1))), (12, .bool s114.1), (13, .int .u64 s114.2.1), (15, .int .u8 x131), (99, .slice A104 l102.length n105), (100, .int .i64 (l102.length : Int)), (101, .int .i64 s114.2.2), (121, .bool (decide ((strconv_lower x131) ≤ 122)))]) (by kernel_rfl) ?_
                                refine gl_atE (by kernel_rfl) ?_
                                exact ge_mid fun t ht => ⟨(Imm.refl _), rfl, by rw [(show b159 = (decide ((strconv_lower x131) ≤ 122)) from hb160.trans (by rw [hc162]; try rfl))]; exact ht.pick (l := [1, 8, 9, 10, 11, 12, 13, 15, 99, 100, 101, 121]) (by kernel_rfl)⟩
                              · refine gl_pure 5 [1, 8, 9, 10, 11, 12, 13, 15, 99, 100, 101, 121] (K' := [(1, .int .i64 j8.2), (8, .bool (a1 == 0)), (9, .string a0), (10, .int .u64 j86), (11, .int .u64 (IntKind.wrap .u64 (q100 - 1))), (12, .bool s114.1), (13, .int .u64 s114.2.1), (15, .int .u8 x131), (99, .slice A104 l102.length n105), (100, .int .i64 (l102.length : Int)), (101, .int .i64 s114.2.2), (121, .bool false)]) (by kernel_rfl) ?_
                                refine gl_atE (by kernel_rfl) ?_
                                exact ge_mid fun t ht => ⟨(Imm.refl _), rfl, by rw [(show b159 = false from hb160.trans (by rw [hc162]; try rfl))]; exact ht.pick (l := [1, 8, 9, 10, 11, 12, 13, 15, 99, 100, 101, 121]) (by kernel_rfl)⟩
                            · rintro t I161 L' ⟨hI157, rfl, hK158⟩
                              subst hb160
                              refine ge_at hK158 ?_
                              refine ge_seq ?_
                              refine gk_cond (b := ((decide (97 ≤ (strconv_lower x131))) && (decide ((strconv_lower x131) ≤ 122)))) (by kernel_rfl) (by kernel_rfl) (fun hc163 => ?_) (fun hc163 => ?_)
                              · have hj152 := cond_t hc163 hj152
                                refine gk_region (by kernel_rfl) ?_
                                refine gl_pure 1 [1, 8, 9, 10, 11, 12, 13, 99, 100, 101, 130] (K' := [(1, .int .i64 j8.2), (8, .bool (a1 == 0)), (9, .string a0), (10, .int .u64 j86), (11, .int .u64 (IntKind.wrap .u64 (q100 - 1))), (12, .bool s114.1), (13, .int .u64 s114.2.1), (99, .slice A104 l102.length n105), (100, .int .i64 (l102.length : Int)), (101, .int .i64 s114.2.2), (130, .int .u8 x131)]) (by kernel_rfl) ?_
                                refine gl_callQ (by kernel_rfl) (strconv_lower_walk (r := (strconv_lower x131))  rfl _) ?_
                                refine gl_pure 3 [1, 8, 9, 10, 11, 12, 13, 16, 99, 100, 101] (K' := [(1, .int .i64 j8.2), (8, .bool (a1 == 0)), (9, .string a0), (10, .int .u64 j86), (11, .int .u64 (IntKind.wrap .u64 (q100 - 1))), (12, .bool s114.1), (13, .int .u64 s114.2.1), (16, .int .u8 (IntKind.wrap .u8 ((IntKind.wrap .u8 ((strconv_lower x131) - 97)) + 10))), (99, .slice A104 l102.length n105), (100, .int .i64 (l102.length : Int)), (101, .int .i64 s114.2.2)]) (by kernel_rfl) ?_
                                refine gl_atE (by kernel_rfl) ?_
                                obtain rfl := some_inj hj152
                                exact ge_mid fun t ht => ⟨hI157, rfl, ht.pick (l := [1, 8, 9, 10, 11, 12, 13, 16, 99, 100, 101]) (by kernel_rfl)⟩
                              · have hj152 := cond_f hc163 hj152
                                cases hj152
                        · rintro t I155 L' ⟨hI153, rfl, hK154⟩
                          refine ge_at hK154 ?_
                          refine ge_block_normal ?_
                          refine ge_seq ?_
                          refine gk_seq (by kernel_rfl) ?_
                          refine gk_seq (by kernel_rfl) ?_
                          refine gk_region (by kernel_rfl) ?_
                          refine gl_pure 4 [1, 8, 9, 10, 11, 12, 13, 16, 99, 100, 101, 137] (K' := [(1, .int .i64 j8.2), (8, .bool (a1 == 0)), (9, .string a0), (10, .int .u64 j86), (11, .int .u64 (IntKind.wrap .u64 (q100 - 1))), (12, .bool s114.1), (13, .int .u64 s114.2.1), (16, .int .u8 j151), (99, .slice A104 l102.length n105), (100, .int .i64 (l102.length : Int)), (101, .int .i64 s114.2.2), (137, .bool (decide (j151 ≥ (IntKind.wrap .u8 j8.2))))]) (by kernel_rfl) ?_
                          refine gl_atE (by kernel_rfl) ?_
                          refine ge_seq ?_
                          refine gk_cond (b := (decide (j151 ≥ (IntKind.wrap .u8 j8.2)))) (by kernel_rfl) (by kernel_rfl) (fun hc164 => ?_) (fun hc164 => ?_)
                          · have hj127 := cond_t hc164 hj127
                            cases hj127
                          · have hj127 := cond_f hc164 hj127
                            refine gk_skip (by kernel_rfl) ?_
                            refine ge_seq ?_
                            refine gk_seq (by kernel_rfl) ?_
                            refine gk_seq (by kernel_rfl) ?_
                            refine gk_region (by kernel_rfl) ?_
                            refine gl_pure 3 [1, 8, 9, 10, 11, 12, 13, 16, 99, 100, 101, 141] (K' := [(1, .int .i64 j8.2), (8, .bool (a1 == 0)), (9, .string a0), (10, .int .u64 j86), (11, .int .u64 (IntKind.wrap .u64 (q100 - 1))), (12, .bool s114.1), (13, .int .u64 s114.2.1), (16, .int .u8 j151), (99, .slice A104 l102.length n105), (100, .int .i64 (l102.length : Int)), (101, .int .i64 s114.2.2), (141, .bool (decide (s114.2.1 ≥ j86)))]) (by kernel_rfl) ?_
                            refine gl_atE (by kernel_rfl) ?_
                            refine ge_seq ?_
                            refine gk_cond (b := (decide (s114.2.1 ≥ j86))) (by kernel_rfl) (by kernel_rfl) (fun hc165 => ?_) (fun hc165 => ?_)
                            · have hj127 := cond_t hc165 hj127
                              cases hj127
                            · have hj127 := cond_f hc165 hj127
                              refine gk_skip (by kernel_rfl) ?_
                              refine ge_seq ?_
                              refine gk_seq (by kernel_rfl) ?_
                              refine gk_region (by kernel_rfl) ?_
                              refine gl_pure 5 [1, 8, 9, 10, 11, 12, 13, 16, 99, 100, 101] (K' := [(1, .int .i64 j8.2), (8, .bool (a1 == 0)), (9, .string a0), (10, .int .u64 j86), (11, .int .u64 (IntKind.wrap .u64 (q100 - 1))), (12, .bool s114.1), (13, .int .u64 (IntKind.wrap .u64 (s114.2.1 * (IntKind.wrap .u64 j8.2)))), (16, .int .u8 j151), (99, .slice A104 l102.length n105), (100, .int .i64 (l102.length : Int)), (101, .int .i64 s114.2.2)]) (by kernel_rfl) ?_
                              refine gl_atE (by kernel_rfl) ?_
                              refine ge_seq ?_
                              refine gk_seq (by kernel_rfl) ?_
                              refine gk_region (by kernel_rfl) ?_
                              refine gl_pure 5 [1, 8, 9, 10, 11, 12, 13, 17, 99, 100, 101] (K' := [(1, .int .i64 j8.2), (8, .bool (a1 == 0)), (9, .string a0), (10, .int .u64 j86), (11, .int .u64 (IntKind.wrap .u64 (q100 - 1))), (12, .bool s114.1), (13, .int .u64 (IntKind.wrap .u64 (s114.2.1 * (IntKind.wrap .u64 j8.2)))), (17, .int .u64 (IntKind.wrap .u64 ((IntKind.wrap .u64 (s114.2.1 * (IntKind.wrap .u64 j8.2))) + (IntKind.wrap .u64 j151)))), (99, .slice A104 l102.length n105), (100, .int .i64 (l102.length : Int)), (101, .int .i64 s114.2.2)]) (by kernel_rfl) ?_
                              refine gl_atE (by kernel_rfl) ?_
                              refine ge_seq ?_
                              refine gk_seq (by kernel_rfl) ?_
                              refine gk_seq (by kernel_rfl) ?_
                              obtain ⟨b168, hb169⟩ : ∃ z, z = ((decide ((IntKind.wrap .u64 ((IntKind.wrap .u64 (s114.2.1 * (IntKind.wrap .u64 j8.2))) + (IntKind.wrap .u64 j151))) < (IntKind.wrap .u64 (s114.2.1 * (IntKind.wrap .u64 j8.2))))) || (decide ((IntKind.wrap .u64 ((IntKind.wrap .u64 (s114.2.1 * (IntKind.wrap .u64 j8.2))) + (IntKind.wrap .u64 j151))) > (IntKind.wrap .u64 (q100 - 1))))) := ⟨_, rfl⟩
                              refine gk_join (fun t I' L' => I155 ≤ I' ∧ C106 ++ L = L' ∧ Knows 172 [(1, .int .i64 j8.2), (8, .bool (a1 == 0)), (9, .string a0), (10, .int .u64 j86), (11, .int .u64 (IntKind.wrap .u64 (q100 - 1))), (12, .bool s114.1), (17, .int .u64 (IntKind.wrap .u64 ((IntKind.wrap .u64 (s114.2.1 * (IntKind.wrap .u64 j8.2))) + (IntKind.wrap .u64 j151)))), (99, .slice A104 l102.length n105), (100, .int .i64 (l102.length : Int)), (101, .int .i64 s114.2.2), (159, .bool b168)] t) ?_ ?_
                              · refine gk_region (by kernel_rfl) ?_
                                refine gl_pure 4 [1, 8, 9, 10, 11, 12, 17, 99, 100, 101, 155] (K' := [(1, .int .i64 j8.2), (8, .bool (a1 == 0)), (9, .string a0), (10, .int .u64 j86), (11, .int .u64 (IntKind.wrap .u64 (q100 - 1))), (12, .bool s114.1), (17, .int .u64 (IntKind.wrap .u64 ((IntKind.wrap .u64 (s114.2.1 * (IntKind.wrap .u64 j8.2))) + (IntKind.wrap .u64 j151)))), (99, .slice A104 l102.length n105), (100, .int .i64 (l102.length : Int)), (101, .int .i64 s114.2.2), (155, .bool (decide ((IntKind.wrap .u64 ((IntKind.wrap .u64 (s114.2.1 * (IntKind.wrap .u64 j8.2))) + (IntKind.wrap .u64 j151))) < (IntKind.wrap .u64 (s114.2.1 * (IntKind.wrap .u64 j8.2))))))]) (by kernel_rfl) ?_
                                refine gl_case 155 (b := (decide ((IntKind.wrap .u64 ((IntKind.wrap .u64 (s114.2.1 * (IntKind.wrap .u64 j8.2))) + (IntKind.wrap .u64 j151))) < (IntKind.wrap .u64 (s114.2.1 * (IntKind.wrap .u64 j8.2)))))) (by kernel_rfl) (fun hc171 => ?_) (fun hc171 => ?_)
                                · refine gl_pure 4 [1, 8, 9, 10, 11, 12, 17, 99, 100, 101, 159] (K' := [(1, .int .i64 j8.2), (8, .bool (a1 == 0)), (9, .string a0), (10, .int .u64 j86), (11, .int .u64 (IntKind.wrap .u64 (q100 - 1))), (12, .bool s114.1), (17, .int .u64 (IntKind.wrap .u64 ((IntKind.wrap .u64 (s114.2.1 * (IntKind.wrap .u64 j8.2))) + (IntKind.wrap .u64 j151)))), (99, .slice A104 l102.length n105), (100, .int .i64 (l102.length : Int)), (101, .int .i64 s114.2.2), (159, .bool true)]) (by kernel_rfl) ?_
                                  refine gl_atE (by kernel_rfl) ?_
                                  exact ge_mid fun t ht => ⟨(Imm.refl _), rfl, by rw [(show b168 = true from hb169.trans (by rw [hc171]; try rfl))]; exact ht.pick (l := [1, 8, 9, 10, 11, 12, 17, 99, 100, 101, 159]) (by kernel_rfl)⟩
                                · refine gl_pure 4 [1, 8, 9, 10, 11, 12, 17, 99, 100, 101, 159] (K' := [(1, .int .i64 j8.2), (8, .bool (a1 == 0)), (9, .string a0), (10, .int .u64 j86), (11, .int .u64 (IntKind.wrap .u64 (q100 - 1))), (12, .bool s114.1), (17, .int .u64 (IntKind.wrap .u64 ((IntKind.wrap .u64 (s114.2.1 * (IntKind.wrap .u64 j8.2))) + (IntKind.wrap .u64 j151)))), (99, .slice A104 l102.length n105), (100, .int .i64 (l102.length : Int)), (101, .int .i64 s114.2.2), (159, .bool (decide ((IntKind.wrap .u64 ((IntKind.wrap .u64 (s114.2.1 * (IntKind.wrap .u64 j8.2))) + (IntKind.wrap .u64 j151))) > (IntKind.wrap .u64 (q100 - 1)))))]) (by kernel_rfl) ?_
                                  refine gl_atE (by kernel_rfl) ?_
                                  exact ge_mid fun t ht => ⟨(Imm.refl _), rfl, by rw [(show b168 = (decide ((IntKind.wrap .u64 ((IntKind.wrap .u64 (s114.2.1 * (IntKind.wrap .u64 j8.2))) + (IntKind.wrap .u64 j151))) > (IntKind.wrap .u64 (q100 - 1)))) from hb169.trans (by rw [hc171]; try rfl))]; exact ht.pick (l := [1, 8, 9, 10, 11, 12, 17, 99, 100, 101, 159]) (by kernel_rfl)⟩
                              · rintro t I170 L' ⟨hI166, rfl, hK167⟩
                                subst hb169
                                refine ge_at hK167 ?_
                                refine ge_seq ?_
                                refine gk_cond (b := ((decide ((IntKind.wrap .u64 ((IntKind.wrap .u64 (s114.2.1 * (IntKind.wrap .u64 j8.2))) + (IntKind.wrap .u64 j151))) < (IntKind.wrap .u64 (s114.2.1 * (IntKind.wrap .u64 j8.2))))) || (decide ((IntKind.wrap .u64 ((IntKind.wrap .u64 (s114.2.1 * (IntKind.wrap .u64 j8.2))) + (IntKind.wrap .u64 j151))) > (IntKind.wrap .u64 (q100 - 1)))))) (by kernel_rfl) (by kernel_rfl) (fun hc172 => ?_) (fun hc172 => ?_)
                                · have hj127 := cond_t hc172 hj127
                                  cases hj127
                                · have hj127 := cond_f hc172 hj127
                                  refine gk_skip (by kernel_rfl) ?_
                                  refine ge_seq ?_
                                  refine gk_region (by kernel_rfl) ?_
                                  refine gl_pure 2 [1, 8, 9, 10, 11, 12, 13, 99, 100, 101] (K' := [(1, .int .i64 j8.2), (8, .bool (a1 == 0)), (9, .string a0), (10, .int .u64 j86), (11, .int .u64 (IntKind.wrap .u64 (q100 - 1))), (12, .bool s114.1), (13, .int .u64 (IntKind.wrap .u64 ((IntKind.wrap .u64 (s114.2.1 * (IntKind.wrap .u64 j8.2))) + (IntKind.wrap .u64 j151)))), (99, .slice A104 l102.length n105), (100, .int .i64 (l102.length : Int)), (101, .int .i64 s114.2.2)]) (by kernel_rfl) ?_
                                  refine gl_atE (by kernel_rfl) ?_
                                  refine ge_block_normal ?_
                                  obtain rfl := some_inj hj127
                                  exact ge_mid fun t ht => ⟨(Imm.trans (Imm.trans (Imm.trans hI140 hI145) hI153) hI166), rfl, ht.pick (l := [1, 8, 9, 10, 11, 12, 13, 99, 100, 101]) (by kernel_rfl)⟩
                · rintro t I130 L' ⟨hI128, rfl, hK129⟩
                  refine ge_at hK129 ?_
                  refine ge_seq ?_
                  refine gk_region (by kernel_rfl) ?_
                  refine gl_pure 2 [1, 8, 9, 10, 11, 12, 13, 99, 100, 101] (K' := [(1, .int .i64 j8.2), (8, .bool (a1 == 0)), (9, .string a0), (10, .int .u64 j86), (11, .int .u64 (IntKind.wrap .u64 (q100 - 1))), (12, .bool j126.1), (13, .int .u64 j126.2), (99, .slice A104 l102.length n105), (100, .int .i64 (l102.length : Int)), (101, .int .i64 (IntKind.wrap .i64 (s114.2.2 + 1)))]) (by kernel_rfl) ?_
                  refine gl_atE (by kernel_rfl) ?_
                  obtain rfl := some_inj hb116
                  exact ge_round fun t ht => ⟨(Imm.trans hI117 hI128), rfl, ht.pick (l := [1, 8, 9, 10, 11, 12, 13, 99, 100, 101]) (by kernel_rfl)⟩
              · have hb116 := cond_f hc125 hb116
                refine gk_reord (D := L) (Reord.skipC (Reord.refl _)) ?_
                refine gk_exit (by kernel_rfl) ?_
                refine ge_seq_exit ?_
                obtain rfl := some_inj hb116
                refine ge_round_out (fun hrr => ?_) (by intro h; cases h)
                obtain rfl := hrr
                refine ge_block_hit (by kernel_rfl) ?_
                exact ge_mid fun t ht => ⟨hI117, rfl, ht.pick (l := [9, 12, 13]) (by kernel_rfl)⟩
            · rintro t I122 L' ⟨hI120, rfl, hK121⟩
              refine ge_at hK121 ?_
              refine ge_seq ?_
              refine gk_seq (by kernel_rfl) ?_
              refine gk_seq (by kernel_rfl) ?_
              obtain ⟨j173, hj174, hr⟩ := bind_some hr
              refine gk_join (fun t I' L' => I122 ≤ I' ∧ L = L' ∧ Knows 172 [(13, .int .u64 r112.2), (169, .bool j173)] t) ?_ ?_
              · refine gk_region (by kernel_rfl) ?_
                refine gl_pure 2 [9, 13, 165] (K' := [(9, .string a0), (13, .int .u64 r112.2), (165, .bool r112.1)]) (by kernel_rfl) ?_
                refine gl_case 165 (b := r112.1) (by kernel_rfl) (fun hc178 => ?_) (fun hc178 => ?_)
                · have hj174 := cond_t hc178 hj174
                  refine gl_pure 1 [13, 165, 166] (K' := [(13, .int .u64 r112.2), (165, .bool true), (166, .string a0)]) (by kernel_rfl) ?_
                  obtain ⟨y179, hx180, hj174⟩ := bind_some hj174
                  refine gl_callQ (by kernel_rfl) (strconv_underscoreOK_walk (r := y179)  hx180 _) ?_
                  refine gl_pure 2 [13, 169] (K' := [(13, .int .u64 r112.2), (169, .bool (!y179))]) (by kernel_rfl) ?_
                  refine gl_atE (by kernel_rfl) ?_
                  obtain rfl := some_inj hj174
                  exact ge_mid fun t ht => ⟨(Imm.refl _), rfl, ht.pick (l := [13, 169]) (by kernel_rfl)⟩
                · have hj174 := cond_f hc178 hj174
                  refine gl_pure 4 [13, 169] (K' := [(13, .int .u64 r112.2), (169, .bool false)]) (by kernel_rfl) ?_
                  refine gl_atE (by kernel_rfl) ?_
                  obtain rfl := some_inj hj174
                  exact ge_mid fun t ht => ⟨(Imm.refl _), rfl, ht.pick (l := [13, 169]) (by kernel_rfl)⟩
              · rintro t I177 L' ⟨hI175, rfl, hK176⟩
                refine ge_at hK176 ?_
                refine ge_seq ?_
                refine gk_cond (b := j173) (by kernel_rfl) (by kernel_rfl) (fun hc181 => ?_) (fun hc181 => ?_)
                · have hr := cond_t hc181 hr
                  cases hr
                · have hr := cond_f hc181 hr
                  refine gk_skip (by kernel_rfl) ?_
                  refine ge_seq ?_
                  refine gk_seq (by kernel_rfl) ?_
                  refine gk_region (by kernel_rfl) ?_
                  refine gl_pure 3 [6, 7] (K' := [(6, .int .u64 r112.2), (7, .nilIface)]) (by kernel_rfl) ?_
                  refine gl_atE (by kernel_rfl) ?_
                  refine ge_seq ?_
                  refine gk_ret (by kernel_rfl) ?_
                  obtain rfl := some_inj hr
                  exact ge_result trivial (ResOk.tmp (by kernel_rfl) (ResOk.tmp (by kernel_rfl) ResOk.nil)) (Imm.trans (Imm.trans (Imm.trans (Imm.trans (Imm.trans hI2 hI10) hI75) hI88) hI120) hI175) ⟨rfl, rfl⟩
/-! 60 strconv_ParseUint  -/
noncomputable def strconv_ParseUint (a0 : ByteArray) (a1 : Int) (a2 : Int) : Option (Int × Unit) :=
  Option.bind (strconv_ParseUint_f72 a0 a1 a2) fun (y1 : Int × Unit) =>
  some (y1.1, ())
theorem strconv_ParseUint_walk {a0 : ByteArray} {a1 : Int} {a2 : Int} {I : Imm} {r : Int × Unit}  (hr : strconv_ParseUint a0 a1 a2 = some r) (L : Own) :
    CallsTo Tryd.prog 60 #[.string a0, .int .i64 a1, .int .i64 a2] I L (fun v I' L' => v = .tuple #[.int .u64 r.1, .nilIface] ∧ L = L') := by
  unfold strconv_ParseUint at hr
  refine callsTo_body (N := 26) Tryd.func60 (by kernel_rfl) (by kernel_rfl) (by kernel_rfl) ?_
  refine gk_pick [0, 1, 2] (K' := [(0, .string a0), (1, .int .i64 a1), (2, .int .i64 a2)]) (by kernel_rfl) ?_
  refine gk_seq (by kernel_rfl) ?_
  refine gk_region (by kernel_rfl) ?_
  refine gl_pure 2 [0, 1, 2] (K' := [(0, .string a0), (1, .int .i64 a1), (2, .int .i64 a2)]) (by kernel_rfl) ?_
  refine gl_atE (by kernel_rfl) ?_
  refine ge_seq ?_
  refine gk_seq (by kernel_rfl) ?_
  refine gk_region (by kernel_rfl) ?_
  refine gl_pure 3 [0, 1, 2, 11, 12, 13] (K' := [(0, .string a0), (1, .int .i64 a1), (2, .int .i64 a2), (11, .string a0), (12, .int .i64 a1), (13, .int .i64 a2)]) (by kernel_rfl) ?_
  obtain ⟨y1, hx2, hr⟩ := bind_some hr
  refine gl_callQ (by kernel_rfl) (strconv_ParseUint_f72_walk (r := y1)  hx2 _) ?_
  refine gl_pure 5 [0, 1, 2, 8, 9] (K' := [(0, .string a0), (1, .int .i64 a1), (2, .int .i64 a2), (8, .int .u64 y1.1), (9, .nilIface)]) (by kernel_rfl) ?_
  refine gl_atE (by kernel_rfl) ?_
  refine ge_seq ?_
  refine gk_seq (by kernel_rfl) ?_
  refine gk_seq (by kernel_rfl) ?_
  refine gk_region (by kernel_rfl) ?_
  refine gl_pure 1 [0, 1, 2, 8, 9, 17] (K' := [(0, .string a0), (1, .int .i64 a1), (2, .int .i64 a2), (8, .int .u64 y1.1), (9, .nilIface), (17, .nilIface)]) (by kernel_rfl) ?_
  refine gl_eqNilI (t := 55) (t' := 55) (x := (.tmp 17)) (neg := true) (by kernel_rfl) (by kernel_rfl) (by kernel_rfl) (by kernel_rfl) ?_
  refine gl_atE (by kernel_rfl) ?_
  refine ge_seq ?_
  refine gk_cond (b := false) (by kernel_rfl) (by kernel_rfl) (fun h => by cases h) (fun _ => ?_)
  refine gk_skip (by kernel_rfl) ?_
  refine ge_seq ?_
  refine gk_seq (by kernel_rfl) ?_
  refine gk_region (by kernel_rfl) ?_
  refine gl_pure 3 [6, 7] (K' := [(6, .int .u64 y1.1), (7, .nilIface)]) (by kernel_rfl) ?_
  refine gl_atE (by kernel_rfl) ?_
  refine ge_seq ?_
  refine gk_ret (by kernel_rfl) ?_
  obtain rfl := some_inj hr
  exact ge_result trivial (ResOk.tmp (by kernel_rfl) (ResOk.tmp (by kernel_rfl) ResOk.nil)) (Imm.refl _) ⟨rfl, rfl⟩
/-! 56 lex_escape  -/
noncomputable def lex_escape (a0 : ByteArray) : Option (Int × Int) :=
  bif (a0.toList == (⟨#[]⟩ : ByteArray).toList) then
  (some (0, 0))
  else
  (Option.bind (bx a0 0) fun (c2 : Int) =>
    Option.bind ((Option.bind ((bif (c2 == 110) then
        (some (Sum.inl 10))
        else
        (Option.bind (bif (c2 == 92) then
            (some (c2 == 92))
            else
            (Option.bind (bif (c2 == 34) then
                (some (c2 == 34))
                else
                (some (c2 == 39))) fun (j23 : Bool) =>
              some j23)) fun (j17 : Bool) =>
          bif j17 then
          (some (Sum.inl c2))
          else
          (bif (c2 == 116) then
            (some (Sum.inr (Sum.inr (9, 1))))
            else
            (bif (c2 == 114) then
              (some (Sum.inr (Sum.inr (13, 1))))
              else
              (bif (c2 == 120) then
                (Option.bind ((Option.bind (bif (decide ((a0.size : Int) > 2)) then
                      (Option.bind (bx a0 1) fun (c39 : Int) =>
                        bif (lex_hex c39) then
                        (Option.bind (bx a0 2) fun (c42 : Int) =>
                          some (lex_hex c42))
                        else
                        (some false))
                      else
                      (some false)) fun (j33 : Bool) =>
                    Option.bind ((bif j33 then
                      (Option.bind (sx a0 1 3) fun (s52 : ByteArray) =>
                        Option.bind (strconv_ParseUint s52 16 8) fun (y53 : Int × Unit) =>
                        bif (decide (y53.1 < 128)) then
                        (some (Sum.inr (Sum.inr ((IntKind.wrap .u8 y53.1), 3))))
                        else
                        (some (Sum.inl ())))
                      else
                      (some (Sum.inl ())) : Option ((Unit) ⊕ ((Unit) ⊕ (Int × Int))))) fun (j44 : (Unit) ⊕ ((Unit) ⊕ (Int × Int))) =>
                    match j44 with
                    | Sum.inl j46 => some (Sum.inl ())
                    | Sum.inr v56 => some v56 : Option ((Unit) ⊕ (Int × Int)))) fun (v57 : (Unit) ⊕ (Int × Int)) =>
                  some (Sum.inr v57))
                else
                (some (Sum.inr (Sum.inl ()))))))) : Option ((Int) ⊕ ((Unit) ⊕ (Int × Int))))) fun (j10 : (Int) ⊕ ((Unit) ⊕ (Int × Int))) =>
      match j10 with
      | Sum.inl j12 => some (Sum.inr (j12, 1))
      | Sum.inr v60 => some v60 : Option ((Unit) ⊕ (Int × Int)))) fun (j4 : (Unit) ⊕ (Int × Int)) =>
    match j4 with
    | Sum.inl j6 => some (0, 0)
    | Sum.inr v61 => some v61)
theorem lex_escape_walk {a0 : ByteArray} {I : Imm} {r : Int × Int}  (hr : lex_escape a0 = some r) (L : Own) :
    CallsTo Tryd.prog 56 #[.string a0] I L (fun v I' L' => v = .tuple #[.int .u8 r.1, .int .i64 r.2] ∧ L = L') := by
  unfold lex_escape at hr
  refine callsTo_body (N := 48) Tryd.func56 (by kernel_rfl) (by kernel_rfl) (by kernel_rfl) ?_
  refine gk_pick [0] (K' := [(0, .string a0)]) (by kernel_rfl) ?_
  refine gk_seq (by kernel_rfl) ?_
  refine gk_region (by kernel_rfl) ?_
  refine gl_pure 2 [0] (K' := [(0, .string a0)]) (by kernel_rfl) ?_
  refine gl_atE (by kernel_rfl) ?_
  refine ge_seq ?_
  refine gk_seq (by kernel_rfl) ?_
  refine gk_seq (by kernel_rfl) ?_
  refine gk_region (by kernel_rfl) ?_
  refine gl_pure 2 [0, 8] (K' := [(0, .string a0), (8, .bool (a0.toList == (⟨#[]⟩ : ByteArray).toList))]) (by kernel_rfl) ?_
  refine gl_atE (by kernel_rfl) ?_
  refine ge_seq ?_
  refine gk_cond (b := (a0.toList == (⟨#[]⟩ : ByteArray).toList)) (by kernel_rfl) (by kernel_rfl) (fun hc1 => ?_) (fun hc1 => ?_)
  · have hr := cond_t hc1 hr
    refine gk_seq (by kernel_rfl) ?_
    refine gk_region (by kernel_rfl) ?_
    refine gl_pure 2 [2, 3] (K' := [(2, .int .u8 0), (3, .int .i64 0)]) (by kernel_rfl) ?_
    refine gl_atE (by kernel_rfl) ?_
    refine ge_seq ?_
    refine gk_ret (by kernel_rfl) ?_
    refine ge_seq_ret ?_
    obtain rfl := some_inj hr
    exact ge_result trivial (ResOk.tmp (by kernel_rfl) (ResOk.tmp (by kernel_rfl) ResOk.nil)) (Imm.refl _) ⟨rfl, rfl⟩
  · have hr := cond_f hc1 hr
    refine gk_skip (by kernel_rfl) ?_
    refine ge_seq ?_
    refine gk_seq (by kernel_rfl) ?_
    refine gk_region (by kernel_rfl) ?_
    refine gl_pure 1 [0, 9] (K' := [(0, .string a0), (9, .string a0)]) (by kernel_rfl) ?_
    obtain ⟨c2, hx3, hr⟩ := bind_some hr
    refine gl_index' (T' := 9) (xs := (.tmp 9)) (xi := (.const (.int .i64 0))) (kd := .i64) hx3 (by kernel_rfl) (by kernel_rfl) (by kernel_rfl) (by kernel_rfl) (by kernel_rfl) ?_
    refine gl_pure 1 [0, 4] (K' := [(0, .string a0), (4, .int .u8 c2)]) (by kernel_rfl) ?_
    refine gl_atE (by kernel_rfl) ?_
    refine ge_seq ?_
    refine gk_seq (by kernel_rfl) ?_
    refine gk_seq (by kernel_rfl) ?_
    refine gk_region (by kernel_rfl) ?_
    refine gl_pure 1 [0, 4, 11] (K' := [(0, .string a0), (4, .int .u8 c2), (11, .int .u8 c2)]) (by kernel_rfl) ?_
    refine gl_atE (by kernel_rfl) ?_
    refine ge_seq ?_
    obtain ⟨j4, hj5, hr⟩ := bind_some hr
    refine gk_join (fun t I' L' => ∃ j6, j4 = Sum.inl j6 ∧ I ≤ I' ∧ L = L' ∧ Knows 48 [] t) ?_ ?_
    · refine gk_block (by kernel_rfl) ?_
      refine gk_seq (by kernel_rfl) ?_
      refine gk_block (by kernel_rfl) ?_
      refine gk_seq (by kernel_rfl) ?_
      refine gk_block (by kernel_rfl) ?_
      refine gk_seq (by kernel_rfl) ?_
      refine gk_block (by kernel_rfl) ?_
      refine gk_seq (by kernel_rfl) ?_
      obtain ⟨j10, hj11, hj5⟩ := bind_some hj5
      refine gk_join (fun t I' L' => ∃ j12, j10 = Sum.inl j12 ∧ I ≤ I' ∧ L = L' ∧ Knows 48 [(4, .int .u8 j12)] t) ?_ ?_
      · refine gk_block (by kernel_rfl) ?_
        refine gk_seq (by kernel_rfl) ?_
        refine gk_block (by kernel_rfl) ?_
        refine gk_seq (by kernel_rfl) ?_
        refine gk_seq (by kernel_rfl) ?_
        refine gk_seq (by kernel_rfl) ?_
        refine gk_region (by kernel_rfl) ?_
        refine gl_pure 2 [0, 4, 11, 12] (K' := [(0, .string a0), (4, .int .u8 c2), (11, .int .u8 c2), (12, .bool (c2 == 110))]) (by kernel_rfl) ?_
        refine gl_atE (by kernel_rfl) ?_
        refine ge_seq ?_
        refine gk_cond (b := (c2 == 110)) (by kernel_rfl) (by kernel_rfl) (fun hc16 => ?_) (fun hc16 => ?_)
        · have hj11 := cond_t hc16 hj11
          refine gk_exit (by kernel_rfl) ?_
          refine ge_seq_exit ?_
          refine ge_seq_exit ?_
          refine ge_block_hit (by kernel_rfl) ?_
          refine ge_seq ?_
          refine gk_region (by kernel_rfl) ?_
          refine gl_pure 1 [4] (K' := [(4, .int .u8 10)]) (by kernel_rfl) ?_
          refine gl_atE (by kernel_rfl) ?_
          refine ge_block_normal ?_
          obtain rfl := some_inj hj11
          exact ge_mid fun t ht => ⟨_, rfl, (Imm.refl _), rfl, ht.pick (l := [4]) (by kernel_rfl)⟩
        · have hj11 := cond_f hc16 hj11
          refine gk_skip (by kernel_rfl) ?_
          refine ge_seq ?_
          refine gk_seq (by kernel_rfl) ?_
          refine gk_seq (by kernel_rfl) ?_
          refine gk_seq (by kernel_rfl) ?_
          refine gk_region (by kernel_rfl) ?_
          refine gl_pure 2 [0, 4, 11, 14] (K' := [(0, .string a0), (4, .int .u8 c2), (11, .int .u8 c2), (14, .bool (c2 == 92))]) (by kernel_rfl) ?_
          refine gl_atE (by kernel_rfl) ?_
          refine ge_seq ?_
          obtain ⟨j17, hj18, hj11⟩ := bind_some hj11
          refine gk_join (fun t I' L' => I ≤ I' ∧ L = L' ∧ Knows 48 [(0, .string a0), (4, .int .u8 c2), (11, .int .u8 c2), (14, .bool j17)] t) ?_ ?_
          · refine gk_cond (b := (c2 == 92)) (by kernel_rfl) (by kernel_rfl) (fun hc22 => ?_) (fun hc22 => ?_)
            · have hj18 := cond_t hc22 hj18
              refine gk_skip (by kernel_rfl) ?_
              obtain rfl := some_inj hj18
              exact ge_mid fun t ht => ⟨(Imm.refl _), rfl, ht.pick (l := [0, 4, 11, 14]) (by kernel_rfl)⟩
            · have hj18 := cond_f hc22 hj18
              refine gk_seq (by kernel_rfl) ?_
              refine gk_region (by kernel_rfl) ?_
              refine gl_pure 2 [0, 4, 11, 14] (K' := [(0, .string a0), (4, .int .u8 c2), (11, .int .u8 c2), (14, .bool (c2 == 34))]) (by kernel_rfl) ?_
              refine gl_atE (by kernel_rfl) ?_
              refine ge_seq ?_
              obtain ⟨j23, hj24, hj18⟩ := bind_some hj18
              refine gk_join (fun t I' L' => I ≤ I' ∧ L = L' ∧ Knows 48 [(0, .string a0), (4, .int .u8 c2), (11, .int .u8 c2), (14, .bool j23)] t) ?_ ?_
              · refine gk_cond (b := (c2 == 34)) (by kernel_rfl) (by kernel_rfl) (fun hc28 => ?_) (fun hc28 => ?_)
                · have hj24 := cond_t hc28 hj24
                  refine gk_skip (by kernel_rfl) ?_
                  obtain rfl := some_inj hj24
                  exact ge_mid fun t ht => ⟨(Imm.refl _), rfl, ht.pick (l := [0, 4, 11, 14]) (by kernel_rfl)⟩
                · have hj24 := cond_f hc28 hj24
                  refine gk_region (by kernel_rfl) ?_
                  refine gl_pure 2 [0, 4, 11, 14] (K' := [(0, .string a0), (4, .int .u8 c2), (11, .int .u8 c2), (14, .bool (c2 == 39))]) (by kernel_rfl) ?_
                  refine gl_atE (by kernel_rfl) ?_
                  obtain rfl := some_inj hj24
                  exact ge_mid fun t ht => ⟨(Imm.refl _), rfl, ht.pick (l := [0, 4, 11, 14]) (by kernel_rfl)⟩
              · rintro t I27 L' ⟨hI25, rfl, hK26⟩
                refine ge_at hK26 ?_
                obtain rfl := some_inj hj18
                exact ge_mid fun t ht => ⟨hI25, rfl, ht.pick (l := [0, 4, 11, 14]) (by kernel_rfl)⟩
          · rintro t I21 L' ⟨hI19, rfl, hK20⟩
            refine ge_at hK20 ?_
            refine ge_seq ?_
            refine gk_cond (b := j17) (by kernel_rfl) (by kernel_rfl) (fun hc29 => ?_) (fun hc29 => ?_)
            · have hj11 := cond_t hc29 hj11
              refine gk_exit (by kernel_rfl) ?_
              refine ge_seq_exit ?_
              refine ge_seq_exit ?_
              refine ge_block_miss (by kernel_rfl) ?_
              refine ge_seq_exit ?_
              refine ge_block_hit (by kernel_rfl) ?_
              obtain rfl := some_inj hj11
              exact ge_mid fun t ht => ⟨_, rfl, hI19, rfl, ht.pick (l := [4]) (by kernel_rfl)⟩
            · have hj11 := cond_f hc29 hj11
              refine gk_skip (by kernel_rfl) ?_
              refine ge_seq ?_
              refine gk_seq (by kernel_rfl) ?_
              refine gk_seq (by kernel_rfl) ?_
              refine gk_region (by kernel_rfl) ?_
              refine gl_pure 2 [0, 11, 18] (K' := [(0, .string a0), (11, .int .u8 c2), (18, .bool (c2 == 116))]) (by kernel_rfl) ?_
              refine gl_atE (by kernel_rfl) ?_
              refine ge_seq ?_
              refine gk_cond (b := (c2 == 116)) (by kernel_rfl) (by kernel_rfl) (fun hc30 => ?_) (fun hc30 => ?_)
              · have hj11 := cond_t hc30 hj11
                refine gk_exit (by kernel_rfl) ?_
                refine ge_seq_exit ?_
                refine ge_seq_exit ?_
                refine ge_block_miss (by kernel_rfl) ?_
                refine ge_seq_exit ?_
                refine ge_block_miss (by kernel_rfl) ?_
                refine ge_seq_exit ?_
                obtain rfl := some_inj hj11
                refine ge_seq_exit ?_
                refine ge_block_hit (by kernel_rfl) ?_
                refine ge_seq ?_
                refine gk_seq (by kernel_rfl) ?_
                refine gk_seq (by kernel_rfl) ?_
                refine gk_region (by kernel_rfl) ?_
                refine gl_pure 2 [2, 3] (K' := [(2, .int .u8 9), (3, .int .i64 1)]) (by kernel_rfl) ?_
                refine gl_atE (by kernel_rfl) ?_
                refine ge_seq ?_
                refine gk_ret (by kernel_rfl) ?_
                refine ge_seq_ret ?_
                refine ge_block_ret ?_
                refine ge_seq_ret ?_
                refine ge_block_ret ?_
                refine ge_seq_ret ?_
                refine ge_block_ret ?_
                refine ge_seq_ret ?_
                obtain rfl := some_inj hj5
                refine ge_seq_ret ?_
                obtain rfl := some_inj hr
                exact ge_result trivial (ResOk.tmp (by kernel_rfl) (ResOk.tmp (by kernel_rfl) ResOk.nil)) hI19 ⟨rfl, rfl⟩
              · have hj11 := cond_f hc30 hj11
                refine gk_skip (by kernel_rfl) ?_
                refine ge_seq ?_
                refine gk_seq (by kernel_rfl) ?_
                refine gk_seq (by kernel_rfl) ?_
                refine gk_region (by kernel_rfl) ?_
                refine gl_pure 2 [0, 11, 20] (K' := [(0, .string a0), (11, .int .u8 c2), (20, .bool (c2 == 114))]) (by kernel_rfl) ?_
                refine gl_atE (by kernel_rfl) ?_
                refine ge_seq ?_
                refine gk_cond (b := (c2 == 114)) (by kernel_rfl) (by kernel_rfl) (fun hc31 => ?_) (fun hc31 => ?_)
                · have hj11 := cond_t hc31 hj11
                  refine gk_exit (by kernel_rfl) ?_
                  refine ge_seq_exit ?_
                  refine ge_seq_exit ?_
                  refine ge_block_miss (by kernel_rfl) ?_
                  refine ge_seq_exit ?_
                  refine ge_block_miss (by kernel_rfl) ?_
                  refine ge_seq_exit ?_
                  obtain rfl := some_inj hj11
                  refine ge_seq_exit ?_
                  refine ge_block_miss (by kernel_rfl) ?_
                  refine ge_seq_exit ?_
                  refine ge_block_hit (by kernel_rfl) ?_
                  refine ge_seq ?_
                  refine gk_seq (by kernel_rfl) ?_
                  refine gk_seq (by kernel_rfl) ?_
                  refine gk_region (by kernel_rfl) ?_
                  refine gl_pure 2 [2, 3] (K' := [(2, .int .u8 13), (3, .int .i64 1)]) (by kernel_rfl) ?_
                  refine gl_atE (by kernel_rfl) ?_
                  refine ge_seq ?_
                  refine gk_ret (by kernel_rfl) ?_
                  refine ge_seq_ret ?_
                  refine ge_block_ret ?_
                  refine ge_seq_ret ?_
                  refine ge_block_ret ?_
                  refine ge_seq_ret ?_
                  obtain rfl := some_inj hj5
                  refine ge_seq_ret ?_
                  obtain rfl := some_inj hr
                  exact ge_result trivial (ResOk.tmp (by kernel_rfl) (ResOk.tmp (by kernel_rfl) ResOk.nil)) hI19 ⟨rfl, rfl⟩
                · have hj11 := cond_f hc31 hj11
                  refine gk_skip (by kernel_rfl) ?_
                  refine ge_seq ?_
                  refine gk_seq (by kernel_rfl) ?_
                  refine gk_region (by kernel_rfl) ?_
                  refine gl_pure 2 [0, 22] (K' := [(0, .string a0), (22, .bool (c2 == 120))]) (by kernel_rfl) ?_
                  refine gl_atE (by kernel_rfl) ?_
                  refine ge_seq ?_
                  refine gk_cond (b := (c2 == 120)) (by kernel_rfl) (by kernel_rfl) (fun hc32 => ?_) (fun hc32 => ?_)
                  · have hj11 := cond_t hc32 hj11
                    refine gk_exit (by kernel_rfl) ?_
                    refine ge_seq_exit ?_
                    refine ge_block_miss (by kernel_rfl) ?_
                    refine ge_seq_exit ?_
                    refine ge_block_miss (by kernel_rfl) ?_
                    refine ge_seq_exit ?_
                    obtain ⟨v57, hv58, hq59⟩ := bind_some hj11
                    obtain rfl := some_inj hq59
                    replace hj5 := Eq.trans hv58 hj5
                    refine ge_seq_exit ?_
                    refine ge_block_miss (by kernel_rfl) ?_
                    refine ge_seq_exit ?_
                    refine ge_block_miss (by kernel_rfl) ?_
                    refine ge_seq_exit ?_
                    refine ge_block_hit (by kernel_rfl) ?_
                    refine ge_seq ?_
                    refine gk_seq (by kernel_rfl) ?_
                    refine gk_seq (by kernel_rfl) ?_
                    obtain ⟨j33, hj34, hj5⟩ := bind_some hj5
                    refine gk_join (fun t I' L' => I21 ≤ I' ∧ L = L' ∧ Knows 48 [(0, .string a0), (37, .bool j33)] t) ?_ ?_
                    · refine gk_region (by kernel_rfl) ?_
                      refine gl_pure 4 [0, 28] (K' := [(0, .string a0), (28, .bool (decide ((a0.size : Int) > 2)))]) (by kernel_rfl) ?_
                      refine gl_case 28 (b := (decide ((a0.size : Int) > 2))) (by kernel_rfl) (fun hc38 => ?_) (fun hc38 => ?_)
                      · have hj34 := cond_t hc38 hj34
                        refine gl_pure 1 [0, 28, 29] (K' := [(0, .string a0), (28, .bool true), (29, .string a0)]) (by kernel_rfl) ?_
                        obtain ⟨c39, hx40, hj34⟩ := bind_some hj34
                        refine gl_index' (T' := 9) (xs := (.tmp 29)) (xi := (.const (.int .i64 1))) (kd := .i64) hx40 (by kernel_rfl) (by kernel_rfl) (by kernel_rfl) (by kernel_rfl) (by kernel_rfl) ?_
                        refine gl_callQ (by kernel_rfl) (lex_hex_walk (r := (lex_hex c39))  rfl _) ?_
                        refine gl_pure 2 [0, 33] (K' := [(0, .string a0), (33, .bool (lex_hex c39))]) (by kernel_rfl) ?_
                        refine gl_case 33 (b := (lex_hex c39)) (by kernel_rfl) (fun hc41 => ?_) (fun hc41 => ?_)
                        · have hj34 := cond_t hc41 hj34
                          refine gl_pure 1 [0, 33, 34] (K' := [(0, .string a0), (33, .bool true), (34, .string a0)]) (by kernel_rfl) ?_
                          obtain ⟨c42, hx43, hj34⟩ := bind_some hj34
                          refine gl_index' (T' := 9) (xs := (.tmp 34)) (xi := (.const (.int .i64 2))) (kd := .i64) hx43 (by kernel_rfl) (by kernel_rfl) (by kernel_rfl) (by kernel_rfl) (by kernel_rfl) ?_
                          refine gl_callQ (by kernel_rfl) (lex_hex_walk (r := (lex_hex c42))  rfl _) ?_
                          refine gl_pure 1 [0, 37] (K' := [(0, .string a0), (37, .bool (lex_hex c42))]) (by kernel_rfl) ?_
                          refine gl_atE (by kernel_rfl) ?_
                          obtain rfl := some_inj hj34
                          exact ge_mid fun t ht => ⟨(Imm.refl _), rfl, ht.pick (l := [0, 37]) (by kernel_rfl)⟩
                        · have hj34 := cond_f hc41 hj34
                          refine gl_pure 4 [0, 37] (K' := [(0, .string a0), (37, .bool false)]) (by kernel_rfl) ?_
                          refine gl_atE (by kernel_rfl) ?_
                          obtain rfl := some_inj hj34
                          exact ge_mid fun t ht => ⟨(Imm.refl _), rfl, ht.pick (l := [0, 37]) (by kernel_rfl)⟩
                      · have hj34 := cond_f hc38 hj34
                        refine gl_pure 9 [0, 37] (K' := [(0, .string a0), (37, .bool false)]) (by kernel_rfl) ?_
                        refine gl_atE (by kernel_rfl) ?_
                        obtain rfl := some_inj hj34
                        exact ge_mid fun t ht => ⟨(Imm.refl _), rfl, ht.pick (l := [0, 37]) (by kernel_rfl)⟩
                    · rintro t I37 L' ⟨hI35, rfl, hK36⟩
                      refine ge_at hK36 ?_
                      refine ge_seq ?_
                      obtain ⟨j44, hj45, hj5⟩ := bind_some hj5
                      refine gk_join (fun t I' L' => ∃ j46, j44 = Sum.inl j46 ∧ I37 ≤ I' ∧ L = L' ∧ Knows 48 [] t) ?_ ?_
                      · refine gk_cond (b := j33) (by kernel_rfl) (by kernel_rfl) (fun hc50 => ?_) (fun hc50 => ?_)
                        · have hj45 := cond_t hc50 hj45
                          refine gk_seq (by kernel_rfl) ?_
                          refine gk_region (by kernel_rfl) ?_
                          refine gl_pure 1 [39] (K' := [(39, .string a0)]) (by kernel_rfl) ?_
                          obtain ⟨s52, hx51, hj45⟩ := bind_some hj45
                          refine gl_slice' (T' := 9) (xs := (.tmp 39)) (lo := (some (.const (.int .i64 1)))) (hi := (some (.const (.int .i64 3)))) hx51 (by kernel_rfl) (by kernel_rfl) (by kernel_rfl) (by kernel_rfl) (by kernel_rfl) (by kernel_rfl) ?_
                          obtain ⟨y53, hx54, hj45⟩ := bind_some hj45
                          refine gl_callQ (by kernel_rfl) (strconv_ParseUint_walk (r := y53)  hx54 _) ?_
                          refine gl_pure 5 [5] (K' := [(5, .int .u64 y53.1)]) (by kernel_rfl) ?_
                          refine gl_atE (by kernel_rfl) ?_
                          refine ge_seq ?_
                          refine gk_seq (by kernel_rfl) ?_
                          refine gk_region (by kernel_rfl) ?_
                          refine gl_pure 2 [5, 45] (K' := [(5, .int .u64 y53.1), (45, .bool (decide (y53.1 < 128)))]) (by kernel_rfl) ?_
                          refine gl_atE (by kernel_rfl) ?_
                          refine ge_seq ?_
                          refine gk_cond (b := (decide (y53.1 < 128))) (by kernel_rfl) (by kernel_rfl) (fun hc55 => ?_) (fun hc55 => ?_)
                          · have hj45 := cond_t hc55 hj45
                            refine gk_seq (by kernel_rfl) ?_
                            refine gk_region (by kernel_rfl) ?_
                            refine gl_pure 4 [2, 3] (K' := [(2, .int .u8 (IntKind.wrap .u8 y53.1)), (3, .int .i64 3)]) (by kernel_rfl) ?_
                            refine gl_atE (by kernel_rfl) ?_
                            refine ge_seq ?_
                            refine gk_ret (by kernel_rfl) ?_
                            refine ge_seq_ret ?_
                            obtain rfl := some_inj hj45
                            refine ge_seq_ret ?_
                            refine ge_block_ret ?_
                            refine ge_seq_ret ?_
                            obtain rfl := some_inj hj5
                            refine ge_seq_ret ?_
                            obtain rfl := some_inj hr
                            exact ge_result trivial (ResOk.tmp (by kernel_rfl) (ResOk.tmp (by kernel_rfl) ResOk.nil)) (Imm.trans hI19 hI35) ⟨rfl, rfl⟩
                          · have hj45 := cond_f hc55 hj45
                            refine gk_skip (by kernel_rfl) ?_
                            obtain rfl := some_inj hj45
                            exact ge_mid fun t ht => ⟨_, rfl, (Imm.refl _), rfl, ht.pick (l := []) (by kernel_rfl)⟩
                        · have hj45 := cond_f hc50 hj45
                          refine gk_skip (by kernel_rfl) ?_
                          obtain rfl := some_inj hj45
                          exact ge_mid fun t ht => ⟨_, rfl, (Imm.refl _), rfl, ht.pick (l := []) (by kernel_rfl)⟩
                      · rintro t I49 L' ⟨j46, rfl, hI47, rfl, hK48⟩
                        refine ge_at hK48 ?_
                        refine ge_seq ?_
                        refine gk_exit (by kernel_rfl) ?_
                        refine ge_block_hit (by kernel_rfl) ?_
                        obtain rfl := some_inj hj5
                        exact ge_mid fun t ht => ⟨_, rfl, (Imm.trans (Imm.trans hI19 hI35) hI47), rfl, ht.pick (l := []) (by kernel_rfl)⟩
                  · have hj11 := cond_f hc32 hj11
                    refine gk_skip (by kernel_rfl) ?_
                    refine ge_seq ?_
                    refine gk_exit (by kernel_rfl) ?_
                    refine ge_block_miss (by kernel_rfl) ?_
                    refine ge_seq_exit ?_
                    refine ge_block_miss (by kernel_rfl) ?_
                    refine ge_seq_exit ?_
                    obtain rfl := some_inj hj11
                    refine ge_seq_exit ?_
                    refine ge_block_miss (by kernel_rfl) ?_
                    refine ge_seq_exit ?_
                    refine ge_block_miss (by kernel_rfl) ?_
                    refine ge_seq_exit ?_
                    refine ge_block_miss (by kernel_rfl) ?_
                    refine ge_seq_exit ?_
                    refine ge_block_hit (by kernel_rfl) ?_
                    obtain rfl := some_inj hj5
                    exact ge_mid fun t ht => ⟨_, rfl, hI19, rfl, ht.pick (l := []) (by kernel_rfl)⟩
      · rintro t I15 L' ⟨j12, rfl, hI13, rfl, hK14⟩
        refine ge_at hK14 ?_
        refine ge_seq ?_
        refine gk_seq (by kernel_rfl) ?_
        refine gk_seq (by kernel_rfl) ?_
        refine gk_region (by kernel_rfl) ?_
        refine gl_pure 3 [2, 3] (K' := [(2, .int .u8 j12), (3, .int .i64 1)]) (by kernel_rfl) ?_
        refine gl_atE (by kernel_rfl) ?_
        refine ge_seq ?_
        refine gk_ret (by kernel_rfl) ?_
        refine ge_seq_ret ?_
        refine ge_block_ret ?_
        refine ge_seq_ret ?_
        refine ge_block_ret ?_
        refine ge_seq_ret ?_
        refine ge_block_ret ?_
        refine ge_seq_ret ?_
        refine ge_block_ret ?_
        refine ge_seq_ret ?_
        obtain rfl := some_inj hj5
        refine ge_seq_ret ?_
        obtain rfl := some_inj hr
        exact ge_result trivial (ResOk.tmp (by kernel_rfl) (ResOk.tmp (by kernel_rfl) ResOk.nil)) hI13 ⟨rfl, rfl⟩
    · rintro t I9 L' ⟨j6, rfl, hI7, rfl, hK8⟩
      refine ge_at hK8 ?_
      refine ge_seq ?_
      refine gk_seq (by kernel_rfl) ?_
      refine gk_region (by kernel_rfl) ?_
      refine gl_pure 2 [2, 3] (K' := [(2, .int .u8 0), (3, .int .i64 0)]) (by kernel_rfl) ?_
      refine gl_atE (by kernel_rfl) ?_
      refine ge_seq ?_
      refine gk_ret (by kernel_rfl) ?_
      obtain rfl := some_inj hr
      exact ge_result trivial (ResOk.tmp (by kernel_rfl) (ResOk.tmp (by kernel_rfl) ResOk.nil)) hI7 ⟨rfl, rfl⟩
/-! 26 strings_Builder_WriteByte ('obj', 'imm') -/
noncomputable def strings_Builder_WriteByte (a0 : S50) (a1 : Int) : Option (Unit × S50) :=
  Option.bind (app ((strings_Builder_copyCheck (⟨a0.f1⟩ : S50)).f1) [a1]) fun (zs14 : List Int) =>
  some ((), (⟨zs14⟩ : S50))
theorem strings_Builder_WriteByte_walk {a0 : S50} {g0 : Nat} {q0_0 : Option Addr} {A0_1 : Option Addr} {c0_1 : Nat} {C0_1 : Own} {a1 : Int} {I : Imm} {r : Unit × S50}  (hq0_0 : q0_0 = none ∨ q0_0 = some (⟨g0, 0, none⟩ : Addr)) (hO0_1 : OwnS (Kd.int .u8) 5 I A0_1 c0_1 a0.f1 C0_1) (hr : strings_Builder_WriteByte a0 a1 = some r) (L : Own) :
    CallsTo Tryd.prog 26 #[.pointer (some ⟨g0, 0, none⟩), .int .u8 a1] I ((g0, .cells #[.pointer q0_0, .slice A0_1 a0.f1.length c0_1] 51) :: (C0_1 ++ L)) (fun v I' L' => ∃ q1_0 A1_1 c1_1 C1_1, (q1_0 = none ∨ q1_0 = some (⟨g0, 0, none⟩ : Addr)) ∧ OwnS (Kd.int .u8) 5 I' A1_1 c1_1 r.2.f1 C1_1 ∧ v = .nilIface ∧ (g0, .cells #[.pointer q1_0, .slice A1_1 r.2.f1.length c1_1] 51) :: (C1_1 ++ L) = L') := by
  unfold strings_Builder_WriteByte at hr
  refine callsTo_body (N := 17) Tryd.func26 (by kernel_rfl) (by kernel_rfl) (by kernel_rfl) ?_
  refine gk_pick [0, 1] (K' := [(0, .pointer (some ⟨g0, 0, none⟩)), (1, .int .u8 a1)]) (by kernel_rfl) ?_
  refine gk_seq (by kernel_rfl) ?_
  refine gk_region (by kernel_rfl) ?_
  refine gl_pure 1 [0, 1] (K' := [(0, .pointer (some ⟨g0, 0, none⟩)), (1, .int .u8 a1)]) (by kernel_rfl) ?_
  refine gl_atE (by kernel_rfl) ?_
  refine ge_seq ?_
  refine gk_seq (by kernel_rfl) ?_
  refine gk_region (by kernel_rfl) ?_
  refine gl_pure 1 [0, 1, 5] (K' := [(0, .pointer (some ⟨g0, 0, none⟩)), (1, .int .u8 a1), (5, .pointer (some ⟨g0, 0, none⟩))]) (by kernel_rfl) ?_
  refine gl_call (by kernel_rfl) (strings_Builder_copyCheck_walk (r := (strings_Builder_copyCheck (⟨a0.f1⟩ : S50))) (g0 := g0) (q0_0 := q0_0) (A0_1 := A0_1) (c0_1 := c0_1) (C0_1 := C0_1) (a0 := (⟨a0.f1⟩ : S50)) hq0_0 hO0_1 rfl _) ?_
  rintro v I1 L2 hI3 ⟨z4, A5, c6, C7, hO8, hO9, rfl, rfl⟩
  refine gl_atE (by kernel_rfl) ?_
  refine ge_seq ?_
  refine gk_seq (by kernel_rfl) ?_
  refine gk_region (by kernel_rfl) ?_
  refine gl_pure 4 [1, 7, 10] (K' := [(1, .int .u8 a1), (7, .pointer (some ⟨g0, 0, none⟩)), (10, .pointer (some ⟨g0, 1, none⟩))]) (by kernel_rfl) ?_
  refine gl_loadB (T' := 41) (xp := (.tmp 10)) (v := .slice A5 ((strings_Builder_copyCheck (⟨a0.f1⟩ : S50)).f1).length c6) (g := g0) (off := 1) (cs := #[.pointer z4, .slice A5 ((strings_Builder_copyCheck (⟨a0.f1⟩ : S50)).f1).length c6]) (e := 51) (fz := (0, 0)) (by kernel_rfl) (by kernel_rfl) (by kernel_rfl) List.mem_cons_self (by kernel_rfl) ?_
  refine gl_pure 1 [7, 11, 12] (K' := [(7, .pointer (some ⟨g0, 0, none⟩)), (11, .slice A5 ((strings_Builder_copyCheck (⟨a0.f1⟩ : S50)).f1).length c6), (12, .int .u8 a1)]) (by kernel_rfl) ?_
  refine gl_buildSlice (T' := 41) (e := 5) (n := 1) (len := 1) (parts := #[(0, (.tmp 12))]) (l := [(0, .int .u8 a1)]) (cs := #[.int .u8 a1]) (by kernel_rfl) (by kernel_rfl) (by kernel_rfl) (by kernel_rfl) (by kernel_rfl) (fun g10 => ?_)
  have hO11 : OwnS (Kd.int .u8) 5 I1 (some ⟨g10, 0, none⟩) 1 [a1] [(g10, .cells #[.int .u8 a1] 5)] := OwnS.lit (row_cons (l := [.int .u8 a1]) rfl (row_nil _ _)) rfl rfl rfl
  refine gl_reord (D := [(g10, .cells #[.int .u8 a1] 5)] ++ ((g0, .cells #[.pointer z4, .slice A5 ((strings_Builder_copyCheck (⟨a0.f1⟩ : S50)).f1).length c6] 51) :: (C7 ++ L))) (Reord.refl _) ?_
  obtain ⟨zs14, hz15, hr⟩ := bind_some hr
  refine gl_append (xv := .slice (some ⟨g10, 0, none⟩) [a1].length 1) (d := (Kd.int .u8)) (t := 41) (tx := 41) (e := 5) (s := (.tmp 11)) (x := (.tmp 13)) (xs := (strings_Builder_copyCheck (⟨a0.f1⟩ : S50)).f1) (fun X => [(g10, .cells #[.int .u8 a1] 5)] ++ ((g0, .cells #[.pointer z4, .slice A5 ((strings_Builder_copyCheck (⟨a0.f1⟩ : S50)).f1).length c6] 51) :: (X ++ L))) hz15 (by kernel_rfl) (by kernel_rfl) (by kernel_rfl) (by kernel_rfl) (by kernel_rfl) (by kernel_rfl) (fun X => (Upd.app _ (Upd.one _ (Upd.head _ X _)))) hO9 (SrcOk.slice (c := 1) (e := 5) (n := 1) (OwnS.rd hO11 (Upd.selfC _ _)) (by kernel_rfl)) (fun A16 n17 C18 hO19 => ?_)
  refine gl_pure 2 [14, 16] (K' := [(14, .slice A16 zs14.length n17), (16, .pointer (some ⟨g0, 1, none⟩))]) (by kernel_rfl) ?_
  refine gl_storeB (T' := 41) (xp := (.tmp 16)) (xv := (.tmp 14)) (v := .slice A16 zs14.length n17) (g := g0) (off := 1) (cs := #[.pointer z4, .slice A5 ((strings_Builder_copyCheck (⟨a0.f1⟩ : S50)).f1).length c6]) (cs' := #[.pointer z4, .slice A16 zs14.length n17]) (by kernel_rfl) (by kernel_rfl) (by kernel_rfl) (by kernel_rfl) (by kernel_rfl) (Upd.app _ (Upd.set _ _ _ _)) ?_ (by kernel_rfl)
  refine gl_atE (by kernel_rfl) ?_
  refine ge_seq ?_
  refine gk_seq (by kernel_rfl) ?_
  refine gk_region (by kernel_rfl) ?_
  refine gl_pure 1 [4] (K' := [(4, .nilIface)]) (by kernel_rfl) ?_
  refine gl_atE (by kernel_rfl) ?_
  refine ge_seq ?_
  refine gk_reord (D := (g0, .cells #[.pointer z4, .slice A16 zs14.length n17] 51) :: (C18 ++ L)) (Reord.step1 (Upd.app _ (Upd.rm1 _ _)) (Reord.step (Upd.app _ (Upd.rmC _ _)) (Reord.skipC (Reord.refl _)))) ?_
  refine gk_ret (by kernel_rfl) ?_
  obtain rfl := some_inj hr
  exact ge_result trivial (ResOk.tmp (by kernel_rfl) ResOk.nil) hI3 ⟨z4, A16, n17, C18, hO8, hO19, rfl, rfl⟩
/-! 79 utf8_appendRuneNonASCII_f79 ('own', 'imm') -/
noncomputable def utf8_appendRuneNonASCII_f79 (a0 : List Int) (a1 : Int) : Option (List Int) :=
  bif (decide ((IntKind.wrap .u32 a1) ≤ 2047)) then
  (Option.bind (app a0 [(bitOr .u8 192 (IntKind.wrap .u8 (shr .i32 a1 6))), (bitOr .u8 128 (bitAnd .u8 (IntKind.wrap .u8 a1) 63))]) fun (zs6 : List Int) =>
    some zs6)
  else
  (Option.bind (bif (decide ((IntKind.wrap .u32 a1) < 55296)) then
      (some (decide ((IntKind.wrap .u32 a1) < 55296)))
      else
      (some ((decide (57343 < (IntKind.wrap .u32 a1))) && (decide ((IntKind.wrap .u32 a1) ≤ 65535))))) fun (j12 : Bool) =>
    bif j12 then
    (Option.bind (app a0 [(bitOr .u8 224 (IntKind.wrap .u8 (shr .i32 a1 12))), (bitOr .u8 128 (bitAnd .u8 (IntKind.wrap .u8 (shr .i32 a1 6)) 63)), (bitOr .u8 128 (bitAnd .u8 (IntKind.wrap .u8 a1) 63))]) fun (zs29 : List Int) =>
      some zs29)
    else
    (bif ((decide ((IntKind.wrap .u32 a1) > 65535)) && (decide ((IntKind.wrap .u32 a1) ≤ 1114111))) then
      (Option.bind (app a0 [(bitOr .u8 240 (IntKind.wrap .u8 (shr .i32 a1 18))), (bitOr .u8 128 (bitAnd .u8 (IntKind.wrap .u8 (shr .i32 a1 12)) 63)), (bitOr .u8 128 (bitAnd .u8 (IntKind.wrap .u8 (shr .i32 a1 6)) 63)), (bitOr .u8 128 (bitAnd .u8 (IntKind.wrap .u8 a1) 63))]) fun (zs46 : List Int) =>
        some zs46)
      else
      (Option.bind (app a0 [239, 191, 189]) fun (zs56 : List Int) =>
        some zs56)))
theorem utf8_appendRuneNonASCII_f79_walk {a0 : List Int} {A0 : Option Addr} {c0 : Nat} {C0 : Own} {a1 : Int} {I : Imm} {r : (List Int)} (hO0 : OwnS (Kd.int .u8) 5 I A0 c0 a0 C0) (hr : utf8_appendRuneNonASCII_f79 a0 a1 = some r) (L : Own) :
    CallsTo Tryd.prog 79 #[.slice A0 a0.length c0, .int .i32 a1] I (C0 ++ L) (fun v I' L' => ∃ A0 c0 C0, OwnS (Kd.int .u8) 5 I' A0 c0 r C0 ∧ v = .slice A0 r.length c0 ∧ C0 ++ L = L') := by
  unfold utf8_appendRuneNonASCII_f79 at hr
  refine callsTo_body (N := 78) Tryd.func79 (by kernel_rfl) (by kernel_rfl) (by kernel_rfl) ?_
  refine gk_pick [0, 1] (K' := [(0, .slice A0 a0.length c0), (1, .int .i32 a1)]) (by kernel_rfl) ?_
  refine gk_seq (by kernel_rfl) ?_
  refine gk_region (by kernel_rfl) ?_
  refine gl_pure 1 [0, 1] (K' := [(0, .slice A0 a0.length c0), (1, .int .i32 a1)]) (by kernel_rfl) ?_
  refine gl_atE (by kernel_rfl) ?_
  refine ge_seq ?_
  refine gk_seq (by kernel_rfl) ?_
  refine gk_region (by kernel_rfl) ?_
  refine gl_pure 3 [0, 1, 5] (K' := [(0, .slice A0 a0.length c0), (1, .int .i32 a1), (5, .int .u32 (IntKind.wrap .u32 a1))]) (by kernel_rfl) ?_
  refine gl_atE (by kernel_rfl) ?_
  refine ge_seq ?_
  refine gk_block (by kernel_rfl) ?_
  refine gk_seq (by kernel_rfl) ?_
  refine gk_region (by kernel_rfl) ?_
  refine gl_pure 3 [0, 1, 5, 11] (K' := [(0, .slice A0 a0.length c0), (1, .int .i32 a1), (5, .int .u32 (IntKind.wrap .u32 a1)), (11, .bool (decide ((IntKind.wrap .u32 a1) ≤ 2047)))]) (by kernel_rfl) ?_
  refine gl_atE (by kernel_rfl) ?_
  refine ge_seq ?_
  refine gk_cond (b := (decide ((IntKind.wrap .u32 a1) ≤ 2047))) (by kernel_rfl) (by kernel_rfl) (fun hc1 => ?_) (fun hc1 => ?_)
  · have hr := cond_t hc1 hr
    refine gk_seq (by kernel_rfl) ?_
    refine gk_region (by kernel_rfl) ?_
    refine gl_pure 9 [14, 18, 22] (K' := [(14, .slice A0 a0.length c0), (18, .int .u8 (bitOr .u8 192 (IntKind.wrap .u8 (shr .i32 a1 6)))), (22, .int .u8 (bitOr .u8 128 (bitAnd .u8 (IntKind.wrap .u8 a1) 63)))]) (by kernel_rfl) ?_
    refine gl_buildSlice (T' := 41) (e := 5) (n := 1) (len := 2) (parts := #[(0, (.tmp 18)), (1, (.tmp 22))]) (l := [(0, .int .u8 (bitOr .u8 192 (IntKind.wrap .u8 (shr .i32 a1 6)))), (1, .int .u8 (bitOr .u8 128 (bitAnd .u8 (IntKind.wrap .u8 a1) 63)))]) (cs := #[.int .u8 (bitOr .u8 192 (IntKind.wrap .u8 (shr .i32 a1 6))), .int .u8 (bitOr .u8 128 (bitAnd .u8 (IntKind.wrap .u8 a1) 63))]) (by kernel_rfl) (by kernel_rfl) (by kernel_rfl) (by kernel_rfl) (by kernel_rfl) (fun g2 => ?_)
    have hO3 : OwnS (Kd.int .u8) 5 I (some ⟨g2, 0, none⟩) 2 [(bitOr .u8 192 (IntKind.wrap .u8 (shr .i32 a1 6))), (bitOr .u8 128 (bitAnd .u8 (IntKind.wrap .u8 a1) 63))] [(g2, .cells #[.int .u8 (bitOr .u8 192 (IntKind.wrap .u8 (shr .i32 a1 6))), .int .u8 (bitOr .u8 128 (bitAnd .u8 (IntKind.wrap .u8 a1) 63))] 5)] := OwnS.lit (row_cons (l := [.int .u8 (bitOr .u8 192 (IntKind.wrap .u8 (shr .i32 a1 6)))]) rfl (row_cons (l := [.int .u8 (bitOr .u8 128 (bitAnd .u8 (IntKind.wrap .u8 a1) 63))]) rfl (row_nil _ _))) rfl rfl rfl
    refine gl_reord (D := [(g2, .cells #[.int .u8 (bitOr .u8 192 (IntKind.wrap .u8 (shr .i32 a1 6))), .int .u8 (bitOr .u8 128 (bitAnd .u8 (IntKind.wrap .u8 a1) 63))] 5)] ++ (C0 ++ L)) (Reord.refl _) ?_
    obtain ⟨zs6, hz7, hr⟩ := bind_some hr
    refine gl_append (xv := .slice (some ⟨g2, 0, none⟩) [(bitOr .u8 192 (IntKind.wrap .u8 (shr .i32 a1 6))), (bitOr .u8 128 (bitAnd .u8 (IntKind.wrap .u8 a1) 63))].length 2) (d := (Kd.int .u8)) (t := 41) (tx := 41) (e := 5) (s := (.tmp 14)) (x := (.tmp 23)) (xs := a0) (fun X => [(g2, .cells #[.int .u8 (bitOr .u8 192 (IntKind.wrap .u8 (shr .i32 a1 6))), .int .u8 (bitOr .u8 128 (bitAnd .u8 (IntKind.wrap .u8 a1) 63))] 5)] ++ (X ++ L)) hz7 (by kernel_rfl) (by kernel_rfl) (by kernel_rfl) (by kernel_rfl) (by kernel_rfl) (by kernel_rfl) (fun X => (Upd.app _ (Upd.head _ X _))) hO0 (SrcOk.slice (c := 2) (e := 5) (n := 1) (OwnS.rd hO3 (Upd.selfC _ _)) (by kernel_rfl)) (fun A8 n9 C10 hO11 => ?_)
    refine gl_pure 1 [4] (K' := [(4, .slice A8 zs6.length n9)]) (by kernel_rfl) ?_
    refine gl_atE (by kernel_rfl) ?_
    refine ge_seq ?_
    refine gk_reord (D := C10 ++ L) (Reord.step (Upd.app _ (Upd.rmC _ _)) (Reord.skipC (Reord.refl _))) ?_
    refine gk_ret (by kernel_rfl) ?_
    refine ge_block_ret ?_
    obtain rfl := some_inj hr
    exact ge_result trivial (ResOk.tmp (by kernel_rfl) ResOk.nil) (Imm.refl _) ⟨A8, n9, C10, hO11, rfl, rfl⟩
  · have hr := cond_f hc1 hr
    refine gk_seq (by kernel_rfl) ?_
    refine gk_seq (by kernel_rfl) ?_
    refine gk_region (by kernel_rfl) ?_
    refine gl_pure 3 [0, 1, 5, 25] (K' := [(0, .slice A0 a0.length c0), (1, .int .i32 a1), (5, .int .u32 (IntKind.wrap .u32 a1)), (25, .bool (decide ((IntKind.wrap .u32 a1) < 55296)))]) (by kernel_rfl) ?_
    refine gl_atE (by kernel_rfl) ?_
    refine ge_seq ?_
    obtain ⟨j12, hj13, hr⟩ := bind_some hr
    refine gk_join (fun t I' L' => I ≤ I' ∧ C0 ++ L = L' ∧ Knows 78 [(0, .slice A0 a0.length c0), (1, .int .i32 a1), (5, .int .u32 (IntKind.wrap .u32 a1)), (25, .bool j12)] t) ?_ ?_
    · refine gk_cond (b := (decide ((IntKind.wrap .u32 a1) < 55296))) (by kernel_rfl) (by kernel_rfl) (fun hc17 => ?_) (fun hc17 => ?_)
      · have hj13 := cond_t hc17 hj13
        refine gk_skip (by kernel_rfl) ?_
        obtain rfl := some_inj hj13
        exact ge_mid fun t ht => ⟨(Imm.refl _), rfl, ht.pick (l := [0, 1, 5, 25]) (by kernel_rfl)⟩
      · have hj13 := cond_f hc17 hj13
        obtain ⟨b20, hb21⟩ : ∃ z, z = ((decide (57343 < (IntKind.wrap .u32 a1))) && (decide ((IntKind.wrap .u32 a1) ≤ 65535))) := ⟨_, rfl⟩
        refine gk_join (fun t I' L' => I ≤ I' ∧ C0 ++ L = L' ∧ Knows 78 [(0, .slice A0 a0.length c0), (1, .int .i32 a1), (5, .int .u32 (IntKind.wrap .u32 a1)), (25, .bool b20)] t) ?_ ?_
        · refine gk_region (by kernel_rfl) ?_
          refine gl_pure 3 [0, 1, 5, 30] (K' := [(0, .slice A0 a0.length c0), (1, .int .i32 a1), (5, .int .u32 (IntKind.wrap .u32 a1)), (30, .bool (decide (57343 < (IntKind.wrap .u32 a1))))]) (by kernel_rfl) ?_
          refine gl_case 30 (b := (decide (57343 < (IntKind.wrap .u32 a1)))) (by kernel_rfl) (fun hc23 => ?_) (fun hc23 => ?_)
          · refine gl_pure 4 [0, 1, 5, 25] (K' := [(0, .slice A0 a0.length c0), (1, .int .i32 a1), (5, .int .u32 (IntKind.wrap .u32 a1)), (25, .bool (decide ((IntKind.wrap .u32 a1) ≤ 65535)))]) (by kernel_rfl) ?_
            refine gl_atE (by kernel_rfl) ?_
            exact ge_mid fun t ht => ⟨(Imm.refl _), rfl, by rw [(show b20 = (decide ((IntKind.wrap .u32 a1) ≤ 65535)) from hb21.trans (by rw [hc23]; try rfl))]; exact ht.pick (l := [0, 1, 5, 25]) (by kernel_rfl)⟩
          · refine gl_pure 4 [0, 1, 5, 25] (K' := [(0, .slice A0 a0.length c0), (1, .int .i32 a1), (5, .int .u32 (IntKind.wrap .u32 a1)), (25, .bool false)]) (by kernel_rfl) ?_
            refine gl_atE (by kernel_rfl) ?_
            exact ge_mid fun t ht => ⟨(Imm.refl _), rfl, by rw [(show b20 = false from hb21.trans (by rw [hc23]; try rfl))]; exact ht.pick (l := [0, 1, 5, 25]) (by kernel_rfl)⟩
        · rintro t I22 L' ⟨hI18, rfl, hK19⟩
          subst hb21
          refine ge_at hK19 ?_
          obtain rfl := some_inj hj13
          exact ge_mid fun t ht => ⟨hI18, rfl, ht.pick (l := [0, 1, 5, 25]) (by kernel_rfl)⟩
    · rintro t I16 L' ⟨hI14, rfl, hK15⟩
      refine ge_at hK15 ?_
      refine ge_seq ?_
      refine gk_cond (b := j12) (by kernel_rfl) (by kernel_rfl) (fun hc24 => ?_) (fun hc24 => ?_)
      · have hr := cond_t hc24 hr
        refine gk_seq (by kernel_rfl) ?_
        refine gk_region (by kernel_rfl) ?_
        refine gl_pure 14 [34, 38, 43, 47] (K' := [(34, .slice A0 a0.length c0), (38, .int .u8 (bitOr .u8 224 (IntKind.wrap .u8 (shr .i32 a1 12)))), (43, .int .u8 (bitOr .u8 128 (bitAnd .u8 (IntKind.wrap .u8 (shr .i32 a1 6)) 63))), (47, .int .u8 (bitOr .u8 128 (bitAnd .u8 (IntKind.wrap .u8 a1) 63)))]) (by kernel_rfl) ?_
        refine gl_buildSlice (T' := 41) (e := 5) (n := 1) (len := 3) (parts := #[(0, (.tmp 38)), (1, (.tmp 43)), (2, (.tmp 47))]) (l := [(0, .int .u8 (bitOr .u8 224 (IntKind.wrap .u8 (shr .i32 a1 12)))), (1, .int .u8 (bitOr .u8 128 (bitAnd .u8 (IntKind.wrap .u8 (shr .i32 a1 6)) 63))), (2, .int .u8 (bitOr .u8 128 (bitAnd .u8 (IntKind.wrap .u8 a1) 63)))]) (cs := #[.int .u8 (bitOr .u8 224 (IntKind.wrap .u8 (shr .i32 a1 12))), .int .u8 (bitOr .u8 128 (bitAnd .u8 (IntKind.wrap .u8 (shr .i32 a1 6)) 63)), .int .u8 (bitOr .u8 128 (bitAnd .u8 (IntKind.wrap .u8 a1) 63))]) (by kernel_rfl) (by kernel_rfl) (by kernel_rfl) (by kernel_rfl) (by kernel_rfl) (fun g25 => ?_)
        have hO26 : OwnS (Kd.int .u8) 5 I16 (some ⟨g25, 0, none⟩) 3 [(bitOr .u8 224 (IntKind.wrap .u8 (shr .i32 a1 12))), (bitOr .u8 128 (bitAnd .u8 (IntKind.wrap .u8 (shr .i32 a1 6)) 63)), (bitOr .u8 128 (bitAnd .u8 (IntKind.wrap .u8 a1) 63))] [(g25, .cells #[.int .u8 (bitOr .u8 224 (IntKind.wrap .u8 (shr .i32 a1 12))), .int .u8 (bitOr .u8 128 (bitAnd .u8 (IntKind.wrap .u8 (shr .i32 a1 6)) 63)), .int .u8 (bitOr .u8 128 (bitAnd .u8 (IntKind.wrap .u8 a1) 63))] 5)] := OwnS.lit (row_cons (l := [.int .u8 (bitOr .u8 224 (IntKind.wrap .u8 (shr .i32 a1 12)))]) rfl (row_cons (l := [.int .u8 (bitOr .u8 128 (bitAnd .u8 (IntKind.wrap .u8 (shr .i32 a1 6)) 63))]) rfl (row_cons (l := [.int .u8 (bitOr .u8 128 (bitAnd .u8 (IntKind.wrap .u8 a1) 63))]) rfl (row_nil _ _)))) rfl rfl rfl
        refine gl_reord (D := [(g25, .cells #[.int .u8 (bitOr .u8 224 (IntKind.wrap .u8 (shr .i32 a1 12))), .int .u8 (bitOr .u8 128 (bitAnd .u8 (IntKind.wrap .u8 (shr .i32 a1 6)) 63)), .int .u8 (bitOr .u8 128 (bitAnd .u8 (IntKind.wrap .u8 a1) 63))] 5)] ++ (C0 ++ L)) (Reord.refl _) ?_
        obtain ⟨zs29, hz30, hr⟩ := bind_some hr
        refine gl_append (xv := .slice (some ⟨g25, 0, none⟩) [(bitOr .u8 224 (IntKind.wrap .u8 (shr .i32 a1 12))), (bitOr .u8 128 (bitAnd .u8 (IntKind.wrap .u8 (shr .i32 a1 6)) 63)), (bitOr .u8 128 (bitAnd .u8 (IntKind.wrap .u8 a1) 63))].length 3) (d := (Kd.int .u8)) (t := 41) (tx := 41) (e := 5) (s := (.tmp 34)) (x := (.tmp 48)) (xs := a0) (fun X => [(g25, .cells #[.int .u8 (bitOr .u8 224 (IntKind.wrap .u8 (shr .i32 a1 12))), .int .u8 (bitOr .u8 128 (bitAnd .u8 (IntKind.wrap .u8 (shr .i32 a1 6)) 63)), .int .u8 (bitOr .u8 128 (bitAnd .u8 (IntKind.wrap .u8 a1) 63))] 5)] ++ (X ++ L)) hz30 (by kernel_rfl) (by kernel_rfl) (by kernel_rfl) (by kernel_rfl) (by kernel_rfl) (by kernel_rfl) (fun X => (Upd.app _ (Upd.head _ X _))) (hO0.mono hI14) (SrcOk.slice (c := 3) (e := 5) (n := 1) (OwnS.rd hO26 (Upd.selfC _ _)) (by kernel_rfl)) (fun A31 n32 C33 hO34 => ?_)
        refine gl_pure 1 [4] (K' := [(4, .slice A31 zs29.length n32)]) (by kernel_rfl) ?_
        refine gl_atE (by kernel_rfl) ?_
        refine ge_seq ?_
        refine gk_reord (D := C33 ++ L) (Reord.step (Upd.app _ (Upd.rmC _ _)) (Reord.skipC (Reord.refl _))) ?_
        refine gk_ret (by kernel_rfl) ?_
        refine ge_block_ret ?_
        obtain rfl := some_inj hr
        exact ge_result trivial (ResOk.tmp (by kernel_rfl) ResOk.nil) hI14 ⟨A31, n32, C33, hO34, rfl, rfl⟩
      · have hr := cond_f hc24 hr
        refine gk_seq (by kernel_rfl) ?_
        obtain ⟨b37, hb38⟩ : ∃ z, z = ((decide ((IntKind.wrap .u32 a1) > 65535)) && (decide ((IntKind.wrap .u32 a1) ≤ 1114111))) := ⟨_, rfl⟩
        refine gk_join (fun t I' L' => I16 ≤ I' ∧ C0 ++ L = L' ∧ Knows 78 [(0, .slice A0 a0.length c0), (1, .int .i32 a1), (50, .bool b37)] t) ?_ ?_
        · refine gk_region (by kernel_rfl) ?_
          refine gl_pure 3 [0, 1, 5, 53] (K' := [(0, .slice A0 a0.length c0), (1, .int .i32 a1), (5, .int .u32 (IntKind.wrap .u32 a1)), (53, .bool (decide ((IntKind.wrap .u32 a1) > 65535)))]) (by kernel_rfl) ?_
          refine gl_case 53 (b := (decide ((IntKind.wrap .u32 a1) > 65535))) (by kernel_rfl) (fun hc40 => ?_) (fun hc40 => ?_)
          · refine gl_pure 4 [0, 1, 50] (K' := [(0, .slice A0 a0.length c0), (1, .int .i32 a1), (50, .bool (decide ((IntKind.wrap .u32 a1) ≤ 1114111)))]) (by kernel_rfl) ?_
            refine gl_atE (by kernel_rfl) ?_
            exact ge_mid fun t ht => ⟨(Imm.refl _), rfl, by rw [(show b37 = (decide ((IntKind.wrap .u32 a1) ≤ 1114111)) from hb38.trans (by rw [hc40]; try rfl))]; exact ht.pick (l := [0, 1, 50]) (by kernel_rfl)⟩
          · refine gl_pure 4 [0, 1, 50] (K' := [(0, .slice A0 a0.length c0), (1, .int .i32 a1), (50, .bool false)]) (by kernel_rfl) ?_
            refine gl_atE (by kernel_rfl) ?_
            exact ge_mid fun t ht => ⟨(Imm.refl _), rfl, by rw [(show b37 = false from hb38.trans (by rw [hc40]; try rfl))]; exact ht.pick (l := [0, 1, 50]) (by kernel_rfl)⟩
        · rintro t I39 L' ⟨hI35, rfl, hK36⟩
          subst hb38
          refine ge_at hK36 ?_
          refine ge_seq ?_
          refine gk_cond (b := ((decide ((IntKind.wrap .u32 a1) > 65535)) && (decide ((IntKind.wrap .u32 a1) ≤ 1114111)))) (by kernel_rfl) (by kernel_rfl) (fun hc41 => ?_) (fun hc41 => ?_)
          · have hr := cond_t hc41 hr
            refine gk_seq (by kernel_rfl) ?_
            refine gk_region (by kernel_rfl) ?_
            refine gl_pure 19 [57, 61, 66, 71, 75] (K' := [(57, .slice A0 a0.length c0), (61, .int .u8 (bitOr .u8 240 (IntKind.wrap .u8 (shr .i32 a1 18)))), (66, .int .u8 (bitOr .u8 128 (bitAnd .u8 (IntKind.wrap .u8 (shr .i32 a1 12)) 63))), (71, .int .u8 (bitOr .u8 128 (bitAnd .u8 (IntKind.wrap .u8 (shr .i32 a1 6)) 63))), (75, .int .u8 (bitOr .u8 128 (bitAnd .u8 (IntKind.wrap .u8 a1) 63)))]) (by kernel_rfl) ?_
            refine gl_buildSlice (T' := 41) (e := 5) (n := 1) (len := 4) (parts := #[(0, (.tmp 61)), (1, (.tmp 66)), (2, (.tmp 71)), (3, (.tmp 75))]) (l := [(0, .int .u8 (bitOr .u8 240 (IntKind.wrap .u8 (shr .i32 a1 18)))), (1, .int .u8 (bitOr .u8 128 (bitAnd .u8 (IntKind.wrap .u8 (shr .i32 a1 12)) 63))), (2, .int .u8 (bitOr .u8 128 (bitAnd .u8 (IntKind.wrap .u8 (shr .i32 a1 6)) 63))), (3, .int .u8 (bitOr .u8 128 (bitAnd .u8 (IntKind.wrap .u8 a1) 63)))]) (cs := #[.int .u8 (bitOr .u8 240 (IntKind.wrap .u8 (shr .i32 a1 18))), .int .u8 (bitOr .u8 128 (bitAnd .u8 (IntKind.wrap .u8 (shr .i32 a1 12)) 63)), .int .u8 (bitOr .u8 128 (bitAnd .u8 (IntKind.wrap .u8 (shr .i32 a1 6)) 63)), .int .u8 (bitOr .u8 128 (bitAnd .u8 (IntKind.wrap .u8 a1) 63))]) (by kernel_rfl) (by kernel_rfl) (by kernel_rfl) (by kernel_rfl) (by kernel_rfl) (fun g42 => ?_)
            have hO43 : OwnS (Kd.int .u8) 5 I39 (some ⟨g42, 0, none⟩) 4 [(bitOr .u8 240 (IntKind.wrap .u8 (shr .i32 a1 18))), (bitOr .u8 128 (bitAnd .u8 (IntKind.wrap .u8 (shr .i32 a1 12)) 63)), (bitOr .u8 128 (bitAnd .u8 (IntKind.wrap .u8 (shr .i32 a1 6)) 63)), (bitOr .u8 128 (bitAnd .u8 (IntKind.wrap .u8 a1) 63))] [(g42, .cells #[.int .u8 (bitOr .u8 240 (IntKind.wrap .u8 (shr .i32 a1 18))), .int .u8 (bitOr .u8 128 (bitAnd .u8 (IntKind.wrap .u8 (shr .i32 a1 12)) 63)), .int .u8 (bitOr .u8 128 (bitAnd .u8 (IntKind.wrap .u8 (shr .i32 a1 6)) 63)), .int .u8 (bitOr .u8 128 (bitAnd .u8 (IntKind.wrap .u8 a1) 63))] 5)] := OwnS.lit (row_cons (l := [.int .u8 (bitOr .u8 240 (IntKind.wrap .u8 (shr .i32 a1 18)))]) rfl (row_cons (l := [.int .u8 (bitOr .u8 128 (bitAnd .u8 (IntKind.wrap .u8 (shr .i32 a1 12)) 63))]) rfl (row_cons (l := [.int .u8 (bitOr .u8 128 (bitAnd .u8 (IntKind.wrap .u8 (shr .i32 a1 6)) 63))]) rfl (row_cons (l := [.int .u8 (bitOr .u8 128 (bitAnd .u8 (IntKind.wrap .u8 a1) 63))]) rfl (row_nil _ _))))) rfl rfl rfl
            refine gl_reord (D := [(g42, .cells #[.int .u8 (bitOr .u8 240 (IntKind.wrap .u8 (shr .i32 a1 18))), .int .u8 (bitOr .u8 128 (bitAnd .u8 (IntKind.wrap .u8 (shr .i32 a1 12)) 63)), .int .u8 (bitOr .u8 128 (bitAnd .u8 (IntKind.wrap .u8 (shr .i32 a1 6)) 63)), .int .u8 (bitOr .u8 128 (bitAnd .u8 (IntKind.wrap .u8 a1) 63))] 5)] ++ (C0 ++ L)) (Reord.refl _) ?_
            obtain ⟨zs46, hz47, hr⟩ := bind_some hr
            refine gl_append (xv := .slice (some ⟨g42, 0, none⟩) [(bitOr .u8 240 (IntKind.wrap .u8 (shr .i32 a1 18))), (bitOr .u8 128 (bitAnd .u8 (IntKind.wrap .u8 (shr .i32 a1 12)) 63)), (bitOr .u8 128 (bitAnd .u8 (IntKind.wrap .u8 (shr .i32 a1 6)) 63)), (bitOr .u8 128 (bitAnd .u8 (IntKind.wrap .u8 a1) 63))].length 4) (d := (Kd.int .u8)) (t := 41) (tx := 41) (e := 5) (s := (.tmp 57)) (x := (.tmp 76)) (xs := a0) (fun X => [(g42, .cells #[.int .u8 (bitOr .u8 240 (IntKind.wrap .u8 (shr .i32 a1 18))), .int .u8 (bitOr .u8 128 (bitAnd .u8 (IntKind.wrap .u8 (shr .i32 a1 12)) 63)), .int .u8 (bitOr .u8 128 (bitAnd .u8 (IntKind.wrap .u8 (shr .i32 a1 6)) 63)), .int .u8 (bitOr .u8 128 (bitAnd .u8 (IntKind.wrap .u8 a1) 63))] 5)] ++ (X ++ L)) hz47 (by kernel_rfl) (by kernel_rfl) (by kernel_rfl) (by kernel_rfl) (by kernel_rfl) (by kernel_rfl) (fun X => (Upd.app _ (Upd.head _ X _))) (hO0.mono (Imm.trans hI14 hI35)) (SrcOk.slice (c := 4) (e := 5) (n := 1) (OwnS.rd hO43 (Upd.selfC _ _)) (by kernel_rfl)) (fun A48 n49 C50 hO51 => ?_)
            refine gl_pure 1 [4] (K' := [(4, .slice A48 zs46.length n49)]) (by kernel_rfl) ?_
            refine gl_atE (by kernel_rfl) ?_
            refine ge_seq ?_
            refine gk_reord (D := C50 ++ L) (Reord.step (Upd.app _ (Upd.rmC _ _)) (Reord.skipC (Reord.refl _))) ?_
            refine gk_ret (by kernel_rfl) ?_
            refine ge_block_ret ?_
            obtain rfl := some_inj hr
            exact ge_result trivial (ResOk.tmp (by kernel_rfl) ResOk.nil) (Imm.trans hI14 hI35) ⟨A48, n49, C50, hO51, rfl, rfl⟩
          · have hr := cond_f hc41 hr
            refine gk_seq (by kernel_rfl) ?_
            refine gk_region (by kernel_rfl) ?_
            refine gl_pure 1 [8] (K' := [(8, .slice A0 a0.length c0)]) (by kernel_rfl) ?_
            refine gl_buildSlice (T' := 41) (e := 5) (n := 1) (len := 3) (parts := #[(0, (.const (.int .u8 239))), (1, (.const (.int .u8 191))), (2, (.const (.int .u8 189)))]) (l := [(0, .int .u8 239), (1, .int .u8 191), (2, .int .u8 189)]) (cs := #[.int .u8 239, .int .u8 191, .int .u8 189]) (by kernel_rfl) (by kernel_rfl) (by kernel_rfl) (by kernel_rfl) (by kernel_rfl) (fun g52 => ?_)
            have hO53 : OwnS (Kd.int .u8) 5 I39 (some ⟨g52, 0, none⟩) 3 [239, 191, 189] [(g52, .cells #[.int .u8 239, .int .u8 191, .int .u8 189] 5)] := OwnS.lit (row_cons (l := [.int .u8 239]) rfl (row_cons (l := [.int .u8 191]) rfl (row_cons (l := [.int .u8 189]) rfl (row_nil _ _)))) rfl rfl rfl
            refine gl_reord (D := [(g52, .cells #[.int .u8 239, .int .u8 191, .int .u8 189] 5)] ++ (C0 ++ L)) (Reord.refl _) ?_
            obtain ⟨zs56, hz57, hr⟩ := bind_some hr
            refine gl_append (xv := .slice (some ⟨g52, 0, none⟩) [239, 191, 189].length 3) (d := (Kd.int .u8)) (t := 41) (tx := 41) (e := 5) (s := (.tmp 8)) (x := (.tmp 9)) (xs := a0) (fun X => [(g52, .cells #[.int .u8 239, .int .u8 191, .int .u8 189] 5)] ++ (X ++ L)) hz57 (by kernel_rfl) (by kernel_rfl) (by kernel_rfl) (by kernel_rfl) (by kernel_rfl) (by kernel_rfl) (fun X => (Upd.app _ (Upd.head _ X _))) (hO0.mono (Imm.trans hI14 hI35)) (SrcOk.slice (c := 3) (e := 5) (n := 1) (OwnS.rd hO53 (Upd.selfC _ _)) (by kernel_rfl)) (fun A58 n59 C60 hO61 => ?_)
            refine gl_pure 1 [4] (K' := [(4, .slice A58 zs56.length n59)]) (by kernel_rfl) ?_
            refine gl_atE (by kernel_rfl) ?_
            refine ge_seq ?_
            refine gk_reord (D := C60 ++ L) (Reord.step (Upd.app _ (Upd.rmC _ _)) (Reord.skipC (Reord.refl _))) ?_
            refine gk_ret (by kernel_rfl) ?_
            refine ge_block_ret ?_
            obtain rfl := some_inj hr
            exact ge_result trivial (ResOk.tmp (by kernel_rfl) ResOk.nil) (Imm.trans hI14 hI35) ⟨A58, n59, C60, hO61, rfl, rfl⟩
/-! 71 utf8_AppendRune_f71 ('own', 'imm') -/
noncomputable def utf8_AppendRune_f71 (a0 : List Int) (a1 : Int) : Option (List Int) :=
  bif (decide ((IntKind.wrap .u32 a1) ≤ 127)) then
  (Option.bind (app a0 [(IntKind.wrap .u8 a1)]) fun (zs6 : List Int) =>
    some zs6)
  else
  (Option.bind (utf8_appendRuneNonASCII_f79 a0 a1) fun (y12 : (List Int)) =>
    some y12)
theorem utf8_AppendRune_f71_walk {a0 : List Int} {A0 : Option Addr} {c0 : Nat} {C0 : Own} {a1 : Int} {I : Imm} {r : (List Int)} (hO0 : OwnS (Kd.int .u8) 5 I A0 c0 a0 C0) (hr : utf8_AppendRune_f71 a0 a1 = some r) (L : Own) :
    CallsTo Tryd.prog 71 #[.slice A0 a0.length c0, .int .i32 a1] I (C0 ++ L) (fun v I' L' => ∃ A0 c0 C0, OwnS (Kd.int .u8) 5 I' A0 c0 r C0 ∧ v = .slice A0 r.length c0 ∧ C0 ++ L = L') := by
  unfold utf8_AppendRune_f71 at hr
  refine callsTo_body (N := 16) Tryd.func71 (by kernel_rfl) (by kernel_rfl) (by kernel_rfl) ?_
  refine gk_pick [0, 1] (K' := [(0, .slice A0 a0.length c0), (1, .int .i32 a1)]) (by kernel_rfl) ?_
  refine gk_seq (by kernel_rfl) ?_
  refine gk_region (by kernel_rfl) ?_
  refine gl_pure 1 [0, 1] (K' := [(0, .slice A0 a0.length c0), (1, .int .i32 a1)]) (by kernel_rfl) ?_
  refine gl_atE (by kernel_rfl) ?_
  refine ge_seq ?_
  refine gk_seq (by kernel_rfl) ?_
  refine gk_seq (by kernel_rfl) ?_
  refine gk_region (by kernel_rfl) ?_
  refine gl_pure 3 [0, 1, 7] (K' := [(0, .slice A0 a0.length c0), (1, .int .i32 a1), (7, .bool (decide ((IntKind.wrap .u32 a1) ≤ 127)))]) (by kernel_rfl) ?_
  refine gl_atE (by kernel_rfl) ?_
  refine ge_seq ?_
  refine gk_cond (b := (decide ((IntKind.wrap .u32 a1) ≤ 127))) (by kernel_rfl) (by kernel_rfl) (fun hc1 => ?_) (fun hc1 => ?_)
  · have hr := cond_t hc1 hr
    refine gk_seq (by kernel_rfl) ?_
    refine gk_region (by kernel_rfl) ?_
    refine gl_pure 3 [8, 10] (K' := [(8, .slice A0 a0.length c0), (10, .int .u8 (IntKind.wrap .u8 a1))]) (by kernel_rfl) ?_
    refine gl_buildSlice (T' := 41) (e := 5) (n := 1) (len := 1) (parts := #[(0, (.tmp 10))]) (l := [(0, .int .u8 (IntKind.wrap .u8 a1))]) (cs := #[.int .u8 (IntKind.wrap .u8 a1)]) (by kernel_rfl) (by kernel_rfl) (by kernel_rfl) (by kernel_rfl) (by kernel_rfl) (fun g2 => ?_)
    have hO3 : OwnS (Kd.int .u8) 5 I (some ⟨g2, 0, none⟩) 1 [(IntKind.wrap .u8 a1)] [(g2, .cells #[.int .u8 (IntKind.wrap .u8 a1)] 5)] := OwnS.lit (row_cons (l := [.int .u8 (IntKind.wrap .u8 a1)]) rfl (row_nil _ _)) rfl rfl rfl
    refine gl_reord (D := [(g2, .cells #[.int .u8 (IntKind.wrap .u8 a1)] 5)] ++ (C0 ++ L)) (Reord.refl _) ?_
    obtain ⟨zs6, hz7, hr⟩ := bind_some hr
    refine gl_append (xv := .slice (some ⟨g2, 0, none⟩) [(IntKind.wrap .u8 a1)].length 1) (d := (Kd.int .u8)) (t := 41) (tx := 41) (e := 5) (s := (.tmp 8)) (x := (.tmp 11)) (xs := a0) (fun X => [(g2, .cells #[.int .u8 (IntKind.wrap .u8 a1)] 5)] ++ (X ++ L)) hz7 (by kernel_rfl) (by kernel_rfl) (by kernel_rfl) (by kernel_rfl) (by kernel_rfl) (by kernel_rfl) (fun X => (Upd.app _ (Upd.head _ X _))) hO0 (SrcOk.slice (c := 1) (e := 5) (n := 1) (OwnS.rd hO3 (Upd.selfC _ _)) (by kernel_rfl)) (fun A8 n9 C10 hO11 => ?_)
    refine gl_pure 1 [4] (K' := [(4, .slice A8 zs6.length n9)]) (by kernel_rfl) ?_
    refine gl_atE (by kernel_rfl) ?_
    refine ge_seq ?_
    refine gk_reord (D := C10 ++ L) (Reord.step (Upd.app _ (Upd.rmC _ _)) (Reord.skipC (Reord.refl _))) ?_
    refine gk_ret (by kernel_rfl) ?_
    refine ge_seq_ret ?_
    obtain rfl := some_inj hr
    exact ge_result trivial (ResOk.tmp (by kernel_rfl) ResOk.nil) (Imm.refl _) ⟨A8, n9, C10, hO11, rfl, rfl⟩
  · have hr := cond_f hc1 hr
    refine gk_skip (by kernel_rfl) ?_
    refine ge_seq ?_
    refine gk_seq (by kernel_rfl) ?_
    refine gk_region (by kernel_rfl) ?_
    refine gl_pure 2 [13, 14] (K' := [(13, .slice A0 a0.length c0), (14, .int .i32 a1)]) (by kernel_rfl) ?_
    obtain ⟨y12, hx13, hr⟩ := bind_some hr
    refine gl_call (by kernel_rfl) (utf8_appendRuneNonASCII_f79_walk (r := y12) (A0 := A0) (c0 := c0) (C0 := C0) (a0 := a0) hO0 hx13 _) ?_
    rintro v I14 L15 hI16 ⟨A17, c18, C19, hO20, rfl, rfl⟩
    refine gl_pure 1 [4] (K' := [(4, .slice A17 y12.length c18)]) (by kernel_rfl) ?_
    refine gl_atE (by kernel_rfl) ?_
    refine ge_seq ?_
    refine gk_ret (by kernel_rfl) ?_
    obtain rfl := some_inj hr
    exact ge_result trivial (ResOk.tmp (by kernel_rfl) ResOk.nil) hI16 ⟨A17, c18, C19, hO20, rfl, rfl⟩
/-! 57 strings_Builder_WriteRune ('obj', 'imm') -/
noncomputable def strings_Builder_WriteRune (a0 : S50) (a1 : Int) : Option (Int × Unit × S50) :=
  Option.bind (utf8_AppendRune_f71 ((strings_Builder_copyCheck (⟨a0.f1⟩ : S50)).f1) a1) fun (y10 : (List Int)) =>
  some ((IntKind.wrap .i64 ((y10.length : Int) - (((strings_Builder_copyCheck (⟨a0.f1⟩ : S50)).f1).length : Int))), (), (⟨y10⟩ : S50))
theorem strings_Builder_WriteRune_walk {a0 : S50} {g0 : Nat} {q0_0 : Option Addr} {A0_1 : Option Addr} {c0_1 : Nat} {C0_1 : Own} {a1 : Int} {I : Imm} {r : Int × Unit × S50}  (hq0_0 : q0_0 = none ∨ q0_0 = some (⟨g0, 0, none⟩ : Addr)) (hO0_1 : OwnS (Kd.int .u8) 5 I A0_1 c0_1 a0.f1 C0_1) (hr : strings_Builder_WriteRune a0 a1 = some r) (L : Own) :
    CallsTo Tryd.prog 57 #[.pointer (some ⟨g0, 0, none⟩), .int .i32 a1] I ((g0, .cells #[.pointer q0_0, .slice A0_1 a0.f1.length c0_1] 51) :: (C0_1 ++ L)) (fun v I' L' => ∃ q2_0 A2_1 c2_1 C2_1, (q2_0 = none ∨ q2_0 = some (⟨g0, 0, none⟩ : Addr)) ∧ OwnS (Kd.int .u8) 5 I' A2_1 c2_1 r.2.2.f1 C2_1 ∧ v = .tuple #[.int .i64 r.1, .nilIface] ∧ (g0, .cells #[.pointer q2_0, .slice A2_1 r.2.2.f1.length c2_1] 51) :: (C2_1 ++ L) = L') := by
  unfold strings_Builder_WriteRune at hr
  refine callsTo_body (N := 30) Tryd.func57 (by kernel_rfl) (by kernel_rfl) (by kernel_rfl) ?_
  refine gk_pick [0, 1] (K' := [(0, .pointer (some ⟨g0, 0, none⟩)), (1, .int .i32 a1)]) (by kernel_rfl) ?_
  refine gk_seq (by kernel_rfl) ?_
  refine gk_region (by kernel_rfl) ?_
  refine gl_pure 2 [0, 1] (K' := [(0, .pointer (some ⟨g0, 0, none⟩)), (1, .int .i32 a1)]) (by kernel_rfl) ?_
  refine gl_atE (by kernel_rfl) ?_
  refine ge_seq ?_
  refine gk_seq (by kernel_rfl) ?_
  refine gk_region (by kernel_rfl) ?_
  refine gl_pure 1 [0, 1, 7] (K' := [(0, .pointer (some ⟨g0, 0, none⟩)), (1, .int .i32 a1), (7, .pointer (some ⟨g0, 0, none⟩))]) (by kernel_rfl) ?_
  refine gl_call (by kernel_rfl) (strings_Builder_copyCheck_walk (r := (strings_Builder_copyCheck (⟨a0.f1⟩ : S50))) (g0 := g0) (q0_0 := q0_0) (A0_1 := A0_1) (c0_1 := c0_1) (C0_1 := C0_1) (a0 := (⟨a0.f1⟩ : S50)) hq0_0 hO0_1 rfl _) ?_
  rintro v I1 L2 hI3 ⟨z4, A5, c6, C7, hO8, hO9, rfl, rfl⟩
  refine gl_atE (by kernel_rfl) ?_
  refine ge_seq ?_
  refine gk_seq (by kernel_rfl) ?_
  refine gk_region (by kernel_rfl) ?_
  refine gl_pure 3 [0, 1, 11] (K' := [(0, .pointer (some ⟨g0, 0, none⟩)), (1, .int .i32 a1), (11, .pointer (some ⟨g0, 1, none⟩))]) (by kernel_rfl) ?_
  refine gl_loadB (T' := 41) (xp := (.tmp 11)) (v := .slice A5 ((strings_Builder_copyCheck (⟨a0.f1⟩ : S50)).f1).length c6) (g := g0) (off := 1) (cs := #[.pointer z4, .slice A5 ((strings_Builder_copyCheck (⟨a0.f1⟩ : S50)).f1).length c6]) (e := 51) (fz := (0, 0)) (by kernel_rfl) (by kernel_rfl) (by kernel_rfl) List.mem_cons_self (by kernel_rfl) ?_
  refine gl_pure 2 [0, 1, 6] (K' := [(0, .pointer (some ⟨g0, 0, none⟩)), (1, .int .i32 a1), (6, .int .i64 (((strings_Builder_copyCheck (⟨a0.f1⟩ : S50)).f1).length : Int))]) (by kernel_rfl) ?_
  refine gl_atE (by kernel_rfl) ?_
  refine ge_seq ?_
  refine gk_seq (by kernel_rfl) ?_
  refine gk_region (by kernel_rfl) ?_
  refine gl_pure 4 [0, 1, 6, 14, 17] (K' := [(0, .pointer (some ⟨g0, 0, none⟩)), (1, .int .i32 a1), (6, .int .i64 (((strings_Builder_copyCheck (⟨a0.f1⟩ : S50)).f1).length : Int)), (14, .pointer (some ⟨g0, 0, none⟩)), (17, .pointer (some ⟨g0, 1, none⟩))]) (by kernel_rfl) ?_
  refine gl_loadB (T' := 41) (xp := (.tmp 17)) (v := .slice A5 ((strings_Builder_copyCheck (⟨a0.f1⟩ : S50)).f1).length c6) (g := g0) (off := 1) (cs := #[.pointer z4, .slice A5 ((strings_Builder_copyCheck (⟨a0.f1⟩ : S50)).f1).length c6]) (e := 51) (fz := (0, 0)) (by kernel_rfl) (by kernel_rfl) (by kernel_rfl) List.mem_cons_self (by kernel_rfl) ?_
  refine gl_pure 1 [0, 6, 14, 18, 19] (K' := [(0, .pointer (some ⟨g0, 0, none⟩)), (6, .int .i64 (((strings_Builder_copyCheck (⟨a0.f1⟩ : S50)).f1).length : Int)), (14, .pointer (some ⟨g0, 0, none⟩)), (18, .slice A5 ((strings_Builder_copyCheck (⟨a0.f1⟩ : S50)).f1).length c6), (19, .int .i32 a1)]) (by kernel_rfl) ?_
  obtain ⟨y10, hx11, hr⟩ := bind_some hr
  refine gl_reord (D := C7 ++ ((g0, .cells #[.pointer z4, .slice A5 ((strings_Builder_copyCheck (⟨a0.f1⟩ : S50)).f1).length c6] 51) :: L)) (Reord.step (Upd.one _ (Upd.rmC _ _)) (Reord.step1 (Upd.rm1 _ _) (Reord.refl _))) ?_
  refine gl_call (by kernel_rfl) (utf8_AppendRune_f71_walk (r := y10) (A0 := A5) (c0 := c6) (C0 := C7) (a0 := (strings_Builder_copyCheck (⟨a0.f1⟩ : S50)).f1) hO9 hx11 _) ?_
  rintro v I12 L13 hI14 ⟨A15, c16, C17, hO18, rfl, rfl⟩
  refine gl_pure 2 [0, 6, 20, 22] (K' := [(0, .pointer (some ⟨g0, 0, none⟩)), (6, .int .i64 (((strings_Builder_copyCheck (⟨a0.f1⟩ : S50)).f1).length : Int)), (20, .slice A15 y10.length c16), (22, .pointer (some ⟨g0, 1, none⟩))]) (by kernel_rfl) ?_
  refine gl_storeB (T' := 41) (xp := (.tmp 22)) (xv := (.tmp 20)) (v := .slice A15 y10.length c16) (g := g0) (off := 1) (cs := #[.pointer z4, .slice A5 ((strings_Builder_copyCheck (⟨a0.f1⟩ : S50)).f1).length c6]) (cs' := #[.pointer z4, .slice A15 y10.length c16]) (by kernel_rfl) (by kernel_rfl) (by kernel_rfl) (by kernel_rfl) (by kernel_rfl) (Upd.app _ (Upd.set _ _ _ _)) ?_ (by kernel_rfl)
  refine gl_atE (by kernel_rfl) ?_
  refine ge_seq ?_
  refine gk_seq (by kernel_rfl) ?_
  refine gk_region (by kernel_rfl) ?_
  refine gl_pure 3 [6, 25] (K' := [(6, .int .i64 (((strings_Builder_copyCheck (⟨a0.f1⟩ : S50)).f1).length : Int)), (25, .pointer (some ⟨g0, 1, none⟩))]) (by kernel_rfl) ?_
  refine gl_loadB (T' := 41) (xp := (.tmp 25)) (v := .slice A15 y10.length c16) (g := g0) (off := 1) (cs := #[.pointer z4, .slice A15 y10.length c16]) (e := 51) (fz := (0, 0)) (by kernel_rfl) (by kernel_rfl) (by kernel_rfl) (List.mem_append_right _ List.mem_cons_self) (by kernel_rfl) ?_
  refine gl_pure 5 [4, 5] (K' := [(4, .int .i64 (IntKind.wrap .i64 ((y10.length : Int) - (((strings_Builder_copyCheck (⟨a0.f1⟩ : S50)).f1).length : Int)))), (5, .nilIface)]) (by kernel_rfl) ?_
  refine gl_atE (by kernel_rfl) ?_
  refine ge_seq ?_
  refine gk_reord (D := (g0, .cells #[.pointer z4, .slice A15 y10.length c16] 51) :: (C17 ++ L)) (Reord.step1 (Upd.app _ (Upd.rm1 _ _)) (Reord.step (Upd.rmC _ _) (Reord.refl _))) ?_
  refine gk_ret (by kernel_rfl) ?_
  obtain rfl := some_inj hr
  exact ge_result trivial (ResOk.tmp (by kernel_rfl) (ResOk.tmp (by kernel_rfl) ResOk.nil)) (Imm.trans hI3 hI14) ⟨z4, A15, c16, C17, hO8, hO18, rfl, rfl⟩
/-! 40 lex_quoted  -/
noncomputable def lex_quoted_l32 (a0 : ByteArray) (c2 : Int) : (Unit × (List Int) × Int) → Option ((Unit × (List Int) × Int) ⊕ ((Unit) ⊕ (ByteArray × Int))) := fun s16 =>
  bif (decide (s16.2.2 < (a0.size : Int))) then
  (Option.bind (sx a0 s16.2.2 (a0.size : Int)) fun (s36 : ByteArray) =>
    Option.bind (utf8_DecodeRuneInString s36) fun (y37 : Int × Int) =>
    bif (y37.1 == (IntKind.wrap .i32 c2)) then
    (Option.bind (strings_Builder_String (⟨s16.2.1⟩ : S50)) fun (y40 : ByteArray) =>
      some (Sum.inr (Sum.inr (y40, (IntKind.wrap .i64 (s16.2.2 + 1))))))
    else
    (Option.bind (bif ((y37.1 == 65533) && (y37.2 == 1)) then
        (some ((y37.1 == 65533) && (y37.2 == 1)))
        else
        (some (y37.1 == 10))) fun (j51 : Bool) =>
      bif j51 then
      (some (Sum.inr (Sum.inr ((⟨#[]⟩ : ByteArray), 0))))
      else
      (Option.bind ((bif (y37.1 == 92) then
          (Option.bind (sx a0 (IntKind.wrap .i64 (s16.2.2 + 1)) (a0.size : Int)) fun (s72 : ByteArray) =>
            Option.bind (lex_escape s72) fun (y73 : Int × Int) =>
            bif (y73.2 == 0) then
            (some (Sum.inr (Sum.inr (Sum.inr ((⟨#[]⟩ : ByteArray), 0)))))
            else
            (Option.bind (strings_Builder_WriteByte (⟨s16.2.1⟩ : S50) y73.1) fun (y76 : Unit × S50) =>
              some (Sum.inl ((IntKind.wrap .i64 (s16.2.2 + (IntKind.wrap .i64 (1 + y73.2)))), (), y76.2.f1))))
          else
          (Option.bind (strings_Builder_WriteRune (⟨s16.2.1⟩ : S50) y37.1) fun (y87 : Int × Unit × S50) =>
            some (Sum.inl ((IntKind.wrap .i64 (s16.2.2 + y37.2)), (), y87.2.2.f1))) : Option ((Int × Unit × (List Int)) ⊕ ((Unit × (List Int) × Int) ⊕ ((Unit) ⊕ (ByteArray × Int)))))) fun (j58 : (Int × Unit × (List Int)) ⊕ ((Unit × (List Int) × Int) ⊕ ((Unit) ⊕ (ByteArray × Int)))) =>
        match j58 with
        | Sum.inl j60 => some (Sum.inl ((), j60.2.2, j60.1))
        | Sum.inr v98 => some v98)))
  else
  (some (Sum.inr (Sum.inl ())))
noncomputable def lex_quoted (a0 : ByteArray) : Option (ByteArray × Int) :=
  Option.bind (bx a0 0) fun (c2 : Int) =>
  Option.bind (loopO (lex_quoted_l32 a0 c2) ((), [], 1)) fun (r14 : (Unit) ⊕ (ByteArray × Int)) =>
  match r14 with
  | Sum.inl r28 => some ((⟨#[]⟩ : ByteArray), 0)
  | Sum.inr v99 => some v99
theorem lex_quoted_walk {a0 : ByteArray} {I : Imm} {r : ByteArray × Int} (hG : Gl I) (hr : lex_quoted a0 = some r) (L : Own) :
    CallsTo Tryd.prog 40 #[.string a0] I L (fun v I' L' => v = .tuple #[.string r.1, .int .i64 r.2] ∧ L = L') := by
  unfold lex_quoted at hr
  refine callsTo_body (N := 65) Tryd.func40 (by kernel_rfl) (by kernel_rfl) (by kernel_rfl) ?_
  refine gk_pick [0] (K' := [(0, .string a0)]) (by kernel_rfl) ?_
  refine gk_seq (by kernel_rfl) ?_
  refine gk_region (by kernel_rfl) ?_
  refine gl_pure 2 [0] (K' := [(0, .string a0)]) (by kernel_rfl) ?_
  refine gl_atE (by kernel_rfl) ?_
  refine ge_seq ?_
  refine gk_seq (by kernel_rfl) ?_
  refine gk_region (by kernel_rfl) ?_
  refine gl_alloc (T' := 51) (cs := #[.pointer none, .slice none 0 0]) (by kernel_rfl) (by kernel_rfl) (by kernel_rfl) (fun g1 => ?_)
  refine gl_atE (by kernel_rfl) ?_
  refine ge_seq ?_
  refine gk_seq (by kernel_rfl) ?_
  refine gk_region (by kernel_rfl) ?_
  refine gl_pure 1 [0, 4, 11] (K' := [(0, .string a0), (4, .pointer (some ⟨g1, 0, none⟩)), (11, .string a0)]) (by kernel_rfl) ?_
  obtain ⟨c2, hx3, hr⟩ := bind_some hr
  refine gl_index' (T' := 9) (xs := (.tmp 11)) (xi := (.const (.int .i64 0))) (kd := .i64) hx3 (by kernel_rfl) (by kernel_rfl) (by kernel_rfl) (by kernel_rfl) (by kernel_rfl) ?_
  refine gl_pure 2 [0, 4, 5] (K' := [(0, .string a0), (4, .pointer (some ⟨g1, 0, none⟩)), (5, .int .i32 (IntKind.wrap .i32 c2))]) (by kernel_rfl) ?_
  refine gl_atE (by kernel_rfl) ?_
  refine ge_seq ?_
  refine gk_seq (by kernel_rfl) ?_
  refine gk_seq (by kernel_rfl) ?_
  refine gk_region (by kernel_rfl) ?_
  refine gl_pure 1 [0, 4, 5, 6] (K' := [(0, .string a0), (4, .pointer (some ⟨g1, 0, none⟩)), (5, .int .i32 (IntKind.wrap .i32 c2)), (6, .int .i64 1)]) (by kernel_rfl) ?_
  refine gl_atE (by kernel_rfl) ?_
  refine ge_seq ?_
  obtain ⟨r14, hl15, hr⟩ := bind_some hr
  refine gk_join (fun t I' L' => ∃ r28, r14 = Sum.inl r28 ∧ I ≤ I' ∧ L = L' ∧ Knows 65 [] t) ?_ ?_
  · refine gk_block (by kernel_rfl) ?_
    refine gk_pick [0, 4, 5, 6] (K' := [(0, .string a0), (4, .pointer (some ⟨g1, 0, none⟩)), (5, .int .i32 (IntKind.wrap .i32 c2)), (6, .int .i64 1)]) (by kernel_rfl) ?_
    intro t hK
    refine gc_loop (lex_quoted_l32 a0 c2) (fun s16 t I' L' => ∃ q20 A22 n23 C24, (q20 = none ∨ q20 = some (⟨g1, 0, none⟩ : Addr)) ∧ OwnS (Kd.int .u8) 5 I' A22 n23 s16.2.1 C24 ∧ I ≤ I' ∧ C24 ++ ((g1, .cells #[.pointer q20, .slice A22 s16.2.1.length n23] 51) :: L) = L' ∧ Knows 65 [(0, .string a0), (4, .pointer (some ⟨g1, 0, none⟩)), (5, .int .i32 (IntKind.wrap .i32 c2)), (6, .int .i64 s16.2.2)] t) (by kernel_rfl) ?_ hl15 ⟨none, none, 0, [], (Or.inl rfl), OwnS.nil _ _ _ _, (Imm.refl _), rfl, hK⟩
    rintro s16 o17 t I27 L' hb18 ⟨q20, A22, n23, C24, hq21, hO25, hI19, rfl, hK26⟩
    unfold lex_quoted_l32 at hb18
    refine gk_at hK26 ?_
    refine gk_seq (by kernel_rfl) ?_
    refine gk_seq (by kernel_rfl) ?_
    refine gk_region (by kernel_rfl) ?_
    refine gl_pure 4 [0, 4, 5, 6, 17] (K' := [(0, .string a0), (4, .pointer (some ⟨g1, 0, none⟩)), (5, .int .i32 (IntKind.wrap .i32 c2)), (6, .int .i64 s16.2.2), (17, .bool (decide (s16.2.2 < (a0.size : Int))))]) (by kernel_rfl) ?_
    refine gl_atE (by kernel_rfl) ?_
    refine ge_seq ?_
    refine gk_cond (b := (decide (s16.2.2 < (a0.size : Int)))) (by kernel_rfl) (by kernel_rfl) (fun hc34 => ?_) (fun hc34 => ?_)
    · have hb18 := cond_t hc34 hb18
      refine gk_skip (by kernel_rfl) ?_
      refine ge_seq ?_
      refine gk_block (by kernel_rfl) ?_
      refine gk_seq (by kernel_rfl) ?_
      refine gk_region (by kernel_rfl) ?_
      refine gl_pure 2 [0, 4, 5, 6, 19, 20] (K' := [(0, .string a0), (4, .pointer (some ⟨g1, 0, none⟩)), (5, .int .i32 (IntKind.wrap .i32 c2)), (6, .int .i64 s16.2.2), (19, .string a0), (20, .int .i64 s16.2.2)]) (by kernel_rfl) ?_
      obtain ⟨s36, hx35, hb18⟩ := bind_some hb18
      refine gl_slice' (T' := 9) (xs := (.tmp 19)) (lo := (some (.tmp 20))) (hi := none) hx35 (by kernel_rfl) (by kernel_rfl) (by kernel_rfl) (by kernel_rfl) (by kernel_rfl) (by kernel_rfl) ?_
      obtain ⟨y37, hx38, hb18⟩ := bind_some hb18
      refine gl_callQ (by kernel_rfl) (utf8_DecodeRuneInString_walk (r := y37) (hG.mono hI19) hx38 _) ?_
      refine gl_pure 5 [0, 4, 5, 6, 7, 8] (K' := [(0, .string a0), (4, .pointer (some ⟨g1, 0, none⟩)), (5, .int .i32 (IntKind.wrap .i32 c2)), (6, .int .i64 s16.2.2), (7, .int .i32 y37.1), (8, .int .i64 y37.2)]) (by kernel_rfl) ?_
      refine gl_atE (by kernel_rfl) ?_
      refine ge_seq ?_
      refine gk_block (by kernel_rfl) ?_
      refine gk_seq (by kernel_rfl) ?_
      refine gk_region (by kernel_rfl) ?_
      refine gl_pure 4 [0, 4, 5, 6, 7, 8, 30] (K' := [(0, .string a0), (4, .pointer (some ⟨g1, 0, none⟩)), (5, .int .i32 (IntKind.wrap .i32 c2)), (6, .int .i64 s16.2.2), (7, .int .i32 y37.1), (8, .int .i64 y37.2), (30, .bool (y37.1 == (IntKind.wrap .i32 c2)))]) (by kernel_rfl) ?_
      refine gl_atE (by kernel_rfl) ?_
      refine ge_seq ?_
      refine gk_cond (b := (y37.1 == (IntKind.wrap .i32 c2))) (by kernel_rfl) (by kernel_rfl) (fun hc39 => ?_) (fun hc39 => ?_)
      · have hb18 := cond_t hc39 hb18
        refine gk_seq (by kernel_rfl) ?_
        refine gk_region (by kernel_rfl) ?_
        obtain ⟨y40, hx41, hb18⟩ := bind_some hb18
        refine gl_reord (D := (g1, .cells #[.pointer q20, .slice A22 s16.2.1.length n23] 51) :: (C24 ++ L)) (Reord.step1 (Upd.app _ (Upd.rm1 _ _)) (Reord.step (Upd.rmC _ _) (Reord.refl _))) ?_
        refine gl_call (by kernel_rfl) (strings_Builder_String_walk (r := y40) (g0 := g1) (q0_0 := q20) (A0_1 := A22) (c0_1 := n23) (C0_1 := C24) (a0 := (⟨s16.2.1⟩ : S50)) hq21 hO25 hx41 _) ?_
        rintro v I42 L43 hI44 ⟨rfl, rfl⟩
        refine gl_pure 4 [2, 3] (K' := [(2, .string y40), (3, .int .i64 (IntKind.wrap .i64 (s16.2.2 + 1)))]) (by kernel_rfl) ?_
        refine gl_atE (by kernel_rfl) ?_
        refine ge_seq ?_
        refine gk_ret (by kernel_rfl) ?_
        refine ge_block_ret ?_
        refine ge_block_ret ?_
        obtain rfl := some_inj hb18
        refine ge_round_out (fun hrr => ?_) (by intro h; cases h)
        obtain rfl := hrr
        refine ge_block_ret ?_
        refine ge_seq_ret ?_
        refine ge_seq_ret ?_
        obtain rfl := some_inj hr
        exact ge_result trivial (ResOk.tmp (by kernel_rfl) (ResOk.tmp (by kernel_rfl) ResOk.nil)) (Imm.trans hI19 hI44) ⟨rfl, rfl⟩
      · have hb18 := cond_f hc39 hb18
        refine gk_seq (by kernel_rfl) ?_
        refine gk_seq (by kernel_rfl) ?_
        obtain ⟨b47, hb48⟩ : ∃ z, z = ((y37.1 == 65533) && (y37.2 == 1)) := ⟨_, rfl⟩
        refine gk_join (fun t I' L' => I27 ≤ I' ∧ C24 ++ ((g1, .cells #[.pointer q20, .slice A22 s16.2.1.length n23] 51) :: L) = L' ∧ Knows 65 [(0, .string a0), (4, .pointer (some ⟨g1, 0, none⟩)), (5, .int .i32 (IntKind.wrap .i32 c2)), (6, .int .i64 s16.2.2), (7, .int .i32 y37.1), (8, .int .i64 y37.2), (37, .bool b47)] t) ?_ ?_
        · refine gk_region (by kernel_rfl) ?_
          refine gl_pure 3 [0, 4, 5, 6, 7, 8, 40] (K' := [(0, .string a0), (4, .pointer (some ⟨g1, 0, none⟩)), (5, .int .i32 (IntKind.wrap .i32 c2)), (6, .int .i64 s16.2.2), (7, .int .i32 y37.1), (8, .int .i64 y37.2), (40, .bool (y37.1 == 65533))]) (by kernel_rfl) ?_
          refine gl_case 40 (b := (y37.1 == 65533)) (by kernel_rfl) (fun hc50 => ?_) (fun hc50 => ?_)
          · refine gl_pure 4 [0, 4, 5, 6, 7, 8, 37] (K' := [(0, .string a0), (4, .pointer (some ⟨g1, 0, none⟩)), (5, .int .i32 (IntKind.wrap .i32 c2)), (6, .int .i64 s16.2.2), (7, .int .i32 y37.1), (8, .int .i64 y37.2), (37, .bool (y37.2 == 1))]) (by kernel_rfl) ?_
            refine gl_atE (by kernel_rfl) ?_
            exact ge_mid fun t ht => ⟨(Imm.refl _), rfl, by rw [(show b47 = (y37.2 == 1) from hb48.trans (by rw [hc50]; try rfl))]; exact ht.pick (l := [0, 4, 5, 6, 7, 8, 37]) (by kernel_rfl)⟩
          · refine gl_pure 4 [0, 4, 5, 6, 7, 8, 37] (K' := [(0, .string a0), (4, .pointer (some ⟨g1, 0, none⟩)), (5, .int .i32 (IntKind.wrap .i32 c2)), (6, .int .i64 s16.2.2), (7, .int .i32 y37.1), (8, .int .i64 y37.2), (37, .bool false)]) (by kernel_rfl) ?_
            refine gl_atE (by kernel_rfl) ?_
            exact ge_mid fun t ht => ⟨(Imm.refl _), rfl, by rw [(show b47 = false from hb48.trans (by rw [hc50]; try rfl))]; exact ht.pick (l := [0, 4, 5, 6, 7, 8, 37]) (by kernel_rfl)⟩
        · rintro t I49 L' ⟨hI45, rfl, hK46⟩
          subst hb48
          refine ge_at hK46 ?_
          refine ge_seq ?_
          obtain ⟨j51, hj52, hb18⟩ := bind_some hb18
          refine gk_join (fun t I' L' => I49 ≤ I' ∧ C24 ++ ((g1, .cells #[.pointer q20, .slice A22 s16.2.1.length n23] 51) :: L) = L' ∧ Knows 65 [(0, .string a0), (4, .pointer (some ⟨g1, 0, none⟩)), (5, .int .i32 (IntKind.wrap .i32 c2)), (6, .int .i64 s16.2.2), (7, .int .i32 y37.1), (8, .int .i64 y37.2), (37, .bool j51)] t) ?_ ?_
          · refine gk_cond (b := ((y37.1 == 65533) && (y37.2 == 1))) (by kernel_rfl) (by kernel_rfl) (fun hc56 => ?_) (fun hc56 => ?_)
            · have hj52 := cond_t hc56 hj52
              refine gk_skip (by kernel_rfl) ?_
              obtain rfl := some_inj hj52
              exact ge_mid fun t ht => ⟨(Imm.refl _), rfl, ht.pick (l := [0, 4, 5, 6, 7, 8, 37]) (by kernel_rfl)⟩
            · have hj52 := cond_f hc56 hj52
              refine gk_region (by kernel_rfl) ?_
              refine gl_pure 3 [0, 4, 5, 6, 7, 8, 37] (K' := [(0, .string a0), (4, .pointer (some ⟨g1, 0, none⟩)), (5, .int .i32 (IntKind.wrap .i32 c2)), (6, .int .i64 s16.2.2), (7, .int .i32 y37.1), (8, .int .i64 y37.2), (37, .bool (y37.1 == 10))]) (by kernel_rfl) ?_
              refine gl_atE (by kernel_rfl) ?_
              obtain rfl := some_inj hj52
              exact ge_mid fun t ht => ⟨(Imm.refl _), rfl, ht.pick (l := [0, 4, 5, 6, 7, 8, 37]) (by kernel_rfl)⟩
          · rintro t I55 L' ⟨hI53, rfl, hK54⟩
            refine ge_at hK54 ?_
            refine ge_seq ?_
            refine gk_cond (b := j51) (by kernel_rfl) (by kernel_rfl) (fun hc57 => ?_) (fun hc57 => ?_)
            · have hb18 := cond_t hc57 hb18
              refine gk_seq (by kernel_rfl) ?_
              refine gk_region (by kernel_rfl) ?_
              refine gl_pure 2 [2, 3] (K' := [(2, .string (⟨#[]⟩ : ByteArray)), (3, .int .i64 0)]) (by kernel_rfl) ?_
              refine gl_atE (by kernel_rfl) ?_
              refine ge_seq ?_
              refine gk_reord (D := L) (Reord.skipC (Reord.skip (Reord.refl _))) ?_
              refine gk_ret (by kernel_rfl) ?_
              refine ge_block_ret ?_
              refine ge_block_ret ?_
              obtain rfl := some_inj hb18
              refine ge_round_out (fun hrr => ?_) (by intro h; cases h)
              obtain rfl := hrr
              refine ge_block_ret ?_
              refine ge_seq_ret ?_
              refine ge_seq_ret ?_
              obtain rfl := some_inj hr
              exact ge_result trivial (ResOk.tmp (by kernel_rfl) (ResOk.tmp (by kernel_rfl) ResOk.nil)) (Imm.trans (Imm.trans hI19 hI45) hI53) ⟨rfl, rfl⟩
            · have hb18 := cond_f hc57 hb18
              refine gk_seq (by kernel_rfl) ?_
              refine gk_region (by kernel_rfl) ?_
              refine gl_pure 3 [0, 4, 5, 6, 7, 8, 46] (K' := [(0, .string a0), (4, .pointer (some ⟨g1, 0, none⟩)), (5, .int .i32 (IntKind.wrap .i32 c2)), (6, .int .i64 s16.2.2), (7, .int .i32 y37.1), (8, .int .i64 y37.2), (46, .bool (y37.1 == 92))]) (by kernel_rfl) ?_
              refine gl_atE (by kernel_rfl) ?_
              refine ge_seq ?_
              obtain ⟨j58, hj59, hb18⟩ := bind_some hb18
              refine gk_join (fun t I' L' => ∃ j60, j58 = Sum.inl j60 ∧ ∃ q62 A64 n65 C66, (q62 = none ∨ q62 = some (⟨g1, 0, none⟩ : Addr)) ∧ OwnS (Kd.int .u8) 5 I' A64 n65 j60.2.2 C66 ∧ I55 ≤ I' ∧ C66 ++ ((g1, .cells #[.pointer q62, .slice A64 j60.2.2.length n65] 51) :: L) = L' ∧ Knows 65 [(0, .string a0), (4, .pointer (some ⟨g1, 0, none⟩)), (5, .int .i32 (IntKind.wrap .i32 c2)), (6, .int .i64 j60.1)] t) ?_ ?_
              · refine gk_cond (b := (y37.1 == 92)) (by kernel_rfl) (by kernel_rfl) (fun hc70 => ?_) (fun hc70 => ?_)
                · have hj59 := cond_t hc70 hj59
                  refine gk_seq (by kernel_rfl) ?_
                  refine gk_region (by kernel_rfl) ?_
                  refine gl_pure 3 [0, 4, 5, 6, 50, 52] (K' := [(0, .string a0), (4, .pointer (some ⟨g1, 0, none⟩)), (5, .int .i32 (IntKind.wrap .i32 c2)), (6, .int .i64 s16.2.2), (50, .string a0), (52, .int .i64 (IntKind.wrap .i64 (s16.2.2 + 1)))]) (by kernel_rfl) ?_
                  obtain ⟨s72, hx71, hj59⟩ := bind_some hj59
                  refine gl_slice' (T' := 9) (xs := (.tmp 50)) (lo := (some (.tmp 52))) (hi := none) hx71 (by kernel_rfl) (by kernel_rfl) (by kernel_rfl) (by kernel_rfl) (by kernel_rfl) (by kernel_rfl) ?_
                  obtain ⟨y73, hx74, hj59⟩ := bind_some hj59
                  refine gl_callQ (by kernel_rfl) (lex_escape_walk (r := y73)  hx74 _) ?_
                  refine gl_pure 5 [0, 4, 5, 6, 9, 10] (K' := [(0, .string a0), (4, .pointer (some ⟨g1, 0, none⟩)), (5, .int .i32 (IntKind.wrap .i32 c2)), (6, .int .i64 s16.2.2), (9, .int .u8 y73.1), (10, .int .i64 y73.2)]) (by kernel_rfl) ?_
                  refine gl_atE (by kernel_rfl) ?_
                  refine ge_seq ?_
                  refine gk_seq (by kernel_rfl) ?_
                  refine gk_seq (by kernel_rfl) ?_
                  refine gk_region (by kernel_rfl) ?_
                  refine gl_pure 2 [0, 4, 5, 6, 9, 10, 58] (K' := [(0, .string a0), (4, .pointer (some ⟨g1, 0, none⟩)), (5, .int .i32 (IntKind.wrap .i32 c2)), (6, .int .i64 s16.2.2), (9, .int .u8 y73.1), (10, .int .i64 y73.2), (58, .bool (y73.2 == 0))]) (by kernel_rfl) ?_
                  refine gl_atE (by kernel_rfl) ?_
                  refine ge_seq ?_
                  refine gk_cond (b := (y73.2 == 0)) (by kernel_rfl) (by kernel_rfl) (fun hc75 => ?_) (fun hc75 => ?_)
                  · have hj59 := cond_t hc75 hj59
                    refine gk_seq (by kernel_rfl) ?_
                    refine gk_region (by kernel_rfl) ?_
                    refine gl_pure 2 [2, 3] (K' := [(2, .string (⟨#[]⟩ : ByteArray)), (3, .int .i64 0)]) (by kernel_rfl) ?_
                    refine gl_atE (by kernel_rfl) ?_
                    refine ge_seq ?_
                    refine gk_reord (D := L) (Reord.skipC (Reord.skip (Reord.refl _))) ?_
                    refine gk_ret (by kernel_rfl) ?_
                    refine ge_seq_ret ?_
                    refine ge_seq_ret ?_
                    obtain rfl := some_inj hj59
                    refine ge_block_ret ?_
                    refine ge_block_ret ?_
                    obtain rfl := some_inj hb18
                    refine ge_round_out (fun hrr => ?_) (by intro h; cases h)
                    obtain rfl := hrr
                    refine ge_block_ret ?_
                    refine ge_seq_ret ?_
                    refine ge_seq_ret ?_
                    obtain rfl := some_inj hr
                    exact ge_result trivial (ResOk.tmp (by kernel_rfl) (ResOk.tmp (by kernel_rfl) ResOk.nil)) (Imm.trans (Imm.trans hI19 hI45) hI53) ⟨rfl, rfl⟩
                  · have hj59 := cond_f hc75 hj59
                    refine gk_skip (by kernel_rfl) ?_
                    refine ge_seq ?_
                    refine gk_seq (by kernel_rfl) ?_
                    refine gk_region (by kernel_rfl) ?_
                    refine gl_pure 1 [0, 4, 5, 6, 10, 59] (K' := [(0, .string a0), (4, .pointer (some ⟨g1, 0, none⟩)), (5, .int .i32 (IntKind.wrap .i32 c2)), (6, .int .i64 s16.2.2), (10, .int .i64 y73.2), (59, .int .u8 y73.1)]) (by kernel_rfl) ?_
                    obtain ⟨y76, hx77, hj59⟩ := bind_some hj59
                    refine gl_reord (D := (g1, .cells #[.pointer q20, .slice A22 s16.2.1.length n23] 51) :: (C24 ++ L)) (Reord.step1 (Upd.app _ (Upd.rm1 _ _)) (Reord.step (Upd.rmC _ _) (Reord.refl _))) ?_
                    refine gl_call (by kernel_rfl) (strings_Builder_WriteByte_walk (r := y76) (g0 := g1) (q0_0 := q20) (A0_1 := A22) (c0_1 := n23) (C0_1 := C24) (a0 := (⟨s16.2.1⟩ : S50)) hq21 (hO25.mono (Imm.trans hI45 hI53)) hx77 _) ?_
                    rintro v I78 L79 hI80 ⟨z81, A82, c83, C84, hO85, hO86, rfl, rfl⟩
                    refine gl_atE (by kernel_rfl) ?_
                    refine ge_seq ?_
                    refine gk_region (by kernel_rfl) ?_
                    refine gl_pure 5 [0, 4, 5, 6] (K' := [(0, .string a0), (4, .pointer (some ⟨g1, 0, none⟩)), (5, .int .i32 (IntKind.wrap .i32 c2)), (6, .int .i64 (IntKind.wrap .i64 (s16.2.2 + (IntKind.wrap .i64 (1 + y73.2)))))]) (by kernel_rfl) ?_
                    refine gl_reord (D := C84 ++ ((g1, .cells #[.pointer z81, .slice A82 y76.2.f1.length c83] 51) :: L)) (Reord.step (Upd.one _ (Upd.rmC _ _)) (Reord.step1 (Upd.rm1 _ _) (Reord.refl _))) ?_
                    refine gl_atE (by kernel_rfl) ?_
                    obtain rfl := some_inj hj59
                    exact ge_mid fun t ht => ⟨_, rfl, z81, A82, c83, C84, hO85, hO86, hI80, rfl, ht.pick (l := [0, 4, 5, 6]) (by kernel_rfl)⟩
                · have hj59 := cond_f hc70 hj59
                  refine gk_seq (by kernel_rfl) ?_
                  refine gk_region (by kernel_rfl) ?_
                  refine gl_pure 1 [0, 4, 5, 6, 8, 25] (K' := [(0, .string a0), (4, .pointer (some ⟨g1, 0, none⟩)), (5, .int .i32 (IntKind.wrap .i32 c2)), (6, .int .i64 s16.2.2), (8, .int .i64 y37.2), (25, .int .i32 y37.1)]) (by kernel_rfl) ?_
                  obtain ⟨y87, hx88, hj59⟩ := bind_some hj59
                  refine gl_reord (D := (g1, .cells #[.pointer q20, .slice A22 s16.2.1.length n23] 51) :: (C24 ++ L)) (Reord.step1 (Upd.app _ (Upd.rm1 _ _)) (Reord.step (Upd.rmC _ _) (Reord.refl _))) ?_
                  refine gl_call (by kernel_rfl) (strings_Builder_WriteRune_walk (r := y87) (g0 := g1) (q0_0 := q20) (A0_1 := A22) (c0_1 := n23) (C0_1 := C24) (a0 := (⟨s16.2.1⟩ : S50)) hq21 (hO25.mono (Imm.trans hI45 hI53)) hx88 _) ?_
                  rintro v I89 L90 hI91 ⟨z92, A93, c94, C95, hO96, hO97, rfl, rfl⟩
                  refine gl_atE (by kernel_rfl) ?_
                  refine ge_seq ?_
                  refine gk_region (by kernel_rfl) ?_
                  refine gl_pure 4 [0, 4, 5, 6] (K' := [(0, .string a0), (4, .pointer (some ⟨g1, 0, none⟩)), (5, .int .i32 (IntKind.wrap .i32 c2)), (6, .int .i64 (IntKind.wrap .i64 (s16.2.2 + y37.2)))]) (by kernel_rfl) ?_
                  refine gl_reord (D := C95 ++ ((g1, .cells #[.pointer z92, .slice A93 y87.2.2.f1.length c94] 51) :: L)) (Reord.step (Upd.one _ (Upd.rmC _ _)) (Reord.step1 (Upd.rm1 _ _) (Reord.refl _))) ?_
                  refine gl_atE (by kernel_rfl) ?_
                  obtain rfl := some_inj hj59
                  exact ge_mid fun t ht => ⟨_, rfl, z92, A93, c94, C95, hO96, hO97, hI91, rfl, ht.pick (l := [0, 4, 5, 6]) (by kernel_rfl)⟩
              · rintro t I69 L' ⟨j60, rfl, q62, A64, n65, C66, hq63, hO67, hI61, rfl, hK68⟩
                refine ge_at hK68 ?_
                refine ge_block_normal ?_
                refine ge_block_normal ?_
                obtain rfl := some_inj hb18
                exact ge_round fun t ht => ⟨q62, A64, n65, C66, hq63, hO67, (Imm.trans (Imm.trans (Imm.trans hI19 hI45) hI53) hI61), rfl, ht.pick (l := [0, 4, 5, 6]) (by kernel_rfl)⟩
    · have hb18 := cond_f hc34 hb18
      refine gk_reord (D := L) (Reord.skipC (Reord.skip (Reord.refl _))) ?_
      refine gk_exit (by kernel_rfl) ?_
      refine ge_seq_exit ?_
      obtain rfl := some_inj hb18
      refine ge_round_out (fun hrr => ?_) (by intro h; cases h)
      obtain rfl := hrr
      refine ge_block_hit (by kernel_rfl) ?_
      exact ge_mid fun t ht => ⟨_, rfl, hI19, rfl, ht.pick (l := []) (by kernel_rfl)⟩
  · rintro t I31 L' ⟨r28, rfl, hI29, rfl, hK30⟩
    refine ge_at hK30 ?_
    refine ge_seq ?_
    refine gk_seq (by kernel_rfl) ?_
    refine gk_region (by kernel_rfl) ?_
    refine gl_pure 2 [2, 3] (K' := [(2, .string (⟨#[]⟩ : ByteArray)), (3, .int .i64 0)]) (by kernel_rfl) ?_
    refine gl_atE (by kernel_rfl) ?_
    refine ge_seq ?_
    refine gk_ret (by kernel_rfl) ?_
    obtain rfl := some_inj hr
    exact ge_result trivial (ResOk.tmp (by kernel_rfl) (ResOk.tmp (by kernel_rfl) ResOk.nil)) hI29 ⟨rfl, rfl⟩
/-! 41 lex_signs  -/
noncomputable def lex_signs : (List ByteArray) :=
  [(⟨#[33, 61]⟩ : ByteArray), (⟨#[61, 126]⟩ : ByteArray), (⟨#[33, 126]⟩ : ByteArray), (⟨#[61, 61]⟩ : ByteArray), (⟨#[62, 61]⟩ : ByteArray), (⟨#[60, 61]⟩ : ByteArray), (⟨#[40]⟩ : ByteArray), (⟨#[41]⟩ : ByteArray), (⟨#[123]⟩ : ByteArray), (⟨#[125]⟩ : ByteArray), (⟨#[91]⟩ : ByteArray), (⟨#[93]⟩ : ByteArray), (⟨#[44]⟩ : ByteArray), (⟨#[61]⟩ : ByteArray), (⟨#[43]⟩ : ByteArray), (⟨#[45]⟩ : ByteArray), (⟨#[42]⟩ : ByteArray), (⟨#[47]⟩ : ByteArray), (⟨#[37]⟩ : ByteArray), (⟨#[94]⟩ : ByteArray), (⟨#[62]⟩ : ByteArray), (⟨#[60]⟩ : ByteArray)]
theorem lex_signs_walk  {I : Imm} {r : (List ByteArray)}  (hr : lex_signs = r) (L : Own) :
    CallsTo Tryd.prog 41 #[] I L (fun v I' L' => ∃ A0 c0 C0, OwnS Kd.str 9 I' A0 c0 r C0 ∧ v = .slice A0 r.length c0 ∧ C0 ++ L = L') := by
  replace hr : some (lex_signs) = some r := congrArg some hr
  unfold lex_signs at hr
  refine callsTo_body (N := 2) Tryd.func41 (by kernel_rfl) (by kernel_rfl) (by kernel_rfl) ?_
  refine gk_pick [] (K' := []) (by kernel_rfl) ?_
  refine gk_seq (by kernel_rfl) ?_
  refine gk_region (by kernel_rfl) ?_
  refine gl_pure 1 [] (K' := []) (by kernel_rfl) ?_
  refine gl_atE (by kernel_rfl) ?_
  refine ge_seq ?_
  refine gk_seq (by kernel_rfl) ?_
  refine gk_region (by kernel_rfl) ?_
  refine gl_buildSlice (T' := 40) (e := 9) (n := 1) (len := 22) (parts := #[(0, (.const (.string (⟨#[33, 61]⟩ : ByteArray)))), (1, (.const (.string (⟨#[61, 126]⟩ : ByteArray)))), (2, (.const (.string (⟨#[33, 126]⟩ : ByteArray)))), (3, (.const (.string (⟨#[61, 61]⟩ : ByteArray)))), (4, (.const (.string (⟨#[62, 61]⟩ : ByteArray)))), (5, (.const (.string (⟨#[60, 61]⟩ : ByteArray)))), (6, (.const (.string (⟨#[40]⟩ : ByteArray)))), (7, (.const (.string (⟨#[41]⟩ : ByteArray)))), (8, (.const (.string (⟨#[123]⟩ : ByteArray)))), (9, (.const (.string (⟨#[125]⟩ : ByteArray)))), (10, (.const (.string (⟨#[91]⟩ : ByteArray)))), (11, (.const (.string (⟨#[93]⟩ : ByteArray)))), (12, (.const (.string (⟨#[44]⟩ : ByteArray)))), (13, (.const (.string (⟨#[61]⟩ : ByteArray)))), (14, (.const (.string (⟨#[43]⟩ : ByteArray)))), (15, (.const (.string (⟨#[45]⟩ : ByteArray)))), (16, (.const (.string (⟨#[42]⟩ : ByteArray)))), (17, (.const (.string (⟨#[47]⟩ : ByteArray)))), (18, (.const (.string (⟨#[37]⟩ : ByteArray)))), (19, (.const (.string (⟨#[94]⟩ : ByteArray)))), (20, (.const (.string (⟨#[62]⟩ : ByteArray)))), (21, (.const (.string (⟨#[60]⟩ : ByteArray))))]) (l := [(0, .string (⟨#[33, 61]⟩ : ByteArray)), (1, .string (⟨#[61, 126]⟩ : ByteArray)), (2, .string (⟨#[33, 126]⟩ : ByteArray)), (3, .string (⟨#[61, 61]⟩ : ByteArray)), (4, .string (⟨#[62, 61]⟩ : ByteArray)), (5, .string (⟨#[60, 61]⟩ : ByteArray)), (6, .string (⟨#[40]⟩ : ByteArray)), (7, .string (⟨#[41]⟩ : ByteArray)), (8, .string (⟨#[123]⟩ : ByteArray)), (9, .string (⟨#[125]⟩ : ByteArray)), (10, .string (⟨#[91]⟩ : ByteArray)), (11, .string (⟨#[93]⟩ : ByteArray)), (12, .string (⟨#[44]⟩ : ByteArray)), (13, .string (⟨#[61]⟩ : ByteArray)), (14, .string (⟨#[43]⟩ : ByteArray)), (15, .string (⟨#[45]⟩ : ByteArray)), (16, .string (⟨#[42]⟩ : ByteArray)), (17, .string (⟨#[47]⟩ : ByteArray)), (18, .string (⟨#[37]⟩ : ByteArray)), (19, .string (⟨#[94]⟩ : ByteArray)), (20, .string (⟨#[62]⟩ : ByteArray)), (21, .string (⟨#[60]⟩ : ByteArray))]) (cs := #[.string (⟨#[33, 61]⟩ : ByteArray), .string (⟨#[61, 126]⟩ : ByteArray), .string (⟨#[33, 126]⟩ : ByteArray), .string (⟨#[61, 61]⟩ : ByteArray), .string (⟨#[62, 61]⟩ : ByteArray), .string (⟨#[60, 61]⟩ : ByteArray), .string (⟨#[40]⟩ : ByteArray), .string (⟨#[41]⟩ : ByteArray), .string (⟨#[123]⟩ : ByteArray), .string (⟨#[125]⟩ : ByteArray), .string (⟨#[91]⟩ : ByteArray), .string (⟨#[93]⟩ : ByteArray), .string (⟨#[44]⟩ : ByteArray), .string (⟨#[61]⟩ : ByteArray), .string (⟨#[43]⟩ : ByteArray), .string (⟨#[45]⟩ : ByteArray), .string (⟨#[42]⟩ : ByteArray), .string (⟨#[47]⟩ : ByteArray), .string (⟨#[37]⟩ : ByteArray), .string (⟨#[94]⟩ : ByteArray), .string (⟨#[62]⟩ : ByteArray), .string (⟨#[60]⟩ : ByteArray)]) (by kernel_rfl) (by kernel_rfl) (by kernel_rfl) (by kernel_rfl) (by kernel_rfl) (fun g1 => ?_)
  have hO2 : OwnS Kd.str 9 I (some ⟨g1, 0, none⟩) 22 [(⟨#[33, 61]⟩ : ByteArray), (⟨#[61, 126]⟩ : ByteArray), (⟨#[33, 126]⟩ : ByteArray), (⟨#[61, 61]⟩ : ByteArray), (⟨#[62, 61]⟩ : ByteArray), (⟨#[60, 61]⟩ : ByteArray), (⟨#[40]⟩ : ByteArray), (⟨#[41]⟩ : ByteArray), (⟨#[123]⟩ : ByteArray), (⟨#[125]⟩ : ByteArray), (⟨#[91]⟩ : ByteArray), (⟨#[93]⟩ : ByteArray), (⟨#[44]⟩ : ByteArray), (⟨#[61]⟩ : ByteArray), (⟨#[43]⟩ : ByteArray), (⟨#[45]⟩ : ByteArray), (⟨#[42]⟩ : ByteArray), (⟨#[47]⟩ : ByteArray), (⟨#[37]⟩ : ByteArray), (⟨#[94]⟩ : ByteArray), (⟨#[62]⟩ : ByteArray), (⟨#[60]⟩ : ByteArray)] [(g1, .cells #[.string (⟨#[33, 61]⟩ : ByteArray), .string (⟨#[61, 126]⟩ : ByteArray), .string (⟨#[33, 126]⟩ : ByteArray), .string (⟨#[61, 61]⟩ : ByteArray), .string (⟨#[62, 61]⟩ : ByteArray), .string (⟨#[60, 61]⟩ : ByteArray), .string (⟨#[40]⟩ : ByteArray), .string (⟨#[41]⟩ : ByteArray), .string (⟨#[123]⟩ : ByteArray), .string (⟨#[125]⟩ : ByteArray), .string (⟨#[91]⟩ : ByteArray), .string (⟨#[93]⟩ : ByteArray), .string (⟨#[44]⟩ : ByteArray), .string (⟨#[61]⟩ : ByteArray), .string (⟨#[43]⟩ : ByteArray), .string (⟨#[45]⟩ : ByteArray), .string (⟨#[42]⟩ : ByteArray), .string (⟨#[47]⟩ : ByteArray), .string (⟨#[37]⟩ : ByteArray), .string (⟨#[94]⟩ : ByteArray), .string (⟨#[62]⟩ : ByteArray), .string (⟨#[60]⟩ : ByteArray)] 9)] := OwnS.lit (row_cons (l := [.string (⟨#[33, 61]⟩ : ByteArray)]) rfl (row_cons (l := [.string (⟨#[61, 126]⟩ : ByteArray)]) rfl (row_cons (l := [.string (⟨#[33, 126]⟩ : ByteArray)]) rfl (row_cons (l := [.string (⟨#[61, 61]⟩ : ByteArray)]) rfl (row_cons (l := [.string (⟨#[62, 61]⟩ : ByteArray)]) rfl (row_cons (l := [.string (⟨#[60, 61]⟩ : ByteArray)]) rfl (row_cons (l := [.string (⟨#[40]⟩ : ByteArray)]) rfl (row_cons (l := [.string (⟨#[41]⟩ : ByteArray)]) rfl (row_cons (l := [.string (⟨#[123]⟩ : ByteArray)]) rfl (row_cons (l := [.string (⟨#[125]⟩ : ByteArray)]) rfl (row_cons (l := [.string (⟨#[91]⟩ : ByteArray)]) rfl (row_cons (l := [.string (⟨#[93]⟩ : ByteArray)]) rfl (row_cons (l := [.string (⟨#[44]⟩ : ByteArray)]) rfl (row_cons (l := [.string (⟨#[61]⟩ : ByteArray)]) rfl (row_cons (l := [.string (⟨#[43]⟩ : ByteArray)]) rfl (row_cons (l := [.string (⟨#[45]⟩ : ByteArray)]) rfl (row_cons (l := [.string (⟨#[42]⟩ : ByteArray)]) rfl (row_cons (l := [.string (⟨#[47]⟩ : ByteArray)]) rfl (row_cons (l := [.string (⟨#[37]⟩ : ByteArray)]) rfl (row_cons (l := [.string (⟨#[94]⟩ : ByteArray)]) rfl (row_cons (l := [.string (⟨#[62]⟩ : ByteArray)]) rfl (row_cons (l := [.string (⟨#[60]⟩ : ByteArray)]) rfl (row_nil _ _))))))))))))))))))))))) rfl rfl rfl
  refine gl_reord (D := [(g1, .cells #[.string (⟨#[33, 61]⟩ : ByteArray), .string (⟨#[61, 126]⟩ : ByteArray), .string (⟨#[33, 126]⟩ : ByteArray), .string (⟨#[61, 61]⟩ : ByteArray), .string (⟨#[62, 61]⟩ : ByteArray), .string (⟨#[60, 61]⟩ : ByteArray), .string (⟨#[40]⟩ : ByteArray), .string (⟨#[41]⟩ : ByteArray), .string (⟨#[123]⟩ : ByteArray), .string (⟨#[125]⟩ : ByteArray), .string (⟨#[91]⟩ : ByteArray), .string (⟨#[93]⟩ : ByteArray), .string (⟨#[44]⟩ : ByteArray), .string (⟨#[61]⟩ : ByteArray), .string (⟨#[43]⟩ : ByteArray), .string (⟨#[45]⟩ : ByteArray), .string (⟨#[42]⟩ : ByteArray), .string (⟨#[47]⟩ : ByteArray), .string (⟨#[37]⟩ : ByteArray), .string (⟨#[94]⟩ : ByteArray), .string (⟨#[62]⟩ : ByteArray), .string (⟨#[60]⟩ : ByteArray)] 9)] ++ L) (Reord.refl _) ?_
  refine gl_pure 1 [0] (K' := [(0, .slice (some ⟨g1, 0, none⟩) [(⟨#[33, 61]⟩ : ByteArray), (⟨#[61, 126]⟩ : ByteArray), (⟨#[33, 126]⟩ : ByteArray), (⟨#[61, 61]⟩ : ByteArray), (⟨#[62, 61]⟩ : ByteArray), (⟨#[60, 61]⟩ : ByteArray), (⟨#[40]⟩ : ByteArray), (⟨#[41]⟩ : ByteArray), (⟨#[123]⟩ : ByteArray), (⟨#[125]⟩ : ByteArray), (⟨#[91]⟩ : ByteArray), (⟨#[93]⟩ : ByteArray), (⟨#[44]⟩ : ByteArray), (⟨#[61]⟩ : ByteArray), (⟨#[43]⟩ : ByteArray), (⟨#[45]⟩ : ByteArray), (⟨#[42]⟩ : ByteArray), (⟨#[47]⟩ : ByteArray), (⟨#[37]⟩ : ByteArray), (⟨#[94]⟩ : ByteArray), (⟨#[62]⟩ : ByteArray), (⟨#[60]⟩ : ByteArray)].length 22)]) (by kernel_rfl) ?_
  refine gl_atE (by kernel_rfl) ?_
  refine ge_seq ?_
  refine gk_ret (by kernel_rfl) ?_
  obtain rfl := some_inj hr
  exact ge_result trivial (ResOk.tmp (by kernel_rfl) ResOk.nil) (Imm.refl _) ⟨(some ⟨g1, 0, none⟩), 22, [(g1, .cells #[.string (⟨#[33, 61]⟩ : ByteArray), .string (⟨#[61, 126]⟩ : ByteArray), .string (⟨#[33, 126]⟩ : ByteArray), .string (⟨#[61, 61]⟩ : ByteArray), .string (⟨#[62, 61]⟩ : ByteArray), .string (⟨#[60, 61]⟩ : ByteArray), .string (⟨#[40]⟩ : ByteArray), .string (⟨#[41]⟩ : ByteArray), .string (⟨#[123]⟩ : ByteArray), .string (⟨#[125]⟩ : ByteArray), .string (⟨#[91]⟩ : ByteArray), .string (⟨#[93]⟩ : ByteArray), .string (⟨#[44]⟩ : ByteArray), .string (⟨#[61]⟩ : ByteArray), .string (⟨#[43]⟩ : ByteArray), .string (⟨#[45]⟩ : ByteArray), .string (⟨#[42]⟩ : ByteArray), .string (⟨#[47]⟩ : ByteArray), .string (⟨#[37]⟩ : ByteArray), .string (⟨#[94]⟩ : ByteArray), .string (⟨#[62]⟩ : ByteArray), .string (⟨#[60]⟩ : ByteArray)] 9)], hO2, rfl, rfl⟩
/-! 21 lex_one  -/
noncomputable def lex_one_l89 (a0 : ByteArray) : Int → Option ((Int) ⊕ ((Unit) ⊕ (S27 × Int))) := fun s79 =>
  bif (decide (s79 < (lex_signs.length : Int))) then
  (Option.bind (ix lex_signs s79) fun (x92 : ByteArray) =>
    Option.bind (strings_HasPrefix a0 x92) fun (y101 : Bool) =>
    bif y101 then
    (some (Sum.inr (Sum.inr ((⟨5, x92, 0⟩ : S27), (x92.size : Int)))))
    else
    (some (Sum.inl (IntKind.wrap .i64 (s79 + 1)))))
  else
  (some (Sum.inr (Sum.inl ())))
noncomputable def lex_one (a0 : ByteArray) : Option (S27 × Int) :=
  Option.bind (bx a0 0) fun (c2 : Int) =>
  bif (lex_letter c2) then
  (Option.bind (lex_run a0 0 (fun x0 => some (lex_one_1 x0))) fun (y5 : Int) =>
    Option.bind (sx a0 0 y5) fun (s8 : ByteArray) =>
    some ((⟨1, s8, 0⟩ : S27), y5))
  else
  (bif ((lex_digit c2) || (c2 == 46)) then
    (Option.bind (lex_number a0) fun (y20 : Int) =>
      Option.bind (lex_span a0) fun (y22 : Int × Int) =>
      Option.bind (bif (decide (y22.1 > y20)) then
        (some (3, y22.1))
        else
        (some (2, y20))) fun (j24 : Int × Int) =>
      Option.bind (bif (decide (j24.2 < (a0.size : Int))) then
        (Option.bind (bx a0 j24.2) fun (c36 : Int) =>
          bif (lex_letter c36) then
          (some true)
          else
          (Option.bind (bx a0 j24.2) fun (c39 : Int) =>
            bif (lex_digit c39) then
            (some true)
            else
            (Option.bind (bx a0 j24.2) fun (c42 : Int) =>
              some (c42 == 46))))
        else
        (some false)) fun (j30 : Bool) =>
      bif j30 then
      (some ((⟨0, (⟨#[]⟩ : ByteArray), 0⟩ : S27), 0))
      else
      (Option.bind (sx a0 0 j24.2) fun (s50 : ByteArray) =>
        some ((⟨j24.1, s50, 0⟩ : S27), j24.2)))
    else
    (bif ((c2 == 34) || (c2 == 39)) then
      (Option.bind (lex_quoted a0) fun (y60 : ByteArray × Int) =>
        some ((⟨4, y60.1, 0⟩ : S27), y60.2))
      else
      (Option.bind (loopO (lex_one_l89 a0) 0) fun (r77 : (Unit) ⊕ (S27 × Int)) =>
        match r77 with
        | Sum.inl r85 => some ((⟨0, (⟨#[]⟩ : ByteArray), 0⟩ : S27), 0)
        | Sum.inr v112 => some v112)))
theorem lex_one_walk {a0 : ByteArray} {I : Imm} {r : S27 × Int} (hG : Gl I) (hr : lex_one a0 = some r) (L : Own) :
    CallsTo Tryd.prog 21 #[.string a0] I L (fun v I' L' => v = .tuple #[.agg #[.int .i64 r.1.f0, .string r.1.f1, .int .i64 r.1.f2], .int .i64 r.2] ∧ L = L') := by
  unfold lex_one at hr
  refine callsTo_body (N := 103) Tryd.func21 (by kernel_rfl) (by kernel_rfl) (by kernel_rfl) ?_
  refine gk_pick [0] (K' := [(0, .string a0)]) (by kernel_rfl) ?_
  refine gk_seq (by kernel_rfl) ?_
  refine gk_region (by kernel_rfl) ?_
  refine gl_alloc (T' := 28) (cs := #[.int .i64 0, .string (⟨#[]⟩ : ByteArray), .int .i64 0]) (by kernel_rfl) (by kernel_rfl) (by kernel_rfl) (fun g1 => ?_)
  refine gl_pure 1 [0, 2] (K' := [(0, .string a0), (2, .pointer (some ⟨g1, 0, none⟩))]) (by kernel_rfl) ?_
  refine gl_atE (by kernel_rfl) ?_
  refine ge_seq ?_
  refine gk_seq (by kernel_rfl) ?_
  refine gk_region (by kernel_rfl) ?_
  refine gl_pure 1 [0, 2, 14] (K' := [(0, .string a0), (2, .pointer (some ⟨g1, 0, none⟩)), (14, .string a0)]) (by kernel_rfl) ?_
  obtain ⟨c2, hx3, hr⟩ := bind_some hr
  refine gl_index' (T' := 9) (xs := (.tmp 14)) (xi := (.const (.int .i64 0))) (kd := .i64) hx3 (by kernel_rfl) (by kernel_rfl) (by kernel_rfl) (by kernel_rfl) (by kernel_rfl) ?_
  refine gl_pure 1 [0, 2, 4] (K' := [(0, .string a0), (2, .pointer (some ⟨g1, 0, none⟩)), (4, .int .u8 c2)]) (by kernel_rfl) ?_
  refine gl_atE (by kernel_rfl) ?_
  refine ge_seq ?_
  refine gk_seq (by kernel_rfl) ?_
  refine gk_block (by kernel_rfl) ?_
  refine gk_seq (by kernel_rfl) ?_
  refine gk_region (by kernel_rfl) ?_
  refine gl_pure 1 [0, 2, 4, 17] (K' := [(0, .string a0), (2, .pointer (some ⟨g1, 0, none⟩)), (4, .int .u8 c2), (17, .int .u8 c2)]) (by kernel_rfl) ?_
  refine gl_callQ (by kernel_rfl) (lex_letter_walk (r := (lex_letter c2))  rfl _) ?_
  refine gl_pure 1 [0, 2, 4, 16] (K' := [(0, .string a0), (2, .pointer (some ⟨g1, 0, none⟩)), (4, .int .u8 c2), (16, .bool (lex_letter c2))]) (by kernel_rfl) ?_
  refine gl_atE (by kernel_rfl) ?_
  refine ge_seq ?_
  refine gk_cond (b := (lex_letter c2)) (by kernel_rfl) (by kernel_rfl) (fun hc4 => ?_) (fun hc4 => ?_)
  · have hr := cond_t hc4 hr
    refine gk_seq (by kernel_rfl) ?_
    refine gk_region (by kernel_rfl) ?_
    refine gl_pure 1 [0, 2, 19] (K' := [(0, .string a0), (2, .pointer (some ⟨g1, 0, none⟩)), (19, .string a0)]) (by kernel_rfl) ?_
    obtain ⟨y5, hx6, hr⟩ := bind_some hr
    refine gl_callQ (by kernel_rfl) (lex_run_walk (r := y5) lex_one_1_impl46 hx6 _) ?_
    refine gl_pure 1 [0, 2, 5] (K' := [(0, .string a0), (2, .pointer (some ⟨g1, 0, none⟩)), (5, .int .i64 y5)]) (by kernel_rfl) ?_
    refine gl_atE (by kernel_rfl) ?_
    refine ge_seq ?_
    refine gk_seq (by kernel_rfl) ?_
    refine gk_region (by kernel_rfl) ?_
    refine gl_pure 2 [2, 5, 21, 22] (K' := [(2, .pointer (some ⟨g1, 0, none⟩)), (5, .int .i64 y5), (21, .string a0), (22, .int .i64 y5)]) (by kernel_rfl) ?_
    obtain ⟨s8, hx7, hr⟩ := bind_some hr
    refine gl_slice' (T' := 9) (xs := (.tmp 21)) (lo := none) (hi := (some (.tmp 22))) hx7 (by kernel_rfl) (by kernel_rfl) (by kernel_rfl) (by kernel_rfl) (by kernel_rfl) (by kernel_rfl) ?_
    refine gl_pure 2 [2, 24, 25] (K' := [(2, .pointer (some ⟨g1, 0, none⟩)), (24, .agg #[.int .i64 1, .string s8, .int .i64 0]), (25, .int .i64 y5)]) (by kernel_rfl) ?_
    refine gl_storeB (T' := 28) (xp := (.tmp 2)) (xv := (.tmp 24)) (v := .agg #[.int .i64 1, .string s8, .int .i64 0]) (g := g1) (off := 0) (cs := #[.int .i64 0, .string (⟨#[]⟩ : ByteArray), .int .i64 0]) (cs' := #[.int .i64 1, .string s8, .int .i64 0]) (by kernel_rfl) (by kernel_rfl) (by kernel_rfl) (by kernel_rfl) (by kernel_rfl) (Upd.set _ _ _ _) ?_ (by kernel_rfl)
    refine gl_pure 1 [2, 3] (K' := [(2, .pointer (some ⟨g1, 0, none⟩)), (3, .int .i64 y5)]) (by kernel_rfl) ?_
    refine gl_atE (by kernel_rfl) ?_
    refine ge_seq ?_
    refine gk_rest (Tk.step (Upd.rm1 _ _) (Tk.nil _)) (fun J9 hJ10 hC11 => ?_)
    have hf12 := hC11.left.blk
    refine gk_ret (by kernel_rfl) ?_
    refine ge_block_ret ?_
    refine ge_seq_ret ?_
    obtain rfl := some_inj hr
    exact ge_result trivial (ResOk.cell (v := .agg #[.int .i64 1, .string s8, .int .i64 0]) (by kernel_rfl) (loadR_agg (cs := [.int .i64 1, .string s8, .int .i64 0]) (by kernel_rfl) (RunAt.take hf12 3)) (ResOk.tmp (by kernel_rfl) ResOk.nil)) hJ10 ⟨rfl, rfl⟩
  · have hr := cond_f hc4 hr
    refine gk_seq (by kernel_rfl) ?_
    obtain ⟨b15, hb16⟩ : ∃ z, z = ((lex_digit c2) || (c2 == 46)) := ⟨_, rfl⟩
    refine gk_join (fun t I' L' => I ≤ I' ∧ (g1, .cells #[.int .i64 0, .string (⟨#[]⟩ : ByteArray), .int .i64 0] 28) :: L = L' ∧ Knows 103 [(0, .string a0), (2, .pointer (some ⟨g1, 0, none⟩)), (4, .int .u8 c2), (26, .bool b15)] t) ?_ ?_
    · refine gk_region (by kernel_rfl) ?_
      refine gl_pure 1 [0, 2, 4, 27] (K' := [(0, .string a0), (2, .pointer (some ⟨g1, 0, none⟩)), (4, .int .u8 c2), (27, .int .u8 c2)]) (by kernel_rfl) ?_
      refine gl_callQ (by kernel_rfl) (lex_digit_walk (r := (lex_digit c2))  rfl _) ?_
      refine gl_pure 1 [0, 2, 4, 29] (K' := [(0, .string a0), (2, .pointer (some ⟨g1, 0, none⟩)), (4, .int .u8 c2), (29, .bool (lex_digit c2))]) (by kernel_rfl) ?_
      refine gl_case 29 (b := (lex_digit c2)) (by kernel_rfl) (fun hc18 => ?_) (fun hc18 => ?_)
      · refine gl_pure 4 [0, 2, 4, 26] (K' := [(0, .string a0), (2, .pointer (some ⟨g1, 0, none⟩)), (4, .int .u8 c2), (26, .bool true)]) (by kernel_rfl) ?_
        refine gl_atE (by kernel_rfl) ?_
        exact ge_mid fun t ht => ⟨(Imm.refl _), rfl, by rw [(show b15 = true from hb16.trans (by rw [hc18]; try rfl))]; exact ht.pick (l := [0, 2, 4, 26]) (by kernel_rfl)⟩
      · refine gl_pure 4 [0, 2, 4, 26] (K' := [(0, .string a0), (2, .pointer (some ⟨g1, 0, none⟩)), (4, .int .u8 c2), (26, .bool (c2 == 46))]) (by kernel_rfl) ?_
        refine gl_atE (by kernel_rfl) ?_
        exact ge_mid fun t ht => ⟨(Imm.refl _), rfl, by rw [(show b15 = (c2 == 46) from hb16.trans (by rw [hc18]; try rfl))]; exact ht.pick (l := [0, 2, 4, 26]) (by kernel_rfl)⟩
    · rintro t I17 L' ⟨hI13, rfl, hK14⟩
      subst hb16
      refine ge_at hK14 ?_
      refine ge_seq ?_
      refine gk_cond (b := ((lex_digit c2) || (c2 == 46))) (by kernel_rfl) (by kernel_rfl) (fun hc19 => ?_) (fun hc19 => ?_)
      · have hr := cond_t hc19 hr
        refine gk_seq (by kernel_rfl) ?_
        refine gk_region (by kernel_rfl) ?_
        refine gl_pure 1 [0, 2, 33] (K' := [(0, .string a0), (2, .pointer (some ⟨g1, 0, none⟩)), (33, .string a0)]) (by kernel_rfl) ?_
        obtain ⟨y20, hx21, hr⟩ := bind_some hr
        refine gl_callQ (by kernel_rfl) (lex_number_walk (r := y20)  hx21 _) ?_
        refine gl_pure 2 [0, 2, 6, 7] (K' := [(0, .string a0), (2, .pointer (some ⟨g1, 0, none⟩)), (6, .int .i64 2), (7, .int .i64 y20)]) (by kernel_rfl) ?_
        refine gl_atE (by kernel_rfl) ?_
        refine ge_seq ?_
        refine gk_seq (by kernel_rfl) ?_
        refine gk_seq (by kernel_rfl) ?_
        refine gk_region (by kernel_rfl) ?_
        refine gl_pure 1 [0, 2, 6, 7, 36] (K' := [(0, .string a0), (2, .pointer (some ⟨g1, 0, none⟩)), (6, .int .i64 2), (7, .int .i64 y20), (36, .string a0)]) (by kernel_rfl) ?_
        obtain ⟨y22, hx23, hr⟩ := bind_some hr
        refine gl_callQ (by kernel_rfl) (lex_span_walk (r := y22)  hx23 _) ?_
        refine gl_pure 5 [0, 2, 6, 7, 8] (K' := [(0, .string a0), (2, .pointer (some ⟨g1, 0, none⟩)), (6, .int .i64 2), (7, .int .i64 y20), (8, .int .i64 y22.1)]) (by kernel_rfl) ?_
        refine gl_atE (by kernel_rfl) ?_
        refine ge_seq ?_
        refine gk_seq (by kernel_rfl) ?_
        refine gk_region (by kernel_rfl) ?_
        refine gl_pure 3 [0, 2, 6, 7, 8, 42] (K' := [(0, .string a0), (2, .pointer (some ⟨g1, 0, none⟩)), (6, .int .i64 2), (7, .int .i64 y20), (8, .int .i64 y22.1), (42, .bool (decide (y22.1 > y20)))]) (by kernel_rfl) ?_
        refine gl_atE (by kernel_rfl) ?_
        refine ge_seq ?_
        obtain ⟨j24, hj25, hr⟩ := bind_some hr
        refine gk_join (fun t I' L' => I17 ≤ I' ∧ (g1, .cells #[.int .i64 0, .string (⟨#[]⟩ : ByteArray), .int .i64 0] 28) :: L = L' ∧ Knows 103 [(0, .string a0), (2, .pointer (some ⟨g1, 0, none⟩)), (6, .int .i64 j24.1), (7, .int .i64 j24.2)] t) ?_ ?_
        · refine gk_cond (b := (decide (y22.1 > y20))) (by kernel_rfl) (by kernel_rfl) (fun hc29 => ?_) (fun hc29 => ?_)
          · have hj25 := cond_t hc29 hj25
            refine gk_region (by kernel_rfl) ?_
            refine gl_pure 3 [0, 2, 6, 7] (K' := [(0, .string a0), (2, .pointer (some ⟨g1, 0, none⟩)), (6, .int .i64 3), (7, .int .i64 y22.1)]) (by kernel_rfl) ?_
            refine gl_atE (by kernel_rfl) ?_
            obtain rfl := some_inj hj25
            exact ge_mid fun t ht => ⟨(Imm.refl _), rfl, ht.pick (l := [0, 2, 6, 7]) (by kernel_rfl)⟩
          · have hj25 := cond_f hc29 hj25
            refine gk_skip (by kernel_rfl) ?_
            obtain rfl := some_inj hj25
            exact ge_mid fun t ht => ⟨(Imm.refl _), rfl, ht.pick (l := [0, 2, 6, 7]) (by kernel_rfl)⟩
        · rintro t I28 L' ⟨hI26, rfl, hK27⟩
          refine ge_at hK27 ?_
          refine ge_seq ?_
          refine gk_seq (by kernel_rfl) ?_
          refine gk_seq (by kernel_rfl) ?_
          obtain ⟨j30, hj31, hr⟩ := bind_some hr
          refine gk_join (fun t I' L' => I28 ≤ I' ∧ (g1, .cells #[.int .i64 0, .string (⟨#[]⟩ : ByteArray), .int .i64 0] 28) :: L = L' ∧ Knows 103 [(0, .string a0), (2, .pointer (some ⟨g1, 0, none⟩)), (6, .int .i64 j24.1), (7, .int .i64 j24.2), (65, .bool j30)] t) ?_ ?_
          · refine gk_region (by kernel_rfl) ?_
            refine gl_pure 5 [0, 2, 6, 7, 48] (K' := [(0, .string a0), (2, .pointer (some ⟨g1, 0, none⟩)), (6, .int .i64 j24.1), (7, .int .i64 j24.2), (48, .bool (decide (j24.2 < (a0.size : Int))))]) (by kernel_rfl) ?_
            refine gl_case 48 (b := (decide (j24.2 < (a0.size : Int)))) (by kernel_rfl) (fun hc35 => ?_) (fun hc35 => ?_)
            · have hj31 := cond_t hc35 hj31
              refine gl_pure 2 [0, 2, 6, 7, 48, 49, 50] (K' := [(0, .string a0), (2, .pointer (some ⟨g1, 0, none⟩)), (6, .int .i64 j24.1), (7, .int .i64 j24.2), (48, .bool true), (49, .string a0), (50, .int .i64 j24.2)]) (by kernel_rfl) ?_
              obtain ⟨c36, hx37, hj31⟩ := bind_some hj31
              refine gl_index' (T' := 9) (xs := (.tmp 49)) (xi := (.tmp 50)) (kd := .i64) hx37 (by kernel_rfl) (by kernel_rfl) (by kernel_rfl) (by kernel_rfl) (by kernel_rfl) ?_
              refine gl_callQ (by kernel_rfl) (lex_letter_walk (r := (lex_letter c36))  rfl _) ?_
              refine gl_pure 1 [0, 2, 6, 7, 48, 53] (K' := [(0, .string a0), (2, .pointer (some ⟨g1, 0, none⟩)), (6, .int .i64 j24.1), (7, .int .i64 j24.2), (48, .bool true), (53, .bool (lex_letter c36))]) (by kernel_rfl) ?_
              refine gl_case 53 (b := (lex_letter c36)) (by kernel_rfl) (fun hc38 => ?_) (fun hc38 => ?_)
              · have hj31 := cond_t hc38 hj31
                refine gl_pure 12 [0, 2, 6, 7, 65] (K' := [(0, .string a0), (2, .pointer (some ⟨g1, 0, none⟩)), (6, .int .i64 j24.1), (7, .int .i64 j24.2), (65, .bool true)]) (by kernel_rfl) ?_
                refine gl_atE (by kernel_rfl) ?_
                obtain rfl := some_inj hj31
                exact ge_mid fun t ht => ⟨(Imm.refl _), rfl, ht.pick (l := [0, 2, 6, 7, 65]) (by kernel_rfl)⟩
              · have hj31 := cond_f hc38 hj31
                refine gl_pure 2 [0, 2, 6, 7, 48, 53, 54, 55] (K' := [(0, .string a0), (2, .pointer (some ⟨g1, 0, none⟩)), (6, .int .i64 j24.1), (7, .int .i64 j24.2), (48, .bool true), (53, .bool false), (54, .string a0), (55, .int .i64 j24.2)]) (by kernel_rfl) ?_
                obtain ⟨c39, hx40, hj31⟩ := bind_some hj31
                refine gl_index' (T' := 9) (xs := (.tmp 54)) (xi := (.tmp 55)) (kd := .i64) hx40 (by kernel_rfl) (by kernel_rfl) (by kernel_rfl) (by kernel_rfl) (by kernel_rfl) ?_
                refine gl_callQ (by kernel_rfl) (lex_digit_walk (r := (lex_digit c39))  rfl _) ?_
                refine gl_pure 2 [0, 2, 6, 7, 48, 59] (K' := [(0, .string a0), (2, .pointer (some ⟨g1, 0, none⟩)), (6, .int .i64 j24.1), (7, .int .i64 j24.2), (48, .bool true), (59, .bool (lex_digit c39))]) (by kernel_rfl) ?_
                refine gl_case 59 (b := (lex_digit c39)) (by kernel_rfl) (fun hc41 => ?_) (fun hc41 => ?_)
                · have hj31 := cond_t hc41 hj31
                  refine gl_pure 6 [0, 2, 6, 7, 65] (K' := [(0, .string a0), (2, .pointer (some ⟨g1, 0, none⟩)), (6, .int .i64 j24.1), (7, .int .i64 j24.2), (65, .bool true)]) (by kernel_rfl) ?_
                  refine gl_atE (by kernel_rfl) ?_
                  obtain rfl := some_inj hj31
                  exact ge_mid fun t ht => ⟨(Imm.refl _), rfl, ht.pick (l := [0, 2, 6, 7, 65]) (by kernel_rfl)⟩
                · have hj31 := cond_f hc41 hj31
                  refine gl_pure 2 [0, 2, 6, 7, 48, 59, 60, 61] (K' := [(0, .string a0), (2, .pointer (some ⟨g1, 0, none⟩)), (6, .int .i64 j24.1), (7, .int .i64 j24.2), (48, .bool true), (59, .bool false), (60, .string a0), (61, .int .i64 j24.2)]) (by kernel_rfl) ?_
                  obtain ⟨c42, hx43, hj31⟩ := bind_some hj31
                  refine gl_index' (T' := 9) (xs := (.tmp 60)) (xi := (.tmp 61)) (kd := .i64) hx43 (by kernel_rfl) (by kernel_rfl) (by kernel_rfl) (by kernel_rfl) (by kernel_rfl) ?_
                  refine gl_pure 3 [0, 2, 6, 7, 65] (K' := [(0, .string a0), (2, .pointer (some ⟨g1, 0, none⟩)), (6, .int .i64 j24.1), (7, .int .i64 j24.2), (65, .bool (c42 == 46))]) (by kernel_rfl) ?_
                  refine gl_atE (by kernel_rfl) ?_
                  obtain rfl := some_inj hj31
                  exact ge_mid fun t ht => ⟨(Imm.refl _), rfl, ht.pick (l := [0, 2, 6, 7, 65]) (by kernel_rfl)⟩
            · have hj31 := cond_f hc35 hj31
              refine gl_pure 17 [0, 2, 6, 7, 65] (K' := [(0, .string a0), (2, .pointer (some ⟨g1, 0, none⟩)), (6, .int .i64 j24.1), (7, .int .i64 j24.2), (65, .bool false)]) (by kernel_rfl) ?_
              refine gl_atE (by kernel_rfl) ?_
              obtain rfl := some_inj hj31
              exact ge_mid fun t ht => ⟨(Imm.refl _), rfl, ht.pick (l := [0, 2, 6, 7, 65]) (by kernel_rfl)⟩
          · rintro t I34 L' ⟨hI32, rfl, hK33⟩
            refine ge_at hK33 ?_
            refine ge_seq ?_
            refine gk_cond (b := j30) (by kernel_rfl) (by kernel_rfl) (fun hc44 => ?_) (fun hc44 => ?_)
            · have hr := cond_t hc44 hr
              refine gk_seq (by kernel_rfl) ?_
              refine gk_region (by kernel_rfl) ?_
              refine gl_pure 1 [2, 66] (K' := [(2, .pointer (some ⟨g1, 0, none⟩)), (66, .agg #[.int .i64 0, .string (⟨#[]⟩ : ByteArray), .int .i64 0])]) (by kernel_rfl) ?_
              refine gl_storeB (T' := 28) (xp := (.tmp 2)) (xv := (.tmp 66)) (v := .agg #[.int .i64 0, .string (⟨#[]⟩ : ByteArray), .int .i64 0]) (g := g1) (off := 0) (cs := #[.int .i64 0, .string (⟨#[]⟩ : ByteArray), .int .i64 0]) (cs' := #[.int .i64 0, .string (⟨#[]⟩ : ByteArray), .int .i64 0]) (by kernel_rfl) (by kernel_rfl) (by kernel_rfl) (by kernel_rfl) (by kernel_rfl) (Upd.set _ _ _ _) ?_ (by kernel_rfl)
              refine gl_pure 1 [2, 3] (K' := [(2, .pointer (some ⟨g1, 0, none⟩)), (3, .int .i64 0)]) (by kernel_rfl) ?_
              refine gl_atE (by kernel_rfl) ?_
              refine ge_seq ?_
              refine gk_rest (Tk.step (Upd.rm1 _ _) (Tk.nil _)) (fun J45 hJ46 hC47 => ?_)
              have hf48 := hC47.left.blk
              refine gk_ret (by kernel_rfl) ?_
              refine ge_seq_ret ?_
              refine ge_block_ret ?_
              refine ge_seq_ret ?_
              obtain rfl := some_inj hr
              exact ge_result trivial (ResOk.cell (v := .agg #[.int .i64 0, .string (⟨#[]⟩ : ByteArray), .int .i64 0]) (by kernel_rfl) (loadR_agg (cs := [.int .i64 0, .string (⟨#[]⟩ : ByteArray), .int .i64 0]) (by kernel_rfl) (RunAt.take hf48 3)) (ResOk.tmp (by kernel_rfl) ResOk.nil)) (Imm.trans (Imm.trans (Imm.trans hI13 hI26) hI32) hJ46) ⟨rfl, rfl⟩
            · have hr := cond_f hc44 hr
              refine gk_skip (by kernel_rfl) ?_
              refine ge_seq ?_
              refine gk_seq (by kernel_rfl) ?_
              refine gk_region (by kernel_rfl) ?_
              refine gl_pure 3 [2, 7, 67, 68, 69] (K' := [(2, .pointer (some ⟨g1, 0, none⟩)), (7, .int .i64 j24.2), (67, .int .i64 j24.1), (68, .string a0), (69, .int .i64 j24.2)]) (by kernel_rfl) ?_
              obtain ⟨s50, hx49, hr⟩ := bind_some hr
              refine gl_slice' (T' := 9) (xs := (.tmp 68)) (lo := none) (hi := (some (.tmp 69))) hx49 (by kernel_rfl) (by kernel_rfl) (by kernel_rfl) (by kernel_rfl) (by kernel_rfl) (by kernel_rfl) ?_
              refine gl_pure 2 [2, 71, 72] (K' := [(2, .pointer (some ⟨g1, 0, none⟩)), (71, .agg #[.int .i64 j24.1, .string s50, .int .i64 0]), (72, .int .i64 j24.2)]) (by kernel_rfl) ?_
              refine gl_storeB (T' := 28) (xp := (.tmp 2)) (xv := (.tmp 71)) (v := .agg #[.int .i64 j24.1, .string s50, .int .i64 0]) (g := g1) (off := 0) (cs := #[.int .i64 0, .string (⟨#[]⟩ : ByteArray), .int .i64 0]) (cs' := #[.int .i64 j24.1, .string s50, .int .i64 0]) (by kernel_rfl) (by kernel_rfl) (by kernel_rfl) (by kernel_rfl) (by kernel_rfl) (Upd.set _ _ _ _) ?_ (by kernel_rfl)
              refine gl_pure 1 [2, 3] (K' := [(2, .pointer (some ⟨g1, 0, none⟩)), (3, .int .i64 j24.2)]) (by kernel_rfl) ?_
              refine gl_atE (by kernel_rfl) ?_
              refine ge_seq ?_
              refine gk_rest (Tk.step (Upd.rm1 _ _) (Tk.nil _)) (fun J51 hJ52 hC53 => ?_)
              have hf54 := hC53.left.blk
              refine gk_ret (by kernel_rfl) ?_
              refine ge_block_ret ?_
              refine ge_seq_ret ?_
              obtain rfl := some_inj hr
              exact ge_result trivial (ResOk.cell (v := .agg #[.int .i64 j24.1, .string s50, .int .i64 0]) (by kernel_rfl) (loadR_agg (cs := [.int .i64 j24.1, .string s50, .int .i64 0]) (by kernel_rfl) (RunAt.take hf54 3)) (ResOk.tmp (by kernel_rfl) ResOk.nil)) (Imm.trans (Imm.trans (Imm.trans hI13 hI26) hI32) hJ52) ⟨rfl, rfl⟩
      · have hr := cond_f hc19 hr
        refine gk_seq (by kernel_rfl) ?_
        refine gk_join (fun t I' L' => I17 ≤ I' ∧ (g1, .cells #[.int .i64 0, .string (⟨#[]⟩ : ByteArray), .int .i64 0] 28) :: L = L' ∧ Knows 103 [(0, .string a0), (2, .pointer (some ⟨g1, 0, none⟩)), (73, .bool ((c2 == 34) || (c2 == 39)))] t) ?_ ?_
        · refine gk_region (by kernel_rfl) ?_
          refine gl_pure 3 [0, 2, 4, 76] (K' := [(0, .string a0), (2, .pointer (some ⟨g1, 0, none⟩)), (4, .int .u8 c2), (76, .bool (c2 == 34))]) (by kernel_rfl) ?_
          refine gl_case 76 (b := (c2 == 34)) (by kernel_rfl) (fun hc58 => ?_) (fun hc58 => ?_)
          · refine gl_pure 4 [0, 2, 73] (K' := [(0, .string a0), (2, .pointer (some ⟨g1, 0, none⟩)), (73, .bool true)]) (by kernel_rfl) ?_
            refine gl_atE (by kernel_rfl) ?_
            exact ge_mid fun t ht => ⟨(Imm.refl _), rfl, by rw [(show ((c2 == 34) || (c2 == 39)) = true from by rw [hc58]; try rfl)]; exact ht.pick (l := [0, 2, 73]) (by kernel_rfl)⟩
          · refine gl_pure 4 [0, 2, 73] (K' := [(0, .string a0), (2, .pointer (some ⟨g1, 0, none⟩)), (73, .bool (c2 == 39))]) (by kernel_rfl) ?_
            refine gl_atE (by kernel_rfl) ?_
            exact ge_mid fun t ht => ⟨(Imm.refl _), rfl, by rw [(show ((c2 == 34) || (c2 == 39)) = (c2 == 39) from by rw [hc58]; try rfl)]; exact ht.pick (l := [0, 2, 73]) (by kernel_rfl)⟩
        · rintro t I57 L' ⟨hI55, rfl, hK56⟩
          refine ge_at hK56 ?_
          refine ge_seq ?_
          refine gk_cond (b := ((c2 == 34) || (c2 == 39))) (by kernel_rfl) (by kernel_rfl) (fun hc59 => ?_) (fun hc59 => ?_)
          · have hr := cond_t hc59 hr
            refine gk_seq (by kernel_rfl) ?_
            refine gk_region (by kernel_rfl) ?_
            refine gl_pure 1 [2, 81] (K' := [(2, .pointer (some ⟨g1, 0, none⟩)), (81, .string a0)]) (by kernel_rfl) ?_
            obtain ⟨y60, hx61, hr⟩ := bind_some hr
            refine gl_callQ (by kernel_rfl) (lex_quoted_walk (r := y60) (hG.mono (Imm.trans hI13 hI55)) hx61 _) ?_
            refine gl_pure 5 [2, 10, 11] (K' := [(2, .pointer (some ⟨g1, 0, none⟩)), (10, .string y60.1), (11, .int .i64 y60.2)]) (by kernel_rfl) ?_
            refine gl_atE (by kernel_rfl) ?_
            refine ge_seq ?_
            refine gk_seq (by kernel_rfl) ?_
            refine gk_region (by kernel_rfl) ?_
            refine gl_pure 3 [2, 86, 87] (K' := [(2, .pointer (some ⟨g1, 0, none⟩)), (86, .agg #[.int .i64 4, .string y60.1, .int .i64 0]), (87, .int .i64 y60.2)]) (by kernel_rfl) ?_
            refine gl_storeB (T' := 28) (xp := (.tmp 2)) (xv := (.tmp 86)) (v := .agg #[.int .i64 4, .string y60.1, .int .i64 0]) (g := g1) (off := 0) (cs := #[.int .i64 0, .string (⟨#[]⟩ : ByteArray), .int .i64 0]) (cs' := #[.int .i64 4, .string y60.1, .int .i64 0]) (by kernel_rfl) (by kernel_rfl) (by kernel_rfl) (by kernel_rfl) (by kernel_rfl) (Upd.set _ _ _ _) ?_ (by kernel_rfl)
            refine gl_pure 1 [2, 3] (K' := [(2, .pointer (some ⟨g1, 0, none⟩)), (3, .int .i64 y60.2)]) (by kernel_rfl) ?_
            refine gl_atE (by kernel_rfl) ?_
            refine ge_seq ?_
            refine gk_rest (Tk.step (Upd.rm1 _ _) (Tk.nil _)) (fun J62 hJ63 hC64 => ?_)
            have hf65 := hC64.left.blk
            refine gk_ret (by kernel_rfl) ?_
            refine ge_block_ret ?_
            refine ge_seq_ret ?_
            obtain rfl := some_inj hr
            exact ge_result trivial (ResOk.cell (v := .agg #[.int .i64 4, .string y60.1, .int .i64 0]) (by kernel_rfl) (loadR_agg (cs := [.int .i64 4, .string y60.1, .int .i64 0]) (by kernel_rfl) (RunAt.take hf65 3)) (ResOk.tmp (by kernel_rfl) ResOk.nil)) (Imm.trans (Imm.trans hI13 hI55) hJ63) ⟨rfl, rfl⟩
          · have hr := cond_f hc59 hr
            refine gk_skip (by kernel_rfl) ?_
            refine ge_block_normal ?_
            refine ge_seq ?_
            refine gk_seq (by kernel_rfl) ?_
            refine gk_seq (by kernel_rfl) ?_
            refine gk_region (by kernel_rfl) ?_
            refine gl_call (by kernel_rfl) (lex_signs_walk (r := lex_signs)  rfl _) ?_
            rintro v I66 L67 hI68 ⟨A69, c70, C71, hO72, rfl, rfl⟩
            refine gl_pure 2 [0, 2, 88, 89, 90] (K' := [(0, .string a0), (2, .pointer (some ⟨g1, 0, none⟩)), (88, .slice A69 lex_signs.length c70), (89, .int .i64 (lex_signs.length : Int)), (90, .int .i64 0)]) (by kernel_rfl) ?_
            refine gl_atE (by kernel_rfl) ?_
            refine ge_seq ?_
            obtain ⟨r77, hl78, hr⟩ := bind_some hr
            refine gk_join (fun t I' L' => ∃ r85, r77 = Sum.inl r85 ∧ I66 ≤ I' ∧ (g1, .cells #[.int .i64 0, .string (⟨#[]⟩ : ByteArray), .int .i64 0] 28) :: L = L' ∧ Knows 103 [(2, .pointer (some ⟨g1, 0, none⟩))] t) ?_ ?_
            · refine gk_block (by kernel_rfl) ?_
              refine gk_pick [0, 2, 88, 89, 90] (K' := [(0, .string a0), (2, .pointer (some ⟨g1, 0, none⟩)), (88, .slice A69 lex_signs.length c70), (89, .int .i64 (lex_signs.length : Int)), (90, .int .i64 0)]) (by kernel_rfl) ?_
              intro t hK
              refine gc_loop (lex_one_l89 a0) (fun s79 t I' L' => I66 ≤ I' ∧ C71 ++ ((g1, .cells #[.int .i64 0, .string (⟨#[]⟩ : ByteArray), .int .i64 0] 28) :: L) = L' ∧ Knows 103 [(0, .string a0), (2, .pointer (some ⟨g1, 0, none⟩)), (88, .slice A69 lex_signs.length c70), (89, .int .i64 (lex_signs.length : Int)), (90, .int .i64 s79)] t) (by kernel_rfl) ?_ hl78 ⟨(Imm.refl _), rfl, hK⟩
              rintro s79 o80 t I84 L' hb81 ⟨hI82, rfl, hK83⟩
              unfold lex_one_l89 at hb81
              refine gk_at hK83 ?_
              refine gk_seq (by kernel_rfl) ?_
              refine gk_region (by kernel_rfl) ?_
              refine gl_pure 1 [0, 2, 88, 89, 90, 91] (K' := [(0, .string a0), (2, .pointer (some ⟨g1, 0, none⟩)), (88, .slice A69 lex_signs.length c70), (89, .int .i64 (lex_signs.length : Int)), (90, .int .i64 s79), (91, .bool (decide (s79 < (lex_signs.length : Int))))]) (by kernel_rfl) ?_
              refine gl_atE (by kernel_rfl) ?_
              refine ge_seq ?_
              refine gk_seq (by kernel_rfl) ?_
              refine gk_cond (b := (decide (s79 < (lex_signs.length : Int)))) (by kernel_rfl) (by kernel_rfl) (fun hc91 => ?_) (fun hc91 => ?_)
              · have hb81 := cond_t hc91 hb81
                refine gk_skip (by kernel_rfl) ?_
                refine ge_seq ?_
                refine gk_seq (by kernel_rfl) ?_
                refine gk_block (by kernel_rfl) ?_
                refine gk_seq (by kernel_rfl) ?_
                refine gk_region (by kernel_rfl) ?_
                obtain ⟨x92, hx93, hb81⟩ := bind_some hb81
                refine gl_indexAddrW (d := Kd.str) (c := c70) (T' := 40) (e := 9) (xs := (.tmp 88)) (xi := (.tmp 90)) (kd := .i64) hx93 (hO72.mono hI82) (Upd.selfC _ _) (by kernel_rfl) (by kernel_rfl) (by kernel_rfl) (by kernel_rfl) (by kernel_rfl) (fun p94 cs95 hR96 hA97 hp100 => ?_)
                obtain rfl := hR96
                refine gl_loadO (T' := 9) (xp := (.tmp 92)) (p := p94) (c := .string x92) (n := 1) (by kernel_rfl) (by kernel_rfl) (by kernel_rfl) (by kernel_rfl) hA97 ?_
                refine gl_pure 1 [0, 2, 13, 88, 89, 90] (K' := [(0, .string a0), (2, .pointer (some ⟨g1, 0, none⟩)), (13, .string x92), (88, .slice A69 lex_signs.length c70), (89, .int .i64 (lex_signs.length : Int)), (90, .int .i64 s79)]) (by kernel_rfl) ?_
                refine gl_atE (by kernel_rfl) ?_
                refine ge_seq ?_
                refine gk_seq (by kernel_rfl) ?_
                refine gk_region (by kernel_rfl) ?_
                refine gl_pure 2 [0, 2, 13, 88, 89, 90, 94, 95] (K' := [(0, .string a0), (2, .pointer (some ⟨g1, 0, none⟩)), (13, .string x92), (88, .slice A69 lex_signs.length c70), (89, .int .i64 (lex_signs.length : Int)), (90, .int .i64 s79), (94, .string a0), (95, .string x92)]) (by kernel_rfl) ?_
                obtain ⟨y101, hx102, hb81⟩ := bind_some hb81
                refine gl_callQ (by kernel_rfl) (strings_HasPrefix_walk (r := y101)  hx102 _) ?_
                refine gl_atE (by kernel_rfl) ?_
                refine ge_seq ?_
                refine gk_cond (b := y101) (by kernel_rfl) (by kernel_rfl) (fun hc103 => ?_) (fun hc103 => ?_)
                · have hb81 := cond_t hc103 hb81
                  refine gk_seq (by kernel_rfl) ?_
                  refine gk_region (by kernel_rfl) ?_
                  refine gl_pure 4 [2, 98, 100] (K' := [(2, .pointer (some ⟨g1, 0, none⟩)), (98, .agg #[.int .i64 5, .string x92, .int .i64 0]), (100, .int .i64 (x92.size : Int))]) (by kernel_rfl) ?_
                  refine gl_storeB (T' := 28) (xp := (.tmp 2)) (xv := (.tmp 98)) (v := .agg #[.int .i64 5, .string x92, .int .i64 0]) (g := g1) (off := 0) (cs := #[.int .i64 0, .string (⟨#[]⟩ : ByteArray), .int .i64 0]) (cs' := #[.int .i64 5, .string x92, .int .i64 0]) (by kernel_rfl) (by kernel_rfl) (by kernel_rfl) (by kernel_rfl) (by kernel_rfl) (Upd.app _ (Upd.set _ _ _ _)) ?_ (by kernel_rfl)
                  refine gl_pure 1 [2, 3] (K' := [(2, .pointer (some ⟨g1, 0, none⟩)), (3, .int .i64 (x92.size : Int))]) (by kernel_rfl) ?_
                  refine gl_atE (by kernel_rfl) ?_
                  refine ge_seq ?_
                  refine gk_rest (Tk.step (Upd.app _ (Upd.rm1 _ _)) (Tk.nil _)) (fun J104 hJ105 hC106 => ?_)
                  have hf107 := hC106.left.blk
                  refine gk_reord (D := L) (Reord.skipC (Reord.refl _)) ?_
                  refine gk_ret (by kernel_rfl) ?_
                  refine ge_block_ret ?_
                  refine ge_seq_ret ?_
                  obtain rfl := some_inj hb81
                  refine ge_round_out (fun hrr => ?_) (by intro h; cases h)
                  obtain rfl := hrr
                  refine ge_block_ret ?_
                  refine ge_seq_ret ?_
                  refine ge_seq_ret ?_
                  obtain rfl := some_inj hr
                  exact ge_result trivial (ResOk.cell (v := .agg #[.int .i64 5, .string x92, .int .i64 0]) (by kernel_rfl) (loadR_agg (cs := [.int .i64 5, .string x92, .int .i64 0]) (by kernel_rfl) (RunAt.take hf107 3)) (ResOk.tmp (by kernel_rfl) ResOk.nil)) (Imm.trans (Imm.trans (Imm.trans (Imm.trans hI13 hI55) hI68) hI82) hJ105) ⟨rfl, rfl⟩
                · have hb81 := cond_f hc103 hb81
                  refine gk_skip (by kernel_rfl) ?_
                  refine ge_block_normal ?_
                  refine ge_seq ?_
                  refine gk_region (by kernel_rfl) ?_
                  refine gl_pure 2 [0, 2, 88, 89, 90] (K' := [(0, .string a0), (2, .pointer (some ⟨g1, 0, none⟩)), (88, .slice A69 lex_signs.length c70), (89, .int .i64 (lex_signs.length : Int)), (90, .int .i64 (IntKind.wrap .i64 (s79 + 1)))]) (by kernel_rfl) ?_
                  refine gl_atE (by kernel_rfl) ?_
                  obtain rfl := some_inj hb81
                  exact ge_round fun t ht => ⟨hI82, rfl, ht.pick (l := [0, 2, 88, 89, 90]) (by kernel_rfl)⟩
              · have hb81 := cond_f hc91 hb81
                refine gk_reord (D := (g1, .cells #[.int .i64 0, .string (⟨#[]⟩ : ByteArray), .int .i64 0] 28) :: L) (Reord.step1 (Upd.app _ (Upd.rm1 _ _)) (Reord.skipC (Reord.refl _))) ?_
                refine gk_exit (by kernel_rfl) ?_
                refine ge_seq_exit ?_
                obtain rfl := some_inj hb81
                refine ge_round_out (fun hrr => ?_) (by intro h; cases h)
                obtain rfl := hrr
                refine ge_block_hit (by kernel_rfl) ?_
                exact ge_mid fun t ht => ⟨_, rfl, hI82, rfl, ht.pick (l := [2]) (by kernel_rfl)⟩
            · rintro t I88 L' ⟨r85, rfl, hI86, rfl, hK87⟩
              refine ge_at hK87 ?_
              refine ge_seq ?_
              refine gk_seq (by kernel_rfl) ?_
              refine gk_region (by kernel_rfl) ?_
              refine gl_pure 1 [2, 102] (K' := [(2, .pointer (some ⟨g1, 0, none⟩)), (102, .agg #[.int .i64 0, .string (⟨#[]⟩ : ByteArray), .int .i64 0])]) (by kernel_rfl) ?_
              refine gl_storeB (T' := 28) (xp := (.tmp 2)) (xv := (.tmp 102)) (v := .agg #[.int .i64 0, .string (⟨#[]⟩ : ByteArray), .int .i64 0]) (g := g1) (off := 0) (cs := #[.int .i64 0, .string (⟨#[]⟩ : ByteArray), .int .i64 0]) (cs' := #[.int .i64 0, .string (⟨#[]⟩ : ByteArray), .int .i64 0]) (by kernel_rfl) (by kernel_rfl) (by kernel_rfl) (by kernel_rfl) (by kernel_rfl) (Upd.set _ _ _ _) ?_ (by kernel_rfl)
              refine gl_pure 1 [2, 3] (K' := [(2, .pointer (some ⟨g1, 0, none⟩)), (3, .int .i64 0)]) (by kernel_rfl) ?_
              refine gl_atE (by kernel_rfl) ?_
              refine ge_seq ?_
              refine gk_rest (Tk.step (Upd.rm1 _ _) (Tk.nil _)) (fun J108 hJ109 hC110 => ?_)
              have hf111 := hC110.left.blk
              refine gk_ret (by kernel_rfl) ?_
              obtain rfl := some_inj hr
              exact ge_result trivial (ResOk.cell (v := .agg #[.int .i64 0, .string (⟨#[]⟩ : ByteArray), .int .i64 0]) (by kernel_rfl) (loadR_agg (cs := [.int .i64 0, .string (⟨#[]⟩ : ByteArray), .int .i64 0]) (by kernel_rfl) (RunAt.take hf111 3)) (ResOk.tmp (by kernel_rfl) ResOk.nil)) (Imm.trans (Imm.trans (Imm.trans (Imm.trans hI13 hI55) hI68) hI86) hJ109) ⟨rfl, rfl⟩
/-! 24 lex_alone  -/
noncomputable def lex_alone (a0 : ByteArray) (a1 : Int) : Option Bool :=
  bif (a0.toList == (⟨#[]⟩ : ByteArray).toList) then
  (some false)
  else
  (Option.bind (lex_one a0) fun (y2 : S27 × Int) =>
    some ((y2.2 == (a0.size : Int)) && (y2.1.f0 == a1)))
theorem lex_alone_walk {a0 : ByteArray} {a1 : Int} {I : Imm} {r : Bool} (hG : Gl I) (hr : lex_alone a0 a1 = some r) (L : Own) :
    CallsTo Tryd.prog 24 #[.string a0, .int .i64 a1] I L (fun v I' L' => v = .bool r ∧ L = L') := by
  unfold lex_alone at hr
  refine callsTo_body (N := 24) Tryd.func24 (by kernel_rfl) (by kernel_rfl) (by kernel_rfl) ?_
  refine gk_pick [0, 1] (K' := [(0, .string a0), (1, .int .i64 a1)]) (by kernel_rfl) ?_
  refine gk_seq (by kernel_rfl) ?_
  refine gk_region (by kernel_rfl) ?_
  refine gl_pure 1 [0, 1] (K' := [(0, .string a0), (1, .int .i64 a1)]) (by kernel_rfl) ?_
  refine gl_atE (by kernel_rfl) ?_
  refine ge_seq ?_
  refine gk_seq (by kernel_rfl) ?_
  refine gk_seq (by kernel_rfl) ?_
  refine gk_region (by kernel_rfl) ?_
  refine gl_pure 2 [0, 1, 8] (K' := [(0, .string a0), (1, .int .i64 a1), (8, .bool (a0.toList == (⟨#[]⟩ : ByteArray).toList))]) (by kernel_rfl) ?_
  refine gl_atE (by kernel_rfl) ?_
  refine ge_seq ?_
  refine gk_cond (b := (a0.toList == (⟨#[]⟩ : ByteArray).toList)) (by kernel_rfl) (by kernel_rfl) (fun hc1 => ?_) (fun hc1 => ?_)
  · have hr := cond_t hc1 hr
    refine gk_seq (by kernel_rfl) ?_
    refine gk_region (by kernel_rfl) ?_
    refine gl_pure 1 [4] (K' := [(4, .bool false)]) (by kernel_rfl) ?_
    refine gl_atE (by kernel_rfl) ?_
    refine ge_seq ?_
    refine gk_ret (by kernel_rfl) ?_
    refine ge_seq_ret ?_
    obtain rfl := some_inj hr
    exact ge_result trivial (ResOk.tmp (by kernel_rfl) ResOk.nil) (Imm.refl _) ⟨rfl, rfl⟩
  · have hr := cond_f hc1 hr
    refine gk_skip (by kernel_rfl) ?_
    refine ge_seq ?_
    refine gk_seq (by kernel_rfl) ?_
    refine gk_region (by kernel_rfl) ?_
    refine gl_pure 1 [0, 1, 10] (K' := [(0, .string a0), (1, .int .i64 a1), (10, .string a0)]) (by kernel_rfl) ?_
    obtain ⟨y2, hx3, hr⟩ := bind_some hr
    refine gl_callQ (by kernel_rfl) (lex_one_walk (r := y2) hG hx3 _) ?_
    refine gl_pure 3 [0, 1, 12, 13] (K' := [(0, .string a0), (1, .int .i64 a1), (12, .agg #[.int .i64 y2.1.f0, .string y2.1.f1, .int .i64 y2.1.f2]), (13, .int .i64 y2.2)]) (by kernel_rfl) ?_
    refine gl_alloc (T' := 28) (cs := #[.int .i64 0, .string (⟨#[]⟩ : ByteArray), .int .i64 0]) (by kernel_rfl) (by kernel_rfl) (by kernel_rfl) (fun g4 => ?_)
    refine gl_storeB (T' := 28) (xp := (.tmp 5)) (xv := (.tmp 12)) (v := .agg #[.int .i64 y2.1.f0, .string y2.1.f1, .int .i64 y2.1.f2]) (g := g4) (off := 0) (cs := #[.int .i64 0, .string (⟨#[]⟩ : ByteArray), .int .i64 0]) (cs' := #[.int .i64 y2.1.f0, .string y2.1.f1, .int .i64 y2.1.f2]) (by kernel_rfl) (by kernel_rfl) (by kernel_rfl) (by kernel_rfl) (by kernel_rfl) (Upd.set _ _ _ _) ?_ (by kernel_rfl)
    refine gl_pure 1 [0, 1, 5, 6] (K' := [(0, .string a0), (1, .int .i64 a1), (5, .pointer (some ⟨g4, 0, none⟩)), (6, .int .i64 y2.2)]) (by kernel_rfl) ?_
    refine gl_atE (by kernel_rfl) ?_
    refine ge_seq ?_
    refine gk_seq (by kernel_rfl) ?_
    obtain ⟨b7, hb8⟩ : ∃ z, z = ((y2.2 == (a0.size : Int)) && (y2.1.f0 == a1)) := ⟨_, rfl⟩
    refine gk_join (fun t I' L' => I ≤ I' ∧ (g4, .cells #[.int .i64 y2.1.f0, .string y2.1.f1, .int .i64 y2.1.f2] 28) :: L = L' ∧ Knows 24 [(4, .bool b7)] t) ?_ ?_
    · refine gk_region (by kernel_rfl) ?_
      refine gl_pure 5 [1, 5, 18] (K' := [(1, .int .i64 a1), (5, .pointer (some ⟨g4, 0, none⟩)), (18, .bool (y2.2 == (a0.size : Int)))]) (by kernel_rfl) ?_
      refine gl_case 18 (b := (y2.2 == (a0.size : Int))) (by kernel_rfl) (fun hc10 => ?_) (fun hc10 => ?_)
      · refine gl_pure 1 [1, 18, 19] (K' := [(1, .int .i64 a1), (18, .bool true), (19, .pointer (some ⟨g4, 0, none⟩))]) (by kernel_rfl) ?_
        refine gl_loadB (T' := 3) (xp := (.tmp 19)) (v := .int .i64 y2.1.f0) (g := g4) (off := 0) (cs := #[.int .i64 y2.1.f0, .string y2.1.f1, .int .i64 y2.1.f2]) (e := 28) (fz := (0, 0)) (by kernel_rfl) (by kernel_rfl) (by kernel_rfl) List.mem_cons_self (by kernel_rfl) ?_
        refine gl_pure 4 [4] (K' := [(4, .bool (y2.1.f0 == a1))]) (by kernel_rfl) ?_
        refine gl_atE (by kernel_rfl) ?_
        exact ge_mid fun t ht => ⟨(Imm.refl _), rfl, by rw [(show b7 = (y2.1.f0 == a1) from hb8.trans (by rw [hc10]; try rfl))]; exact ht.pick (l := [4]) (by kernel_rfl)⟩
      · refine gl_pure 6 [4] (K' := [(4, .bool false)]) (by kernel_rfl) ?_
        refine gl_atE (by kernel_rfl) ?_
        exact ge_mid fun t ht => ⟨(Imm.refl _), rfl, by rw [(show b7 = false from hb8.trans (by rw [hc10]; try rfl))]; exact ht.pick (l := [4]) (by kernel_rfl)⟩
    · rintro t I9 L' ⟨hI5, rfl, hK6⟩
      subst hb8
      refine ge_at hK6 ?_
      refine ge_seq ?_
      refine gk_reord (D := L) (Reord.skip (Reord.refl _)) ?_
      refine gk_ret (by kernel_rfl) ?_
      obtain rfl := some_inj hr
      exact ge_result trivial (ResOk.tmp (by kernel_rfl) ResOk.nil) hI5 ⟨rfl, rfl⟩
/-! 25 strings_Builder_Len ('obj',) -/
noncomputable def strings_Builder_Len (a0 : S50) : Int :=
  (a0.f1.length : Int)
theorem strings_Builder_Len_walk {a0 : S50} {g0 : Nat} {q0_0 : Option Addr} {A0_1 : Option Addr} {c0_1 : Nat} {C0_1 : Own} {I : Imm} {r : Int}  (hq0_0 : q0_0 = none ∨ q0_0 = some (⟨g0, 0, none⟩ : Addr)) (hO0_1 : OwnS (Kd.int .u8) 5 I A0_1 c0_1 a0.f1 C0_1) (hr : strings_Builder_Len a0 = r) (L : Own) :
    CallsTo Tryd.prog 25 #[.pointer (some ⟨g0, 0, none⟩)] I ((g0, .cells #[.pointer q0_0, .slice A0_1 a0.f1.length c0_1] 51) :: (C0_1 ++ L)) (fun v I' L' => v = .int .i64 r ∧ (g0, .cells #[.pointer q0_0, .slice A0_1 a0.f1.length c0_1] 51) :: (C0_1 ++ L) = L') := by
  replace hr : some (strings_Builder_Len a0) = some r := congrArg some hr
  unfold strings_Builder_Len at hr
  refine callsTo_body (N := 8) Tryd.func25 (by kernel_rfl) (by kernel_rfl) (by kernel_rfl) ?_
  refine gk_pick [0] (K' := [(0, .pointer (some ⟨g0, 0, none⟩))]) (by kernel_rfl) ?_
  refine gk_seq (by kernel_rfl) ?_
  refine gk_region (by kernel_rfl) ?_
  refine gl_pure 1 [0] (K' := [(0, .pointer (some ⟨g0, 0, none⟩))]) (by kernel_rfl) ?_
  refine gl_atE (by kernel_rfl) ?_
  refine ge_seq ?_
  refine gk_seq (by kernel_rfl) ?_
  refine gk_region (by kernel_rfl) ?_
  refine gl_pure 3 [5] (K' := [(5, .pointer (some ⟨g0, 1, none⟩))]) (by kernel_rfl) ?_
  refine gl_loadB (T' := 41) (xp := (.tmp 5)) (v := .slice A0_1 a0.f1.length c0_1) (g := g0) (off := 1) (cs := #[.pointer q0_0, .slice A0_1 a0.f1.length c0_1]) (e := 51) (fz := (0, 0)) (by kernel_rfl) (by kernel_rfl) (by kernel_rfl) List.mem_cons_self (by kernel_rfl) ?_
  refine gl_pure 2 [2] (K' := [(2, .int .i64 (a0.f1.length : Int))]) (by kernel_rfl) ?_
  refine gl_atE (by kernel_rfl) ?_
  refine ge_seq ?_
  refine gk_ret (by kernel_rfl) ?_
  obtain rfl := some_inj hr
  exact ge_result trivial (ResOk.tmp (by kernel_rfl) ResOk.nil) (Imm.refl _) ⟨rfl, rfl⟩
/-! 27 strings_Builder_WriteString ('obj', 'imm') -/
noncomputable def strings_Builder_WriteString (a0 : S50) (a1 : ByteArray) : Option (Int × Unit × S50) :=
  Option.bind (app ((strings_Builder_copyCheck (⟨a0.f1⟩ : S50)).f1) (bytesOf a1)) fun (zs10 : List Int) =>
  some ((a1.size : Int), (), (⟨zs10⟩ : S50))
theorem strings_Builder_WriteString_walk {a0 : S50} {g0 : Nat} {q0_0 : Option Addr} {A0_1 : Option Addr} {c0_1 : Nat} {C0_1 : Own} {a1 : ByteArray} {I : Imm} {r : Int × Unit × S50}  (hq0_0 : q0_0 = none ∨ q0_0 = some (⟨g0, 0, none⟩ : Addr)) (hO0_1 : OwnS (Kd.int .u8) 5 I A0_1 c0_1 a0.f1 C0_1) (hr : strings_Builder_WriteString a0 a1 = some r) (L : Own) :
    CallsTo Tryd.prog 27 #[.pointer (some ⟨g0, 0, none⟩), .string a1] I ((g0, .cells #[.pointer q0_0, .slice A0_1 a0.f1.length c0_1] 51) :: (C0_1 ++ L)) (fun v I' L' => ∃ q2_0 A2_1 c2_1 C2_1, (q2_0 = none ∨ q2_0 = some (⟨g0, 0, none⟩ : Addr)) ∧ OwnS (Kd.int .u8) 5 I' A2_1 c2_1 r.2.2.f1 C2_1 ∧ v = .tuple #[.int .i64 r.1, .nilIface] ∧ (g0, .cells #[.pointer q2_0, .slice A2_1 r.2.2.f1.length c2_1] 51) :: (C2_1 ++ L) = L') := by
  unfold strings_Builder_WriteString at hr
  refine callsTo_body (N := 19) Tryd.func27 (by kernel_rfl) (by kernel_rfl) (by kernel_rfl) ?_
  refine gk_pick [0, 1] (K' := [(0, .pointer (some ⟨g0, 0, none⟩)), (1, .string a1)]) (by kernel_rfl) ?_
  refine gk_seq (by kernel_rfl) ?_
  refine gk_region (by kernel_rfl) ?_
  refine gl_pure 2 [0, 1] (K' := [(0, .pointer (some ⟨g0, 0, none⟩)), (1, .string a1)]) (by kernel_rfl) ?_
  refine gl_atE (by kernel_rfl) ?_
  refine ge_seq ?_
  refine gk_seq (by kernel_rfl) ?_
  refine gk_region (by kernel_rfl) ?_
  refine gl_pure 1 [0, 1, 6] (K' := [(0, .pointer (some ⟨g0, 0, none⟩)), (1, .string a1), (6, .pointer (some ⟨g0, 0, none⟩))]) (by kernel_rfl) ?_
  refine gl_call (by kernel_rfl) (strings_Builder_copyCheck_walk (r := (strings_Builder_copyCheck (⟨a0.f1⟩ : S50))) (g0 := g0) (q0_0 := q0_0) (A0_1 := A0_1) (c0_1 := c0_1) (C0_1 := C0_1) (a0 := (⟨a0.f1⟩ : S50)) hq0_0 hO0_1 rfl _) ?_
  rintro v I1 L2 hI3 ⟨z4, A5, c6, C7, hO8, hO9, rfl, rfl⟩
  refine gl_atE (by kernel_rfl) ?_
  refine ge_seq ?_
  refine gk_seq (by kernel_rfl) ?_
  refine gk_region (by kernel_rfl) ?_
  refine gl_pure 4 [1, 8, 11] (K' := [(1, .string a1), (8, .pointer (some ⟨g0, 0, none⟩)), (11, .pointer (some ⟨g0, 1, none⟩))]) (by kernel_rfl) ?_
  refine gl_loadB (T' := 41) (xp := (.tmp 11)) (v := .slice A5 ((strings_Builder_copyCheck (⟨a0.f1⟩ : S50)).f1).length c6) (g := g0) (off := 1) (cs := #[.pointer z4, .slice A5 ((strings_Builder_copyCheck (⟨a0.f1⟩ : S50)).f1).length c6]) (e := 51) (fz := (0, 0)) (by kernel_rfl) (by kernel_rfl) (by kernel_rfl) List.mem_cons_self (by kernel_rfl) ?_
  refine gl_pure 1 [1, 8, 12, 13] (K' := [(1, .string a1), (8, .pointer (some ⟨g0, 0, none⟩)), (12, .slice A5 ((strings_Builder_copyCheck (⟨a0.f1⟩ : S50)).f1).length c6), (13, .string a1)]) (by kernel_rfl) ?_
  obtain ⟨zs10, hz11, hr⟩ := bind_some hr
  refine gl_append (xv := .string a1) (d := (Kd.int .u8)) (t := 41) (tx := 9) (e := 5) (s := (.tmp 12)) (x := (.tmp 13)) (xs := (strings_Builder_copyCheck (⟨a0.f1⟩ : S50)).f1) (fun X => (g0, .cells #[.pointer z4, .slice A5 ((strings_Builder_copyCheck (⟨a0.f1⟩ : S50)).f1).length c6] 51) :: (X ++ L)) hz11 (by kernel_rfl) (by kernel_rfl) (by kernel_rfl) (by kernel_rfl) (by kernel_rfl) (by kernel_rfl) (fun X => (Upd.one _ (Upd.head _ X _))) hO9 (SrcOk.str (by kernel_rfl)) (fun A12 n13 C14 hO15 => ?_)
  refine gl_pure 2 [1, 14, 16] (K' := [(1, .string a1), (14, .slice A12 zs10.length n13), (16, .pointer (some ⟨g0, 1, none⟩))]) (by kernel_rfl) ?_
  refine gl_storeB (T' := 41) (xp := (.tmp 16)) (xv := (.tmp 14)) (v := .slice A12 zs10.length n13) (g := g0) (off := 1) (cs := #[.pointer z4, .slice A5 ((strings_Builder_copyCheck (⟨a0.f1⟩ : S50)).f1).length c6]) (cs' := #[.pointer z4, .slice A12 zs10.length n13]) (by kernel_rfl) (by kernel_rfl) (by kernel_rfl) (by kernel_rfl) (by kernel_rfl) (Upd.set _ _ _ _) ?_ (by kernel_rfl)
  refine gl_atE (by kernel_rfl) ?_
  refine ge_seq ?_
  refine gk_seq (by kernel_rfl) ?_
  refine gk_region (by kernel_rfl) ?_
  refine gl_pure 4 [4, 5] (K' := [(4, .int .i64 (a1.size : Int)), (5, .nilIface)]) (by kernel_rfl) ?_
  refine gl_atE (by kernel_rfl) ?_
  refine ge_seq ?_
  refine gk_ret (by kernel_rfl) ?_
  obtain rfl := some_inj hr
  exact ge_result trivial (ResOk.tmp (by kernel_rfl) (ResOk.tmp (by kernel_rfl) ResOk.nil)) hI3 ⟨z4, A12, n13, C14, hO8, hO15, rfl, rfl⟩
end Go.Proofs.YtlhpclfkoblnkaaDoor
