import Derived.Test.YtlhpclfkoblnkaaDoorL50b
set_option linter.unusedVariables false
set_option linter.unusedSimpArgs false
set_option maxRecDepth 100000
namespace Go.Proofs.YtlhpclfkoblnkaaDoor
open Go.GB
/-! 45 tocsinref13_text  -/
noncomputable def tocsinref13_text_l27 (a0 : ByteArray) (a1 : Int) (c1 : Int) : ((List Int) × Int) → Option (((List Int) × Int) ⊕ ((Unit) ⊕ (ByteArray × Int × Bool))) := fun s13 =>
  bif (decide (s13.2 < (a0.size : Int))) then
  (Option.bind ((Option.bind (bx a0 s13.2) fun (c40 : Int) =>
      bif (c40 == c1) then
      (Option.bind (Option.bind (tocsinref01_Utf8 (ofBytes s13.1)) fun (y48 : Bool) =>
          bif y48 then
          (Option.bind (sx a0 a1 s13.2) fun (s52 : ByteArray) =>
            Option.bind (tocsinref01_Utf8 s52) fun (y53 : Bool) =>
            some ((ofBytes s13.1), (IntKind.wrap .i64 (s13.2 + 1)), y53))
          else
          (some ((ofBytes s13.1), (IntKind.wrap .i64 (s13.2 + 1)), false))) fun (j43 : ByteArray × Int × Bool) =>
        some (Sum.inr (Sum.inr (Sum.inr (j43.1, j43.2.1, j43.2.2)))))
      else
      (bif (c40 == 10) then
        (some (Sum.inr (Sum.inr (Sum.inr ((⟨#[]⟩ : ByteArray), 0, false)))))
        else
        (bif (c40 != 92) then
          (Option.bind (app s13.1 [c40]) fun (zs61 : List Int) =>
            some (Sum.inl (zs61, s13.2)))
          else
          (bif (decide ((IntKind.wrap .i64 (s13.2 + 1)) ≥ (a0.size : Int))) then
            (some (Sum.inr (Sum.inr (Sum.inr ((⟨#[]⟩ : ByteArray), 0, false)))))
            else
            (Option.bind (bx a0 (IntKind.wrap .i64 (s13.2 + 1))) fun (c68 : Int) =>
              Option.bind (bif (c68 == 92) then
                (some (c68 == 92))
                else
                (Option.bind (bif (c68 == 34) then
                    (some (c68 == 34))
                    else
                    (some (c68 == 39))) fun (j76 : Bool) =>
                  some j76)) fun (j70 : Bool) =>
              Option.bind ((bif j70 then
                (Option.bind (bx a0 (IntKind.wrap .i64 (s13.2 + 1))) fun (c93 : Int) =>
                  Option.bind (app s13.1 [c93]) fun (zs99 : List Int) =>
                  some (Sum.inl (zs99, (IntKind.wrap .i64 (s13.2 + 1)))))
                else
                (Option.bind ((bif (c68 == 110) then
                    (Option.bind (app s13.1 [10]) fun (zs120 : List Int) =>
                      some (Sum.inl (zs120, (IntKind.wrap .i64 (s13.2 + 1)))))
                    else
                    (Option.bind ((bif (c68 == 116) then
                        (Option.bind (app s13.1 [9]) fun (zs141 : List Int) =>
                          some (Sum.inl (zs141, (IntKind.wrap .i64 (s13.2 + 1)))))
                        else
                        (Option.bind ((bif (c68 == 114) then
                            (Option.bind (app s13.1 [13]) fun (zs162 : List Int) =>
                              some (Sum.inl (zs162, (IntKind.wrap .i64 (s13.2 + 1)))))
                            else
                            (bif (c68 == 120) then
                              (Option.bind (bif (decide ((IntKind.wrap .i64 ((IntKind.wrap .i64 (s13.2 + 1)) + 2)) ≥ (a0.size : Int))) then
                                  (some true)
                                  else
                                  (Option.bind (bx a0 (IntKind.wrap .i64 ((IntKind.wrap .i64 (s13.2 + 1)) + 1))) fun (c175 : Int) =>
                                    bif (!(tocsinref13_hex c175)) then
                                    (some true)
                                    else
                                    (Option.bind (bx a0 (IntKind.wrap .i64 ((IntKind.wrap .i64 (s13.2 + 1)) + 2))) fun (c178 : Int) =>
                                      bif (!(tocsinref13_hex c178)) then
                                      (some true)
                                      else
                                      (Option.bind (bx a0 (IntKind.wrap .i64 ((IntKind.wrap .i64 (s13.2 + 1)) + 1))) fun (c181 : Int) =>
                                        some (decide (c181 > 55)))))) fun (j169 : Bool) =>
                                bif j169 then
                                (some (Sum.inr (Sum.inr (Sum.inr (Sum.inr (Sum.inr (Sum.inr (Sum.inr ((⟨#[]⟩ : ByteArray), 0, false)))))))))
                                else
                                (Option.bind (sx a0 (IntKind.wrap .i64 ((IntKind.wrap .i64 (s13.2 + 1)) + 1)) (IntKind.wrap .i64 ((IntKind.wrap .i64 (s13.2 + 1)) + 3))) fun (s185 : ByteArray) =>
                                  Option.bind (strconv_ParseUint s185 16 8) fun (y186 : Int × Unit) =>
                                  Option.bind (app s13.1 [(IntKind.wrap .u8 y186.1)]) fun (zs192 : List Int) =>
                                  some (Sum.inl (zs192, (IntKind.wrap .i64 ((IntKind.wrap .i64 (s13.2 + 1)) + 2))))))
                              else
                              (some (Sum.inr (Sum.inr (Sum.inr (Sum.inr (Sum.inr (Sum.inr (Sum.inr ((⟨#[]⟩ : ByteArray), 0, false)))))))))) : Option (((List Int) × Int) ⊕ (((List Int) × Int) ⊕ (((List Int) × Int) ⊕ (((List Int) × Int) ⊕ (((List Int) × Int) ⊕ (((List Int) × Int) ⊕ ((Unit) ⊕ (ByteArray × Int × Bool)))))))))) fun (j147 : ((List Int) × Int) ⊕ (((List Int) × Int) ⊕ (((List Int) × Int) ⊕ (((List Int) × Int) ⊕ (((List Int) × Int) ⊕ (((List Int) × Int) ⊕ ((Unit) ⊕ (ByteArray × Int × Bool)))))))) =>
                          match j147 with
                          | Sum.inl j149 => some (Sum.inl (j149.1, j149.2))
                          | Sum.inr v198 => some v198) : Option (((List Int) × Int) ⊕ (((List Int) × Int) ⊕ (((List Int) × Int) ⊕ (((List Int) × Int) ⊕ (((List Int) × Int) ⊕ ((Unit) ⊕ (ByteArray × Int × Bool))))))))) fun (j126 : ((List Int) × Int) ⊕ (((List Int) × Int) ⊕ (((List Int) × Int) ⊕ (((List Int) × Int) ⊕ (((List Int) × Int) ⊕ ((Unit) ⊕ (ByteArray × Int × Bool))))))) =>
                      match j126 with
                      | Sum.inl j128 => some (Sum.inl (j128.1, j128.2))
                      | Sum.inr v199 => some v199) : Option (((List Int) × Int) ⊕ (((List Int) × Int) ⊕ (((List Int) × Int) ⊕ (((List Int) × Int) ⊕ ((Unit) ⊕ (ByteArray × Int × Bool)))))))) fun (j105 : ((List Int) × Int) ⊕ (((List Int) × Int) ⊕ (((List Int) × Int) ⊕ (((List Int) × Int) ⊕ ((Unit) ⊕ (ByteArray × Int × Bool)))))) =>
                  match j105 with
                  | Sum.inl j107 => some (Sum.inl (j107.1, j107.2))
                  | Sum.inr v200 => some v200) : Option (((List Int) × Int) ⊕ (((List Int) × Int) ⊕ (((List Int) × Int) ⊕ ((Unit) ⊕ (ByteArray × Int × Bool))))))) fun (j82 : ((List Int) × Int) ⊕ (((List Int) × Int) ⊕ (((List Int) × Int) ⊕ ((Unit) ⊕ (ByteArray × Int × Bool))))) =>
              match j82 with
              | Sum.inl j84 => some (Sum.inl (j84.1, j84.2))
              | Sum.inr v201 => some v201)))) : Option (((List Int) × Int) ⊕ (((List Int) × Int) ⊕ ((Unit) ⊕ (ByteArray × Int × Bool)))))) fun (j30 : ((List Int) × Int) ⊕ (((List Int) × Int) ⊕ ((Unit) ⊕ (ByteArray × Int × Bool)))) =>
    match j30 with
    | Sum.inl j32 => some (Sum.inl (j32.1, (IntKind.wrap .i64 (j32.2 + 1))))
    | Sum.inr v202 => some v202)
  else
  (some (Sum.inr (Sum.inl ())))
noncomputable def tocsinref13_text (a0 : ByteArray) (a1 : Int) : Option (ByteArray × Int × Bool) :=
  Option.bind (bx a0 a1) fun (c1 : Int) =>
  Option.bind (loopO (tocsinref13_text_l27 a0 a1 c1) ([], (IntKind.wrap .i64 (a1 + 1)))) fun (r11 : (Unit) ⊕ (ByteArray × Int × Bool)) =>
  match r11 with
  | Sum.inl r23 => some ((⟨#[]⟩ : ByteArray), 0, false)
  | Sum.inr v203 => some v203
theorem tocsinref13_text_walk {a0 : ByteArray} {a1 : Int} {I : Imm} {r : ByteArray × Int × Bool}  (hr : tocsinref13_text a0 a1 = some r) (L : Own) :
    CallsTo Tryd.prog 45 #[.string a0, .int .i64 a1] I L (fun v I' L' => v = .tuple #[.string r.1, .int .i64 r.2.1, .bool r.2.2] ∧ L = L') := by
  unfold tocsinref13_text at hr
  refine callsTo_body (N := 133) Tryd.func45 (by kernel_rfl) (by kernel_rfl) (by kernel_rfl) ?_
  refine gk_pick [0, 1] (K' := [(0, .string a0), (1, .int .i64 a1)]) (by kernel_rfl) ?_
  refine gk_seq (by kernel_rfl) ?_
  refine gk_region (by kernel_rfl) ?_
  refine gl_pure 3 [0, 1] (K' := [(0, .string a0), (1, .int .i64 a1)]) (by kernel_rfl) ?_
  refine gl_atE (by kernel_rfl) ?_
  refine ge_seq ?_
  refine gk_seq (by kernel_rfl) ?_
  refine gk_region (by kernel_rfl) ?_
  refine gl_pure 2 [0, 1, 13, 14] (K' := [(0, .string a0), (1, .int .i64 a1), (13, .string a0), (14, .int .i64 a1)]) (by kernel_rfl) ?_
  obtain ⟨c1, hx2, hr⟩ := bind_some hr
  refine gl_index' (T' := 9) (xs := (.tmp 13)) (xi := (.tmp 14)) (kd := .i64) hx2 (by kernel_rfl) (by kernel_rfl) (by kernel_rfl) (by kernel_rfl) (by kernel_rfl) ?_
  refine gl_pure 1 [0, 1, 7] (K' := [(0, .string a0), (1, .int .i64 a1), (7, .int .u8 c1)]) (by kernel_rfl) ?_
  refine gl_atE (by kernel_rfl) ?_
  refine ge_seq ?_
  refine gk_seq (by kernel_rfl) ?_
  refine gk_region (by kernel_rfl) ?_
  refine gl_pure 1 [0, 1, 7, 8] (K' := [(0, .string a0), (1, .int .i64 a1), (7, .int .u8 c1), (8, .slice none 0 0)]) (by kernel_rfl) ?_
  refine gl_atE (by kernel_rfl) ?_
  refine ge_seq ?_
  refine gk_seq (by kernel_rfl) ?_
  refine gk_seq (by kernel_rfl) ?_
  refine gk_region (by kernel_rfl) ?_
  refine gl_pure 3 [0, 1, 7, 8, 9] (K' := [(0, .string a0), (1, .int .i64 a1), (7, .int .u8 c1), (8, .slice none 0 0), (9, .int .i64 (IntKind.wrap .i64 (a1 + 1)))]) (by kernel_rfl) ?_
  refine gl_atE (by kernel_rfl) ?_
  refine ge_seq ?_
  obtain ⟨r11, hl12, hr⟩ := bind_some hr
  refine gk_join (fun t I' L' => ∃ r23, r11 = Sum.inl r23 ∧ I ≤ I' ∧ L = L' ∧ Knows 133 [] t) ?_ ?_
  · refine gk_block (by kernel_rfl) ?_
    refine gk_pick [0, 1, 7, 8, 9] (K' := [(0, .string a0), (1, .int .i64 a1), (7, .int .u8 c1), (8, .slice none 0 0), (9, .int .i64 (IntKind.wrap .i64 (a1 + 1)))]) (by kernel_rfl) ?_
    intro t hK
    refine gc_loop (tocsinref13_text_l27 a0 a1 c1) (fun s13 t I' L' => ∃ A17 n18 C19, OwnS (Kd.int .u8) 5 I' A17 n18 s13.1 C19 ∧ I ≤ I' ∧ C19 ++ L = L' ∧ Knows 133 [(0, .string a0), (1, .int .i64 a1), (7, .int .u8 c1), (8, .slice A17 s13.1.length n18), (9, .int .i64 s13.2)] t) (by kernel_rfl) ?_ hl12 ⟨none, 0, [], OwnS.nil _ _ _ _, (Imm.refl _), rfl, hK⟩
    rintro s13 o14 t I22 L' hb15 ⟨A17, n18, C19, hO20, hI16, rfl, hK21⟩
    unfold tocsinref13_text_l27 at hb15
    refine gk_at hK21 ?_
    refine gk_seq (by kernel_rfl) ?_
    refine gk_seq (by kernel_rfl) ?_
    refine gk_region (by kernel_rfl) ?_
    refine gl_pure 4 [0, 1, 7, 8, 9, 21] (K' := [(0, .string a0), (1, .int .i64 a1), (7, .int .u8 c1), (8, .slice A17 s13.1.length n18), (9, .int .i64 s13.2), (21, .bool (decide (s13.2 < (a0.size : Int))))]) (by kernel_rfl) ?_
    refine gl_atE (by kernel_rfl) ?_
    refine ge_seq ?_
    refine gk_cond (b := (decide (s13.2 < (a0.size : Int)))) (by kernel_rfl) (by kernel_rfl) (fun hc29 => ?_) (fun hc29 => ?_)
    · have hb15 := cond_t hc29 hb15
      refine gk_skip (by kernel_rfl) ?_
      refine ge_seq ?_
      refine gk_seq (by kernel_rfl) ?_
      obtain ⟨j30, hj31, hb15⟩ := bind_some hb15
      refine gk_join (fun t I' L' => ∃ j32, j30 = Sum.inl j32 ∧ ∃ A34 n35 C36, OwnS (Kd.int .u8) 5 I' A34 n35 j32.1 C36 ∧ I22 ≤ I' ∧ C36 ++ L = L' ∧ Knows 133 [(0, .string a0), (1, .int .i64 a1), (7, .int .u8 c1), (8, .slice A34 j32.1.length n35), (9, .int .i64 j32.2)] t) ?_ ?_
      · refine gk_block (by kernel_rfl) ?_
        refine gk_seq (by kernel_rfl) ?_
        refine gk_region (by kernel_rfl) ?_
        refine gl_pure 2 [0, 1, 7, 8, 9, 24, 25] (K' := [(0, .string a0), (1, .int .i64 a1), (7, .int .u8 c1), (8, .slice A17 s13.1.length n18), (9, .int .i64 s13.2), (24, .string a0), (25, .int .i64 s13.2)]) (by kernel_rfl) ?_
        obtain ⟨c40, hx41, hj31⟩ := bind_some hj31
        refine gl_index' (T' := 9) (xs := (.tmp 24)) (xi := (.tmp 25)) (kd := .i64) hx41 (by kernel_rfl) (by kernel_rfl) (by kernel_rfl) (by kernel_rfl) (by kernel_rfl) ?_
        refine gl_pure 1 [0, 1, 7, 8, 9, 10] (K' := [(0, .string a0), (1, .int .i64 a1), (7, .int .u8 c1), (8, .slice A17 s13.1.length n18), (9, .int .i64 s13.2), (10, .int .u8 c40)]) (by kernel_rfl) ?_
        refine gl_atE (by kernel_rfl) ?_
        refine ge_seq ?_
        refine gk_seq (by kernel_rfl) ?_
        refine gk_seq (by kernel_rfl) ?_
        refine gk_region (by kernel_rfl) ?_
        refine gl_pure 3 [0, 1, 7, 8, 9, 10, 29] (K' := [(0, .string a0), (1, .int .i64 a1), (7, .int .u8 c1), (8, .slice A17 s13.1.length n18), (9, .int .i64 s13.2), (10, .int .u8 c40), (29, .bool (c40 == c1))]) (by kernel_rfl) ?_
        refine gl_atE (by kernel_rfl) ?_
        refine ge_seq ?_
        refine gk_cond (b := (c40 == c1)) (by kernel_rfl) (by kernel_rfl) (fun hc42 => ?_) (fun hc42 => ?_)
        · have hj31 := cond_t hc42 hj31
          refine gk_seq (by kernel_rfl) ?_
          obtain ⟨j43, hj44, hj31⟩ := bind_some hj31
          refine gk_join (fun t I' L' => I22 ≤ I' ∧ L = L' ∧ Knows 133 [(4, .string j43.1), (5, .int .i64 j43.2.1), (6, .bool j43.2.2)] t) ?_ ?_
          · refine gk_draw 17 [(0, true), (1, true), (2, true), (3, true), (4, true), (5, true), (6, true), (7, true), (8, true), (9, true), (10, true), (11, true), (12, true), (13, true), (14, true), (15, true), (16, true)] (C19 ++ []) (List.forall_mem_append.2 ⟨fun q hq => (List.mem_append_left _ hq), (fun p hp => by cases hp)⟩) (by kernel_rfl) (by kernel_rfl) (by kernel_rfl) ?_ (by kernel_rfl)
            refine gd_pure 1 [0, 1, 8, 9, 30] (K' := [(0, .string a0), (1, .int .i64 a1), (8, .slice A17 s13.1.length n18), (9, .int .i64 s13.2), (30, .slice A17 s13.1.length n18)]) (s' := [(1, true), (2, true), (3, true), (4, true), (5, true), (6, true), (7, true), (8, true), (9, true), (10, true), (11, true), (12, true), (13, true), (14, true), (15, true), (16, true)]) (CC.refl (List.forall_mem_append.2 ⟨fun q hq => (List.mem_append_left _ hq), (fun p hp => by cases hp)⟩)) (by kernel_rfl) ?_
            refine gd_q (v := .string (ofBytes s13.1)) (by kernel_rfl) (by kernel_rfl) (CC.refl (List.forall_mem_append.2 ⟨fun q hq => (List.mem_append_left _ hq), (fun p hp => by cases hp)⟩)) (fun I' L' T hC kk => gl_bytesStr (c := n18) (src := 41) (dst := 9) (e := 5) (n := 1) (x := (.tmp 30)) (by kernel_rfl) (by kernel_rfl) (by kernel_rfl) (by kernel_rfl) (by kernel_rfl) (by kernel_rfl) (OwnS.rdC (hO20.mono hC.le) (fun q hq => hC.sub _ (List.mem_append_left _ hq))) kk) ?_
            refine gd_pure 3 [0, 1, 9, 31, 33, 34] (K' := [(0, .string a0), (1, .int .i64 a1), (9, .int .i64 s13.2), (31, .string (ofBytes s13.1)), (33, .int .i64 (IntKind.wrap .i64 (s13.2 + 1))), (34, .slice A17 s13.1.length n18)]) (s' := [(5, true), (6, true), (7, true), (8, true), (9, true), (10, true), (11, true), (12, true), (13, true), (14, true), (15, true), (16, true)]) (CC.refl (List.forall_mem_append.2 ⟨fun q hq => (List.mem_append_left _ hq), (fun p hp => by cases hp)⟩)) (by kernel_rfl) ?_
            refine gd_q (v := .string (ofBytes s13.1)) (by kernel_rfl) (by kernel_rfl) (CC.refl (List.forall_mem_append.2 ⟨fun q hq => (List.mem_append_left _ hq), (fun p hp => by cases hp)⟩)) (fun I' L' T hC kk => gl_bytesStr (c := n18) (src := 41) (dst := 9) (e := 5) (n := 1) (x := (.tmp 34)) (by kernel_rfl) (by kernel_rfl) (by kernel_rfl) (by kernel_rfl) (by kernel_rfl) (by kernel_rfl) (OwnS.rdC (hO20.mono hC.le) (fun q hq => hC.sub _ (List.mem_append_left _ hq))) kk) ?_
            obtain ⟨y48, hx49, hj44⟩ := bind_some hj44
            refine gd_q (v := .bool y48) (by kernel_rfl) (by kernel_rfl) (CC.refl (List.forall_mem_append.2 ⟨fun q hq => (List.mem_append_left _ hq), (fun p hp => by cases hp)⟩)) (fun I' L' T hC kk => gl_callQ (by kernel_rfl) (tocsinref01_Utf8_walk (r := y48)  hx49 _) kk) ?_
            refine gd_pure 1 [0, 1, 9, 31, 33, 37] (K' := [(0, .string a0), (1, .int .i64 a1), (9, .int .i64 s13.2), (31, .string (ofBytes s13.1)), (33, .int .i64 (IntKind.wrap .i64 (s13.2 + 1))), (37, .bool y48)]) (s' := [(8, true), (9, true), (10, true), (11, true), (12, true), (13, true), (14, true), (15, true), (16, true)]) (CC.refl (List.forall_mem_append.2 ⟨fun q hq => (List.mem_append_left _ hq), (fun p hp => by cases hp)⟩)) (by kernel_rfl) ?_
            refine gd_case 37 (b := y48) (by kernel_rfl) (fun hc50 => ?_) (fun hc50 => ?_)
            · have hj44 := cond_t hc50 hj44
              refine gd_pure 3 [31, 33, 37, 38, 39, 40] (K' := [(31, .string (ofBytes s13.1)), (33, .int .i64 (IntKind.wrap .i64 (s13.2 + 1))), (37, .bool true), (38, .string a0), (39, .int .i64 a1), (40, .int .i64 s13.2)]) (s' := [(11, true), (12, true), (13, true), (14, true), (15, true), (16, true)]) (CC.refl (List.forall_mem_append.2 ⟨fun q hq => (List.mem_append_left _ hq), (fun p hp => by cases hp)⟩)) (by kernel_rfl) ?_
              obtain ⟨s52, hx51, hj44⟩ := bind_some hj44
              refine gd_q (v := .string s52) (by kernel_rfl) (by kernel_rfl) (CC.refl (List.forall_mem_append.2 ⟨fun q hq => (List.mem_append_left _ hq), (fun p hp => by cases hp)⟩)) (fun I' L' T hC kk => gl_slice' (T' := 9) (xs := (.tmp 38)) (lo := (some (.tmp 39))) (hi := (some (.tmp 40))) hx51 (by kernel_rfl) (by kernel_rfl) (by kernel_rfl) (by kernel_rfl) (by kernel_rfl) (by kernel_rfl) kk) ?_
              obtain ⟨y53, hx54, hj44⟩ := bind_some hj44
              refine gd_q (v := .bool y53) (by kernel_rfl) (by kernel_rfl) (CC.refl (List.forall_mem_append.2 ⟨fun q hq => (List.mem_append_left _ hq), (fun p hp => by cases hp)⟩)) (fun I' L' T hC kk => gl_callQ (by kernel_rfl) (tocsinref01_Utf8_walk (r := y53)  hx54 _) kk) ?_
              refine gd_pure 4 [4, 5, 6] (K' := [(4, .string (ofBytes s13.1)), (5, .int .i64 (IntKind.wrap .i64 (s13.2 + 1))), (6, .bool y53)]) (s' := []) (CC.refl (List.forall_mem_append.2 ⟨fun q hq => (List.mem_append_left _ hq), (fun p hp => by cases hp)⟩)) (by kernel_rfl) ?_
              refine gd_done ?_
              refine gl_reord (D := L) (Reord.skipC (Reord.refl _)) ?_
              refine gl_atE (by kernel_rfl) ?_
              obtain rfl := some_inj hj44
              exact ge_mid fun t ht => ⟨(Imm.refl _), rfl, ht.pick (l := [4, 5, 6]) (by kernel_rfl)⟩
            · have hj44 := cond_f hc50 hj44
              refine gd_pure 9 [4, 5, 6] (K' := [(4, .string (ofBytes s13.1)), (5, .int .i64 (IntKind.wrap .i64 (s13.2 + 1))), (6, .bool false)]) (s' := []) (CC.refl (List.forall_mem_append.2 ⟨fun q hq => (List.mem_append_left _ hq), (fun p hp => by cases hp)⟩)) (by kernel_rfl) ?_
              refine gd_done ?_
              refine gl_reord (D := L) (Reord.skipC (Reord.refl _)) ?_
              refine gl_atE (by kernel_rfl) ?_
              obtain rfl := some_inj hj44
              exact ge_mid fun t ht => ⟨(Imm.refl _), rfl, ht.pick (l := [4, 5, 6]) (by kernel_rfl)⟩
          · rintro t I47 L' ⟨hI45, rfl, hK46⟩
            refine ge_at hK46 ?_
            refine ge_seq ?_
            refine gk_ret (by kernel_rfl) ?_
            refine ge_seq_ret ?_
            refine ge_block_ret ?_
            refine ge_seq_ret ?_
            obtain rfl := some_inj hj31
            refine ge_seq_ret ?_
            obtain rfl := some_inj hb15
            refine ge_round_out (fun hrr => ?_) (by intro h; cases h)
            obtain rfl := hrr
            refine ge_block_ret ?_
            refine ge_seq_ret ?_
            refine ge_seq_ret ?_
            obtain rfl := some_inj hr
            exact ge_result trivial (ResOk.tmp (by kernel_rfl) (ResOk.tmp (by kernel_rfl) (ResOk.tmp (by kernel_rfl) ResOk.nil))) (Imm.trans hI16 hI45) ⟨rfl, rfl⟩
        · have hj31 := cond_f hc42 hj31
          refine gk_skip (by kernel_rfl) ?_
          refine ge_seq ?_
          refine gk_seq (by kernel_rfl) ?_
          refine gk_seq (by kernel_rfl) ?_
          refine gk_region (by kernel_rfl) ?_
          refine gl_pure 2 [0, 1, 7, 8, 9, 10, 45] (K' := [(0, .string a0), (1, .int .i64 a1), (7, .int .u8 c1), (8, .slice A17 s13.1.length n18), (9, .int .i64 s13.2), (10, .int .u8 c40), (45, .bool (c40 == 10))]) (by kernel_rfl) ?_
          refine gl_atE (by kernel_rfl) ?_
          refine ge_seq ?_
          refine gk_cond (b := (c40 == 10)) (by kernel_rfl) (by kernel_rfl) (fun hc55 => ?_) (fun hc55 => ?_)
          · have hj31 := cond_t hc55 hj31
            refine gk_seq (by kernel_rfl) ?_
            refine gk_region (by kernel_rfl) ?_
            refine gl_pure 3 [4, 5, 6] (K' := [(4, .string (⟨#[]⟩ : ByteArray)), (5, .int .i64 0), (6, .bool false)]) (by kernel_rfl) ?_
            refine gl_atE (by kernel_rfl) ?_
            refine ge_seq ?_
            refine gk_reord (D := L) (Reord.skipC (Reord.refl _)) ?_
            refine gk_ret (by kernel_rfl) ?_
            refine ge_seq_ret ?_
            refine ge_block_ret ?_
            refine ge_seq_ret ?_
            obtain rfl := some_inj hj31
            refine ge_seq_ret ?_
            obtain rfl := some_inj hb15
            refine ge_round_out (fun hrr => ?_) (by intro h; cases h)
            obtain rfl := hrr
            refine ge_block_ret ?_
            refine ge_seq_ret ?_
            refine ge_seq_ret ?_
            obtain rfl := some_inj hr
            exact ge_result trivial (ResOk.tmp (by kernel_rfl) (ResOk.tmp (by kernel_rfl) (ResOk.tmp (by kernel_rfl) ResOk.nil))) hI16 ⟨rfl, rfl⟩
          · have hj31 := cond_f hc55 hj31
            refine gk_skip (by kernel_rfl) ?_
            refine ge_seq ?_
            refine gk_seq (by kernel_rfl) ?_
            refine gk_seq (by kernel_rfl) ?_
            refine gk_region (by kernel_rfl) ?_
            refine gl_pure 2 [0, 1, 7, 8, 9, 10, 47] (K' := [(0, .string a0), (1, .int .i64 a1), (7, .int .u8 c1), (8, .slice A17 s13.1.length n18), (9, .int .i64 s13.2), (10, .int .u8 c40), (47, .bool (c40 != 92))]) (by kernel_rfl) ?_
            refine gl_atE (by kernel_rfl) ?_
            refine ge_seq ?_
            refine gk_cond (b := (c40 != 92)) (by kernel_rfl) (by kernel_rfl) (fun hc56 => ?_) (fun hc56 => ?_)
            · have hj31 := cond_t hc56 hj31
              refine gk_seq (by kernel_rfl) ?_
              refine gk_region (by kernel_rfl) ?_
              refine gl_pure 2 [0, 1, 7, 9, 48, 49] (K' := [(0, .string a0), (1, .int .i64 a1), (7, .int .u8 c1), (9, .int .i64 s13.2), (48, .slice A17 s13.1.length n18), (49, .int .u8 c40)]) (by kernel_rfl) ?_
              refine gl_buildSlice (T' := 41) (e := 5) (n := 1) (len := 1) (parts := #[(0, (.tmp 49))]) (l := [(0, .int .u8 c40)]) (cs := #[.int .u8 c40]) (by kernel_rfl) (by kernel_rfl) (by kernel_rfl) (by kernel_rfl) (by kernel_rfl) (fun g57 => ?_)
              have hO58 : OwnS (Kd.int .u8) 5 I22 (some ⟨g57, 0, none⟩) 1 [c40] [(g57, .cells #[.int .u8 c40] 5)] := OwnS.lit (row_cons (l := [.int .u8 c40]) rfl (row_nil _ _)) rfl rfl rfl
              refine gl_reord (D := [(g57, .cells #[.int .u8 c40] 5)] ++ (C19 ++ L)) (Reord.refl _) ?_
              obtain ⟨zs61, hz62, hj31⟩ := bind_some hj31
              refine gl_append (xv := .slice (some ⟨g57, 0, none⟩) [c40].length 1) (d := (Kd.int .u8)) (t := 41) (tx := 41) (e := 5) (s := (.tmp 48)) (x := (.tmp 50)) (xs := s13.1) (fun X => [(g57, .cells #[.int .u8 c40] 5)] ++ (X ++ L)) hz62 (by kernel_rfl) (by kernel_rfl) (by kernel_rfl) (by kernel_rfl) (by kernel_rfl) (by kernel_rfl) (fun X => (Upd.app _ (Upd.head _ X _))) hO20 (SrcOk.slice (c := 1) (e := 5) (n := 1) (OwnS.rd hO58 (Upd.selfC _ _)) (by kernel_rfl)) (fun A63 n64 C65 hO66 => ?_)
              refine gl_pure 1 [0, 1, 7, 8, 9] (K' := [(0, .string a0), (1, .int .i64 a1), (7, .int .u8 c1), (8, .slice A63 zs61.length n64), (9, .int .i64 s13.2)]) (by kernel_rfl) ?_
              refine gl_atE (by kernel_rfl) ?_
              refine ge_seq ?_
              refine gk_reord (D := C65 ++ L) (Reord.step (Upd.app _ (Upd.rmC _ _)) (Reord.skipC (Reord.refl _))) ?_
              refine gk_exit (by kernel_rfl) ?_
              refine ge_seq_exit ?_
              refine ge_block_hit (by kernel_rfl) ?_
              obtain rfl := some_inj hj31
              exact ge_mid fun t ht => ⟨_, rfl, A63, n64, C65, hO66, (Imm.refl _), rfl, ht.pick (l := [0, 1, 7, 8, 9]) (by kernel_rfl)⟩
            · have hj31 := cond_f hc56 hj31
              refine gk_skip (by kernel_rfl) ?_
              refine ge_seq ?_
              refine gk_seq (by kernel_rfl) ?_
              refine gk_region (by kernel_rfl) ?_
              refine gl_pure 3 [0, 1, 7, 8, 9] (K' := [(0, .string a0), (1, .int .i64 a1), (7, .int .u8 c1), (8, .slice A17 s13.1.length n18), (9, .int .i64 (IntKind.wrap .i64 (s13.2 + 1)))]) (by kernel_rfl) ?_
              refine gl_atE (by kernel_rfl) ?_
              refine ge_seq ?_
              refine gk_seq (by kernel_rfl) ?_
              refine gk_seq (by kernel_rfl) ?_
              refine gk_region (by kernel_rfl) ?_
              refine gl_pure 4 [0, 1, 7, 8, 9, 57] (K' := [(0, .string a0), (1, .int .i64 a1), (7, .int .u8 c1), (8, .slice A17 s13.1.length n18), (9, .int .i64 (IntKind.wrap .i64 (s13.2 + 1))), (57, .bool (decide ((IntKind.wrap .i64 (s13.2 + 1)) ≥ (a0.size : Int))))]) (by kernel_rfl) ?_
              refine gl_atE (by kernel_rfl) ?_
              refine ge_seq ?_
              refine gk_cond (b := (decide ((IntKind.wrap .i64 (s13.2 + 1)) ≥ (a0.size : Int)))) (by kernel_rfl) (by kernel_rfl) (fun hc67 => ?_) (fun hc67 => ?_)
              · have hj31 := cond_t hc67 hj31
                refine gk_seq (by kernel_rfl) ?_
                refine gk_region (by kernel_rfl) ?_
                refine gl_pure 3 [4, 5, 6] (K' := [(4, .string (⟨#[]⟩ : ByteArray)), (5, .int .i64 0), (6, .bool false)]) (by kernel_rfl) ?_
                refine gl_atE (by kernel_rfl) ?_
                refine ge_seq ?_
                refine gk_reord (D := L) (Reord.skipC (Reord.refl _)) ?_
                refine gk_ret (by kernel_rfl) ?_
                refine ge_seq_ret ?_
                refine ge_block_ret ?_
                refine ge_seq_ret ?_
                obtain rfl := some_inj hj31
                refine ge_seq_ret ?_
                obtain rfl := some_inj hb15
                refine ge_round_out (fun hrr => ?_) (by intro h; cases h)
                obtain rfl := hrr
                refine ge_block_ret ?_
                refine ge_seq_ret ?_
                refine ge_seq_ret ?_
                obtain rfl := some_inj hr
                exact ge_result trivial (ResOk.tmp (by kernel_rfl) (ResOk.tmp (by kernel_rfl) (ResOk.tmp (by kernel_rfl) ResOk.nil))) hI16 ⟨rfl, rfl⟩
              · have hj31 := cond_f hc67 hj31
                refine gk_skip (by kernel_rfl) ?_
                refine ge_seq ?_
                refine gk_seq (by kernel_rfl) ?_
                refine gk_region (by kernel_rfl) ?_
                refine gl_pure 2 [0, 1, 7, 8, 9, 58, 59] (K' := [(0, .string a0), (1, .int .i64 a1), (7, .int .u8 c1), (8, .slice A17 s13.1.length n18), (9, .int .i64 (IntKind.wrap .i64 (s13.2 + 1))), (58, .string a0), (59, .int .i64 (IntKind.wrap .i64 (s13.2 + 1)))]) (by kernel_rfl) ?_
                obtain ⟨c68, hx69, hj31⟩ := bind_some hj31
                refine gl_index' (T' := 9) (xs := (.tmp 58)) (xi := (.tmp 59)) (kd := .i64) hx69 (by kernel_rfl) (by kernel_rfl) (by kernel_rfl) (by kernel_rfl) (by kernel_rfl) ?_
                refine gl_atE (by kernel_rfl) ?_
                refine ge_seq ?_
                refine gk_block (by kernel_rfl) ?_
                refine gk_seq (by kernel_rfl) ?_
                refine gk_seq (by kernel_rfl) ?_
                refine gk_region (by kernel_rfl) ?_
                refine gl_pure 2 [0, 1, 7, 8, 9, 60, 61] (K' := [(0, .string a0), (1, .int .i64 a1), (7, .int .u8 c1), (8, .slice A17 s13.1.length n18), (9, .int .i64 (IntKind.wrap .i64 (s13.2 + 1))), (60, .int .u8 c68), (61, .bool (c68 == 92))]) (by kernel_rfl) ?_
                refine gl_atE (by kernel_rfl) ?_
                refine ge_seq ?_
                obtain ⟨j70, hj71, hj31⟩ := bind_some hj31
                refine gk_join (fun t I' L' => I22 ≤ I' ∧ C19 ++ L = L' ∧ Knows 133 [(0, .string a0), (1, .int .i64 a1), (7, .int .u8 c1), (8, .slice A17 s13.1.length n18), (9, .int .i64 (IntKind.wrap .i64 (s13.2 + 1))), (60, .int .u8 c68), (61, .bool j70)] t) ?_ ?_
                · refine gk_cond (b := (c68 == 92)) (by kernel_rfl) (by kernel_rfl) (fun hc75 => ?_) (fun hc75 => ?_)
                  · have hj71 := cond_t hc75 hj71
                    refine gk_skip (by kernel_rfl) ?_
                    obtain rfl := some_inj hj71
                    exact ge_mid fun t ht => ⟨(Imm.refl _), rfl, ht.pick (l := [0, 1, 7, 8, 9, 60, 61]) (by kernel_rfl)⟩
                  · have hj71 := cond_f hc75 hj71
                    refine gk_seq (by kernel_rfl) ?_
                    refine gk_region (by kernel_rfl) ?_
                    refine gl_pure 2 [0, 1, 7, 8, 9, 60, 61] (K' := [(0, .string a0), (1, .int .i64 a1), (7, .int .u8 c1), (8, .slice A17 s13.1.length n18), (9, .int .i64 (IntKind.wrap .i64 (s13.2 + 1))), (60, .int .u8 c68), (61, .bool (c68 == 34))]) (by kernel_rfl) ?_
                    refine gl_atE (by kernel_rfl) ?_
                    refine ge_seq ?_
                    obtain ⟨j76, hj77, hj71⟩ := bind_some hj71
                    refine gk_join (fun t I' L' => I22 ≤ I' ∧ C19 ++ L = L' ∧ Knows 133 [(0, .string a0), (1, .int .i64 a1), (7, .int .u8 c1), (8, .slice A17 s13.1.length n18), (9, .int .i64 (IntKind.wrap .i64 (s13.2 + 1))), (60, .int .u8 c68), (61, .bool j76)] t) ?_ ?_
                    · refine gk_cond (b := (c68 == 34)) (by kernel_rfl) (by kernel_rfl) (fun hc81 => ?_) (fun hc81 => ?_)
                      · have hj77 := cond_t hc81 hj77
                        refine gk_skip (by kernel_rfl) ?_
                        obtain rfl := some_inj hj77
                        exact ge_mid fun t ht => ⟨(Imm.refl _), rfl, ht.pick (l := [0, 1, 7, 8, 9, 60, 61]) (by kernel_rfl)⟩
                      · have hj77 := cond_f hc81 hj77
                        refine gk_region (by kernel_rfl) ?_
                        refine gl_pure 2 [0, 1, 7, 8, 9, 60, 61] (K' := [(0, .string a0), (1, .int .i64 a1), (7, .int .u8 c1), (8, .slice A17 s13.1.length n18), (9, .int .i64 (IntKind.wrap .i64 (s13.2 + 1))), (60, .int .u8 c68), (61, .bool (c68 == 39))]) (by kernel_rfl) ?_
                        refine gl_atE (by kernel_rfl) ?_
                        obtain rfl := some_inj hj77
                        exact ge_mid fun t ht => ⟨(Imm.refl _), rfl, ht.pick (l := [0, 1, 7, 8, 9, 60, 61]) (by kernel_rfl)⟩
                    · rintro t I80 L' ⟨hI78, rfl, hK79⟩
                      refine ge_at hK79 ?_
                      obtain rfl := some_inj hj71
                      exact ge_mid fun t ht => ⟨hI78, rfl, ht.pick (l := [0, 1, 7, 8, 9, 60, 61]) (by kernel_rfl)⟩
                · rintro t I74 L' ⟨hI72, rfl, hK73⟩
                  refine ge_at hK73 ?_
                  refine ge_seq ?_
                  obtain ⟨j82, hj83, hj31⟩ := bind_some hj31
                  refine gk_join (fun t I' L' => ∃ j84, j82 = Sum.inl j84 ∧ ∃ A86 n87 C88, OwnS (Kd.int .u8) 5 I' A86 n87 j84.1 C88 ∧ I74 ≤ I' ∧ C88 ++ L = L' ∧ Knows 133 [(0, .string a0), (1, .int .i64 a1), (7, .int .u8 c1), (8, .slice A86 j84.1.length n87), (9, .int .i64 j84.2)] t) ?_ ?_
                  · refine gk_cond (b := j70) (by kernel_rfl) (by kernel_rfl) (fun hc92 => ?_) (fun hc92 => ?_)
                    · have hj83 := cond_t hc92 hj83
                      refine gk_region (by kernel_rfl) ?_
                      refine gl_pure 3 [0, 1, 7, 9, 65, 66, 67] (K' := [(0, .string a0), (1, .int .i64 a1), (7, .int .u8 c1), (9, .int .i64 (IntKind.wrap .i64 (s13.2 + 1))), (65, .slice A17 s13.1.length n18), (66, .string a0), (67, .int .i64 (IntKind.wrap .i64 (s13.2 + 1)))]) (by kernel_rfl) ?_
                      obtain ⟨c93, hx94, hj83⟩ := bind_some hj83
                      refine gl_index' (T' := 9) (xs := (.tmp 66)) (xi := (.tmp 67)) (kd := .i64) hx94 (by kernel_rfl) (by kernel_rfl) (by kernel_rfl) (by kernel_rfl) (by kernel_rfl) ?_
                      refine gl_buildSlice (T' := 41) (e := 5) (n := 1) (len := 1) (parts := #[(0, (.tmp 68))]) (l := [(0, .int .u8 c93)]) (cs := #[.int .u8 c93]) (by kernel_rfl) (by kernel_rfl) (by kernel_rfl) (by kernel_rfl) (by kernel_rfl) (fun g95 => ?_)
                      have hO96 : OwnS (Kd.int .u8) 5 I74 (some ⟨g95, 0, none⟩) 1 [c93] [(g95, .cells #[.int .u8 c93] 5)] := OwnS.lit (row_cons (l := [.int .u8 c93]) rfl (row_nil _ _)) rfl rfl rfl
                      refine gl_reord (D := [(g95, .cells #[.int .u8 c93] 5)] ++ (C19 ++ L)) (Reord.refl _) ?_
                      obtain ⟨zs99, hz100, hj83⟩ := bind_some hj83
                      refine gl_append (xv := .slice (some ⟨g95, 0, none⟩) [c93].length 1) (d := (Kd.int .u8)) (t := 41) (tx := 41) (e := 5) (s := (.tmp 65)) (x := (.tmp 69)) (xs := s13.1) (fun X => [(g95, .cells #[.int .u8 c93] 5)] ++ (X ++ L)) hz100 (by kernel_rfl) (by kernel_rfl) (by kernel_rfl) (by kernel_rfl) (by kernel_rfl) (by kernel_rfl) (fun X => (Upd.app _ (Upd.head _ X _))) (hO20.mono hI72) (SrcOk.slice (c := 1) (e := 5) (n := 1) (OwnS.rd hO96 (Upd.selfC _ _)) (by kernel_rfl)) (fun A101 n102 C103 hO104 => ?_)
                      refine gl_pure 1 [0, 1, 7, 8, 9] (K' := [(0, .string a0), (1, .int .i64 a1), (7, .int .u8 c1), (8, .slice A101 zs99.length n102), (9, .int .i64 (IntKind.wrap .i64 (s13.2 + 1)))]) (by kernel_rfl) ?_
                      refine gl_reord (D := C103 ++ L) (Reord.step (Upd.app _ (Upd.rmC _ _)) (Reord.skipC (Reord.refl _))) ?_
                      refine gl_atE (by kernel_rfl) ?_
                      obtain rfl := some_inj hj83
                      exact ge_mid fun t ht => ⟨_, rfl, A101, n102, C103, hO104, (Imm.refl _), rfl, ht.pick (l := [0, 1, 7, 8, 9]) (by kernel_rfl)⟩
                    · have hj83 := cond_f hc92 hj83
                      refine gk_seq (by kernel_rfl) ?_
                      refine gk_region (by kernel_rfl) ?_
                      refine gl_pure 2 [0, 1, 7, 8, 9, 60, 71] (K' := [(0, .string a0), (1, .int .i64 a1), (7, .int .u8 c1), (8, .slice A17 s13.1.length n18), (9, .int .i64 (IntKind.wrap .i64 (s13.2 + 1))), (60, .int .u8 c68), (71, .bool (c68 == 110))]) (by kernel_rfl) ?_
                      refine gl_atE (by kernel_rfl) ?_
                      refine ge_seq ?_
                      obtain ⟨j105, hj106, hj83⟩ := bind_some hj83
                      refine gk_join (fun t I' L' => ∃ j107, j105 = Sum.inl j107 ∧ ∃ A109 n110 C111, OwnS (Kd.int .u8) 5 I' A109 n110 j107.1 C111 ∧ I74 ≤ I' ∧ C111 ++ L = L' ∧ Knows 133 [(0, .string a0), (1, .int .i64 a1), (7, .int .u8 c1), (8, .slice A109 j107.1.length n110), (9, .int .i64 j107.2)] t) ?_ ?_
                      · refine gk_cond (b := (c68 == 110)) (by kernel_rfl) (by kernel_rfl) (fun hc115 => ?_) (fun hc115 => ?_)
                        · have hj106 := cond_t hc115 hj106
                          refine gk_region (by kernel_rfl) ?_
                          refine gl_pure 1 [0, 1, 7, 9, 73] (K' := [(0, .string a0), (1, .int .i64 a1), (7, .int .u8 c1), (9, .int .i64 (IntKind.wrap .i64 (s13.2 + 1))), (73, .slice A17 s13.1.length n18)]) (by kernel_rfl) ?_
                          refine gl_buildSlice (T' := 41) (e := 5) (n := 1) (len := 1) (parts := #[(0, (.const (.int .u8 10)))]) (l := [(0, .int .u8 10)]) (cs := #[.int .u8 10]) (by kernel_rfl) (by kernel_rfl) (by kernel_rfl) (by kernel_rfl) (by kernel_rfl) (fun g116 => ?_)
                          have hO117 : OwnS (Kd.int .u8) 5 I74 (some ⟨g116, 0, none⟩) 1 [10] [(g116, .cells #[.int .u8 10] 5)] := OwnS.lit (row_cons (l := [.int .u8 10]) rfl (row_nil _ _)) rfl rfl rfl
                          refine gl_reord (D := [(g116, .cells #[.int .u8 10] 5)] ++ (C19 ++ L)) (Reord.refl _) ?_
                          obtain ⟨zs120, hz121, hj106⟩ := bind_some hj106
                          refine gl_append (xv := .slice (some ⟨g116, 0, none⟩) [10].length 1) (d := (Kd.int .u8)) (t := 41) (tx := 41) (e := 5) (s := (.tmp 73)) (x := (.tmp 74)) (xs := s13.1) (fun X => [(g116, .cells #[.int .u8 10] 5)] ++ (X ++ L)) hz121 (by kernel_rfl) (by kernel_rfl) (by kernel_rfl) (by kernel_rfl) (by kernel_rfl) (by kernel_rfl) (fun X => (Upd.app _ (Upd.head _ X _))) (hO20.mono hI72) (SrcOk.slice (c := 1) (e := 5) (n := 1) (OwnS.rd hO117 (Upd.selfC _ _)) (by kernel_rfl)) (fun A122 n123 C124 hO125 => ?_)
                          refine gl_pure 1 [0, 1, 7, 8, 9] (K' := [(0, .string a0), (1, .int .i64 a1), (7, .int .u8 c1), (8, .slice A122 zs120.length n123), (9, .int .i64 (IntKind.wrap .i64 (s13.2 + 1)))]) (by kernel_rfl) ?_
                          refine gl_reord (D := C124 ++ L) (Reord.step (Upd.app _ (Upd.rmC _ _)) (Reord.skipC (Reord.refl _))) ?_
                          refine gl_atE (by kernel_rfl) ?_
                          obtain rfl := some_inj hj106
                          exact ge_mid fun t ht => ⟨_, rfl, A122, n123, C124, hO125, (Imm.refl _), rfl, ht.pick (l := [0, 1, 7, 8, 9]) (by kernel_rfl)⟩
                        · have hj106 := cond_f hc115 hj106
                          refine gk_seq (by kernel_rfl) ?_
                          refine gk_region (by kernel_rfl) ?_
                          refine gl_pure 2 [0, 1, 7, 8, 9, 60, 76] (K' := [(0, .string a0), (1, .int .i64 a1), (7, .int .u8 c1), (8, .slice A17 s13.1.length n18), (9, .int .i64 (IntKind.wrap .i64 (s13.2 + 1))), (60, .int .u8 c68), (76, .bool (c68 == 116))]) (by kernel_rfl) ?_
                          refine gl_atE (by kernel_rfl) ?_
                          refine ge_seq ?_
                          obtain ⟨j126, hj127, hj106⟩ := bind_some hj106
                          refine gk_join (fun t I' L' => ∃ j128, j126 = Sum.inl j128 ∧ ∃ A130 n131 C132, OwnS (Kd.int .u8) 5 I' A130 n131 j128.1 C132 ∧ I74 ≤ I' ∧ C132 ++ L = L' ∧ Knows 133 [(0, .string a0), (1, .int .i64 a1), (7, .int .u8 c1), (8, .slice A130 j128.1.length n131), (9, .int .i64 j128.2)] t) ?_ ?_
                          · refine gk_cond (b := (c68 == 116)) (by kernel_rfl) (by kernel_rfl) (fun hc136 => ?_) (fun hc136 => ?_)
                            · have hj127 := cond_t hc136 hj127
                              refine gk_region (by kernel_rfl) ?_
                              refine gl_pure 1 [0, 1, 7, 9, 78] (K' := [(0, .string a0), (1, .int .i64 a1), (7, .int .u8 c1), (9, .int .i64 (IntKind.wrap .i64 (s13.2 + 1))), (78, .slice A17 s13.1.length n18)]) (by kernel_rfl) ?_
                              refine gl_buildSlice (T' := 41) (e := 5) (n := 1) (len := 1) (parts := #[(0, (.const (.int .u8 9)))]) (l := [(0, .int .u8 9)]) (cs := #[.int .u8 9]) (by kernel_rfl) (by kernel_rfl) (by kernel_rfl) (by kernel_rfl) (by kernel_rfl) (fun g137 => ?_)
                              have hO138 : OwnS (Kd.int .u8) 5 I74 (some ⟨g137, 0, none⟩) 1 [9] [(g137, .cells #[.int .u8 9] 5)] := OwnS.lit (row_cons (l := [.int .u8 9]) rfl (row_nil _ _)) rfl rfl rfl
                              refine gl_reord (D := [(g137, .cells #[.int .u8 9] 5)] ++ (C19 ++ L)) (Reord.refl _) ?_
                              obtain ⟨zs141, hz142, hj127⟩ := bind_some hj127
                              refine gl_append (xv := .slice (some ⟨g137, 0, none⟩) [9].length 1) (d := (Kd.int .u8)) (t := 41) (tx := 41) (e := 5) (s := (.tmp 78)) (x := (.tmp 79)) (xs := s13.1) (fun X => [(g137, .cells #[.int .u8 9] 5)] ++ (X ++ L)) hz142 (by kernel_rfl) (by kernel_rfl) (by kernel_rfl) (by kernel_rfl) (by kernel_rfl) (by kernel_rfl) (fun X => (Upd.app _ (Upd.head _ X _))) (hO20.mono hI72) (SrcOk.slice (c := 1) (e := 5) (n := 1) (OwnS.rd hO138 (Upd.selfC _ _)) (by kernel_rfl)) (fun A143 n144 C145 hO146 => ?_)
                              refine gl_pure 1 [0, 1, 7, 8, 9] (K' := [(0, .string a0), (1, .int .i64 a1), (7, .int .u8 c1), (8, .slice A143 zs141.length n144), (9, .int .i64 (IntKind.wrap .i64 (s13.2 + 1)))]) (by kernel_rfl) ?_
                              refine gl_reord (D := C145 ++ L) (Reord.step (Upd.app _ (Upd.rmC _ _)) (Reord.skipC (Reord.refl _))) ?_
                              refine gl_atE (by kernel_rfl) ?_
                              obtain rfl := some_inj hj127
                              exact ge_mid fun t ht => ⟨_, rfl, A143, n144, C145, hO146, (Imm.refl _), rfl, ht.pick (l := [0, 1, 7, 8, 9]) (by kernel_rfl)⟩
                            · have hj127 := cond_f hc136 hj127
                              refine gk_seq (by kernel_rfl) ?_
                              refine gk_region (by kernel_rfl) ?_
                              refine gl_pure 2 [0, 1, 7, 8, 9, 60, 81] (K' := [(0, .string a0), (1, .int .i64 a1), (7, .int .u8 c1), (8, .slice A17 s13.1.length n18), (9, .int .i64 (IntKind.wrap .i64 (s13.2 + 1))), (60, .int .u8 c68), (81, .bool (c68 == 114))]) (by kernel_rfl) ?_
                              refine gl_atE (by kernel_rfl) ?_
                              refine ge_seq ?_
                              obtain ⟨j147, hj148, hj127⟩ := bind_some hj127
                              refine gk_join (fun t I' L' => ∃ j149, j147 = Sum.inl j149 ∧ ∃ A151 n152 C153, OwnS (Kd.int .u8) 5 I' A151 n152 j149.1 C153 ∧ I74 ≤ I' ∧ C153 ++ L = L' ∧ Knows 133 [(0, .string a0), (1, .int .i64 a1), (7, .int .u8 c1), (8, .slice A151 j149.1.length n152), (9, .int .i64 j149.2)] t) ?_ ?_
                              · refine gk_cond (b := (c68 == 114)) (by kernel_rfl) (by kernel_rfl) (fun hc157 => ?_) (fun hc157 => ?_)
                                · have hj148 := cond_t hc157 hj148
                                  refine gk_region (by kernel_rfl) ?_
                                  refine gl_pure 1 [0, 1, 7, 9, 83] (K' := [(0, .string a0), (1, .int .i64 a1), (7, .int .u8 c1), (9, .int .i64 (IntKind.wrap .i64 (s13.2 + 1))), (83, .slice A17 s13.1.length n18)]) (by kernel_rfl) ?_
                                  refine gl_buildSlice (T' := 41) (e := 5) (n := 1) (len := 1) (parts := #[(0, (.const (.int .u8 13)))]) (l := [(0, .int .u8 13)]) (cs := #[.int .u8 13]) (by kernel_rfl) (by kernel_rfl) (by kernel_rfl) (by kernel_rfl) (by kernel_rfl) (fun g158 => ?_)
                                  have hO159 : OwnS (Kd.int .u8) 5 I74 (some ⟨g158, 0, none⟩) 1 [13] [(g158, .cells #[.int .u8 13] 5)] := OwnS.lit (row_cons (l := [.int .u8 13]) rfl (row_nil _ _)) rfl rfl rfl
                                  refine gl_reord (D := [(g158, .cells #[.int .u8 13] 5)] ++ (C19 ++ L)) (Reord.refl _) ?_
                                  obtain ⟨zs162, hz163, hj148⟩ := bind_some hj148
                                  refine gl_append (xv := .slice (some ⟨g158, 0, none⟩) [13].length 1) (d := (Kd.int .u8)) (t := 41) (tx := 41) (e := 5) (s := (.tmp 83)) (x := (.tmp 84)) (xs := s13.1) (fun X => [(g158, .cells #[.int .u8 13] 5)] ++ (X ++ L)) hz163 (by kernel_rfl) (by kernel_rfl) (by kernel_rfl) (by kernel_rfl) (by kernel_rfl) (by kernel_rfl) (fun X => (Upd.app _ (Upd.head _ X _))) (hO20.mono hI72) (SrcOk.slice (c := 1) (e := 5) (n := 1) (OwnS.rd hO159 (Upd.selfC _ _)) (by kernel_rfl)) (fun A164 n165 C166 hO167 => ?_)
                                  refine gl_pure 1 [0, 1, 7, 8, 9] (K' := [(0, .string a0), (1, .int .i64 a1), (7, .int .u8 c1), (8, .slice A164 zs162.length n165), (9, .int .i64 (IntKind.wrap .i64 (s13.2 + 1)))]) (by kernel_rfl) ?_
                                  refine gl_reord (D := C166 ++ L) (Reord.step (Upd.app _ (Upd.rmC _ _)) (Reord.skipC (Reord.refl _))) ?_
                                  refine gl_atE (by kernel_rfl) ?_
                                  obtain rfl := some_inj hj148
                                  exact ge_mid fun t ht => ⟨_, rfl, A164, n165, C166, hO167, (Imm.refl _), rfl, ht.pick (l := [0, 1, 7, 8, 9]) (by kernel_rfl)⟩
                                · have hj148 := cond_f hc157 hj148
                                  refine gk_seq (by kernel_rfl) ?_
                                  refine gk_region (by kernel_rfl) ?_
                                  refine gl_pure 2 [0, 1, 7, 8, 9, 86] (K' := [(0, .string a0), (1, .int .i64 a1), (7, .int .u8 c1), (8, .slice A17 s13.1.length n18), (9, .int .i64 (IntKind.wrap .i64 (s13.2 + 1))), (86, .bool (c68 == 120))]) (by kernel_rfl) ?_
                                  refine gl_atE (by kernel_rfl) ?_
                                  refine ge_seq ?_
                                  refine gk_cond (b := (c68 == 120)) (by kernel_rfl) (by kernel_rfl) (fun hc168 => ?_) (fun hc168 => ?_)
                                  · have hj148 := cond_t hc168 hj148
                                    refine gk_seq (by kernel_rfl) ?_
                                    refine gk_seq (by kernel_rfl) ?_
                                    obtain ⟨j169, hj170, hj148⟩ := bind_some hj148
                                    refine gk_join (fun t I' L' => I74 ≤ I' ∧ C19 ++ L = L' ∧ Knows 133 [(0, .string a0), (1, .int .i64 a1), (7, .int .u8 c1), (8, .slice A17 s13.1.length n18), (9, .int .i64 (IntKind.wrap .i64 (s13.2 + 1))), (115, .bool j169)] t) ?_ ?_
                                    · refine gk_region (by kernel_rfl) ?_
                                      refine gl_pure 6 [0, 1, 7, 8, 9, 93] (K' := [(0, .string a0), (1, .int .i64 a1), (7, .int .u8 c1), (8, .slice A17 s13.1.length n18), (9, .int .i64 (IntKind.wrap .i64 (s13.2 + 1))), (93, .bool (decide ((IntKind.wrap .i64 ((IntKind.wrap .i64 (s13.2 + 1)) + 2)) ≥ (a0.size : Int))))]) (by kernel_rfl) ?_
                                      refine gl_case 93 (b := (decide ((IntKind.wrap .i64 ((IntKind.wrap .i64 (s13.2 + 1)) + 2)) ≥ (a0.size : Int)))) (by kernel_rfl) (fun hc174 => ?_) (fun hc174 => ?_)
                                      · have hj170 := cond_t hc174 hj170
                                        refine gl_pure 22 [0, 1, 7, 8, 9, 115] (K' := [(0, .string a0), (1, .int .i64 a1), (7, .int .u8 c1), (8, .slice A17 s13.1.length n18), (9, .int .i64 (IntKind.wrap .i64 (s13.2 + 1))), (115, .bool true)]) (by kernel_rfl) ?_
                                        refine gl_atE (by kernel_rfl) ?_
                                        obtain rfl := some_inj hj170
                                        exact ge_mid fun t ht => ⟨(Imm.refl _), rfl, ht.pick (l := [0, 1, 7, 8, 9, 115]) (by kernel_rfl)⟩
                                      · have hj170 := cond_f hc174 hj170
                                        refine gl_pure 3 [0, 1, 7, 8, 9, 93, 94, 96] (K' := [(0, .string a0), (1, .int .i64 a1), (7, .int .u8 c1), (8, .slice A17 s13.1.length n18), (9, .int .i64 (IntKind.wrap .i64 (s13.2 + 1))), (93, .bool false), (94, .string a0), (96, .int .i64 (IntKind.wrap .i64 ((IntKind.wrap .i64 (s13.2 + 1)) + 1)))]) (by kernel_rfl) ?_
                                        obtain ⟨c175, hx176, hj170⟩ := bind_some hj170
                                        refine gl_index' (T' := 9) (xs := (.tmp 94)) (xi := (.tmp 96)) (kd := .i64) hx176 (by kernel_rfl) (by kernel_rfl) (by kernel_rfl) (by kernel_rfl) (by kernel_rfl) ?_
                                        refine gl_callQ (by kernel_rfl) (tocsinref13_hex_walk (r := (tocsinref13_hex c175))  rfl _) ?_
                                        refine gl_pure 3 [0, 1, 7, 8, 9, 101] (K' := [(0, .string a0), (1, .int .i64 a1), (7, .int .u8 c1), (8, .slice A17 s13.1.length n18), (9, .int .i64 (IntKind.wrap .i64 (s13.2 + 1))), (101, .bool (!(tocsinref13_hex c175)))]) (by kernel_rfl) ?_
                                        refine gl_case 101 (b := (!(tocsinref13_hex c175))) (by kernel_rfl) (fun hc177 => ?_) (fun hc177 => ?_)
                                        · have hj170 := cond_t hc177 hj170
                                          refine gl_pure 14 [0, 1, 7, 8, 9, 115] (K' := [(0, .string a0), (1, .int .i64 a1), (7, .int .u8 c1), (8, .slice A17 s13.1.length n18), (9, .int .i64 (IntKind.wrap .i64 (s13.2 + 1))), (115, .bool true)]) (by kernel_rfl) ?_
                                          refine gl_atE (by kernel_rfl) ?_
                                          obtain rfl := some_inj hj170
                                          exact ge_mid fun t ht => ⟨(Imm.refl _), rfl, ht.pick (l := [0, 1, 7, 8, 9, 115]) (by kernel_rfl)⟩
                                        · have hj170 := cond_f hc177 hj170
                                          refine gl_pure 3 [0, 1, 7, 8, 9, 101, 102, 104] (K' := [(0, .string a0), (1, .int .i64 a1), (7, .int .u8 c1), (8, .slice A17 s13.1.length n18), (9, .int .i64 (IntKind.wrap .i64 (s13.2 + 1))), (101, .bool false), (102, .string a0), (104, .int .i64 (IntKind.wrap .i64 ((IntKind.wrap .i64 (s13.2 + 1)) + 2)))]) (by kernel_rfl) ?_
                                          obtain ⟨c178, hx179, hj170⟩ := bind_some hj170
                                          refine gl_index' (T' := 9) (xs := (.tmp 102)) (xi := (.tmp 104)) (kd := .i64) hx179 (by kernel_rfl) (by kernel_rfl) (by kernel_rfl) (by kernel_rfl) (by kernel_rfl) ?_
                                          refine gl_callQ (by kernel_rfl) (tocsinref13_hex_walk (r := (tocsinref13_hex c178))  rfl _) ?_
                                          refine gl_pure 3 [0, 1, 7, 8, 9, 109] (K' := [(0, .string a0), (1, .int .i64 a1), (7, .int .u8 c1), (8, .slice A17 s13.1.length n18), (9, .int .i64 (IntKind.wrap .i64 (s13.2 + 1))), (109, .bool (!(tocsinref13_hex c178)))]) (by kernel_rfl) ?_
                                          refine gl_case 109 (b := (!(tocsinref13_hex c178))) (by kernel_rfl) (fun hc180 => ?_) (fun hc180 => ?_)
                                          · have hj170 := cond_t hc180 hj170
                                            refine gl_pure 6 [0, 1, 7, 8, 9, 115] (K' := [(0, .string a0), (1, .int .i64 a1), (7, .int .u8 c1), (8, .slice A17 s13.1.length n18), (9, .int .i64 (IntKind.wrap .i64 (s13.2 + 1))), (115, .bool true)]) (by kernel_rfl) ?_
                                            refine gl_atE (by kernel_rfl) ?_
                                            obtain rfl := some_inj hj170
                                            exact ge_mid fun t ht => ⟨(Imm.refl _), rfl, ht.pick (l := [0, 1, 7, 8, 9, 115]) (by kernel_rfl)⟩
                                          · have hj170 := cond_f hc180 hj170
                                            refine gl_pure 3 [0, 1, 7, 8, 9, 109, 110, 112] (K' := [(0, .string a0), (1, .int .i64 a1), (7, .int .u8 c1), (8, .slice A17 s13.1.length n18), (9, .int .i64 (IntKind.wrap .i64 (s13.2 + 1))), (109, .bool false), (110, .string a0), (112, .int .i64 (IntKind.wrap .i64 ((IntKind.wrap .i64 (s13.2 + 1)) + 1)))]) (by kernel_rfl) ?_
                                            obtain ⟨c181, hx182, hj170⟩ := bind_some hj170
                                            refine gl_index' (T' := 9) (xs := (.tmp 110)) (xi := (.tmp 112)) (kd := .i64) hx182 (by kernel_rfl) (by kernel_rfl) (by kernel_rfl) (by kernel_rfl) (by kernel_rfl) ?_
                                            refine gl_pure 2 [0, 1, 7, 8, 9, 115] (K' := [(0, .string a0), (1, .int .i64 a1), (7, .int .u8 c1), (8, .slice A17 s13.1.length n18), (9, .int .i64 (IntKind.wrap .i64 (s13.2 + 1))), (115, .bool (decide (c181 > 55)))]) (by kernel_rfl) ?_
                                            refine gl_atE (by kernel_rfl) ?_
                                            obtain rfl := some_inj hj170
                                            exact ge_mid fun t ht => ⟨(Imm.refl _), rfl, ht.pick (l := [0, 1, 7, 8, 9, 115]) (by kernel_rfl)⟩
                                    · rintro t I173 L' ⟨hI171, rfl, hK172⟩
                                      refine ge_at hK172 ?_
                                      refine ge_seq ?_
                                      refine gk_cond (b := j169) (by kernel_rfl) (by kernel_rfl) (fun hc183 => ?_) (fun hc183 => ?_)
                                      · have hj148 := cond_t hc183 hj148
                                        refine gk_seq (by kernel_rfl) ?_
                                        refine gk_region (by kernel_rfl) ?_
                                        refine gl_pure 3 [4, 5, 6] (K' := [(4, .string (⟨#[]⟩ : ByteArray)), (5, .int .i64 0), (6, .bool false)]) (by kernel_rfl) ?_
                                        refine gl_atE (by kernel_rfl) ?_
                                        refine ge_seq ?_
                                        refine gk_reord (D := L) (Reord.skipC (Reord.refl _)) ?_
                                        refine gk_ret (by kernel_rfl) ?_
                                        refine ge_seq_ret ?_
                                        refine ge_seq_ret ?_
                                        obtain rfl := some_inj hj148
                                        refine ge_seq_ret ?_
                                        obtain rfl := some_inj hj127
                                        refine ge_seq_ret ?_
                                        obtain rfl := some_inj hj106
                                        refine ge_seq_ret ?_
                                        obtain rfl := some_inj hj83
                                        refine ge_block_ret ?_
                                        refine ge_block_ret ?_
                                        refine ge_seq_ret ?_
                                        obtain rfl := some_inj hj31
                                        refine ge_seq_ret ?_
                                        obtain rfl := some_inj hb15
                                        refine ge_round_out (fun hrr => ?_) (by intro h; cases h)
                                        obtain rfl := hrr
                                        refine ge_block_ret ?_
                                        refine ge_seq_ret ?_
                                        refine ge_seq_ret ?_
                                        obtain rfl := some_inj hr
                                        exact ge_result trivial (ResOk.tmp (by kernel_rfl) (ResOk.tmp (by kernel_rfl) (ResOk.tmp (by kernel_rfl) ResOk.nil))) (Imm.trans (Imm.trans hI16 hI72) hI171) ⟨rfl, rfl⟩
                                      · have hj148 := cond_f hc183 hj148
                                        refine gk_skip (by kernel_rfl) ?_
                                        refine ge_seq ?_
                                        refine gk_seq (by kernel_rfl) ?_
                                        refine gk_region (by kernel_rfl) ?_
                                        refine gl_pure 5 [0, 1, 7, 8, 9, 117, 119, 121] (K' := [(0, .string a0), (1, .int .i64 a1), (7, .int .u8 c1), (8, .slice A17 s13.1.length n18), (9, .int .i64 (IntKind.wrap .i64 (s13.2 + 1))), (117, .string a0), (119, .int .i64 (IntKind.wrap .i64 ((IntKind.wrap .i64 (s13.2 + 1)) + 1))), (121, .int .i64 (IntKind.wrap .i64 ((IntKind.wrap .i64 (s13.2 + 1)) + 3)))]) (by kernel_rfl) ?_
                                        obtain ⟨s185, hx184, hj148⟩ := bind_some hj148
                                        refine gl_slice' (T' := 9) (xs := (.tmp 117)) (lo := (some (.tmp 119))) (hi := (some (.tmp 121))) hx184 (by kernel_rfl) (by kernel_rfl) (by kernel_rfl) (by kernel_rfl) (by kernel_rfl) (by kernel_rfl) ?_
                                        obtain ⟨y186, hx187, hj148⟩ := bind_some hj148
                                        refine gl_callQ (by kernel_rfl) (strconv_ParseUint_walk (r := y186)  hx187 _) ?_
                                        refine gl_pure 5 [0, 1, 7, 8, 9, 11] (K' := [(0, .string a0), (1, .int .i64 a1), (7, .int .u8 c1), (8, .slice A17 s13.1.length n18), (9, .int .i64 (IntKind.wrap .i64 (s13.2 + 1))), (11, .int .u64 y186.1)]) (by kernel_rfl) ?_
                                        refine gl_atE (by kernel_rfl) ?_
                                        refine ge_seq ?_
                                        refine gk_seq (by kernel_rfl) ?_
                                        refine gk_region (by kernel_rfl) ?_
                                        refine gl_pure 3 [0, 1, 7, 9, 126, 128] (K' := [(0, .string a0), (1, .int .i64 a1), (7, .int .u8 c1), (9, .int .i64 (IntKind.wrap .i64 (s13.2 + 1))), (126, .slice A17 s13.1.length n18), (128, .int .u8 (IntKind.wrap .u8 y186.1))]) (by kernel_rfl) ?_
                                        refine gl_buildSlice (T' := 41) (e := 5) (n := 1) (len := 1) (parts := #[(0, (.tmp 128))]) (l := [(0, .int .u8 (IntKind.wrap .u8 y186.1))]) (cs := #[.int .u8 (IntKind.wrap .u8 y186.1)]) (by kernel_rfl) (by kernel_rfl) (by kernel_rfl) (by kernel_rfl) (by kernel_rfl) (fun g188 => ?_)
                                        have hO189 : OwnS (Kd.int .u8) 5 I173 (some ⟨g188, 0, none⟩) 1 [(IntKind.wrap .u8 y186.1)] [(g188, .cells #[.int .u8 (IntKind.wrap .u8 y186.1)] 5)] := OwnS.lit (row_cons (l := [.int .u8 (IntKind.wrap .u8 y186.1)]) rfl (row_nil _ _)) rfl rfl rfl
                                        refine gl_reord (D := [(g188, .cells #[.int .u8 (IntKind.wrap .u8 y186.1)] 5)] ++ (C19 ++ L)) (Reord.refl _) ?_
                                        obtain ⟨zs192, hz193, hj148⟩ := bind_some hj148
                                        refine gl_append (xv := .slice (some ⟨g188, 0, none⟩) [(IntKind.wrap .u8 y186.1)].length 1) (d := (Kd.int .u8)) (t := 41) (tx := 41) (e := 5) (s := (.tmp 126)) (x := (.tmp 129)) (xs := s13.1) (fun X => [(g188, .cells #[.int .u8 (IntKind.wrap .u8 y186.1)] 5)] ++ (X ++ L)) hz193 (by kernel_rfl) (by kernel_rfl) (by kernel_rfl) (by kernel_rfl) (by kernel_rfl) (by kernel_rfl) (fun X => (Upd.app _ (Upd.head _ X _))) (hO20.mono (Imm.trans hI72 hI171)) (SrcOk.slice (c := 1) (e := 5) (n := 1) (OwnS.rd hO189 (Upd.selfC _ _)) (by kernel_rfl)) (fun A194 n195 C196 hO197 => ?_)
                                        refine gl_pure 1 [0, 1, 7, 8, 9] (K' := [(0, .string a0), (1, .int .i64 a1), (7, .int .u8 c1), (8, .slice A194 zs192.length n195), (9, .int .i64 (IntKind.wrap .i64 (s13.2 + 1)))]) (by kernel_rfl) ?_
                                        refine gl_atE (by kernel_rfl) ?_
                                        refine ge_seq ?_
                                        refine gk_region (by kernel_rfl) ?_
                                        refine gl_pure 3 [0, 1, 7, 8, 9] (K' := [(0, .string a0), (1, .int .i64 a1), (7, .int .u8 c1), (8, .slice A194 zs192.length n195), (9, .int .i64 (IntKind.wrap .i64 ((IntKind.wrap .i64 (s13.2 + 1)) + 2)))]) (by kernel_rfl) ?_
                                        refine gl_reord (D := C196 ++ L) (Reord.step (Upd.app _ (Upd.rmC _ _)) (Reord.skipC (Reord.refl _))) ?_
                                        refine gl_atE (by kernel_rfl) ?_
                                        obtain rfl := some_inj hj148
                                        exact ge_mid fun t ht => ⟨_, rfl, A194, n195, C196, hO197, hI171, rfl, ht.pick (l := [0, 1, 7, 8, 9]) (by kernel_rfl)⟩
                                  · have hj148 := cond_f hc168 hj148
                                    refine gk_seq (by kernel_rfl) ?_
                                    refine gk_region (by kernel_rfl) ?_
                                    refine gl_pure 3 [4, 5, 6] (K' := [(4, .string (⟨#[]⟩ : ByteArray)), (5, .int .i64 0), (6, .bool false)]) (by kernel_rfl) ?_
                                    refine gl_atE (by kernel_rfl) ?_
                                    refine ge_seq ?_
                                    refine gk_reord (D := L) (Reord.skipC (Reord.refl _)) ?_
                                    refine gk_ret (by kernel_rfl) ?_
                                    refine ge_seq_ret ?_
                                    obtain rfl := some_inj hj148
                                    refine ge_seq_ret ?_
                                    obtain rfl := some_inj hj127
                                    refine ge_seq_ret ?_
                                    obtain rfl := some_inj hj106
                                    refine ge_seq_ret ?_
                                    obtain rfl := some_inj hj83
                                    refine ge_block_ret ?_
                                    refine ge_block_ret ?_
                                    refine ge_seq_ret ?_
                                    obtain rfl := some_inj hj31
                                    refine ge_seq_ret ?_
                                    obtain rfl := some_inj hb15
                                    refine ge_round_out (fun hrr => ?_) (by intro h; cases h)
                                    obtain rfl := hrr
                                    refine ge_block_ret ?_
                                    refine ge_seq_ret ?_
                                    refine ge_seq_ret ?_
                                    obtain rfl := some_inj hr
                                    exact ge_result trivial (ResOk.tmp (by kernel_rfl) (ResOk.tmp (by kernel_rfl) (ResOk.tmp (by kernel_rfl) ResOk.nil))) (Imm.trans hI16 hI72) ⟨rfl, rfl⟩
                              · rintro t I156 L' ⟨j149, rfl, A151, n152, C153, hO154, hI150, rfl, hK155⟩
                                refine ge_at hK155 ?_
                                obtain rfl := some_inj hj127
                                exact ge_mid fun t ht => ⟨_, rfl, A151, n152, C153, hO154, hI150, rfl, ht.pick (l := [0, 1, 7, 8, 9]) (by kernel_rfl)⟩
                          · rintro t I135 L' ⟨j128, rfl, A130, n131, C132, hO133, hI129, rfl, hK134⟩
                            refine ge_at hK134 ?_
                            obtain rfl := some_inj hj106
                            exact ge_mid fun t ht => ⟨_, rfl, A130, n131, C132, hO133, hI129, rfl, ht.pick (l := [0, 1, 7, 8, 9]) (by kernel_rfl)⟩
                      · rintro t I114 L' ⟨j107, rfl, A109, n110, C111, hO112, hI108, rfl, hK113⟩
                        refine ge_at hK113 ?_
                        obtain rfl := some_inj hj83
                        exact ge_mid fun t ht => ⟨_, rfl, A109, n110, C111, hO112, hI108, rfl, ht.pick (l := [0, 1, 7, 8, 9]) (by kernel_rfl)⟩
                  · rintro t I91 L' ⟨j84, rfl, A86, n87, C88, hO89, hI85, rfl, hK90⟩
                    refine ge_at hK90 ?_
                    refine ge_block_normal ?_
                    refine ge_block_normal ?_
                    obtain rfl := some_inj hj31
                    exact ge_mid fun t ht => ⟨_, rfl, A86, n87, C88, hO89, (Imm.trans hI72 hI85), rfl, ht.pick (l := [0, 1, 7, 8, 9]) (by kernel_rfl)⟩
      · rintro t I39 L' ⟨j32, rfl, A34, n35, C36, hO37, hI33, rfl, hK38⟩
        refine ge_at hK38 ?_
        refine ge_seq ?_
        refine gk_region (by kernel_rfl) ?_
        refine gl_pure 3 [0, 1, 7, 8, 9] (K' := [(0, .string a0), (1, .int .i64 a1), (7, .int .u8 c1), (8, .slice A34 j32.1.length n35), (9, .int .i64 (IntKind.wrap .i64 (j32.2 + 1)))]) (by kernel_rfl) ?_
        refine gl_atE (by kernel_rfl) ?_
        obtain rfl := some_inj hb15
        exact ge_round fun t ht => ⟨A34, n35, C36, hO37, (Imm.trans hI16 hI33), rfl, ht.pick (l := [0, 1, 7, 8, 9]) (by kernel_rfl)⟩
    · have hb15 := cond_f hc29 hb15
      refine gk_reord (D := L) (Reord.skipC (Reord.refl _)) ?_
      refine gk_exit (by kernel_rfl) ?_
      refine ge_seq_exit ?_
      obtain rfl := some_inj hb15
      refine ge_round_out (fun hrr => ?_) (by intro h; cases h)
      obtain rfl := hrr
      refine ge_block_hit (by kernel_rfl) ?_
      exact ge_mid fun t ht => ⟨_, rfl, hI16, rfl, ht.pick (l := []) (by kernel_rfl)⟩
  · rintro t I26 L' ⟨r23, rfl, hI24, rfl, hK25⟩
    refine ge_at hK25 ?_
    refine ge_seq ?_
    refine gk_seq (by kernel_rfl) ?_
    refine gk_region (by kernel_rfl) ?_
    refine gl_pure 3 [4, 5, 6] (K' := [(4, .string (⟨#[]⟩ : ByteArray)), (5, .int .i64 0), (6, .bool false)]) (by kernel_rfl) ?_
    refine gl_atE (by kernel_rfl) ?_
    refine ge_seq ?_
    refine gk_ret (by kernel_rfl) ?_
    obtain rfl := some_inj hr
    exact ge_result trivial (ResOk.tmp (by kernel_rfl) (ResOk.tmp (by kernel_rfl) (ResOk.tmp (by kernel_rfl) ResOk.nil))) hI24 ⟨rfl, rfl⟩
/-! 61 tocsinref13_run  -/
noncomputable def tocsinref13_run_l16 (a0 : ByteArray) : Int → Option ((Int) ⊕ (Int)) := fun s7 =>
  Option.bind (bif (decide (s7 < (a0.size : Int))) then
    (Option.bind (bx a0 s7) fun (c24 : Int) =>
      some (tocsinref13_digit c24))
    else
    (some false)) fun (j18 : Bool) =>
  bif j18 then
  (some (Sum.inl (IntKind.wrap .i64 (s7 + 1))))
  else
  (some (Sum.inr s7))
noncomputable def tocsinref13_run (a0 : ByteArray) (a1 : Int) : Option Int :=
  Option.bind (loopO (tocsinref13_run_l16 a0) a1) fun (r5 : Int) =>
  some r5
theorem tocsinref13_run_walk {a0 : ByteArray} {a1 : Int} {I : Imm} {r : Int}  (hr : tocsinref13_run a0 a1 = some r) (L : Own) :
    CallsTo Tryd.prog 61 #[.string a0, .int .i64 a1] I L (fun v I' L' => v = .int .i64 r ∧ L = L') := by
  unfold tocsinref13_run at hr
  refine callsTo_body (N := 18) Tryd.func61 (by kernel_rfl) (by kernel_rfl) (by kernel_rfl) ?_
  refine gk_pick [0, 1] (K' := [(0, .string a0), (1, .int .i64 a1)]) (by kernel_rfl) ?_
  refine gk_seq (by kernel_rfl) ?_
  refine gk_region (by kernel_rfl) ?_
  refine gl_pure 1 [0, 1] (K' := [(0, .string a0), (1, .int .i64 a1)]) (by kernel_rfl) ?_
  refine gl_atE (by kernel_rfl) ?_
  refine ge_seq ?_
  refine gk_seq (by kernel_rfl) ?_
  obtain ⟨r5, hl6, hr⟩ := bind_some hr
  refine gk_join (fun t I' L' => I ≤ I' ∧ L = L' ∧ Knows 18 [(1, .int .i64 r5)] t) ?_ ?_
  · refine gk_block (by kernel_rfl) ?_
    refine gk_pick [0, 1] (K' := [(0, .string a0), (1, .int .i64 a1)]) (by kernel_rfl) ?_
    intro t hK
    refine gc_loop (tocsinref13_run_l16 a0) (fun s7 t I' L' => I ≤ I' ∧ L = L' ∧ Knows 18 [(0, .string a0), (1, .int .i64 s7)] t) (by kernel_rfl) ?_ hl6 ⟨(Imm.refl _), rfl, hK⟩
    rintro s7 o8 t I12 L' hb9 ⟨hI10, rfl, hK11⟩
    unfold tocsinref13_run_l16 at hb9
    refine gk_at hK11 ?_
    refine gk_seq (by kernel_rfl) ?_
    refine gk_seq (by kernel_rfl) ?_
    obtain ⟨j18, hj19, hb9⟩ := bind_some hb9
    refine gk_join (fun t I' L' => I12 ≤ I' ∧ L = L' ∧ Knows 18 [(0, .string a0), (1, .int .i64 s7), (14, .bool j18)] t) ?_ ?_
    · refine gk_region (by kernel_rfl) ?_
      refine gl_pure 5 [0, 1, 9] (K' := [(0, .string a0), (1, .int .i64 s7), (9, .bool (decide (s7 < (a0.size : Int))))]) (by kernel_rfl) ?_
      refine gl_case 9 (b := (decide (s7 < (a0.size : Int)))) (by kernel_rfl) (fun hc23 => ?_) (fun hc23 => ?_)
      · have hj19 := cond_t hc23 hj19
        refine gl_pure 2 [0, 1, 9, 10, 11] (K' := [(0, .string a0), (1, .int .i64 s7), (9, .bool true), (10, .string a0), (11, .int .i64 s7)]) (by kernel_rfl) ?_
        obtain ⟨c24, hx25, hj19⟩ := bind_some hj19
        refine gl_index' (T' := 9) (xs := (.tmp 10)) (xi := (.tmp 11)) (kd := .i64) hx25 (by kernel_rfl) (by kernel_rfl) (by kernel_rfl) (by kernel_rfl) (by kernel_rfl) ?_
        refine gl_callQ (by kernel_rfl) (tocsinref13_digit_walk (r := (tocsinref13_digit c24))  rfl _) ?_
        refine gl_pure 1 [0, 1, 14] (K' := [(0, .string a0), (1, .int .i64 s7), (14, .bool (tocsinref13_digit c24))]) (by kernel_rfl) ?_
        refine gl_atE (by kernel_rfl) ?_
        obtain rfl := some_inj hj19
        exact ge_mid fun t ht => ⟨(Imm.refl _), rfl, ht.pick (l := [0, 1, 14]) (by kernel_rfl)⟩
      · have hj19 := cond_f hc23 hj19
        refine gl_pure 5 [0, 1, 14] (K' := [(0, .string a0), (1, .int .i64 s7), (14, .bool false)]) (by kernel_rfl) ?_
        refine gl_atE (by kernel_rfl) ?_
        obtain rfl := some_inj hj19
        exact ge_mid fun t ht => ⟨(Imm.refl _), rfl, ht.pick (l := [0, 1, 14]) (by kernel_rfl)⟩
    · rintro t I22 L' ⟨hI20, rfl, hK21⟩
      refine ge_at hK21 ?_
      refine ge_seq ?_
      refine gk_cond (b := j18) (by kernel_rfl) (by kernel_rfl) (fun hc26 => ?_) (fun hc26 => ?_)
      · have hb9 := cond_t hc26 hb9
        refine gk_skip (by kernel_rfl) ?_
        refine ge_seq ?_
        refine gk_block (by kernel_rfl) ?_
        refine gk_region (by kernel_rfl) ?_
        refine gl_pure 3 [0, 1] (K' := [(0, .string a0), (1, .int .i64 (IntKind.wrap .i64 (s7 + 1)))]) (by kernel_rfl) ?_
        refine gl_atE (by kernel_rfl) ?_
        refine ge_block_normal ?_
        obtain rfl := some_inj hb9
        exact ge_round fun t ht => ⟨(Imm.trans hI10 hI20), rfl, ht.pick (l := [0, 1]) (by kernel_rfl)⟩
      · have hb9 := cond_f hc26 hb9
        refine gk_exit (by kernel_rfl) ?_
        refine ge_seq_exit ?_
        obtain rfl := some_inj hb9
        refine ge_round_out (fun hrr => ?_) (by intro h; cases h)
        obtain rfl := hrr
        refine ge_block_hit (by kernel_rfl) ?_
        exact ge_mid fun t ht => ⟨(Imm.trans hI10 hI20), rfl, ht.pick (l := [1]) (by kernel_rfl)⟩
  · rintro t I15 L' ⟨hI13, rfl, hK14⟩
    refine ge_at hK14 ?_
    refine ge_seq ?_
    refine gk_seq (by kernel_rfl) ?_
    refine gk_region (by kernel_rfl) ?_
    refine gl_pure 2 [4] (K' := [(4, .int .i64 r5)]) (by kernel_rfl) ?_
    refine gl_atE (by kernel_rfl) ?_
    refine ge_seq ?_
    refine gk_ret (by kernel_rfl) ?_
    obtain rfl := some_inj hr
    exact ge_result trivial (ResOk.tmp (by kernel_rfl) ResOk.nil) hI13 ⟨rfl, rfl⟩
/-! 46 tocsinref13_number  -/
noncomputable def tocsinref13_number_l36 (a0 : ByteArray) : Int → Option ((Int) ⊕ (Int)) := fun s27 =>
  Option.bind (bif (decide (s27 < (a0.size : Int))) then
    (Option.bind (bx a0 s27) fun (c44 : Int) =>
      some (tocsinref13_hex c44))
    else
    (some false)) fun (j38 : Bool) =>
  bif j38 then
  (some (Sum.inl (IntKind.wrap .i64 (s27 + 1))))
  else
  (some (Sum.inr s27))
noncomputable def tocsinref13_number (a0 : ByteArray) (a1 : Int) : Option Int :=
  Option.bind (bif (decide ((IntKind.wrap .i64 (a1 + 2)) < (a0.size : Int))) then
    (Option.bind (bx a0 a1) fun (c7 : Int) =>
      bif (c7 == 48) then
      (Option.bind (bx a0 (IntKind.wrap .i64 (a1 + 1))) fun (c10 : Int) =>
        bif (c10 == 120) then
        (Option.bind (bx a0 (IntKind.wrap .i64 (a1 + 2))) fun (c13 : Int) =>
          some (tocsinref13_hex c13))
        else
        (Option.bind (bx a0 (IntKind.wrap .i64 (a1 + 1))) fun (c15 : Int) =>
          bif (c15 == 88) then
          (Option.bind (bx a0 (IntKind.wrap .i64 (a1 + 2))) fun (c18 : Int) =>
            some (tocsinref13_hex c18))
          else
          (some false)))
      else
      (some false))
    else
    (some false)) fun (j1 : Bool) =>
  bif j1 then
  (Option.bind (loopO (tocsinref13_number_l36 a0) (IntKind.wrap .i64 (a1 + 2))) fun (r25 : Int) =>
    some r25)
  else
  (Option.bind (tocsinref13_run a0 a1) fun (y47 : Int) =>
    Option.bind (bif (decide (y47 < (a0.size : Int))) then
      (Option.bind (bx a0 y47) fun (c55 : Int) =>
        bif (c55 == 46) then
        (bif (decide (y47 > a1)) then
          (some true)
          else
          (bif (decide ((IntKind.wrap .i64 (y47 + 1)) < (a0.size : Int))) then
            (Option.bind (bx a0 (IntKind.wrap .i64 (y47 + 1))) fun (c60 : Int) =>
              some (tocsinref13_digit c60))
            else
            (some false)))
        else
        (some false))
      else
      (some false)) fun (j49 : Bool) =>
    Option.bind (bif j49 then
      (Option.bind (tocsinref13_run a0 (IntKind.wrap .i64 (y47 + 1))) fun (y68 : Int) =>
        some y68)
      else
      (some y47)) fun (j62 : Int) =>
    bif (j62 == a1) then
    (some a1)
    else
    (Option.bind (bif (decide (j62 < (a0.size : Int))) then
        (Option.bind (bx a0 j62) fun (c77 : Int) =>
          bif (c77 == 101) then
          (some true)
          else
          (Option.bind (bx a0 j62) fun (c80 : Int) =>
            some (c80 == 69)))
        else
        (some false)) fun (j71 : Bool) =>
      Option.bind ((bif j71 then
        (Option.bind (bif (decide ((IntKind.wrap .i64 (j62 + 1)) < (a0.size : Int))) then
            (Option.bind (bx a0 (IntKind.wrap .i64 (j62 + 1))) fun (c95 : Int) =>
              bif (c95 == 43) then
              (some true)
              else
              (Option.bind (bx a0 (IntKind.wrap .i64 (j62 + 1))) fun (c98 : Int) =>
                some (c98 == 45)))
            else
            (some false)) fun (j89 : Bool) =>
          Option.bind (bif j89 then
            (some (IntKind.wrap .i64 ((IntKind.wrap .i64 (j62 + 1)) + 1)))
            else
            (some (IntKind.wrap .i64 (j62 + 1)))) fun (j100 : Int) =>
          Option.bind (tocsinref13_run a0 j100) fun (y106 : Int) =>
          bif (decide (y106 > j100)) then
          (Option.bind (tocsinref13_run a0 j100) fun (y109 : Int) =>
            some (Sum.inr y109))
          else
          (some (Sum.inl ())))
        else
        (some (Sum.inl ())) : Option ((Unit) ⊕ (Int)))) fun (j82 : (Unit) ⊕ (Int)) =>
      match j82 with
      | Sum.inl j84 => some j62
      | Sum.inr v111 => some v111))
theorem tocsinref13_number_walk {a0 : ByteArray} {a1 : Int} {I : Imm} {r : Int}  (hr : tocsinref13_number a0 a1 = some r) (L : Own) :
    CallsTo Tryd.prog 46 #[.string a0, .int .i64 a1] I L (fun v I' L' => v = .int .i64 r ∧ L = L') := by
  unfold tocsinref13_number at hr
  refine callsTo_body (N := 141) Tryd.func46 (by kernel_rfl) (by kernel_rfl) (by kernel_rfl) ?_
  refine gk_pick [0, 1] (K' := [(0, .string a0), (1, .int .i64 a1)]) (by kernel_rfl) ?_
  refine gk_seq (by kernel_rfl) ?_
  refine gk_region (by kernel_rfl) ?_
  refine gl_pure 1 [0, 1] (K' := [(0, .string a0), (1, .int .i64 a1)]) (by kernel_rfl) ?_
  refine gl_atE (by kernel_rfl) ?_
  refine ge_seq ?_
  refine gk_seq (by kernel_rfl) ?_
  refine gk_seq (by kernel_rfl) ?_
  obtain ⟨j1, hj2, hr⟩ := bind_some hr
  refine gk_join (fun t I' L' => I ≤ I' ∧ L = L' ∧ Knows 141 [(0, .string a0), (1, .int .i64 a1), (39, .bool j1)] t) ?_ ?_
  · refine gk_region (by kernel_rfl) ?_
    refine gl_pure 6 [0, 1, 13] (K' := [(0, .string a0), (1, .int .i64 a1), (13, .bool (decide ((IntKind.wrap .i64 (a1 + 2)) < (a0.size : Int))))]) (by kernel_rfl) ?_
    refine gl_case 13 (b := (decide ((IntKind.wrap .i64 (a1 + 2)) < (a0.size : Int)))) (by kernel_rfl) (fun hc6 => ?_) (fun hc6 => ?_)
    · have hj2 := cond_t hc6 hj2
      refine gl_pure 2 [0, 1, 13, 14, 15] (K' := [(0, .string a0), (1, .int .i64 a1), (13, .bool true), (14, .string a0), (15, .int .i64 a1)]) (by kernel_rfl) ?_
      obtain ⟨c7, hx8, hj2⟩ := bind_some hj2
      refine gl_index' (T' := 9) (xs := (.tmp 14)) (xi := (.tmp 15)) (kd := .i64) hx8 (by kernel_rfl) (by kernel_rfl) (by kernel_rfl) (by kernel_rfl) (by kernel_rfl) ?_
      refine gl_pure 3 [0, 1, 19] (K' := [(0, .string a0), (1, .int .i64 a1), (19, .bool (c7 == 48))]) (by kernel_rfl) ?_
      refine gl_case 19 (b := (c7 == 48)) (by kernel_rfl) (fun hc9 => ?_) (fun hc9 => ?_)
      · have hj2 := cond_t hc9 hj2
        refine gl_pure 3 [0, 1, 19, 20, 22] (K' := [(0, .string a0), (1, .int .i64 a1), (19, .bool true), (20, .string a0), (22, .int .i64 (IntKind.wrap .i64 (a1 + 1)))]) (by kernel_rfl) ?_
        obtain ⟨c10, hx11, hj2⟩ := bind_some hj2
        refine gl_index' (T' := 9) (xs := (.tmp 20)) (xi := (.tmp 22)) (kd := .i64) hx11 (by kernel_rfl) (by kernel_rfl) (by kernel_rfl) (by kernel_rfl) (by kernel_rfl) ?_
        refine gl_pure 2 [0, 1, 19, 25] (K' := [(0, .string a0), (1, .int .i64 a1), (19, .bool true), (25, .bool (c10 == 120))]) (by kernel_rfl) ?_
        refine gl_case 25 (b := (c10 == 120)) (by kernel_rfl) (fun hc12 => ?_) (fun hc12 => ?_)
        · have hj2 := cond_t hc12 hj2
          refine gl_pure 11 [0, 1, 33, 34, 36] (K' := [(0, .string a0), (1, .int .i64 a1), (33, .bool true), (34, .string a0), (36, .int .i64 (IntKind.wrap .i64 (a1 + 2)))]) (by kernel_rfl) ?_
          obtain ⟨c13, hx14, hj2⟩ := bind_some hj2
          refine gl_index' (T' := 9) (xs := (.tmp 34)) (xi := (.tmp 36)) (kd := .i64) hx14 (by kernel_rfl) (by kernel_rfl) (by kernel_rfl) (by kernel_rfl) (by kernel_rfl) ?_
          refine gl_callQ (by kernel_rfl) (tocsinref13_hex_walk (r := (tocsinref13_hex c13))  rfl _) ?_
          refine gl_pure 1 [0, 1, 39] (K' := [(0, .string a0), (1, .int .i64 a1), (39, .bool (tocsinref13_hex c13))]) (by kernel_rfl) ?_
          refine gl_atE (by kernel_rfl) ?_
          obtain rfl := some_inj hj2
          exact ge_mid fun t ht => ⟨(Imm.refl _), rfl, ht.pick (l := [0, 1, 39]) (by kernel_rfl)⟩
        · have hj2 := cond_f hc12 hj2
          refine gl_pure 3 [0, 1, 19, 25, 26, 28] (K' := [(0, .string a0), (1, .int .i64 a1), (19, .bool true), (25, .bool false), (26, .string a0), (28, .int .i64 (IntKind.wrap .i64 (a1 + 1)))]) (by kernel_rfl) ?_
          obtain ⟨c15, hx16, hj2⟩ := bind_some hj2
          refine gl_index' (T' := 9) (xs := (.tmp 26)) (xi := (.tmp 28)) (kd := .i64) hx16 (by kernel_rfl) (by kernel_rfl) (by kernel_rfl) (by kernel_rfl) (by kernel_rfl) ?_
          refine gl_pure 4 [0, 1, 33] (K' := [(0, .string a0), (1, .int .i64 a1), (33, .bool (c15 == 88))]) (by kernel_rfl) ?_
          refine gl_case 33 (b := (c15 == 88)) (by kernel_rfl) (fun hc17 => ?_) (fun hc17 => ?_)
          · have hj2 := cond_t hc17 hj2
            refine gl_pure 3 [0, 1, 33, 34, 36] (K' := [(0, .string a0), (1, .int .i64 a1), (33, .bool true), (34, .string a0), (36, .int .i64 (IntKind.wrap .i64 (a1 + 2)))]) (by kernel_rfl) ?_
            obtain ⟨c18, hx19, hj2⟩ := bind_some hj2
            refine gl_index' (T' := 9) (xs := (.tmp 34)) (xi := (.tmp 36)) (kd := .i64) hx19 (by kernel_rfl) (by kernel_rfl) (by kernel_rfl) (by kernel_rfl) (by kernel_rfl) ?_
            refine gl_callQ (by kernel_rfl) (tocsinref13_hex_walk (r := (tocsinref13_hex c18))  rfl _) ?_
            refine gl_pure 1 [0, 1, 39] (K' := [(0, .string a0), (1, .int .i64 a1), (39, .bool (tocsinref13_hex c18))]) (by kernel_rfl) ?_
            refine gl_atE (by kernel_rfl) ?_
            obtain rfl := some_inj hj2
            exact ge_mid fun t ht => ⟨(Imm.refl _), rfl, ht.pick (l := [0, 1, 39]) (by kernel_rfl)⟩
          · have hj2 := cond_f hc17 hj2
            refine gl_pure 6 [0, 1, 39] (K' := [(0, .string a0), (1, .int .i64 a1), (39, .bool false)]) (by kernel_rfl) ?_
            refine gl_atE (by kernel_rfl) ?_
            obtain rfl := some_inj hj2
            exact ge_mid fun t ht => ⟨(Imm.refl _), rfl, ht.pick (l := [0, 1, 39]) (by kernel_rfl)⟩
      · have hj2 := cond_f hc9 hj2
        refine gl_pure 20 [0, 1, 39] (K' := [(0, .string a0), (1, .int .i64 a1), (39, .bool false)]) (by kernel_rfl) ?_
        refine gl_atE (by kernel_rfl) ?_
        obtain rfl := some_inj hj2
        exact ge_mid fun t ht => ⟨(Imm.refl _), rfl, ht.pick (l := [0, 1, 39]) (by kernel_rfl)⟩
    · have hj2 := cond_f hc6 hj2
      refine gl_pure 26 [0, 1, 39] (K' := [(0, .string a0), (1, .int .i64 a1), (39, .bool false)]) (by kernel_rfl) ?_
      refine gl_atE (by kernel_rfl) ?_
      obtain rfl := some_inj hj2
      exact ge_mid fun t ht => ⟨(Imm.refl _), rfl, ht.pick (l := [0, 1, 39]) (by kernel_rfl)⟩
  · rintro t I5 L' ⟨hI3, rfl, hK4⟩
    refine ge_at hK4 ?_
    refine ge_seq ?_
    refine gk_cond (b := j1) (by kernel_rfl) (by kernel_rfl) (fun hc20 => ?_) (fun hc20 => ?_)
    · have hr := cond_t hc20 hr
      refine gk_seq (by kernel_rfl) ?_
      refine gk_region (by kernel_rfl) ?_
      refine gl_pure 3 [0, 5] (K' := [(0, .string a0), (5, .int .i64 (IntKind.wrap .i64 (a1 + 2)))]) (by kernel_rfl) ?_
      refine gl_atE (by kernel_rfl) ?_
      refine ge_seq ?_
      refine gk_seq (by kernel_rfl) ?_
      obtain ⟨r25, hl26, hr⟩ := bind_some hr
      refine gk_join (fun t I' L' => I5 ≤ I' ∧ L = L' ∧ Knows 141 [(5, .int .i64 r25)] t) ?_ ?_
      · refine gk_block (by kernel_rfl) ?_
        refine gk_pick [0, 5] (K' := [(0, .string a0), (5, .int .i64 (IntKind.wrap .i64 (a1 + 2)))]) (by kernel_rfl) ?_
        intro t hK
        refine gc_loop (tocsinref13_number_l36 a0) (fun s27 t I' L' => I5 ≤ I' ∧ L = L' ∧ Knows 141 [(0, .string a0), (5, .int .i64 s27)] t) (by kernel_rfl) ?_ hl26 ⟨(Imm.refl _), rfl, hK⟩
        rintro s27 o28 t I32 L' hb29 ⟨hI30, rfl, hK31⟩
        unfold tocsinref13_number_l36 at hb29
        refine gk_at hK31 ?_
        refine gk_seq (by kernel_rfl) ?_
        refine gk_seq (by kernel_rfl) ?_
        obtain ⟨j38, hj39, hb29⟩ := bind_some hb29
        refine gk_join (fun t I' L' => I32 ≤ I' ∧ L = L' ∧ Knows 141 [(0, .string a0), (5, .int .i64 s27), (51, .bool j38)] t) ?_ ?_
        · refine gk_region (by kernel_rfl) ?_
          refine gl_pure 5 [0, 5, 46] (K' := [(0, .string a0), (5, .int .i64 s27), (46, .bool (decide (s27 < (a0.size : Int))))]) (by kernel_rfl) ?_
          refine gl_case 46 (b := (decide (s27 < (a0.size : Int)))) (by kernel_rfl) (fun hc43 => ?_) (fun hc43 => ?_)
          · have hj39 := cond_t hc43 hj39
            refine gl_pure 2 [0, 5, 46, 47, 48] (K' := [(0, .string a0), (5, .int .i64 s27), (46, .bool true), (47, .string a0), (48, .int .i64 s27)]) (by kernel_rfl) ?_
            obtain ⟨c44, hx45, hj39⟩ := bind_some hj39
            refine gl_index' (T' := 9) (xs := (.tmp 47)) (xi := (.tmp 48)) (kd := .i64) hx45 (by kernel_rfl) (by kernel_rfl) (by kernel_rfl) (by kernel_rfl) (by kernel_rfl) ?_
            refine gl_callQ (by kernel_rfl) (tocsinref13_hex_walk (r := (tocsinref13_hex c44))  rfl _) ?_
            refine gl_pure 1 [0, 5, 51] (K' := [(0, .string a0), (5, .int .i64 s27), (51, .bool (tocsinref13_hex c44))]) (by kernel_rfl) ?_
            refine gl_atE (by kernel_rfl) ?_
            obtain rfl := some_inj hj39
            exact ge_mid fun t ht => ⟨(Imm.refl _), rfl, ht.pick (l := [0, 5, 51]) (by kernel_rfl)⟩
          · have hj39 := cond_f hc43 hj39
            refine gl_pure 5 [0, 5, 51] (K' := [(0, .string a0), (5, .int .i64 s27), (51, .bool false)]) (by kernel_rfl) ?_
            refine gl_atE (by kernel_rfl) ?_
            obtain rfl := some_inj hj39
            exact ge_mid fun t ht => ⟨(Imm.refl _), rfl, ht.pick (l := [0, 5, 51]) (by kernel_rfl)⟩
        · rintro t I42 L' ⟨hI40, rfl, hK41⟩
          refine ge_at hK41 ?_
          refine ge_seq ?_
          refine gk_cond (b := j38) (by kernel_rfl) (by kernel_rfl) (fun hc46 => ?_) (fun hc46 => ?_)
          · have hb29 := cond_t hc46 hb29
            refine gk_skip (by kernel_rfl) ?_
            refine ge_seq ?_
            refine gk_block (by kernel_rfl) ?_
            refine gk_region (by kernel_rfl) ?_
            refine gl_pure 3 [0, 5] (K' := [(0, .string a0), (5, .int .i64 (IntKind.wrap .i64 (s27 + 1)))]) (by kernel_rfl) ?_
            refine gl_atE (by kernel_rfl) ?_
            refine ge_block_normal ?_
            obtain rfl := some_inj hb29
            exact ge_round fun t ht => ⟨(Imm.trans hI30 hI40), rfl, ht.pick (l := [0, 5]) (by kernel_rfl)⟩
          · have hb29 := cond_f hc46 hb29
            refine gk_exit (by kernel_rfl) ?_
            refine ge_seq_exit ?_
            obtain rfl := some_inj hb29
            refine ge_round_out (fun hrr => ?_) (by intro h; cases h)
            obtain rfl := hrr
            refine ge_block_hit (by kernel_rfl) ?_
            exact ge_mid fun t ht => ⟨(Imm.trans hI30 hI40), rfl, ht.pick (l := [5]) (by kernel_rfl)⟩
      · rintro t I35 L' ⟨hI33, rfl, hK34⟩
        refine ge_at hK34 ?_
        refine ge_seq ?_
        refine gk_seq (by kernel_rfl) ?_
        refine gk_region (by kernel_rfl) ?_
        refine gl_pure 2 [4] (K' := [(4, .int .i64 r25)]) (by kernel_rfl) ?_
        refine gl_atE (by kernel_rfl) ?_
        refine ge_seq ?_
        refine gk_ret (by kernel_rfl) ?_
        refine ge_seq_ret ?_
        obtain rfl := some_inj hr
        exact ge_result trivial (ResOk.tmp (by kernel_rfl) ResOk.nil) (Imm.trans hI3 hI33) ⟨rfl, rfl⟩
    · have hr := cond_f hc20 hr
      refine gk_skip (by kernel_rfl) ?_
      refine ge_seq ?_
      refine gk_seq (by kernel_rfl) ?_
      refine gk_region (by kernel_rfl) ?_
      refine gl_pure 2 [0, 1, 55, 56] (K' := [(0, .string a0), (1, .int .i64 a1), (55, .string a0), (56, .int .i64 a1)]) (by kernel_rfl) ?_
      obtain ⟨y47, hx48, hr⟩ := bind_some hr
      refine gl_callQ (by kernel_rfl) (tocsinref13_run_walk (r := y47)  hx48 _) ?_
      refine gl_pure 1 [0, 1, 6] (K' := [(0, .string a0), (1, .int .i64 a1), (6, .int .i64 y47)]) (by kernel_rfl) ?_
      refine gl_atE (by kernel_rfl) ?_
      refine ge_seq ?_
      refine gk_seq (by kernel_rfl) ?_
      refine gk_seq (by kernel_rfl) ?_
      obtain ⟨j49, hj50, hr⟩ := bind_some hr
      refine gk_join (fun t I' L' => I5 ≤ I' ∧ L = L' ∧ Knows 141 [(0, .string a0), (1, .int .i64 a1), (6, .int .i64 y47), (86, .bool j49)] t) ?_ ?_
      · refine gk_region (by kernel_rfl) ?_
        refine gl_pure 5 [0, 1, 6, 62] (K' := [(0, .string a0), (1, .int .i64 a1), (6, .int .i64 y47), (62, .bool (decide (y47 < (a0.size : Int))))]) (by kernel_rfl) ?_
        refine gl_case 62 (b := (decide (y47 < (a0.size : Int)))) (by kernel_rfl) (fun hc54 => ?_) (fun hc54 => ?_)
        · have hj50 := cond_t hc54 hj50
          refine gl_pure 2 [0, 1, 6, 62, 63, 64] (K' := [(0, .string a0), (1, .int .i64 a1), (6, .int .i64 y47), (62, .bool true), (63, .string a0), (64, .int .i64 y47)]) (by kernel_rfl) ?_
          obtain ⟨c55, hx56, hj50⟩ := bind_some hj50
          refine gl_index' (T' := 9) (xs := (.tmp 63)) (xi := (.tmp 64)) (kd := .i64) hx56 (by kernel_rfl) (by kernel_rfl) (by kernel_rfl) (by kernel_rfl) (by kernel_rfl) ?_
          refine gl_pure 3 [0, 1, 6, 68] (K' := [(0, .string a0), (1, .int .i64 a1), (6, .int .i64 y47), (68, .bool (c55 == 46))]) (by kernel_rfl) ?_
          refine gl_case 68 (b := (c55 == 46)) (by kernel_rfl) (fun hc57 => ?_) (fun hc57 => ?_)
          · have hj50 := cond_t hc57 hj50
            refine gl_pure 4 [0, 1, 6, 68, 72] (K' := [(0, .string a0), (1, .int .i64 a1), (6, .int .i64 y47), (68, .bool true), (72, .bool (decide (y47 > a1)))]) (by kernel_rfl) ?_
            refine gl_case 72 (b := (decide (y47 > a1))) (by kernel_rfl) (fun hc58 => ?_) (fun hc58 => ?_)
            · have hj50 := cond_t hc58 hj50
              refine gl_pure 14 [0, 1, 6, 86] (K' := [(0, .string a0), (1, .int .i64 a1), (6, .int .i64 y47), (86, .bool true)]) (by kernel_rfl) ?_
              refine gl_atE (by kernel_rfl) ?_
              obtain rfl := some_inj hj50
              exact ge_mid fun t ht => ⟨(Imm.refl _), rfl, ht.pick (l := [0, 1, 6, 86]) (by kernel_rfl)⟩
            · have hj50 := cond_f hc58 hj50
              refine gl_pure 6 [0, 1, 6, 68, 72, 78] (K' := [(0, .string a0), (1, .int .i64 a1), (6, .int .i64 y47), (68, .bool true), (72, .bool false), (78, .bool (decide ((IntKind.wrap .i64 (y47 + 1)) < (a0.size : Int))))]) (by kernel_rfl) ?_
              refine gl_case 78 (b := (decide ((IntKind.wrap .i64 (y47 + 1)) < (a0.size : Int)))) (by kernel_rfl) (fun hc59 => ?_) (fun hc59 => ?_)
              · have hj50 := cond_t hc59 hj50
                refine gl_pure 3 [0, 1, 6, 68, 72, 78, 79, 81] (K' := [(0, .string a0), (1, .int .i64 a1), (6, .int .i64 y47), (68, .bool true), (72, .bool false), (78, .bool true), (79, .string a0), (81, .int .i64 (IntKind.wrap .i64 (y47 + 1)))]) (by kernel_rfl) ?_
                obtain ⟨c60, hx61, hj50⟩ := bind_some hj50
                refine gl_index' (T' := 9) (xs := (.tmp 79)) (xi := (.tmp 81)) (kd := .i64) hx61 (by kernel_rfl) (by kernel_rfl) (by kernel_rfl) (by kernel_rfl) (by kernel_rfl) ?_
                refine gl_callQ (by kernel_rfl) (tocsinref13_digit_walk (r := (tocsinref13_digit c60))  rfl _) ?_
                refine gl_pure 3 [0, 1, 6, 86] (K' := [(0, .string a0), (1, .int .i64 a1), (6, .int .i64 y47), (86, .bool (tocsinref13_digit c60))]) (by kernel_rfl) ?_
                refine gl_atE (by kernel_rfl) ?_
                obtain rfl := some_inj hj50
                exact ge_mid fun t ht => ⟨(Imm.refl _), rfl, ht.pick (l := [0, 1, 6, 86]) (by kernel_rfl)⟩
              · have hj50 := cond_f hc59 hj50
                refine gl_pure 8 [0, 1, 6, 86] (K' := [(0, .string a0), (1, .int .i64 a1), (6, .int .i64 y47), (86, .bool false)]) (by kernel_rfl) ?_
                refine gl_atE (by kernel_rfl) ?_
                obtain rfl := some_inj hj50
                exact ge_mid fun t ht => ⟨(Imm.refl _), rfl, ht.pick (l := [0, 1, 6, 86]) (by kernel_rfl)⟩
          · have hj50 := cond_f hc57 hj50
            refine gl_pure 18 [0, 1, 6, 86] (K' := [(0, .string a0), (1, .int .i64 a1), (6, .int .i64 y47), (86, .bool false)]) (by kernel_rfl) ?_
            refine gl_atE (by kernel_rfl) ?_
            obtain rfl := some_inj hj50
            exact ge_mid fun t ht => ⟨(Imm.refl _), rfl, ht.pick (l := [0, 1, 6, 86]) (by kernel_rfl)⟩
        · have hj50 := cond_f hc54 hj50
          refine gl_pure 24 [0, 1, 6, 86] (K' := [(0, .string a0), (1, .int .i64 a1), (6, .int .i64 y47), (86, .bool false)]) (by kernel_rfl) ?_
          refine gl_atE (by kernel_rfl) ?_
          obtain rfl := some_inj hj50
          exact ge_mid fun t ht => ⟨(Imm.refl _), rfl, ht.pick (l := [0, 1, 6, 86]) (by kernel_rfl)⟩
      · rintro t I53 L' ⟨hI51, rfl, hK52⟩
        refine ge_at hK52 ?_
        refine ge_seq ?_
        obtain ⟨j62, hj63, hr⟩ := bind_some hr
        refine gk_join (fun t I' L' => I53 ≤ I' ∧ L = L' ∧ Knows 141 [(0, .string a0), (1, .int .i64 a1), (6, .int .i64 j62)] t) ?_ ?_
        · refine gk_cond (b := j49) (by kernel_rfl) (by kernel_rfl) (fun hc67 => ?_) (fun hc67 => ?_)
          · have hj63 := cond_t hc67 hj63
            refine gk_region (by kernel_rfl) ?_
            refine gl_pure 3 [0, 1, 87, 89] (K' := [(0, .string a0), (1, .int .i64 a1), (87, .string a0), (89, .int .i64 (IntKind.wrap .i64 (y47 + 1)))]) (by kernel_rfl) ?_
            obtain ⟨y68, hx69, hj63⟩ := bind_some hj63
            refine gl_callQ (by kernel_rfl) (tocsinref13_run_walk (r := y68)  hx69 _) ?_
            refine gl_pure 1 [0, 1, 6] (K' := [(0, .string a0), (1, .int .i64 a1), (6, .int .i64 y68)]) (by kernel_rfl) ?_
            refine gl_atE (by kernel_rfl) ?_
            obtain rfl := some_inj hj63
            exact ge_mid fun t ht => ⟨(Imm.refl _), rfl, ht.pick (l := [0, 1, 6]) (by kernel_rfl)⟩
          · have hj63 := cond_f hc67 hj63
            refine gk_skip (by kernel_rfl) ?_
            obtain rfl := some_inj hj63
            exact ge_mid fun t ht => ⟨(Imm.refl _), rfl, ht.pick (l := [0, 1, 6]) (by kernel_rfl)⟩
        · rintro t I66 L' ⟨hI64, rfl, hK65⟩
          refine ge_at hK65 ?_
          refine ge_seq ?_
          refine gk_seq (by kernel_rfl) ?_
          refine gk_seq (by kernel_rfl) ?_
          refine gk_region (by kernel_rfl) ?_
          refine gl_pure 3 [0, 1, 6, 93] (K' := [(0, .string a0), (1, .int .i64 a1), (6, .int .i64 j62), (93, .bool (j62 == a1))]) (by kernel_rfl) ?_
          refine gl_atE (by kernel_rfl) ?_
          refine ge_seq ?_
          refine gk_cond (b := (j62 == a1)) (by kernel_rfl) (by kernel_rfl) (fun hc70 => ?_) (fun hc70 => ?_)
          · have hr := cond_t hc70 hr
            refine gk_seq (by kernel_rfl) ?_
            refine gk_region (by kernel_rfl) ?_
            refine gl_pure 2 [4] (K' := [(4, .int .i64 a1)]) (by kernel_rfl) ?_
            refine gl_atE (by kernel_rfl) ?_
            refine ge_seq ?_
            refine gk_ret (by kernel_rfl) ?_
            refine ge_seq_ret ?_
            obtain rfl := some_inj hr
            exact ge_result trivial (ResOk.tmp (by kernel_rfl) ResOk.nil) (Imm.trans (Imm.trans hI3 hI51) hI64) ⟨rfl, rfl⟩
          · have hr := cond_f hc70 hr
            refine gk_skip (by kernel_rfl) ?_
            refine ge_seq ?_
            refine gk_seq (by kernel_rfl) ?_
            refine gk_region (by kernel_rfl) ?_
            refine gl_pure 2 [0, 6, 7] (K' := [(0, .string a0), (6, .int .i64 j62), (7, .int .i64 j62)]) (by kernel_rfl) ?_
            refine gl_atE (by kernel_rfl) ?_
            refine ge_seq ?_
            refine gk_seq (by kernel_rfl) ?_
            refine gk_seq (by kernel_rfl) ?_
            obtain ⟨j71, hj72, hr⟩ := bind_some hr
            refine gk_join (fun t I' L' => I66 ≤ I' ∧ L = L' ∧ Knows 141 [(0, .string a0), (6, .int .i64 j62), (7, .int .i64 j62), (111, .bool j71)] t) ?_ ?_
            · refine gk_region (by kernel_rfl) ?_
              refine gl_pure 5 [0, 6, 7, 100] (K' := [(0, .string a0), (6, .int .i64 j62), (7, .int .i64 j62), (100, .bool (decide (j62 < (a0.size : Int))))]) (by kernel_rfl) ?_
              refine gl_case 100 (b := (decide (j62 < (a0.size : Int)))) (by kernel_rfl) (fun hc76 => ?_) (fun hc76 => ?_)
              · have hj72 := cond_t hc76 hj72
                refine gl_pure 2 [0, 6, 7, 100, 101, 102] (K' := [(0, .string a0), (6, .int .i64 j62), (7, .int .i64 j62), (100, .bool true), (101, .string a0), (102, .int .i64 j62)]) (by kernel_rfl) ?_
                obtain ⟨c77, hx78, hj72⟩ := bind_some hj72
                refine gl_index' (T' := 9) (xs := (.tmp 101)) (xi := (.tmp 102)) (kd := .i64) hx78 (by kernel_rfl) (by kernel_rfl) (by kernel_rfl) (by kernel_rfl) (by kernel_rfl) ?_
                refine gl_pure 2 [0, 6, 7, 100, 105] (K' := [(0, .string a0), (6, .int .i64 j62), (7, .int .i64 j62), (100, .bool true), (105, .bool (c77 == 101))]) (by kernel_rfl) ?_
                refine gl_case 105 (b := (c77 == 101)) (by kernel_rfl) (fun hc79 => ?_) (fun hc79 => ?_)
                · have hj72 := cond_t hc79 hj72
                  refine gl_pure 6 [0, 6, 7, 111] (K' := [(0, .string a0), (6, .int .i64 j62), (7, .int .i64 j62), (111, .bool true)]) (by kernel_rfl) ?_
                  refine gl_atE (by kernel_rfl) ?_
                  obtain rfl := some_inj hj72
                  exact ge_mid fun t ht => ⟨(Imm.refl _), rfl, ht.pick (l := [0, 6, 7, 111]) (by kernel_rfl)⟩
                · have hj72 := cond_f hc79 hj72
                  refine gl_pure 2 [0, 6, 7, 100, 105, 106, 107] (K' := [(0, .string a0), (6, .int .i64 j62), (7, .int .i64 j62), (100, .bool true), (105, .bool false), (106, .string a0), (107, .int .i64 j62)]) (by kernel_rfl) ?_
                  obtain ⟨c80, hx81, hj72⟩ := bind_some hj72
                  refine gl_index' (T' := 9) (xs := (.tmp 106)) (xi := (.tmp 107)) (kd := .i64) hx81 (by kernel_rfl) (by kernel_rfl) (by kernel_rfl) (by kernel_rfl) (by kernel_rfl) ?_
                  refine gl_pure 3 [0, 6, 7, 111] (K' := [(0, .string a0), (6, .int .i64 j62), (7, .int .i64 j62), (111, .bool (c80 == 69))]) (by kernel_rfl) ?_
                  refine gl_atE (by kernel_rfl) ?_
                  obtain rfl := some_inj hj72
                  exact ge_mid fun t ht => ⟨(Imm.refl _), rfl, ht.pick (l := [0, 6, 7, 111]) (by kernel_rfl)⟩
              · have hj72 := cond_f hc76 hj72
                refine gl_pure 11 [0, 6, 7, 111] (K' := [(0, .string a0), (6, .int .i64 j62), (7, .int .i64 j62), (111, .bool false)]) (by kernel_rfl) ?_
                refine gl_atE (by kernel_rfl) ?_
                obtain rfl := some_inj hj72
                exact ge_mid fun t ht => ⟨(Imm.refl _), rfl, ht.pick (l := [0, 6, 7, 111]) (by kernel_rfl)⟩
            · rintro t I75 L' ⟨hI73, rfl, hK74⟩
              refine ge_at hK74 ?_
              refine ge_seq ?_
              obtain ⟨j82, hj83, hr⟩ := bind_some hr
              refine gk_join (fun t I' L' => ∃ j84, j82 = Sum.inl j84 ∧ I75 ≤ I' ∧ L = L' ∧ Knows 141 [(6, .int .i64 j62)] t) ?_ ?_
              · refine gk_cond (b := j71) (by kernel_rfl) (by kernel_rfl) (fun hc88 => ?_) (fun hc88 => ?_)
                · have hj83 := cond_t hc88 hj83
                  refine gk_seq (by kernel_rfl) ?_
                  refine gk_region (by kernel_rfl) ?_
                  refine gl_pure 3 [0, 6, 7] (K' := [(0, .string a0), (6, .int .i64 j62), (7, .int .i64 (IntKind.wrap .i64 (j62 + 1)))]) (by kernel_rfl) ?_
                  refine gl_atE (by kernel_rfl) ?_
                  refine ge_seq ?_
                  refine gk_seq (by kernel_rfl) ?_
                  refine gk_seq (by kernel_rfl) ?_
                  obtain ⟨j89, hj90, hj83⟩ := bind_some hj83
                  refine gk_join (fun t I' L' => I75 ≤ I' ∧ L = L' ∧ Knows 141 [(0, .string a0), (6, .int .i64 j62), (7, .int .i64 (IntKind.wrap .i64 (j62 + 1))), (129, .bool j89)] t) ?_ ?_
                  · refine gk_region (by kernel_rfl) ?_
                    refine gl_pure 5 [0, 6, 7, 118] (K' := [(0, .string a0), (6, .int .i64 j62), (7, .int .i64 (IntKind.wrap .i64 (j62 + 1))), (118, .bool (decide ((IntKind.wrap .i64 (j62 + 1)) < (a0.size : Int))))]) (by kernel_rfl) ?_
                    refine gl_case 118 (b := (decide ((IntKind.wrap .i64 (j62 + 1)) < (a0.size : Int)))) (by kernel_rfl) (fun hc94 => ?_) (fun hc94 => ?_)
                    · have hj90 := cond_t hc94 hj90
                      refine gl_pure 2 [0, 6, 7, 118, 119, 120] (K' := [(0, .string a0), (6, .int .i64 j62), (7, .int .i64 (IntKind.wrap .i64 (j62 + 1))), (118, .bool true), (119, .string a0), (120, .int .i64 (IntKind.wrap .i64 (j62 + 1)))]) (by kernel_rfl) ?_
                      obtain ⟨c95, hx96, hj90⟩ := bind_some hj90
                      refine gl_index' (T' := 9) (xs := (.tmp 119)) (xi := (.tmp 120)) (kd := .i64) hx96 (by kernel_rfl) (by kernel_rfl) (by kernel_rfl) (by kernel_rfl) (by kernel_rfl) ?_
                      refine gl_pure 2 [0, 6, 7, 118, 123] (K' := [(0, .string a0), (6, .int .i64 j62), (7, .int .i64 (IntKind.wrap .i64 (j62 + 1))), (118, .bool true), (123, .bool (c95 == 43))]) (by kernel_rfl) ?_
                      refine gl_case 123 (b := (c95 == 43)) (by kernel_rfl) (fun hc97 => ?_) (fun hc97 => ?_)
                      · have hj90 := cond_t hc97 hj90
                        refine gl_pure 6 [0, 6, 7, 129] (K' := [(0, .string a0), (6, .int .i64 j62), (7, .int .i64 (IntKind.wrap .i64 (j62 + 1))), (129, .bool true)]) (by kernel_rfl) ?_
                        refine gl_atE (by kernel_rfl) ?_
                        obtain rfl := some_inj hj90
                        exact ge_mid fun t ht => ⟨(Imm.refl _), rfl, ht.pick (l := [0, 6, 7, 129]) (by kernel_rfl)⟩
                      · have hj90 := cond_f hc97 hj90
                        refine gl_pure 2 [0, 6, 7, 118, 123, 124, 125] (K' := [(0, .string a0), (6, .int .i64 j62), (7, .int .i64 (IntKind.wrap .i64 (j62 + 1))), (118, .bool true), (123, .bool false), (124, .string a0), (125, .int .i64 (IntKind.wrap .i64 (j62 + 1)))]) (by kernel_rfl) ?_
                        obtain ⟨c98, hx99, hj90⟩ := bind_some hj90
                        refine gl_index' (T' := 9) (xs := (.tmp 124)) (xi := (.tmp 125)) (kd := .i64) hx99 (by kernel_rfl) (by kernel_rfl) (by kernel_rfl) (by kernel_rfl) (by kernel_rfl) ?_
                        refine gl_pure 3 [0, 6, 7, 129] (K' := [(0, .string a0), (6, .int .i64 j62), (7, .int .i64 (IntKind.wrap .i64 (j62 + 1))), (129, .bool (c98 == 45))]) (by kernel_rfl) ?_
                        refine gl_atE (by kernel_rfl) ?_
                        obtain rfl := some_inj hj90
                        exact ge_mid fun t ht => ⟨(Imm.refl _), rfl, ht.pick (l := [0, 6, 7, 129]) (by kernel_rfl)⟩
                    · have hj90 := cond_f hc94 hj90
                      refine gl_pure 11 [0, 6, 7, 129] (K' := [(0, .string a0), (6, .int .i64 j62), (7, .int .i64 (IntKind.wrap .i64 (j62 + 1))), (129, .bool false)]) (by kernel_rfl) ?_
                      refine gl_atE (by kernel_rfl) ?_
                      obtain rfl := some_inj hj90
                      exact ge_mid fun t ht => ⟨(Imm.refl _), rfl, ht.pick (l := [0, 6, 7, 129]) (by kernel_rfl)⟩
                  · rintro t I93 L' ⟨hI91, rfl, hK92⟩
                    refine ge_at hK92 ?_
                    refine ge_seq ?_
                    obtain ⟨j100, hj101, hj83⟩ := bind_some hj83
                    refine gk_join (fun t I' L' => I93 ≤ I' ∧ L = L' ∧ Knows 141 [(0, .string a0), (6, .int .i64 j62), (7, .int .i64 j100)] t) ?_ ?_
                    · refine gk_cond (b := j89) (by kernel_rfl) (by kernel_rfl) (fun hc105 => ?_) (fun hc105 => ?_)
                      · have hj101 := cond_t hc105 hj101
                        refine gk_region (by kernel_rfl) ?_
                        refine gl_pure 3 [0, 6, 7] (K' := [(0, .string a0), (6, .int .i64 j62), (7, .int .i64 (IntKind.wrap .i64 ((IntKind.wrap .i64 (j62 + 1)) + 1)))]) (by kernel_rfl) ?_
                        refine gl_atE (by kernel_rfl) ?_
                        obtain rfl := some_inj hj101
                        exact ge_mid fun t ht => ⟨(Imm.refl _), rfl, ht.pick (l := [0, 6, 7]) (by kernel_rfl)⟩
                      · have hj101 := cond_f hc105 hj101
                        refine gk_skip (by kernel_rfl) ?_
                        obtain rfl := some_inj hj101
                        exact ge_mid fun t ht => ⟨(Imm.refl _), rfl, ht.pick (l := [0, 6, 7]) (by kernel_rfl)⟩
                    · rintro t I104 L' ⟨hI102, rfl, hK103⟩
                      refine ge_at hK103 ?_
                      refine ge_seq ?_
                      refine gk_seq (by kernel_rfl) ?_
                      refine gk_region (by kernel_rfl) ?_
                      refine gl_pure 2 [0, 6, 7, 132, 133] (K' := [(0, .string a0), (6, .int .i64 j62), (7, .int .i64 j100), (132, .string a0), (133, .int .i64 j100)]) (by kernel_rfl) ?_
                      obtain ⟨y106, hx107, hj83⟩ := bind_some hj83
                      refine gl_callQ (by kernel_rfl) (tocsinref13_run_walk (r := y106)  hx107 _) ?_
                      refine gl_pure 2 [0, 6, 7, 136] (K' := [(0, .string a0), (6, .int .i64 j62), (7, .int .i64 j100), (136, .bool (decide (y106 > j100)))]) (by kernel_rfl) ?_
                      refine gl_atE (by kernel_rfl) ?_
                      refine ge_seq ?_
                      refine gk_cond (b := (decide (y106 > j100))) (by kernel_rfl) (by kernel_rfl) (fun hc108 => ?_) (fun hc108 => ?_)
                      · have hj83 := cond_t hc108 hj83
                        refine gk_seq (by kernel_rfl) ?_
                        refine gk_region (by kernel_rfl) ?_
                        refine gl_pure 2 [137, 138] (K' := [(137, .string a0), (138, .int .i64 j100)]) (by kernel_rfl) ?_
                        obtain ⟨y109, hx110, hj83⟩ := bind_some hj83
                        refine gl_callQ (by kernel_rfl) (tocsinref13_run_walk (r := y109)  hx110 _) ?_
                        refine gl_pure 1 [4] (K' := [(4, .int .i64 y109)]) (by kernel_rfl) ?_
                        refine gl_atE (by kernel_rfl) ?_
                        refine ge_seq ?_
                        refine gk_ret (by kernel_rfl) ?_
                        refine ge_seq_ret ?_
                        obtain rfl := some_inj hj83
                        refine ge_seq_ret ?_
                        obtain rfl := some_inj hr
                        exact ge_result trivial (ResOk.tmp (by kernel_rfl) ResOk.nil) (Imm.trans (Imm.trans (Imm.trans (Imm.trans (Imm.trans hI3 hI51) hI64) hI73) hI91) hI102) ⟨rfl, rfl⟩
                      · have hj83 := cond_f hc108 hj83
                        refine gk_skip (by kernel_rfl) ?_
                        obtain rfl := some_inj hj83
                        exact ge_mid fun t ht => ⟨_, rfl, (Imm.trans hI91 hI102), rfl, ht.pick (l := [6]) (by kernel_rfl)⟩
                · have hj83 := cond_f hc88 hj83
                  refine gk_skip (by kernel_rfl) ?_
                  obtain rfl := some_inj hj83
                  exact ge_mid fun t ht => ⟨_, rfl, (Imm.refl _), rfl, ht.pick (l := [6]) (by kernel_rfl)⟩
              · rintro t I87 L' ⟨j84, rfl, hI85, rfl, hK86⟩
                refine ge_at hK86 ?_
                refine ge_seq ?_
                refine gk_seq (by kernel_rfl) ?_
                refine gk_region (by kernel_rfl) ?_
                refine gl_pure 2 [4] (K' := [(4, .int .i64 j62)]) (by kernel_rfl) ?_
                refine gl_atE (by kernel_rfl) ?_
                refine ge_seq ?_
                refine gk_ret (by kernel_rfl) ?_
                obtain rfl := some_inj hr
                exact ge_result trivial (ResOk.tmp (by kernel_rfl) ResOk.nil) (Imm.trans (Imm.trans (Imm.trans (Imm.trans hI3 hI51) hI64) hI73) hI85) ⟨rfl, rfl⟩
structure S93 where
  f0 : ByteArray
  f1 : Int
def kS93 : Kd S93 := Kd.iso (Kd.pair Kd.str (Kd.int .i64)) (fun x => (x.f0, x.f1))
def wS93 (x : S93) (n : Nat) : Prop := ∃ n0 n1, n0 + n1 + 1 ≤ n ∧ wStr x.f0 n0 ∧ (wInt .i64) x.f1 n1
theorem kS93_open {I : Imm} {x : S93} {cs : List Value} (h : kS93.R I x cs) : cs = [.string x.f0, .int .i64 x.f1] := by
  obtain ⟨_, _, rfl, h_0, h_1⟩ := h
  obtain rfl := h_0
  obtain rfl := h_1
  exact rfl
theorem kS93_mk {I : Imm} {x : S93}   : kS93.R I x [.string x.f0, .int .i64 x.f1] :=
  ⟨[.string x.f0], [.int .i64 x.f1], rfl, rfl, rfl⟩
/-! 63 tocsinref13_Units  -/
noncomputable def tocsinref13_Units : (List S93) :=
  [(⟨(⟨#[121]⟩ : ByteArray), 31536000000⟩ : S93), (⟨(⟨#[119]⟩ : ByteArray), 604800000⟩ : S93), (⟨(⟨#[100]⟩ : ByteArray), 86400000⟩ : S93), (⟨(⟨#[104]⟩ : ByteArray), 3600000⟩ : S93), (⟨(⟨#[109]⟩ : ByteArray), 60000⟩ : S93), (⟨(⟨#[115]⟩ : ByteArray), 1000⟩ : S93), (⟨(⟨#[109, 115]⟩ : ByteArray), 1⟩ : S93)]
theorem tocsinref13_Units_walk  {I : Imm} {r : (List S93)}  (hr : tocsinref13_Units = r) (L : Own) :
    CallsTo Tryd.prog 63 #[] I L (fun v I' L' => ∃ A0 c0 C0, OwnS kS93 94 I' A0 c0 r C0 ∧ v = .slice A0 r.length c0 ∧ C0 ++ L = L') := by
  replace hr : some (tocsinref13_Units) = some r := congrArg some hr
  unfold tocsinref13_Units at hr
  refine callsTo_body (N := 9) Tryd.func63 (by kernel_rfl) (by kernel_rfl) (by kernel_rfl) ?_
  refine gk_pick [] (K' := []) (by kernel_rfl) ?_
  refine gk_seq (by kernel_rfl) ?_
  refine gk_region (by kernel_rfl) ?_
  refine gl_pure 1 [] (K' := []) (by kernel_rfl) ?_
  refine gl_atE (by kernel_rfl) ?_
  refine ge_seq ?_
  refine gk_seq (by kernel_rfl) ?_
  refine gk_region (by kernel_rfl) ?_
  refine gl_pure 7 [1, 2, 3, 4, 5, 6, 7] (K' := [(1, .agg #[.string (⟨#[121]⟩ : ByteArray), .int .i64 31536000000]), (2, .agg #[.string (⟨#[119]⟩ : ByteArray), .int .i64 604800000]), (3, .agg #[.string (⟨#[100]⟩ : ByteArray), .int .i64 86400000]), (4, .agg #[.string (⟨#[104]⟩ : ByteArray), .int .i64 3600000]), (5, .agg #[.string (⟨#[109]⟩ : ByteArray), .int .i64 60000]), (6, .agg #[.string (⟨#[115]⟩ : ByteArray), .int .i64 1000]), (7, .agg #[.string (⟨#[109, 115]⟩ : ByteArray), .int .i64 1])]) (by kernel_rfl) ?_
  refine gl_buildSlice (T' := 95) (e := 94) (n := 2) (len := 7) (parts := #[(0, (.tmp 1)), (1, (.tmp 2)), (2, (.tmp 3)), (3, (.tmp 4)), (4, (.tmp 5)), (5, (.tmp 6)), (6, (.tmp 7))]) (l := [(0, .agg #[.string (⟨#[121]⟩ : ByteArray), .int .i64 31536000000]), (1, .agg #[.string (⟨#[119]⟩ : ByteArray), .int .i64 604800000]), (2, .agg #[.string (⟨#[100]⟩ : ByteArray), .int .i64 86400000]), (3, .agg #[.string (⟨#[104]⟩ : ByteArray), .int .i64 3600000]), (4, .agg #[.string (⟨#[109]⟩ : ByteArray), .int .i64 60000]), (5, .agg #[.string (⟨#[115]⟩ : ByteArray), .int .i64 1000]), (6, .agg #[.string (⟨#[109, 115]⟩ : ByteArray), .int .i64 1])]) (cs := #[.string (⟨#[121]⟩ : ByteArray), .int .i64 31536000000, .string (⟨#[119]⟩ : ByteArray), .int .i64 604800000, .string (⟨#[100]⟩ : ByteArray), .int .i64 86400000, .string (⟨#[104]⟩ : ByteArray), .int .i64 3600000, .string (⟨#[109]⟩ : ByteArray), .int .i64 60000, .string (⟨#[115]⟩ : ByteArray), .int .i64 1000, .string (⟨#[109, 115]⟩ : ByteArray), .int .i64 1]) (by kernel_rfl) (by kernel_rfl) (by kernel_rfl) (by kernel_rfl) (by kernel_rfl) (fun g1 => ?_)
  have hO2 : OwnS kS93 94 I (some ⟨g1, 0, none⟩) 7 [(⟨(⟨#[121]⟩ : ByteArray), 31536000000⟩ : S93), (⟨(⟨#[119]⟩ : ByteArray), 604800000⟩ : S93), (⟨(⟨#[100]⟩ : ByteArray), 86400000⟩ : S93), (⟨(⟨#[104]⟩ : ByteArray), 3600000⟩ : S93), (⟨(⟨#[109]⟩ : ByteArray), 60000⟩ : S93), (⟨(⟨#[115]⟩ : ByteArray), 1000⟩ : S93), (⟨(⟨#[109, 115]⟩ : ByteArray), 1⟩ : S93)] [(g1, .cells #[.string (⟨#[121]⟩ : ByteArray), .int .i64 31536000000, .string (⟨#[119]⟩ : ByteArray), .int .i64 604800000, .string (⟨#[100]⟩ : ByteArray), .int .i64 86400000, .string (⟨#[104]⟩ : ByteArray), .int .i64 3600000, .string (⟨#[109]⟩ : ByteArray), .int .i64 60000, .string (⟨#[115]⟩ : ByteArray), .int .i64 1000, .string (⟨#[109, 115]⟩ : ByteArray), .int .i64 1] 94)] := OwnS.lit (row_cons (l := [.string (⟨#[121]⟩ : ByteArray), .int .i64 31536000000]) (kS93_mk (x := (⟨(⟨#[121]⟩ : ByteArray), 31536000000⟩ : S93)) ) (row_cons (l := [.string (⟨#[119]⟩ : ByteArray), .int .i64 604800000]) (kS93_mk (x := (⟨(⟨#[119]⟩ : ByteArray), 604800000⟩ : S93)) ) (row_cons (l := [.string (⟨#[100]⟩ : ByteArray), .int .i64 86400000]) (kS93_mk (x := (⟨(⟨#[100]⟩ : ByteArray), 86400000⟩ : S93)) ) (row_cons (l := [.string (⟨#[104]⟩ : ByteArray), .int .i64 3600000]) (kS93_mk (x := (⟨(⟨#[104]⟩ : ByteArray), 3600000⟩ : S93)) ) (row_cons (l := [.string (⟨#[109]⟩ : ByteArray), .int .i64 60000]) (kS93_mk (x := (⟨(⟨#[109]⟩ : ByteArray), 60000⟩ : S93)) ) (row_cons (l := [.string (⟨#[115]⟩ : ByteArray), .int .i64 1000]) (kS93_mk (x := (⟨(⟨#[115]⟩ : ByteArray), 1000⟩ : S93)) ) (row_cons (l := [.string (⟨#[109, 115]⟩ : ByteArray), .int .i64 1]) (kS93_mk (x := (⟨(⟨#[109, 115]⟩ : ByteArray), 1⟩ : S93)) ) (row_nil _ _)))))))) rfl rfl rfl
  refine gl_reord (D := [(g1, .cells #[.string (⟨#[121]⟩ : ByteArray), .int .i64 31536000000, .string (⟨#[119]⟩ : ByteArray), .int .i64 604800000, .string (⟨#[100]⟩ : ByteArray), .int .i64 86400000, .string (⟨#[104]⟩ : ByteArray), .int .i64 3600000, .string (⟨#[109]⟩ : ByteArray), .int .i64 60000, .string (⟨#[115]⟩ : ByteArray), .int .i64 1000, .string (⟨#[109, 115]⟩ : ByteArray), .int .i64 1] 94)] ++ L) (Reord.refl _) ?_
  refine gl_pure 1 [0] (K' := [(0, .slice (some ⟨g1, 0, none⟩) [(⟨(⟨#[121]⟩ : ByteArray), 31536000000⟩ : S93), (⟨(⟨#[119]⟩ : ByteArray), 604800000⟩ : S93), (⟨(⟨#[100]⟩ : ByteArray), 86400000⟩ : S93), (⟨(⟨#[104]⟩ : ByteArray), 3600000⟩ : S93), (⟨(⟨#[109]⟩ : ByteArray), 60000⟩ : S93), (⟨(⟨#[115]⟩ : ByteArray), 1000⟩ : S93), (⟨(⟨#[109, 115]⟩ : ByteArray), 1⟩ : S93)].length 7)]) (by kernel_rfl) ?_
  refine gl_atE (by kernel_rfl) ?_
  refine ge_seq ?_
  refine gk_ret (by kernel_rfl) ?_
  obtain rfl := some_inj hr
  exact ge_result trivial (ResOk.tmp (by kernel_rfl) ResOk.nil) (Imm.refl _) ⟨(some ⟨g1, 0, none⟩), 7, [(g1, .cells #[.string (⟨#[121]⟩ : ByteArray), .int .i64 31536000000, .string (⟨#[119]⟩ : ByteArray), .int .i64 604800000, .string (⟨#[100]⟩ : ByteArray), .int .i64 86400000, .string (⟨#[104]⟩ : ByteArray), .int .i64 3600000, .string (⟨#[109]⟩ : ByteArray), .int .i64 60000, .string (⟨#[115]⟩ : ByteArray), .int .i64 1000, .string (⟨#[109, 115]⟩ : ByteArray), .int .i64 1] 94)], hO2, rfl, rfl⟩
/-! 62 tocsinref13_unit  -/
noncomputable def tocsinref13_unit_l24 (a0 : ByteArray) (a1 : Int) : Int → Option ((Int) ⊕ ((Unit) ⊕ (Int))) := fun s14 =>
  bif (decide (s14 < (tocsinref13_Units.length : Int))) then
  (Option.bind (ix tocsinref13_Units s14) fun (x27 : S93) =>
    Option.bind (bif (decide ((x27.f0.size : Int) ≤ (IntKind.wrap .i64 ((a0.size : Int) - a1)))) then
      (Option.bind (sx a0 a1 (IntKind.wrap .i64 (a1 + (x27.f0.size : Int)))) fun (s43 : ByteArray) =>
        Option.bind (ix tocsinref13_Units s14) fun (x44 : S93) =>
        bif (s43.toList == x44.f0.toList) then
        (Option.bind (ix tocsinref13_Units s14) fun (x53 : S93) =>
          bif (x53.f0.toList == (⟨#[109]⟩ : ByteArray).toList) then
          (bif (decide ((IntKind.wrap .i64 (a1 + 1)) < (a0.size : Int))) then
            (Option.bind (bx a0 (IntKind.wrap .i64 (a1 + 1))) fun (c63 : Int) =>
              some (!(c63 == 115)))
            else
            (some true))
          else
          (some true))
        else
        (some false))
      else
      (some false)) fun (j36 : Bool) =>
    bif j36 then
    (some (Sum.inr (Sum.inr s14)))
    else
    (some (Sum.inl (IntKind.wrap .i64 (s14 + 1)))))
  else
  (some (Sum.inr (Sum.inl ())))
noncomputable def tocsinref13_unit (a0 : ByteArray) (a1 : Int) (a2 : Int) : Option Int :=
  Option.bind (loopO (tocsinref13_unit_l24 a0 a1) a2) fun (r12 : (Unit) ⊕ (Int)) =>
  match r12 with
  | Sum.inl r20 => some (-1)
  | Sum.inr v66 => some v66
theorem tocsinref13_unit_walk {a0 : ByteArray} {a1 : Int} {a2 : Int} {I : Imm} {r : Int}  (hr : tocsinref13_unit a0 a1 a2 = some r) (L : Own) :
    CallsTo Tryd.prog 62 #[.string a0, .int .i64 a1, .int .i64 a2] I L (fun v I' L' => v = .int .i64 r ∧ L = L') := by
  unfold tocsinref13_unit at hr
  refine callsTo_body (N := 68) Tryd.func62 (by kernel_rfl) (by kernel_rfl) (by kernel_rfl) ?_
  refine gk_pick [0, 1, 2] (K' := [(0, .string a0), (1, .int .i64 a1), (2, .int .i64 a2)]) (by kernel_rfl) ?_
  refine gk_seq (by kernel_rfl) ?_
  refine gk_region (by kernel_rfl) ?_
  refine gl_pure 1 [0, 1, 2] (K' := [(0, .string a0), (1, .int .i64 a1), (2, .int .i64 a2)]) (by kernel_rfl) ?_
  refine gl_atE (by kernel_rfl) ?_
  refine ge_seq ?_
  refine gk_seq (by kernel_rfl) ?_
  refine gk_region (by kernel_rfl) ?_
  refine gl_call (by kernel_rfl) (tocsinref13_Units_walk (r := tocsinref13_Units)  rfl _) ?_
  rintro v I1 L2 hI3 ⟨A4, c5, C6, hO7, rfl, rfl⟩
  refine gl_pure 1 [0, 1, 2, 7] (K' := [(0, .string a0), (1, .int .i64 a1), (2, .int .i64 a2), (7, .slice A4 tocsinref13_Units.length c5)]) (by kernel_rfl) ?_
  refine gl_atE (by kernel_rfl) ?_
  refine ge_seq ?_
  refine gk_seq (by kernel_rfl) ?_
  refine gk_seq (by kernel_rfl) ?_
  refine gk_region (by kernel_rfl) ?_
  refine gl_pure 2 [0, 1, 7, 8] (K' := [(0, .string a0), (1, .int .i64 a1), (7, .slice A4 tocsinref13_Units.length c5), (8, .int .i64 a2)]) (by kernel_rfl) ?_
  refine gl_atE (by kernel_rfl) ?_
  refine ge_seq ?_
  obtain ⟨r12, hl13, hr⟩ := bind_some hr
  refine gk_join (fun t I' L' => ∃ r20, r12 = Sum.inl r20 ∧ I1 ≤ I' ∧ L = L' ∧ Knows 68 [] t) ?_ ?_
  · refine gk_block (by kernel_rfl) ?_
    refine gk_pick [0, 1, 7, 8] (K' := [(0, .string a0), (1, .int .i64 a1), (7, .slice A4 tocsinref13_Units.length c5), (8, .int .i64 a2)]) (by kernel_rfl) ?_
    intro t hK
    refine gc_loop (tocsinref13_unit_l24 a0 a1) (fun s14 t I' L' => I1 ≤ I' ∧ C6 ++ L = L' ∧ Knows 68 [(0, .string a0), (1, .int .i64 a1), (7, .slice A4 tocsinref13_Units.length c5), (8, .int .i64 s14)] t) (by kernel_rfl) ?_ hl13 ⟨(Imm.refl _), rfl, hK⟩
    rintro s14 o15 t I19 L' hb16 ⟨hI17, rfl, hK18⟩
    unfold tocsinref13_unit_l24 at hb16
    refine gk_at hK18 ?_
    refine gk_seq (by kernel_rfl) ?_
    refine gk_seq (by kernel_rfl) ?_
    refine gk_region (by kernel_rfl) ?_
    refine gl_pure 4 [0, 1, 7, 8, 15] (K' := [(0, .string a0), (1, .int .i64 a1), (7, .slice A4 tocsinref13_Units.length c5), (8, .int .i64 s14), (15, .bool (decide (s14 < (tocsinref13_Units.length : Int))))]) (by kernel_rfl) ?_
    refine gl_atE (by kernel_rfl) ?_
    refine ge_seq ?_
    refine gk_cond (b := (decide (s14 < (tocsinref13_Units.length : Int)))) (by kernel_rfl) (by kernel_rfl) (fun hc26 => ?_) (fun hc26 => ?_)
    · have hb16 := cond_t hc26 hb16
      refine gk_skip (by kernel_rfl) ?_
      refine ge_seq ?_
      refine gk_seq (by kernel_rfl) ?_
      refine gk_block (by kernel_rfl) ?_
      refine gk_seq (by kernel_rfl) ?_
      refine gk_region (by kernel_rfl) ?_
      refine gl_pure 2 [0, 1, 7, 8, 18, 19] (K' := [(0, .string a0), (1, .int .i64 a1), (7, .slice A4 tocsinref13_Units.length c5), (8, .int .i64 s14), (18, .slice A4 tocsinref13_Units.length c5), (19, .int .i64 s14)]) (by kernel_rfl) ?_
      obtain ⟨x27, hx28, hb16⟩ := bind_some hb16
      refine gl_indexAddrW (d := kS93) (c := c5) (T' := 95) (e := 94) (xs := (.tmp 18)) (xi := (.tmp 19)) (kd := .i64) hx28 (hO7.mono hI17) (Upd.selfC _ _) (by kernel_rfl) (by kernel_rfl) (by kernel_rfl) (by kernel_rfl) (by kernel_rfl) (fun p29 cs30 hR31 hA32 hp35 => ?_)
      obtain rfl := kS93_open hR31
      refine gl_pure 1 [0, 1, 7, 8, 21] (K' := [(0, .string a0), (1, .int .i64 a1), (7, .slice A4 tocsinref13_Units.length c5), (8, .int .i64 s14), (21, .pointer (some (p29.add 0)))]) (by kernel_rfl) ?_
      refine gl_loadO (T' := 9) (xp := (.tmp 21)) (p := (p29.add 0)) (c := .string x27.f0) (n := 1) (by kernel_rfl) (by kernel_rfl) (by kernel_rfl) (by kernel_rfl) (hA32.drop 0) ?_
      refine gl_pure 2 [0, 1, 7, 8, 9] (K' := [(0, .string a0), (1, .int .i64 a1), (7, .slice A4 tocsinref13_Units.length c5), (8, .int .i64 s14), (9, .int .i64 (x27.f0.size : Int))]) (by kernel_rfl) ?_
      refine gl_atE (by kernel_rfl) ?_
      refine ge_seq ?_
      refine gk_seq (by kernel_rfl) ?_
      obtain ⟨j36, hj37, hb16⟩ := bind_some hb16
      refine gk_join (fun t I' L' => I19 ≤ I' ∧ C6 ++ L = L' ∧ Knows 68 [(0, .string a0), (1, .int .i64 a1), (7, .slice A4 tocsinref13_Units.length c5), (8, .int .i64 s14), (66, .bool j36)] t) ?_ ?_
      · refine gk_draw 43 [(0, true), (1, true), (2, true), (3, true), (4, true), (5, true), (6, true), (7, true), (8, true), (9, true), (10, true), (11, true), (12, true), (13, true), (14, true), (15, true), (16, true), (17, true), (18, true), (19, true), (20, true), (21, true), (22, true), (23, true), (24, true), (25, true), (26, true), (27, true), (28, true), (29, true), (30, true), (31, true), (32, true), (33, true), (34, true), (35, true), (36, true), (37, true), (38, true), (39, true), (40, true), (41, true), (42, true)] (C6 ++ []) (List.forall_mem_append.2 ⟨fun q hq => (List.mem_append_left _ hq), (fun p hp => by cases hp)⟩) (by kernel_rfl) (by kernel_rfl) (by kernel_rfl) ?_ (by kernel_rfl)
        refine gd_pure 7 [0, 1, 7, 8, 9, 30] (K' := [(0, .string a0), (1, .int .i64 a1), (7, .slice A4 tocsinref13_Units.length c5), (8, .int .i64 s14), (9, .int .i64 (x27.f0.size : Int)), (30, .bool (decide ((x27.f0.size : Int) ≤ (IntKind.wrap .i64 ((a0.size : Int) - a1)))))]) (s' := [(7, true), (8, true), (9, true), (10, true), (11, true), (12, true), (13, true), (14, true), (15, true), (16, true), (17, true), (18, true), (19, true), (20, true), (21, true), (22, true), (23, true), (24, true), (25, true), (26, true), (27, true), (28, true), (29, true), (30, true), (31, true), (32, true), (33, true), (34, true), (35, true), (36, true), (37, true), (38, true), (39, true), (40, true), (41, true), (42, true)]) (CC.refl (List.forall_mem_append.2 ⟨fun q hq => (List.mem_append_left _ hq), (fun p hp => by cases hp)⟩)) (by kernel_rfl) ?_
        refine gd_case 30 (b := (decide ((x27.f0.size : Int) ≤ (IntKind.wrap .i64 ((a0.size : Int) - a1))))) (by kernel_rfl) (fun hc41 => ?_) (fun hc41 => ?_)
        · have hj37 := cond_t hc41 hj37
          refine gd_pure 5 [0, 1, 7, 8, 30, 31, 32, 35] (K' := [(0, .string a0), (1, .int .i64 a1), (7, .slice A4 tocsinref13_Units.length c5), (8, .int .i64 s14), (30, .bool true), (31, .string a0), (32, .int .i64 a1), (35, .int .i64 (IntKind.wrap .i64 (a1 + (x27.f0.size : Int))))]) (s' := [(12, true), (13, true), (14, true), (15, true), (16, true), (17, true), (18, true), (19, true), (20, true), (21, true), (22, true), (23, true), (24, true), (25, true), (26, true), (27, true), (28, true), (29, true), (30, true), (31, true), (32, true), (33, true), (34, true), (35, true), (36, true), (37, true), (38, true), (39, true), (40, true), (41, true), (42, true)]) (CC.refl (List.forall_mem_append.2 ⟨fun q hq => (List.mem_append_left _ hq), (fun p hp => by cases hp)⟩)) (by kernel_rfl) ?_
          obtain ⟨s43, hx42, hj37⟩ := bind_some hj37
          refine gd_q (v := .string s43) (by kernel_rfl) (by kernel_rfl) (CC.refl (List.forall_mem_append.2 ⟨fun q hq => (List.mem_append_left _ hq), (fun p hp => by cases hp)⟩)) (fun I' L' T hC kk => gl_slice' (T' := 9) (xs := (.tmp 31)) (lo := (some (.tmp 32))) (hi := (some (.tmp 35))) hx42 (by kernel_rfl) (by kernel_rfl) (by kernel_rfl) (by kernel_rfl) (by kernel_rfl) (by kernel_rfl) kk) ?_
          refine gd_pure 2 [0, 1, 7, 8, 30, 36, 37, 38] (K' := [(0, .string a0), (1, .int .i64 a1), (7, .slice A4 tocsinref13_Units.length c5), (8, .int .i64 s14), (30, .bool true), (36, .string s43), (37, .slice A4 tocsinref13_Units.length c5), (38, .int .i64 s14)]) (s' := [(15, true), (16, true), (17, true), (18, true), (19, true), (20, true), (21, true), (22, true), (23, true), (24, true), (25, true), (26, true), (27, true), (28, true), (29, true), (30, true), (31, true), (32, true), (33, true), (34, true), (35, true), (36, true), (37, true), (38, true), (39, true), (40, true), (41, true), (42, true)]) (CC.refl (List.forall_mem_append.2 ⟨fun q hq => (List.mem_append_left _ hq), (fun p hp => by cases hp)⟩)) (by kernel_rfl) ?_
          obtain ⟨x44, hx45, hj37⟩ := bind_some hj37
          obtain ⟨p46, cs47, hR48, hA49, ha50⟩ := OwnS.ixAt hx45 (hO7.mono hI17)
          have hi51 := ix_some hx45
          obtain rfl := kS93_open hR48
          refine gd_q (v := .pointer (some p46)) (by kernel_rfl) (by kernel_rfl) (CC.refl (List.forall_mem_append.2 ⟨fun q hq => (List.mem_append_left _ hq), (fun p hp => by cases hp)⟩)) (fun I' L' T hC kk => gl_indexAddrF (c := c5) (T' := 95) (e := 94) (xs := (.tmp 37)) (xi := (.tmp 38)) (kd := .i64) ha50 hi51.1 hi51.2.1 (by kernel_rfl) (by kernel_rfl) (by kernel_rfl) (by kernel_rfl) (by kernel_rfl) kk) ?_
          refine gd_pure 1 [0, 1, 7, 8, 30, 36, 40] (K' := [(0, .string a0), (1, .int .i64 a1), (7, .slice A4 tocsinref13_Units.length c5), (8, .int .i64 s14), (30, .bool true), (36, .string s43), (40, .pointer (some (p46.add 0)))]) (s' := [(17, true), (18, true), (19, true), (20, true), (21, true), (22, true), (23, true), (24, true), (25, true), (26, true), (27, true), (28, true), (29, true), (30, true), (31, true), (32, true), (33, true), (34, true), (35, true), (36, true), (37, true), (38, true), (39, true), (40, true), (41, true), (42, true)]) (CC.refl (List.forall_mem_append.2 ⟨fun q hq => (List.mem_append_left _ hq), (fun p hp => by cases hp)⟩)) (by kernel_rfl) ?_
          refine gd_q (v := .string x44.f0) (by kernel_rfl) (by kernel_rfl) (CC.refl (List.forall_mem_append.2 ⟨fun q hq => (List.mem_append_left _ hq), (fun p hp => by cases hp)⟩)) (fun I' L' T hC kk => gl_loadO (T' := 9) (xp := (.tmp 40)) (p := (p46.add 0)) (c := .string x44.f0) (n := 1) (by kernel_rfl) (by kernel_rfl) (by kernel_rfl) (by kernel_rfl) ((fun I' L' h => (hA49 I' L' h).drop 0) _ _ (fun q hq => hC.sub _ (List.mem_append_left _ hq))) kk) ?_
          refine gd_pure 3 [0, 1, 7, 8, 44] (K' := [(0, .string a0), (1, .int .i64 a1), (7, .slice A4 tocsinref13_Units.length c5), (8, .int .i64 s14), (44, .bool (s43.toList == x44.f0.toList))]) (s' := [(21, true), (22, true), (23, true), (24, true), (25, true), (26, true), (27, true), (28, true), (29, true), (30, true), (31, true), (32, true), (33, true), (34, true), (35, true), (36, true), (37, true), (38, true), (39, true), (40, true), (41, true), (42, true)]) (CC.refl (List.forall_mem_append.2 ⟨fun q hq => (List.mem_append_left _ hq), (fun p hp => by cases hp)⟩)) (by kernel_rfl) ?_
          refine gd_case 44 (b := (s43.toList == x44.f0.toList)) (by kernel_rfl) (fun hc52 => ?_) (fun hc52 => ?_)
          · have hj37 := cond_t hc52 hj37
            refine gd_pure 2 [0, 1, 7, 8, 44, 45, 46] (K' := [(0, .string a0), (1, .int .i64 a1), (7, .slice A4 tocsinref13_Units.length c5), (8, .int .i64 s14), (44, .bool true), (45, .slice A4 tocsinref13_Units.length c5), (46, .int .i64 s14)]) (s' := [(23, true), (24, true), (25, true), (26, true), (27, true), (28, true), (29, true), (30, true), (31, true), (32, true), (33, true), (34, true), (35, true), (36, true), (37, true), (38, true), (39, true), (40, true), (41, true), (42, true)]) (CC.refl (List.forall_mem_append.2 ⟨fun q hq => (List.mem_append_left _ hq), (fun p hp => by cases hp)⟩)) (by kernel_rfl) ?_
            obtain ⟨x53, hx54, hj37⟩ := bind_some hj37
            obtain ⟨p55, cs56, hR57, hA58, ha59⟩ := OwnS.ixAt hx54 (hO7.mono hI17)
            have hi60 := ix_some hx54
            obtain rfl := kS93_open hR57
            refine gd_q (v := .pointer (some p55)) (by kernel_rfl) (by kernel_rfl) (CC.refl (List.forall_mem_append.2 ⟨fun q hq => (List.mem_append_left _ hq), (fun p hp => by cases hp)⟩)) (fun I' L' T hC kk => gl_indexAddrF (c := c5) (T' := 95) (e := 94) (xs := (.tmp 45)) (xi := (.tmp 46)) (kd := .i64) ha59 hi60.1 hi60.2.1 (by kernel_rfl) (by kernel_rfl) (by kernel_rfl) (by kernel_rfl) (by kernel_rfl) kk) ?_
            refine gd_pure 1 [0, 1, 7, 8, 44, 48] (K' := [(0, .string a0), (1, .int .i64 a1), (7, .slice A4 tocsinref13_Units.length c5), (8, .int .i64 s14), (44, .bool true), (48, .pointer (some (p55.add 0)))]) (s' := [(25, true), (26, true), (27, true), (28, true), (29, true), (30, true), (31, true), (32, true), (33, true), (34, true), (35, true), (36, true), (37, true), (38, true), (39, true), (40, true), (41, true), (42, true)]) (CC.refl (List.forall_mem_append.2 ⟨fun q hq => (List.mem_append_left _ hq), (fun p hp => by cases hp)⟩)) (by kernel_rfl) ?_
            refine gd_q (v := .string x53.f0) (by kernel_rfl) (by kernel_rfl) (CC.refl (List.forall_mem_append.2 ⟨fun q hq => (List.mem_append_left _ hq), (fun p hp => by cases hp)⟩)) (fun I' L' T hC kk => gl_loadO (T' := 9) (xp := (.tmp 48)) (p := (p55.add 0)) (c := .string x53.f0) (n := 1) (by kernel_rfl) (by kernel_rfl) (by kernel_rfl) (by kernel_rfl) ((fun I' L' h => (hA58 I' L' h).drop 0) _ _ (fun q hq => hC.sub _ (List.mem_append_left _ hq))) kk) ?_
            refine gd_pure 2 [0, 1, 7, 8, 44, 51] (K' := [(0, .string a0), (1, .int .i64 a1), (7, .slice A4 tocsinref13_Units.length c5), (8, .int .i64 s14), (44, .bool true), (51, .bool (x53.f0.toList == (⟨#[109]⟩ : ByteArray).toList))]) (s' := [(28, true), (29, true), (30, true), (31, true), (32, true), (33, true), (34, true), (35, true), (36, true), (37, true), (38, true), (39, true), (40, true), (41, true), (42, true)]) (CC.refl (List.forall_mem_append.2 ⟨fun q hq => (List.mem_append_left _ hq), (fun p hp => by cases hp)⟩)) (by kernel_rfl) ?_
            refine gd_case 51 (b := (x53.f0.toList == (⟨#[109]⟩ : ByteArray).toList)) (by kernel_rfl) (fun hc61 => ?_) (fun hc61 => ?_)
            · have hj37 := cond_t hc61 hj37
              refine gd_pure 7 [0, 1, 7, 8, 44, 58] (K' := [(0, .string a0), (1, .int .i64 a1), (7, .slice A4 tocsinref13_Units.length c5), (8, .int .i64 s14), (44, .bool true), (58, .bool (decide ((IntKind.wrap .i64 (a1 + 1)) < (a0.size : Int))))]) (s' := [(35, true), (36, true), (37, true), (38, true), (39, true), (40, true), (41, true), (42, true)]) (CC.refl (List.forall_mem_append.2 ⟨fun q hq => (List.mem_append_left _ hq), (fun p hp => by cases hp)⟩)) (by kernel_rfl) ?_
              refine gd_case 58 (b := (decide ((IntKind.wrap .i64 (a1 + 1)) < (a0.size : Int)))) (by kernel_rfl) (fun hc62 => ?_) (fun hc62 => ?_)
              · have hj37 := cond_t hc62 hj37
                refine gd_pure 3 [0, 1, 7, 8, 44, 58, 59, 61] (K' := [(0, .string a0), (1, .int .i64 a1), (7, .slice A4 tocsinref13_Units.length c5), (8, .int .i64 s14), (44, .bool true), (58, .bool true), (59, .string a0), (61, .int .i64 (IntKind.wrap .i64 (a1 + 1)))]) (s' := [(38, true), (39, true), (40, true), (41, true), (42, true)]) (CC.refl (List.forall_mem_append.2 ⟨fun q hq => (List.mem_append_left _ hq), (fun p hp => by cases hp)⟩)) (by kernel_rfl) ?_
                obtain ⟨c63, hx64, hj37⟩ := bind_some hj37
                refine gd_q (v := .int .u8 c63) (by kernel_rfl) (by kernel_rfl) (CC.refl (List.forall_mem_append.2 ⟨fun q hq => (List.mem_append_left _ hq), (fun p hp => by cases hp)⟩)) (fun I' L' T hC kk => gl_index' (T' := 9) (xs := (.tmp 59)) (xi := (.tmp 61)) (kd := .i64) hx64 (by kernel_rfl) (by kernel_rfl) (by kernel_rfl) (by kernel_rfl) (by kernel_rfl) kk) ?_
                refine gd_pure 4 [0, 1, 7, 8, 66] (K' := [(0, .string a0), (1, .int .i64 a1), (7, .slice A4 tocsinref13_Units.length c5), (8, .int .i64 s14), (66, .bool (!(c63 == 115)))]) (s' := []) (CC.refl (List.forall_mem_append.2 ⟨fun q hq => (List.mem_append_left _ hq), (fun p hp => by cases hp)⟩)) (by kernel_rfl) ?_
                refine gd_done ?_
                refine gl_atE (by kernel_rfl) ?_
                obtain rfl := some_inj hj37
                exact ge_mid fun t ht => ⟨(Imm.refl _), rfl, ht.pick (l := [0, 1, 7, 8, 66]) (by kernel_rfl)⟩
              · have hj37 := cond_f hc62 hj37
                refine gd_pure 8 [0, 1, 7, 8, 66] (K' := [(0, .string a0), (1, .int .i64 a1), (7, .slice A4 tocsinref13_Units.length c5), (8, .int .i64 s14), (66, .bool true)]) (s' := []) (CC.refl (List.forall_mem_append.2 ⟨fun q hq => (List.mem_append_left _ hq), (fun p hp => by cases hp)⟩)) (by kernel_rfl) ?_
                refine gd_done ?_
                refine gl_atE (by kernel_rfl) ?_
                obtain rfl := some_inj hj37
                exact ge_mid fun t ht => ⟨(Imm.refl _), rfl, ht.pick (l := [0, 1, 7, 8, 66]) (by kernel_rfl)⟩
            · have hj37 := cond_f hc61 hj37
              refine gd_pure 15 [0, 1, 7, 8, 66] (K' := [(0, .string a0), (1, .int .i64 a1), (7, .slice A4 tocsinref13_Units.length c5), (8, .int .i64 s14), (66, .bool true)]) (s' := []) (CC.refl (List.forall_mem_append.2 ⟨fun q hq => (List.mem_append_left _ hq), (fun p hp => by cases hp)⟩)) (by kernel_rfl) ?_
              refine gd_done ?_
              refine gl_atE (by kernel_rfl) ?_
              obtain rfl := some_inj hj37
              exact ge_mid fun t ht => ⟨(Imm.refl _), rfl, ht.pick (l := [0, 1, 7, 8, 66]) (by kernel_rfl)⟩
          · have hj37 := cond_f hc52 hj37
            refine gd_pure 22 [0, 1, 7, 8, 66] (K' := [(0, .string a0), (1, .int .i64 a1), (7, .slice A4 tocsinref13_Units.length c5), (8, .int .i64 s14), (66, .bool false)]) (s' := []) (CC.refl (List.forall_mem_append.2 ⟨fun q hq => (List.mem_append_left _ hq), (fun p hp => by cases hp)⟩)) (by kernel_rfl) ?_
            refine gd_done ?_
            refine gl_atE (by kernel_rfl) ?_
            obtain rfl := some_inj hj37
            exact ge_mid fun t ht => ⟨(Imm.refl _), rfl, ht.pick (l := [0, 1, 7, 8, 66]) (by kernel_rfl)⟩
        · have hj37 := cond_f hc41 hj37
          refine gd_pure 36 [0, 1, 7, 8, 66] (K' := [(0, .string a0), (1, .int .i64 a1), (7, .slice A4 tocsinref13_Units.length c5), (8, .int .i64 s14), (66, .bool false)]) (s' := []) (CC.refl (List.forall_mem_append.2 ⟨fun q hq => (List.mem_append_left _ hq), (fun p hp => by cases hp)⟩)) (by kernel_rfl) ?_
          refine gd_done ?_
          refine gl_atE (by kernel_rfl) ?_
          obtain rfl := some_inj hj37
          exact ge_mid fun t ht => ⟨(Imm.refl _), rfl, ht.pick (l := [0, 1, 7, 8, 66]) (by kernel_rfl)⟩
      · rintro t I40 L' ⟨hI38, rfl, hK39⟩
        refine ge_at hK39 ?_
        refine ge_seq ?_
        refine gk_cond (b := j36) (by kernel_rfl) (by kernel_rfl) (fun hc65 => ?_) (fun hc65 => ?_)
        · have hb16 := cond_t hc65 hb16
          refine gk_seq (by kernel_rfl) ?_
          refine gk_region (by kernel_rfl) ?_
          refine gl_pure 2 [6] (K' := [(6, .int .i64 s14)]) (by kernel_rfl) ?_
          refine gl_atE (by kernel_rfl) ?_
          refine ge_seq ?_
          refine gk_reord (D := L) (Reord.skipC (Reord.refl _)) ?_
          refine gk_ret (by kernel_rfl) ?_
          refine ge_block_ret ?_
          refine ge_seq_ret ?_
          obtain rfl := some_inj hb16
          refine ge_round_out (fun hrr => ?_) (by intro h; cases h)
          obtain rfl := hrr
          refine ge_block_ret ?_
          refine ge_seq_ret ?_
          refine ge_seq_ret ?_
          obtain rfl := some_inj hr
          exact ge_result trivial (ResOk.tmp (by kernel_rfl) ResOk.nil) (Imm.trans (Imm.trans hI3 hI17) hI38) ⟨rfl, rfl⟩
        · have hb16 := cond_f hc65 hb16
          refine gk_skip (by kernel_rfl) ?_
          refine ge_block_normal ?_
          refine ge_seq ?_
          refine gk_region (by kernel_rfl) ?_
          refine gl_pure 3 [0, 1, 7, 8] (K' := [(0, .string a0), (1, .int .i64 a1), (7, .slice A4 tocsinref13_Units.length c5), (8, .int .i64 (IntKind.wrap .i64 (s14 + 1)))]) (by kernel_rfl) ?_
          refine gl_atE (by kernel_rfl) ?_
          obtain rfl := some_inj hb16
          exact ge_round fun t ht => ⟨(Imm.trans hI17 hI38), rfl, ht.pick (l := [0, 1, 7, 8]) (by kernel_rfl)⟩
    · have hb16 := cond_f hc26 hb16
      refine gk_reord (D := L) (Reord.skipC (Reord.refl _)) ?_
      refine gk_exit (by kernel_rfl) ?_
      refine ge_seq_exit ?_
      obtain rfl := some_inj hb16
      refine ge_round_out (fun hrr => ?_) (by intro h; cases h)
      obtain rfl := hrr
      refine ge_block_hit (by kernel_rfl) ?_
      exact ge_mid fun t ht => ⟨_, rfl, hI17, rfl, ht.pick (l := []) (by kernel_rfl)⟩
  · rintro t I23 L' ⟨r20, rfl, hI21, rfl, hK22⟩
    refine ge_at hK22 ?_
    refine ge_seq ?_
    refine gk_seq (by kernel_rfl) ?_
    refine gk_region (by kernel_rfl) ?_
    refine gl_pure 1 [6] (K' := [(6, .int .i64 (-1))]) (by kernel_rfl) ?_
    refine gl_atE (by kernel_rfl) ?_
    refine ge_seq ?_
    refine gk_ret (by kernel_rfl) ?_
    obtain rfl := some_inj hr
    exact ge_result trivial (ResOk.tmp (by kernel_rfl) ResOk.nil) (Imm.trans hI3 hI21) ⟨rfl, rfl⟩
/-! 47 tocsinref13_span  -/
noncomputable def tocsinref13_span_l17 (a0 : ByteArray) : (Int × Int) → Option ((Int × Int) ⊕ ((Unit) ⊕ (Int))) := fun s7 =>
  Option.bind (tocsinref13_run a0 s7.1) fun (y19 : Int) =>
  bif (y19 == s7.1) then
  (some (Sum.inr (Sum.inr s7.1)))
  else
  (Option.bind (tocsinref13_unit a0 y19 s7.2) fun (y22 : Int) =>
    bif (decide (y22 < 0)) then
    (some (Sum.inr (Sum.inr s7.1)))
    else
    (Option.bind (ix tocsinref13_Units y22) fun (x32 : S93) =>
      some (Sum.inl ((IntKind.wrap .i64 (y19 + (x32.f0.size : Int))), (IntKind.wrap .i64 (y22 + 1))))))
noncomputable def tocsinref13_span (a0 : ByteArray) (a1 : Int) : Option Int :=
  Option.bind (loopO (tocsinref13_span_l17 a0) (a1, 0)) fun (r5 : (Unit) ⊕ (Int)) =>
  match r5 with
  | Sum.inl r13 => none
  | Sum.inr v41 => some v41
theorem tocsinref13_span_walk {a0 : ByteArray} {a1 : Int} {I : Imm} {r : Int}  (hr : tocsinref13_span a0 a1 = some r) (L : Own) :
    CallsTo Tryd.prog 47 #[.string a0, .int .i64 a1] I L (fun v I' L' => v = .int .i64 r ∧ L = L') := by
  unfold tocsinref13_span at hr
  refine callsTo_body (N := 34) Tryd.func47 (by kernel_rfl) (by kernel_rfl) (by kernel_rfl) ?_
  refine gk_pick [0, 1] (K' := [(0, .string a0), (1, .int .i64 a1)]) (by kernel_rfl) ?_
  refine gk_seq (by kernel_rfl) ?_
  refine gk_region (by kernel_rfl) ?_
  refine gl_pure 1 [0, 1] (K' := [(0, .string a0), (1, .int .i64 a1)]) (by kernel_rfl) ?_
  refine gl_atE (by kernel_rfl) ?_
  refine ge_seq ?_
  refine gk_seq (by kernel_rfl) ?_
  refine gk_region (by kernel_rfl) ?_
  refine gl_pure 2 [0, 5] (K' := [(0, .string a0), (5, .int .i64 a1)]) (by kernel_rfl) ?_
  refine gl_atE (by kernel_rfl) ?_
  refine ge_seq ?_
  refine gk_seq (by kernel_rfl) ?_
  refine gk_region (by kernel_rfl) ?_
  refine gl_pure 1 [0, 5, 6] (K' := [(0, .string a0), (5, .int .i64 a1), (6, .int .i64 0)]) (by kernel_rfl) ?_
  refine gl_atE (by kernel_rfl) ?_
  refine ge_seq ?_
  obtain ⟨r5, hl6, hr⟩ := bind_some hr
  refine gk_join (fun _ _ _ => False) ?_ ?_
  · refine gk_block (by kernel_rfl) ?_
    refine gk_pick [0, 5, 6] (K' := [(0, .string a0), (5, .int .i64 a1), (6, .int .i64 0)]) (by kernel_rfl) ?_
    intro t hK
    refine gc_loop (tocsinref13_span_l17 a0) (fun s7 t I' L' => I ≤ I' ∧ L = L' ∧ Knows 34 [(0, .string a0), (5, .int .i64 s7.1), (6, .int .i64 s7.2)] t) (by kernel_rfl) ?_ hl6 ⟨(Imm.refl _), rfl, hK⟩
    rintro s7 o8 t I12 L' hb9 ⟨hI10, rfl, hK11⟩
    unfold tocsinref13_span_l17 at hb9
    refine gk_at hK11 ?_
    refine gk_block (by kernel_rfl) ?_
    refine gk_seq (by kernel_rfl) ?_
    refine gk_region (by kernel_rfl) ?_
    refine gl_pure 2 [0, 5, 6, 10, 11] (K' := [(0, .string a0), (5, .int .i64 s7.1), (6, .int .i64 s7.2), (10, .string a0), (11, .int .i64 s7.1)]) (by kernel_rfl) ?_
    obtain ⟨y19, hx20, hb9⟩ := bind_some hb9
    refine gl_callQ (by kernel_rfl) (tocsinref13_run_walk (r := y19)  hx20 _) ?_
    refine gl_pure 1 [0, 5, 6, 7] (K' := [(0, .string a0), (5, .int .i64 s7.1), (6, .int .i64 s7.2), (7, .int .i64 y19)]) (by kernel_rfl) ?_
    refine gl_atE (by kernel_rfl) ?_
    refine ge_seq ?_
    refine gk_seq (by kernel_rfl) ?_
    refine gk_seq (by kernel_rfl) ?_
    refine gk_region (by kernel_rfl) ?_
    refine gl_pure 3 [0, 5, 6, 7, 15] (K' := [(0, .string a0), (5, .int .i64 s7.1), (6, .int .i64 s7.2), (7, .int .i64 y19), (15, .bool (y19 == s7.1))]) (by kernel_rfl) ?_
    refine gl_atE (by kernel_rfl) ?_
    refine ge_seq ?_
    refine gk_cond (b := (y19 == s7.1)) (by kernel_rfl) (by kernel_rfl) (fun hc21 => ?_) (fun hc21 => ?_)
    · have hb9 := cond_t hc21 hb9
      refine gk_seq (by kernel_rfl) ?_
      refine gk_region (by kernel_rfl) ?_
      refine gl_pure 2 [4] (K' := [(4, .int .i64 s7.1)]) (by kernel_rfl) ?_
      refine gl_atE (by kernel_rfl) ?_
      refine ge_seq ?_
      refine gk_ret (by kernel_rfl) ?_
      refine ge_seq_ret ?_
      refine ge_block_ret ?_
      obtain rfl := some_inj hb9
      refine ge_round_out (fun hrr => ?_) (by intro h; cases h)
      obtain rfl := hrr
      refine ge_block_ret ?_
      refine ge_seq_ret ?_
      obtain rfl := some_inj hr
      exact ge_result trivial (ResOk.tmp (by kernel_rfl) ResOk.nil) hI10 ⟨rfl, rfl⟩
    · have hb9 := cond_f hc21 hb9
      refine gk_skip (by kernel_rfl) ?_
      refine ge_seq ?_
      refine gk_seq (by kernel_rfl) ?_
      refine gk_region (by kernel_rfl) ?_
      refine gl_pure 3 [0, 5, 7, 17, 18, 19] (K' := [(0, .string a0), (5, .int .i64 s7.1), (7, .int .i64 y19), (17, .string a0), (18, .int .i64 y19), (19, .int .i64 s7.2)]) (by kernel_rfl) ?_
      obtain ⟨y22, hx23, hb9⟩ := bind_some hb9
      refine gl_callQ (by kernel_rfl) (tocsinref13_unit_walk (r := y22)  hx23 _) ?_
      refine gl_pure 1 [0, 5, 7, 8] (K' := [(0, .string a0), (5, .int .i64 s7.1), (7, .int .i64 y19), (8, .int .i64 y22)]) (by kernel_rfl) ?_
      refine gl_atE (by kernel_rfl) ?_
      refine ge_seq ?_
      refine gk_seq (by kernel_rfl) ?_
      refine gk_seq (by kernel_rfl) ?_
      refine gk_region (by kernel_rfl) ?_
      refine gl_pure 2 [0, 5, 7, 8, 22] (K' := [(0, .string a0), (5, .int .i64 s7.1), (7, .int .i64 y19), (8, .int .i64 y22), (22, .bool (decide (y22 < 0)))]) (by kernel_rfl) ?_
      refine gl_atE (by kernel_rfl) ?_
      refine ge_seq ?_
      refine gk_cond (b := (decide (y22 < 0))) (by kernel_rfl) (by kernel_rfl) (fun hc24 => ?_) (fun hc24 => ?_)
      · have hb9 := cond_t hc24 hb9
        refine gk_seq (by kernel_rfl) ?_
        refine gk_region (by kernel_rfl) ?_
        refine gl_pure 2 [4] (K' := [(4, .int .i64 s7.1)]) (by kernel_rfl) ?_
        refine gl_atE (by kernel_rfl) ?_
        refine ge_seq ?_
        refine gk_ret (by kernel_rfl) ?_
        refine ge_seq_ret ?_
        refine ge_block_ret ?_
        obtain rfl := some_inj hb9
        refine ge_round_out (fun hrr => ?_) (by intro h; cases h)
        obtain rfl := hrr
        refine ge_block_ret ?_
        refine ge_seq_ret ?_
        obtain rfl := some_inj hr
        exact ge_result trivial (ResOk.tmp (by kernel_rfl) ResOk.nil) hI10 ⟨rfl, rfl⟩
      · have hb9 := cond_f hc24 hb9
        refine gk_skip (by kernel_rfl) ?_
        refine ge_seq ?_
        refine gk_seq (by kernel_rfl) ?_
        refine gk_region (by kernel_rfl) ?_
        refine gl_pure 1 [0, 8, 24] (K' := [(0, .string a0), (8, .int .i64 y22), (24, .int .i64 y19)]) (by kernel_rfl) ?_
        refine gl_call (by kernel_rfl) (tocsinref13_Units_walk (r := tocsinref13_Units)  rfl _) ?_
        rintro v I25 L26 hI27 ⟨A28, c29, C30, hO31, rfl, rfl⟩
        refine gl_pure 1 [0, 8, 24, 25, 26] (K' := [(0, .string a0), (8, .int .i64 y22), (24, .int .i64 y19), (25, .slice A28 tocsinref13_Units.length c29), (26, .int .i64 y22)]) (by kernel_rfl) ?_
        obtain ⟨x32, hx33, hb9⟩ := bind_some hb9
        refine gl_indexAddrW (d := kS93) (c := c29) (T' := 95) (e := 94) (xs := (.tmp 25)) (xi := (.tmp 26)) (kd := .i64) hx33 hO31 (Upd.selfC _ _) (by kernel_rfl) (by kernel_rfl) (by kernel_rfl) (by kernel_rfl) (by kernel_rfl) (fun p34 cs35 hR36 hA37 hp40 => ?_)
        obtain rfl := kS93_open hR36
        refine gl_pure 1 [0, 8, 24, 28] (K' := [(0, .string a0), (8, .int .i64 y22), (24, .int .i64 y19), (28, .pointer (some (p34.add 0)))]) (by kernel_rfl) ?_
        refine gl_loadO (T' := 9) (xp := (.tmp 28)) (p := (p34.add 0)) (c := .string x32.f0) (n := 1) (by kernel_rfl) (by kernel_rfl) (by kernel_rfl) (by kernel_rfl) (hA37.drop 0) ?_
        refine gl_pure 3 [0, 5, 8] (K' := [(0, .string a0), (5, .int .i64 (IntKind.wrap .i64 (y19 + (x32.f0.size : Int)))), (8, .int .i64 y22)]) (by kernel_rfl) ?_
        refine gl_atE (by kernel_rfl) ?_
        refine ge_seq ?_
        refine gk_region (by kernel_rfl) ?_
        refine gl_pure 3 [0, 5, 6] (K' := [(0, .string a0), (5, .int .i64 (IntKind.wrap .i64 (y19 + (x32.f0.size : Int)))), (6, .int .i64 (IntKind.wrap .i64 (y22 + 1)))]) (by kernel_rfl) ?_
        refine gl_reord (D := L) (Reord.skipC (Reord.refl _)) ?_
        refine gl_atE (by kernel_rfl) ?_
        refine ge_block_normal ?_
        obtain rfl := some_inj hb9
        exact ge_round fun t ht => ⟨(Imm.trans hI10 hI27), rfl, ht.pick (l := [0, 5, 6]) (by kernel_rfl)⟩
  · rintro t I L' h
    exact h.elim
/-! 64 tocsinref13_Signs  -/
noncomputable def tocsinref13_Signs : (List ByteArray) :=
  [(⟨#[33, 61]⟩ : ByteArray), (⟨#[61, 126]⟩ : ByteArray), (⟨#[33, 126]⟩ : ByteArray), (⟨#[61, 61]⟩ : ByteArray), (⟨#[62, 61]⟩ : ByteArray), (⟨#[60, 61]⟩ : ByteArray), (⟨#[40]⟩ : ByteArray), (⟨#[41]⟩ : ByteArray), (⟨#[123]⟩ : ByteArray), (⟨#[125]⟩ : ByteArray), (⟨#[91]⟩ : ByteArray), (⟨#[93]⟩ : ByteArray), (⟨#[44]⟩ : ByteArray), (⟨#[61]⟩ : ByteArray), (⟨#[43]⟩ : ByteArray), (⟨#[45]⟩ : ByteArray), (⟨#[42]⟩ : ByteArray), (⟨#[47]⟩ : ByteArray), (⟨#[37]⟩ : ByteArray), (⟨#[94]⟩ : ByteArray), (⟨#[62]⟩ : ByteArray), (⟨#[60]⟩ : ByteArray)]
theorem tocsinref13_Signs_walk  {I : Imm} {r : (List ByteArray)}  (hr : tocsinref13_Signs = r) (L : Own) :
    CallsTo Tryd.prog 64 #[] I L (fun v I' L' => ∃ A0 c0 C0, OwnS Kd.str 9 I' A0 c0 r C0 ∧ v = .slice A0 r.length c0 ∧ C0 ++ L = L') := by
  replace hr : some (tocsinref13_Signs) = some r := congrArg some hr
  unfold tocsinref13_Signs at hr
  refine callsTo_body (N := 2) Tryd.func64 (by kernel_rfl) (by kernel_rfl) (by kernel_rfl) ?_
  refine gk_pick [] (K' := []) (by kernel_rfl) ?_
  refine gk_seq (by kernel_rfl) ?_
  refine gk_region (by kernel_rfl) ?_
  refine gl_pure 1 [] (K' := []) (by kernel_rfl) ?_
  refine gl_atE (by kernel_rfl) ?_
  refine ge_seq ?_
  refine gk_seq (by kernel_rfl) ?_
  refine gk_region (by kernel_rfl) ?_
  refine gl_buildSlice (T' := 40) (e := 9) (n := 1) (len := 22) (parts := #[(0, (.const (.string (⟨#[33, 61]⟩ : ByteArray)))), (1, (.const (.string (⟨#[61, 126]⟩ : ByteArray)))), (2, (.const (.string (⟨#[33, 126]⟩ : ByteArray)))), (3, (.const (.string (⟨#[61, 61]⟩ : ByteArray)))), (4, (.const (.string (⟨#[62, 61]⟩ : ByteArray)))), (5, (.const (.string (⟨#[60, 61]⟩ : ByteArray)))), (6, (.const (.string (⟨#[40]⟩ : ByteArray)))), (7, (.const (.string (⟨#[41]⟩ : ByteArray)))), (8, (.const (.string (⟨#[123]⟩ : ByteArray)))), (9, (.const (.string (⟨#[125]⟩ : ByteArray)))), (10, (.const (.string (⟨#[91]⟩ : ByteArray)))), (11, (.const (.string (⟨#[93]⟩ : ByteArray)))), (12, (.const (.string (⟨#[44]⟩ : ByteArray)))), (13, (.const (.string (⟨#[61]⟩ : ByteArray)))), (14, (.const (.string (⟨#[43]⟩ : ByteArray)))), (15, (.const (.string (⟨#[45]⟩ : ByteArray)))), (16, (.const (.string (⟨#[42]⟩ : ByteArray)))), (17, (.const (.string (⟨#[47]⟩ : ByteArray)))), (18, (.const (.string (⟨#[37]⟩ : ByteArray)))), (19, (.const (.string (⟨#[94]⟩ : ByteArray)))), (20, (.const (.string (⟨#[62]⟩ : ByteArray)))), (21, (.const (.string (⟨#[60]⟩ : ByteArray))))]) (l := [(0, .string (⟨#[33, 61]⟩ : ByteArray)), (1, .string (⟨#[61, 126]⟩ : ByteArray)), (2, .string (⟨#[33, 126]⟩ : ByteArray)), (3, .string (⟨#[61, 61]⟩ : ByteArray)), (4, .string (⟨#[62, 61]⟩ : ByteArray)), (5, .string (⟨#[60, 61]⟩ : ByteArray)), (6, .string (⟨#[40]⟩ : ByteArray)), (7, .string (⟨#[41]⟩ : ByteArray)), (8, .string (⟨#[123]⟩ : ByteArray)), (9, .string (⟨#[125]⟩ : ByteArray)), (10, .string (⟨#[91]⟩ : ByteArray)), (11, .string (⟨#[93]⟩ : ByteArray)), (12, .string (⟨#[44]⟩ : ByteArray)), (13, .string (⟨#[61]⟩ : ByteArray)), (14, .string (⟨#[43]⟩ : ByteArray)), (15, .string (⟨#[45]⟩ : ByteArray)), (16, .string (⟨#[42]⟩ : ByteArray)), (17, .string (⟨#[47]⟩ : ByteArray)), (18, .string (⟨#[37]⟩ : ByteArray)), (19, .string (⟨#[94]⟩ : ByteArray)), (20, .string (⟨#[62]⟩ : ByteArray)), (21, .string (⟨#[60]⟩ : ByteArray))]) (cs := #[.string (⟨#[33, 61]⟩ : ByteArray), .string (⟨#[61, 126]⟩ : ByteArray), .string (⟨#[33, 126]⟩ : ByteArray), .string (⟨#[61, 61]⟩ : ByteArray), .string (⟨#[62, 61]⟩ : ByteArray), .string (⟨#[60, 61]⟩ : ByteArray), .string (⟨#[40]⟩ : ByteArray), .string (⟨#[41]⟩ : ByteArray), .string (⟨#[123]⟩ : ByteArray), .string (⟨#[125]⟩ : ByteArray), .string (⟨#[91]⟩ : ByteArray), .string (⟨#[93]⟩ : ByteArray), .string (⟨#[44]⟩ : ByteArray), .string (⟨#[61]⟩ : ByteArray), .string (⟨#[43]⟩ : ByteArray), .string (⟨#[45]⟩ : ByteArray), .string (⟨#[42]⟩ : ByteArray), .string (⟨#[47]⟩ : ByteArray), .string (⟨#[37]⟩ : ByteArray), .string (⟨#[94]⟩ : ByteArray), .string (⟨#[62]⟩ : ByteArray), .string (⟨#[60]⟩ : ByteArray)]) (by kernel_rfl) (by kernel_rfl) (by kernel_rfl) (by kernel_rfl) (by kernel_rfl) (fun g1 => ?_)
  have hO2 : OwnS Kd.str 9 I (some ⟨g1, 0, none⟩) 22 [(⟨#[33, 61]⟩ : ByteArray), (⟨#[61, 126]⟩ : ByteArray), (⟨#[33, 126]⟩ : ByteArray), (⟨#[61, 61]⟩ : ByteArray), (⟨#[62, 61]⟩ : ByteArray), (⟨#[60, 61]⟩ : ByteArray), (⟨#[40]⟩ : ByteArray), (⟨#[41]⟩ : ByteArray), (⟨#[123]⟩ : ByteArray), (⟨#[125]⟩ : ByteArray), (⟨#[91]⟩ : ByteArray), (⟨#[93]⟩ : ByteArray), (⟨#[44]⟩ : ByteArray), (⟨#[61]⟩ : ByteArray), (⟨#[43]⟩ : ByteArray), (⟨#[45]⟩ : ByteArray), (⟨#[42]⟩ : ByteArray), (⟨#[47]⟩ : ByteArray), (⟨#[37]⟩ : ByteArray), (⟨#[94]⟩ : ByteArray), (⟨#[62]⟩ : ByteArray), (⟨#[60]⟩ : ByteArray)] [(g1, .cells #[.string (⟨#[33, 61]⟩ : ByteArray), .string (⟨#[61, 126]⟩ : ByteArray), .string (⟨#[33, 126]⟩ : ByteArray), .string (⟨#[61, 61]⟩ : ByteArray), .string (⟨#[62, 61]⟩ : ByteArray), .string (⟨#[60, 61]⟩ : ByteArray), .string (⟨#[40]⟩ : ByteArray), .string (⟨#[41]⟩ : ByteArray), .string (⟨#[123]⟩ : ByteArray), .string (⟨#[125]⟩ : ByteArray), .string (⟨#[91]⟩ : ByteArray), .string (⟨#[93]⟩ : ByteArray), .string (⟨#[44]⟩ : ByteArray), .string (⟨#[61]⟩ : ByteArray), .string (⟨#[43]⟩ : ByteArray), .string (⟨#[45]⟩ : ByteArray), .string (⟨#[42]⟩ : ByteArray), .string (⟨#[47]⟩ : ByteArray), .string (⟨#[37]⟩ : ByteArray), .string (⟨#[94]⟩ : ByteArray), .string (⟨#[62]⟩ : ByteArray), .string (⟨#[60]⟩ : ByteArray)] 9)] := OwnS.lit (row_cons (l := [.string (⟨#[33, 61]⟩ : ByteArray)]) rfl (row_cons (l := [.string (⟨#[61, 126]⟩ : ByteArray)]) rfl (row_cons (l := [.string (⟨#[33, 126]⟩ : ByteArray)]) rfl (row_cons (l := [.string (⟨#[61, 61]⟩ : ByteArray)]) rfl (row_cons (l := [.string (⟨#[62, 61]⟩ : ByteArray)]) rfl (row_cons (l := [.string (⟨#[60, 61]⟩ : ByteArray)]) rfl (row_cons (l := [.string (⟨#[40]⟩ : ByteArray)]) rfl (row_cons (l := [.string (⟨#[41]⟩ : ByteArray)]) rfl (row_cons (l := [.string (⟨#[123]⟩ : ByteArray)]) rfl (row_cons (l := [.string (⟨#[125]⟩ : ByteArray)]) rfl (row_cons (l := [.string (⟨#[91]⟩ : ByteArray)]) rfl (row_cons (l := [.string (⟨#[93]⟩ : ByteArray)]) rfl (row_cons (l := [.string (⟨#[44]⟩ : ByteArray)]) rfl (row_cons (l := [.string (⟨#[61]⟩ : ByteArray)]) rfl (row_cons (l := [.string (⟨#[43]⟩ : ByteArray)]) rfl (row_cons (l := [.string (⟨#[45]⟩ : ByteArray)]) rfl (row_cons (l := [.string (⟨#[42]⟩ : ByteArray)]) rfl (row_cons (l := [.string (⟨#[47]⟩ : ByteArray)]) rfl (row_cons (l := [.string (⟨#[37]⟩ : ByteArray)]) rfl (row_cons (l := [.string (⟨#[94]⟩ : ByteArray)]) rfl (row_cons (l := [.string (⟨#[62]⟩ : ByteArray)]) rfl (row_cons (l := [.string (⟨#[60]⟩ : ByteArray)]) rfl (row_nil _ _))))))))))))))))))))))) rfl rfl rfl
  refine gl_reord (D := [(g1, .cells #[.string (⟨#[33, 61]⟩ : ByteArray), .string (⟨#[61, 126]⟩ : ByteArray), .string (⟨#[33, 126]⟩ : ByteArray), .string (⟨#[61, 61]⟩ : ByteArray), .string (⟨#[62, 61]⟩ : ByteArray), .string (⟨#[60, 61]⟩ : ByteArray), .string (⟨#[40]⟩ : ByteArray), .string (⟨#[41]⟩ : ByteArray), .string (⟨#[123]⟩ : ByteArray), .string (⟨#[125]⟩ : ByteArray), .string (⟨#[91]⟩ : ByteArray), .string (⟨#[93]⟩ : ByteArray), .string (⟨#[44]⟩ : ByteArray), .string (⟨#[61]⟩ : ByteArray), .string (⟨#[43]⟩ : ByteArray), .string (⟨#[45]⟩ : ByteArray), .string (⟨#[42]⟩ : ByteArray), .string (⟨#[47]⟩ : ByteArray), .string (⟨#[37]⟩ : ByteArray), .string (⟨#[94]⟩ : ByteArray), .string (⟨#[62]⟩ : ByteArray), .string (⟨#[60]⟩ : ByteArray)] 9)] ++ L) (Reord.refl _) ?_
  refine gl_pure 1 [0] (K' := [(0, .slice (some ⟨g1, 0, none⟩) [(⟨#[33, 61]⟩ : ByteArray), (⟨#[61, 126]⟩ : ByteArray), (⟨#[33, 126]⟩ : ByteArray), (⟨#[61, 61]⟩ : ByteArray), (⟨#[62, 61]⟩ : ByteArray), (⟨#[60, 61]⟩ : ByteArray), (⟨#[40]⟩ : ByteArray), (⟨#[41]⟩ : ByteArray), (⟨#[123]⟩ : ByteArray), (⟨#[125]⟩ : ByteArray), (⟨#[91]⟩ : ByteArray), (⟨#[93]⟩ : ByteArray), (⟨#[44]⟩ : ByteArray), (⟨#[61]⟩ : ByteArray), (⟨#[43]⟩ : ByteArray), (⟨#[45]⟩ : ByteArray), (⟨#[42]⟩ : ByteArray), (⟨#[47]⟩ : ByteArray), (⟨#[37]⟩ : ByteArray), (⟨#[94]⟩ : ByteArray), (⟨#[62]⟩ : ByteArray), (⟨#[60]⟩ : ByteArray)].length 22)]) (by kernel_rfl) ?_
  refine gl_atE (by kernel_rfl) ?_
  refine ge_seq ?_
  refine gk_ret (by kernel_rfl) ?_
  obtain rfl := some_inj hr
  exact ge_result trivial (ResOk.tmp (by kernel_rfl) ResOk.nil) (Imm.refl _) ⟨(some ⟨g1, 0, none⟩), 22, [(g1, .cells #[.string (⟨#[33, 61]⟩ : ByteArray), .string (⟨#[61, 126]⟩ : ByteArray), .string (⟨#[33, 126]⟩ : ByteArray), .string (⟨#[61, 61]⟩ : ByteArray), .string (⟨#[62, 61]⟩ : ByteArray), .string (⟨#[60, 61]⟩ : ByteArray), .string (⟨#[40]⟩ : ByteArray), .string (⟨#[41]⟩ : ByteArray), .string (⟨#[123]⟩ : ByteArray), .string (⟨#[125]⟩ : ByteArray), .string (⟨#[91]⟩ : ByteArray), .string (⟨#[93]⟩ : ByteArray), .string (⟨#[44]⟩ : ByteArray), .string (⟨#[61]⟩ : ByteArray), .string (⟨#[43]⟩ : ByteArray), .string (⟨#[45]⟩ : ByteArray), .string (⟨#[42]⟩ : ByteArray), .string (⟨#[47]⟩ : ByteArray), .string (⟨#[37]⟩ : ByteArray), .string (⟨#[94]⟩ : ByteArray), .string (⟨#[62]⟩ : ByteArray), .string (⟨#[60]⟩ : ByteArray)] 9)], hO2, rfl, rfl⟩
/-! 48 tocsinref13_sign  -/
noncomputable def tocsinref13_sign_l24 (a0 : ByteArray) (a1 : Int) : Int → Option ((Int) ⊕ ((Unit) ⊕ (ByteArray))) := fun s14 =>
  bif (decide (s14 < (tocsinref13_Signs.length : Int))) then
  (Option.bind (ix tocsinref13_Signs s14) fun (x27 : ByteArray) =>
    Option.bind (bif (decide ((x27.size : Int) ≤ (IntKind.wrap .i64 ((a0.size : Int) - a1)))) then
      (Option.bind (sx a0 a1 (IntKind.wrap .i64 (a1 + (x27.size : Int)))) fun (s43 : ByteArray) =>
        Option.bind (ix tocsinref13_Signs s14) fun (x44 : ByteArray) =>
        some (s43.toList == x44.toList))
      else
      (some false)) fun (j36 : Bool) =>
    bif j36 then
    (Option.bind (ix tocsinref13_Signs s14) fun (x53 : ByteArray) =>
      some (Sum.inr (Sum.inr x53)))
    else
    (some (Sum.inl (IntKind.wrap .i64 (s14 + 1)))))
  else
  (some (Sum.inr (Sum.inl ())))
noncomputable def tocsinref13_sign (a0 : ByteArray) (a1 : Int) : Option ByteArray :=
  Option.bind (loopO (tocsinref13_sign_l24 a0 a1) 0) fun (r12 : (Unit) ⊕ (ByteArray)) =>
  match r12 with
  | Sum.inl r20 => some (⟨#[]⟩ : ByteArray)
  | Sum.inr v62 => some v62
theorem tocsinref13_sign_walk {a0 : ByteArray} {a1 : Int} {I : Imm} {r : ByteArray}  (hr : tocsinref13_sign a0 a1 = some r) (L : Own) :
    CallsTo Tryd.prog 48 #[.string a0, .int .i64 a1] I L (fun v I' L' => v = .string r ∧ L = L') := by
  unfold tocsinref13_sign at hr
  refine callsTo_body (N := 43) Tryd.func48 (by kernel_rfl) (by kernel_rfl) (by kernel_rfl) ?_
  refine gk_pick [0, 1] (K' := [(0, .string a0), (1, .int .i64 a1)]) (by kernel_rfl) ?_
  refine gk_seq (by kernel_rfl) ?_
  refine gk_region (by kernel_rfl) ?_
  refine gl_pure 1 [0, 1] (K' := [(0, .string a0), (1, .int .i64 a1)]) (by kernel_rfl) ?_
  refine gl_atE (by kernel_rfl) ?_
  refine ge_seq ?_
  refine gk_seq (by kernel_rfl) ?_
  refine gk_region (by kernel_rfl) ?_
  refine gl_call (by kernel_rfl) (tocsinref13_Signs_walk (r := tocsinref13_Signs)  rfl _) ?_
  rintro v I1 L2 hI3 ⟨A4, c5, C6, hO7, rfl, rfl⟩
  refine gl_pure 1 [0, 1, 5] (K' := [(0, .string a0), (1, .int .i64 a1), (5, .slice A4 tocsinref13_Signs.length c5)]) (by kernel_rfl) ?_
  refine gl_atE (by kernel_rfl) ?_
  refine ge_seq ?_
  refine gk_seq (by kernel_rfl) ?_
  refine gk_seq (by kernel_rfl) ?_
  refine gk_region (by kernel_rfl) ?_
  refine gl_pure 1 [0, 1, 5, 6] (K' := [(0, .string a0), (1, .int .i64 a1), (5, .slice A4 tocsinref13_Signs.length c5), (6, .int .i64 0)]) (by kernel_rfl) ?_
  refine gl_atE (by kernel_rfl) ?_
  refine ge_seq ?_
  obtain ⟨r12, hl13, hr⟩ := bind_some hr
  refine gk_join (fun t I' L' => ∃ r20, r12 = Sum.inl r20 ∧ I1 ≤ I' ∧ L = L' ∧ Knows 43 [] t) ?_ ?_
  · refine gk_block (by kernel_rfl) ?_
    refine gk_pick [0, 1, 5, 6] (K' := [(0, .string a0), (1, .int .i64 a1), (5, .slice A4 tocsinref13_Signs.length c5), (6, .int .i64 0)]) (by kernel_rfl) ?_
    intro t hK
    refine gc_loop (tocsinref13_sign_l24 a0 a1) (fun s14 t I' L' => I1 ≤ I' ∧ C6 ++ L = L' ∧ Knows 43 [(0, .string a0), (1, .int .i64 a1), (5, .slice A4 tocsinref13_Signs.length c5), (6, .int .i64 s14)] t) (by kernel_rfl) ?_ hl13 ⟨(Imm.refl _), rfl, hK⟩
    rintro s14 o15 t I19 L' hb16 ⟨hI17, rfl, hK18⟩
    unfold tocsinref13_sign_l24 at hb16
    refine gk_at hK18 ?_
    refine gk_seq (by kernel_rfl) ?_
    refine gk_seq (by kernel_rfl) ?_
    refine gk_region (by kernel_rfl) ?_
    refine gl_pure 4 [0, 1, 5, 6, 12] (K' := [(0, .string a0), (1, .int .i64 a1), (5, .slice A4 tocsinref13_Signs.length c5), (6, .int .i64 s14), (12, .bool (decide (s14 < (tocsinref13_Signs.length : Int))))]) (by kernel_rfl) ?_
    refine gl_atE (by kernel_rfl) ?_
    refine ge_seq ?_
    refine gk_cond (b := (decide (s14 < (tocsinref13_Signs.length : Int)))) (by kernel_rfl) (by kernel_rfl) (fun hc26 => ?_) (fun hc26 => ?_)
    · have hb16 := cond_t hc26 hb16
      refine gk_skip (by kernel_rfl) ?_
      refine ge_seq ?_
      refine gk_seq (by kernel_rfl) ?_
      refine gk_block (by kernel_rfl) ?_
      refine gk_seq (by kernel_rfl) ?_
      refine gk_region (by kernel_rfl) ?_
      refine gl_pure 2 [0, 1, 5, 6, 15, 16] (K' := [(0, .string a0), (1, .int .i64 a1), (5, .slice A4 tocsinref13_Signs.length c5), (6, .int .i64 s14), (15, .slice A4 tocsinref13_Signs.length c5), (16, .int .i64 s14)]) (by kernel_rfl) ?_
      obtain ⟨x27, hx28, hb16⟩ := bind_some hb16
      refine gl_indexAddrW (d := Kd.str) (c := c5) (T' := 40) (e := 9) (xs := (.tmp 15)) (xi := (.tmp 16)) (kd := .i64) hx28 (hO7.mono hI17) (Upd.selfC _ _) (by kernel_rfl) (by kernel_rfl) (by kernel_rfl) (by kernel_rfl) (by kernel_rfl) (fun p29 cs30 hR31 hA32 hp35 => ?_)
      obtain rfl := hR31
      refine gl_loadO (T' := 9) (xp := (.tmp 17)) (p := p29) (c := .string x27) (n := 1) (by kernel_rfl) (by kernel_rfl) (by kernel_rfl) (by kernel_rfl) hA32 ?_
      refine gl_pure 2 [0, 1, 5, 6, 7] (K' := [(0, .string a0), (1, .int .i64 a1), (5, .slice A4 tocsinref13_Signs.length c5), (6, .int .i64 s14), (7, .int .i64 (x27.size : Int))]) (by kernel_rfl) ?_
      refine gl_atE (by kernel_rfl) ?_
      refine ge_seq ?_
      refine gk_seq (by kernel_rfl) ?_
      obtain ⟨j36, hj37, hb16⟩ := bind_some hb16
      refine gk_join (fun t I' L' => I19 ≤ I' ∧ C6 ++ L = L' ∧ Knows 43 [(0, .string a0), (1, .int .i64 a1), (5, .slice A4 tocsinref13_Signs.length c5), (6, .int .i64 s14), (38, .bool j36)] t) ?_ ?_
      · refine gk_draw 19 [(0, true), (1, true), (2, true), (3, true), (4, true), (5, true), (6, true), (7, true), (8, true), (9, true), (10, true), (11, true), (12, true), (13, true), (14, true), (15, true), (16, true), (17, true), (18, true)] (C6 ++ []) (List.forall_mem_append.2 ⟨fun q hq => (List.mem_append_left _ hq), (fun p hp => by cases hp)⟩) (by kernel_rfl) (by kernel_rfl) (by kernel_rfl) ?_ (by kernel_rfl)
        refine gd_pure 7 [0, 1, 5, 6, 7, 26] (K' := [(0, .string a0), (1, .int .i64 a1), (5, .slice A4 tocsinref13_Signs.length c5), (6, .int .i64 s14), (7, .int .i64 (x27.size : Int)), (26, .bool (decide ((x27.size : Int) ≤ (IntKind.wrap .i64 ((a0.size : Int) - a1)))))]) (s' := [(7, true), (8, true), (9, true), (10, true), (11, true), (12, true), (13, true), (14, true), (15, true), (16, true), (17, true), (18, true)]) (CC.refl (List.forall_mem_append.2 ⟨fun q hq => (List.mem_append_left _ hq), (fun p hp => by cases hp)⟩)) (by kernel_rfl) ?_
        refine gd_case 26 (b := (decide ((x27.size : Int) ≤ (IntKind.wrap .i64 ((a0.size : Int) - a1))))) (by kernel_rfl) (fun hc41 => ?_) (fun hc41 => ?_)
        · have hj37 := cond_t hc41 hj37
          refine gd_pure 5 [0, 1, 5, 6, 26, 27, 28, 31] (K' := [(0, .string a0), (1, .int .i64 a1), (5, .slice A4 tocsinref13_Signs.length c5), (6, .int .i64 s14), (26, .bool true), (27, .string a0), (28, .int .i64 a1), (31, .int .i64 (IntKind.wrap .i64 (a1 + (x27.size : Int))))]) (s' := [(12, true), (13, true), (14, true), (15, true), (16, true), (17, true), (18, true)]) (CC.refl (List.forall_mem_append.2 ⟨fun q hq => (List.mem_append_left _ hq), (fun p hp => by cases hp)⟩)) (by kernel_rfl) ?_
          obtain ⟨s43, hx42, hj37⟩ := bind_some hj37
          refine gd_q (v := .string s43) (by kernel_rfl) (by kernel_rfl) (CC.refl (List.forall_mem_append.2 ⟨fun q hq => (List.mem_append_left _ hq), (fun p hp => by cases hp)⟩)) (fun I' L' T hC kk => gl_slice' (T' := 9) (xs := (.tmp 27)) (lo := (some (.tmp 28))) (hi := (some (.tmp 31))) hx42 (by kernel_rfl) (by kernel_rfl) (by kernel_rfl) (by kernel_rfl) (by kernel_rfl) (by kernel_rfl) kk) ?_
          refine gd_pure 2 [0, 1, 5, 6, 26, 32, 33, 34] (K' := [(0, .string a0), (1, .int .i64 a1), (5, .slice A4 tocsinref13_Signs.length c5), (6, .int .i64 s14), (26, .bool true), (32, .string s43), (33, .slice A4 tocsinref13_Signs.length c5), (34, .int .i64 s14)]) (s' := [(15, true), (16, true), (17, true), (18, true)]) (CC.refl (List.forall_mem_append.2 ⟨fun q hq => (List.mem_append_left _ hq), (fun p hp => by cases hp)⟩)) (by kernel_rfl) ?_
          obtain ⟨x44, hx45, hj37⟩ := bind_some hj37
          obtain ⟨p46, cs47, hR48, hA49, ha50⟩ := OwnS.ixAt hx45 (hO7.mono hI17)
          have hi51 := ix_some hx45
          obtain rfl := hR48
          refine gd_q (v := .pointer (some p46)) (by kernel_rfl) (by kernel_rfl) (CC.refl (List.forall_mem_append.2 ⟨fun q hq => (List.mem_append_left _ hq), (fun p hp => by cases hp)⟩)) (fun I' L' T hC kk => gl_indexAddrF (c := c5) (T' := 40) (e := 9) (xs := (.tmp 33)) (xi := (.tmp 34)) (kd := .i64) ha50 hi51.1 hi51.2.1 (by kernel_rfl) (by kernel_rfl) (by kernel_rfl) (by kernel_rfl) (by kernel_rfl) kk) ?_
          refine gd_q (v := .string x44) (by kernel_rfl) (by kernel_rfl) (CC.refl (List.forall_mem_append.2 ⟨fun q hq => (List.mem_append_left _ hq), (fun p hp => by cases hp)⟩)) (fun I' L' T hC kk => gl_loadO (T' := 9) (xp := (.tmp 35)) (p := p46) (c := .string x44) (n := 1) (by kernel_rfl) (by kernel_rfl) (by kernel_rfl) (by kernel_rfl) (hA49 _ _ (fun q hq => hC.sub _ (List.mem_append_left _ hq))) kk) ?_
          refine gd_pure 2 [0, 1, 5, 6, 38] (K' := [(0, .string a0), (1, .int .i64 a1), (5, .slice A4 tocsinref13_Signs.length c5), (6, .int .i64 s14), (38, .bool (s43.toList == x44.toList))]) (s' := []) (CC.refl (List.forall_mem_append.2 ⟨fun q hq => (List.mem_append_left _ hq), (fun p hp => by cases hp)⟩)) (by kernel_rfl) ?_
          refine gd_done ?_
          refine gl_atE (by kernel_rfl) ?_
          obtain rfl := some_inj hj37
          exact ge_mid fun t ht => ⟨(Imm.refl _), rfl, ht.pick (l := [0, 1, 5, 6, 38]) (by kernel_rfl)⟩
        · have hj37 := cond_f hc41 hj37
          refine gd_pure 12 [0, 1, 5, 6, 38] (K' := [(0, .string a0), (1, .int .i64 a1), (5, .slice A4 tocsinref13_Signs.length c5), (6, .int .i64 s14), (38, .bool false)]) (s' := []) (CC.refl (List.forall_mem_append.2 ⟨fun q hq => (List.mem_append_left _ hq), (fun p hp => by cases hp)⟩)) (by kernel_rfl) ?_
          refine gd_done ?_
          refine gl_atE (by kernel_rfl) ?_
          obtain rfl := some_inj hj37
          exact ge_mid fun t ht => ⟨(Imm.refl _), rfl, ht.pick (l := [0, 1, 5, 6, 38]) (by kernel_rfl)⟩
      · rintro t I40 L' ⟨hI38, rfl, hK39⟩
        refine ge_at hK39 ?_
        refine ge_seq ?_
        refine gk_cond (b := j36) (by kernel_rfl) (by kernel_rfl) (fun hc52 => ?_) (fun hc52 => ?_)
        · have hb16 := cond_t hc52 hb16
          refine gk_seq (by kernel_rfl) ?_
          refine gk_region (by kernel_rfl) ?_
          refine gl_pure 2 [39, 40] (K' := [(39, .slice A4 tocsinref13_Signs.length c5), (40, .int .i64 s14)]) (by kernel_rfl) ?_
          obtain ⟨x53, hx54, hb16⟩ := bind_some hb16
          refine gl_indexAddrW (d := Kd.str) (c := c5) (T' := 40) (e := 9) (xs := (.tmp 39)) (xi := (.tmp 40)) (kd := .i64) hx54 (hO7.mono (Imm.trans hI17 hI38)) (Upd.selfC _ _) (by kernel_rfl) (by kernel_rfl) (by kernel_rfl) (by kernel_rfl) (by kernel_rfl) (fun p55 cs56 hR57 hA58 hp61 => ?_)
          obtain rfl := hR57
          refine gl_loadO (T' := 9) (xp := (.tmp 41)) (p := p55) (c := .string x53) (n := 1) (by kernel_rfl) (by kernel_rfl) (by kernel_rfl) (by kernel_rfl) hA58 ?_
          refine gl_pure 1 [4] (K' := [(4, .string x53)]) (by kernel_rfl) ?_
          refine gl_atE (by kernel_rfl) ?_
          refine ge_seq ?_
          refine gk_reord (D := L) (Reord.skipC (Reord.refl _)) ?_
          refine gk_ret (by kernel_rfl) ?_
          refine ge_block_ret ?_
          refine ge_seq_ret ?_
          obtain rfl := some_inj hb16
          refine ge_round_out (fun hrr => ?_) (by intro h; cases h)
          obtain rfl := hrr
          refine ge_block_ret ?_
          refine ge_seq_ret ?_
          refine ge_seq_ret ?_
          obtain rfl := some_inj hr
          exact ge_result trivial (ResOk.tmp (by kernel_rfl) ResOk.nil) (Imm.trans (Imm.trans hI3 hI17) hI38) ⟨rfl, rfl⟩
        · have hb16 := cond_f hc52 hb16
          refine gk_skip (by kernel_rfl) ?_
          refine ge_block_normal ?_
          refine ge_seq ?_
          refine gk_region (by kernel_rfl) ?_
          refine gl_pure 3 [0, 1, 5, 6] (K' := [(0, .string a0), (1, .int .i64 a1), (5, .slice A4 tocsinref13_Signs.length c5), (6, .int .i64 (IntKind.wrap .i64 (s14 + 1)))]) (by kernel_rfl) ?_
          refine gl_atE (by kernel_rfl) ?_
          obtain rfl := some_inj hb16
          exact ge_round fun t ht => ⟨(Imm.trans hI17 hI38), rfl, ht.pick (l := [0, 1, 5, 6]) (by kernel_rfl)⟩
    · have hb16 := cond_f hc26 hb16
      refine gk_reord (D := L) (Reord.skipC (Reord.refl _)) ?_
      refine gk_exit (by kernel_rfl) ?_
      refine ge_seq_exit ?_
      obtain rfl := some_inj hb16
      refine ge_round_out (fun hrr => ?_) (by intro h; cases h)
      obtain rfl := hrr
      refine ge_block_hit (by kernel_rfl) ?_
      exact ge_mid fun t ht => ⟨_, rfl, hI17, rfl, ht.pick (l := []) (by kernel_rfl)⟩
  · rintro t I23 L' ⟨r20, rfl, hI21, rfl, hK22⟩
    refine ge_at hK22 ?_
    refine ge_seq ?_
    refine gk_seq (by kernel_rfl) ?_
    refine gk_region (by kernel_rfl) ?_
    refine gl_pure 1 [4] (K' := [(4, .string (⟨#[]⟩ : ByteArray))]) (by kernel_rfl) ?_
    refine gl_atE (by kernel_rfl) ?_
    refine ge_seq ?_
    refine gk_ret (by kernel_rfl) ?_
    obtain rfl := some_inj hr
    exact ge_result trivial (ResOk.tmp (by kernel_rfl) ResOk.nil) (Imm.trans hI3 hI21) ⟨rfl, rfl⟩
/-! 23 tocsinref13_one  -/
noncomputable def tocsinref13_one_l20 (a0 : ByteArray) : Int → Option ((Int) ⊕ (Int)) := fun s11 =>
  Option.bind (bif (decide (s11 < (a0.size : Int))) then
    (Option.bind (bx a0 s11) fun (c28 : Int) =>
      bif (tocsinref13_letter c28) then
      (some true)
      else
      (Option.bind (bx a0 s11) fun (c31 : Int) =>
        some (tocsinref13_digit c31)))
    else
    (some false)) fun (j22 : Bool) =>
  bif j22 then
  (some (Sum.inl (IntKind.wrap .i64 (s11 + 1))))
  else
  (some (Sum.inr s11))
noncomputable def tocsinref13_one (a0 : ByteArray) (a1 : Int) : Option (S27 × Int × Bool) :=
  Option.bind (bx a0 a1) fun (c2 : Int) =>
  bif (tocsinref13_letter c2) then
  (Option.bind (loopO (tocsinref13_one_l20 a0) a1) fun (r9 : Int) =>
    Option.bind (sx a0 a1 r9) fun (s35 : ByteArray) =>
    some ((⟨1, s35, a1⟩ : S27), r9, true))
  else
  (bif ((c2 == 34) || (c2 == 39)) then
    (Option.bind (tocsinref13_text a0 a1) fun (y45 : ByteArray × Int × Bool) =>
      some ((⟨4, y45.1, a1⟩ : S27), y45.2.1, y45.2.2))
    else
    (bif ((tocsinref13_digit c2) || (c2 == 46)) then
      (Option.bind (tocsinref13_number a0 a1) fun (y58 : Int) =>
        Option.bind (tocsinref13_span a0 a1) fun (y60 : Int) =>
        Option.bind (bif (decide (y60 > y58)) then
          (some (y60, 3))
          else
          (some (y58, 2))) fun (j62 : Int × Int) =>
        Option.bind (bif (j62.1 == a1) then
          (some true)
          else
          (bif (decide (j62.1 < (a0.size : Int))) then
            (Option.bind (bx a0 j62.1) fun (c75 : Int) =>
              bif (tocsinref13_letter c75) then
              (some true)
              else
              (Option.bind (bx a0 j62.1) fun (c78 : Int) =>
                bif (tocsinref13_digit c78) then
                (some true)
                else
                (Option.bind (bx a0 j62.1) fun (c81 : Int) =>
                  some (c81 == 46))))
            else
            (some false))) fun (j68 : Bool) =>
        bif j68 then
        (some ((⟨0, (⟨#[]⟩ : ByteArray), 0⟩ : S27), 0, false))
        else
        (Option.bind (sx a0 a1 j62.1) fun (s89 : ByteArray) =>
          some ((⟨j62.2, s89, a1⟩ : S27), j62.1, true)))
      else
      (Option.bind (tocsinref13_sign a0 a1) fun (y94 : ByteArray) =>
        some ((⟨5, y94, a1⟩ : S27), (IntKind.wrap .i64 (a1 + (y94.size : Int))), (!(y94.toList == (⟨#[]⟩ : ByteArray).toList))))))
theorem tocsinref13_one_walk {a0 : ByteArray} {a1 : Int} {I : Imm} {r : S27 × Int × Bool}  (hr : tocsinref13_one a0 a1 = some r) (L : Own) :
    CallsTo Tryd.prog 23 #[.string a0, .int .i64 a1] I L (fun v I' L' => v = .tuple #[.agg #[.int .i64 r.1.f0, .string r.1.f1, .int .i64 r.1.f2], .int .i64 r.2.1, .bool r.2.2] ∧ L = L') := by
  unfold tocsinref13_one at hr
  refine callsTo_body (N := 129) Tryd.func23 (by kernel_rfl) (by kernel_rfl) (by kernel_rfl) ?_
  refine gk_pick [0, 1] (K' := [(0, .string a0), (1, .int .i64 a1)]) (by kernel_rfl) ?_
  refine gk_seq (by kernel_rfl) ?_
  refine gk_region (by kernel_rfl) ?_
  refine gl_alloc (T' := 28) (cs := #[.int .i64 0, .string (⟨#[]⟩ : ByteArray), .int .i64 0]) (by kernel_rfl) (by kernel_rfl) (by kernel_rfl) (fun g1 => ?_)
  refine gl_pure 2 [0, 1, 4] (K' := [(0, .string a0), (1, .int .i64 a1), (4, .pointer (some ⟨g1, 0, none⟩))]) (by kernel_rfl) ?_
  refine gl_atE (by kernel_rfl) ?_
  refine ge_seq ?_
  refine gk_seq (by kernel_rfl) ?_
  refine gk_region (by kernel_rfl) ?_
  refine gl_pure 2 [0, 1, 4, 16, 17] (K' := [(0, .string a0), (1, .int .i64 a1), (4, .pointer (some ⟨g1, 0, none⟩)), (16, .string a0), (17, .int .i64 a1)]) (by kernel_rfl) ?_
  obtain ⟨c2, hx3, hr⟩ := bind_some hr
  refine gl_index' (T' := 9) (xs := (.tmp 16)) (xi := (.tmp 17)) (kd := .i64) hx3 (by kernel_rfl) (by kernel_rfl) (by kernel_rfl) (by kernel_rfl) (by kernel_rfl) ?_
  refine gl_pure 1 [0, 1, 4, 7] (K' := [(0, .string a0), (1, .int .i64 a1), (4, .pointer (some ⟨g1, 0, none⟩)), (7, .int .u8 c2)]) (by kernel_rfl) ?_
  refine gl_atE (by kernel_rfl) ?_
  refine ge_seq ?_
  refine gk_seq (by kernel_rfl) ?_
  refine gk_seq (by kernel_rfl) ?_
  refine gk_region (by kernel_rfl) ?_
  refine gl_pure 1 [0, 1, 4, 7, 19] (K' := [(0, .string a0), (1, .int .i64 a1), (4, .pointer (some ⟨g1, 0, none⟩)), (7, .int .u8 c2), (19, .int .u8 c2)]) (by kernel_rfl) ?_
  refine gl_callQ (by kernel_rfl) (tocsinref13_letter_walk (r := (tocsinref13_letter c2))  rfl _) ?_
  refine gl_atE (by kernel_rfl) ?_
  refine ge_seq ?_
  refine gk_cond (b := (tocsinref13_letter c2)) (by kernel_rfl) (by kernel_rfl) (fun hc4 => ?_) (fun hc4 => ?_)
  · have hr := cond_t hc4 hr
    refine gk_seq (by kernel_rfl) ?_
    refine gk_region (by kernel_rfl) ?_
    refine gl_pure 2 [0, 1, 4, 8] (K' := [(0, .string a0), (1, .int .i64 a1), (4, .pointer (some ⟨g1, 0, none⟩)), (8, .int .i64 a1)]) (by kernel_rfl) ?_
    refine gl_atE (by kernel_rfl) ?_
    refine ge_seq ?_
    refine gk_seq (by kernel_rfl) ?_
    obtain ⟨r9, hl10, hr⟩ := bind_some hr
    refine gk_join (fun t I' L' => I ≤ I' ∧ (g1, .cells #[.int .i64 0, .string (⟨#[]⟩ : ByteArray), .int .i64 0] 28) :: L = L' ∧ Knows 129 [(0, .string a0), (1, .int .i64 a1), (4, .pointer (some ⟨g1, 0, none⟩)), (8, .int .i64 r9)] t) ?_ ?_
    · refine gk_block (by kernel_rfl) ?_
      refine gk_pick [0, 1, 4, 8] (K' := [(0, .string a0), (1, .int .i64 a1), (4, .pointer (some ⟨g1, 0, none⟩)), (8, .int .i64 a1)]) (by kernel_rfl) ?_
      intro t hK
      refine gc_loop (tocsinref13_one_l20 a0) (fun s11 t I' L' => I ≤ I' ∧ (g1, .cells #[.int .i64 0, .string (⟨#[]⟩ : ByteArray), .int .i64 0] 28) :: L = L' ∧ Knows 129 [(0, .string a0), (1, .int .i64 a1), (4, .pointer (some ⟨g1, 0, none⟩)), (8, .int .i64 s11)] t) (by kernel_rfl) ?_ hl10 ⟨(Imm.refl _), rfl, hK⟩
      rintro s11 o12 t I16 L' hb13 ⟨hI14, rfl, hK15⟩
      unfold tocsinref13_one_l20 at hb13
      refine gk_at hK15 ?_
      refine gk_seq (by kernel_rfl) ?_
      refine gk_seq (by kernel_rfl) ?_
      obtain ⟨j22, hj23, hb13⟩ := bind_some hb13
      refine gk_join (fun t I' L' => I16 ≤ I' ∧ (g1, .cells #[.int .i64 0, .string (⟨#[]⟩ : ByteArray), .int .i64 0] 28) :: L = L' ∧ Knows 129 [(0, .string a0), (1, .int .i64 a1), (4, .pointer (some ⟨g1, 0, none⟩)), (8, .int .i64 s11), (37, .bool j22)] t) ?_ ?_
      · refine gk_region (by kernel_rfl) ?_
        refine gl_pure 5 [0, 1, 4, 8, 26] (K' := [(0, .string a0), (1, .int .i64 a1), (4, .pointer (some ⟨g1, 0, none⟩)), (8, .int .i64 s11), (26, .bool (decide (s11 < (a0.size : Int))))]) (by kernel_rfl) ?_
        refine gl_case 26 (b := (decide (s11 < (a0.size : Int)))) (by kernel_rfl) (fun hc27 => ?_) (fun hc27 => ?_)
        · have hj23 := cond_t hc27 hj23
          refine gl_pure 2 [0, 1, 4, 8, 26, 27, 28] (K' := [(0, .string a0), (1, .int .i64 a1), (4, .pointer (some ⟨g1, 0, none⟩)), (8, .int .i64 s11), (26, .bool true), (27, .string a0), (28, .int .i64 s11)]) (by kernel_rfl) ?_
          obtain ⟨c28, hx29, hj23⟩ := bind_some hj23
          refine gl_index' (T' := 9) (xs := (.tmp 27)) (xi := (.tmp 28)) (kd := .i64) hx29 (by kernel_rfl) (by kernel_rfl) (by kernel_rfl) (by kernel_rfl) (by kernel_rfl) ?_
          refine gl_callQ (by kernel_rfl) (tocsinref13_letter_walk (r := (tocsinref13_letter c28))  rfl _) ?_
          refine gl_pure 1 [0, 1, 4, 8, 26, 31] (K' := [(0, .string a0), (1, .int .i64 a1), (4, .pointer (some ⟨g1, 0, none⟩)), (8, .int .i64 s11), (26, .bool true), (31, .bool (tocsinref13_letter c28))]) (by kernel_rfl) ?_
          refine gl_case 31 (b := (tocsinref13_letter c28)) (by kernel_rfl) (fun hc30 => ?_) (fun hc30 => ?_)
          · have hj23 := cond_t hc30 hj23
            refine gl_pure 6 [0, 1, 4, 8, 37] (K' := [(0, .string a0), (1, .int .i64 a1), (4, .pointer (some ⟨g1, 0, none⟩)), (8, .int .i64 s11), (37, .bool true)]) (by kernel_rfl) ?_
            refine gl_atE (by kernel_rfl) ?_
            obtain rfl := some_inj hj23
            exact ge_mid fun t ht => ⟨(Imm.refl _), rfl, ht.pick (l := [0, 1, 4, 8, 37]) (by kernel_rfl)⟩
          · have hj23 := cond_f hc30 hj23
            refine gl_pure 2 [0, 1, 4, 8, 26, 31, 32, 33] (K' := [(0, .string a0), (1, .int .i64 a1), (4, .pointer (some ⟨g1, 0, none⟩)), (8, .int .i64 s11), (26, .bool true), (31, .bool false), (32, .string a0), (33, .int .i64 s11)]) (by kernel_rfl) ?_
            obtain ⟨c31, hx32, hj23⟩ := bind_some hj23
            refine gl_index' (T' := 9) (xs := (.tmp 32)) (xi := (.tmp 33)) (kd := .i64) hx32 (by kernel_rfl) (by kernel_rfl) (by kernel_rfl) (by kernel_rfl) (by kernel_rfl) ?_
            refine gl_callQ (by kernel_rfl) (tocsinref13_digit_walk (r := (tocsinref13_digit c31))  rfl _) ?_
            refine gl_pure 2 [0, 1, 4, 8, 37] (K' := [(0, .string a0), (1, .int .i64 a1), (4, .pointer (some ⟨g1, 0, none⟩)), (8, .int .i64 s11), (37, .bool (tocsinref13_digit c31))]) (by kernel_rfl) ?_
            refine gl_atE (by kernel_rfl) ?_
            obtain rfl := some_inj hj23
            exact ge_mid fun t ht => ⟨(Imm.refl _), rfl, ht.pick (l := [0, 1, 4, 8, 37]) (by kernel_rfl)⟩
        · have hj23 := cond_f hc27 hj23
          refine gl_pure 11 [0, 1, 4, 8, 37] (K' := [(0, .string a0), (1, .int .i64 a1), (4, .pointer (some ⟨g1, 0, none⟩)), (8, .int .i64 s11), (37, .bool false)]) (by kernel_rfl) ?_
          refine gl_atE (by kernel_rfl) ?_
          obtain rfl := some_inj hj23
          exact ge_mid fun t ht => ⟨(Imm.refl _), rfl, ht.pick (l := [0, 1, 4, 8, 37]) (by kernel_rfl)⟩
      · rintro t I26 L' ⟨hI24, rfl, hK25⟩
        refine ge_at hK25 ?_
        refine ge_seq ?_
        refine gk_cond (b := j22) (by kernel_rfl) (by kernel_rfl) (fun hc33 => ?_) (fun hc33 => ?_)
        · have hb13 := cond_t hc33 hb13
          refine gk_skip (by kernel_rfl) ?_
          refine ge_seq ?_
          refine gk_block (by kernel_rfl) ?_
          refine gk_region (by kernel_rfl) ?_
          refine gl_pure 3 [0, 1, 4, 8] (K' := [(0, .string a0), (1, .int .i64 a1), (4, .pointer (some ⟨g1, 0, none⟩)), (8, .int .i64 (IntKind.wrap .i64 (s11 + 1)))]) (by kernel_rfl) ?_
          refine gl_atE (by kernel_rfl) ?_
          refine ge_block_normal ?_
          obtain rfl := some_inj hb13
          exact ge_round fun t ht => ⟨(Imm.trans hI14 hI24), rfl, ht.pick (l := [0, 1, 4, 8]) (by kernel_rfl)⟩
        · have hb13 := cond_f hc33 hb13
          refine gk_exit (by kernel_rfl) ?_
          refine ge_seq_exit ?_
          obtain rfl := some_inj hb13
          refine ge_round_out (fun hrr => ?_) (by intro h; cases h)
          obtain rfl := hrr
          refine ge_block_hit (by kernel_rfl) ?_
          exact ge_mid fun t ht => ⟨(Imm.trans hI14 hI24), rfl, ht.pick (l := [0, 1, 4, 8]) (by kernel_rfl)⟩
    · rintro t I19 L' ⟨hI17, rfl, hK18⟩
      refine ge_at hK18 ?_
      refine ge_seq ?_
      refine gk_seq (by kernel_rfl) ?_
      refine gk_region (by kernel_rfl) ?_
      refine gl_pure 3 [1, 4, 8, 40, 41, 42] (K' := [(1, .int .i64 a1), (4, .pointer (some ⟨g1, 0, none⟩)), (8, .int .i64 r9), (40, .string a0), (41, .int .i64 a1), (42, .int .i64 r9)]) (by kernel_rfl) ?_
      obtain ⟨s35, hx34, hr⟩ := bind_some hr
      refine gl_slice' (T' := 9) (xs := (.tmp 40)) (lo := (some (.tmp 41))) (hi := (some (.tmp 42))) hx34 (by kernel_rfl) (by kernel_rfl) (by kernel_rfl) (by kernel_rfl) (by kernel_rfl) (by kernel_rfl) ?_
      refine gl_pure 3 [4, 45, 46] (K' := [(4, .pointer (some ⟨g1, 0, none⟩)), (45, .agg #[.int .i64 1, .string s35, .int .i64 a1]), (46, .int .i64 r9)]) (by kernel_rfl) ?_
      refine gl_storeB (T' := 28) (xp := (.tmp 4)) (xv := (.tmp 45)) (v := .agg #[.int .i64 1, .string s35, .int .i64 a1]) (g := g1) (off := 0) (cs := #[.int .i64 0, .string (⟨#[]⟩ : ByteArray), .int .i64 0]) (cs' := #[.int .i64 1, .string s35, .int .i64 a1]) (by kernel_rfl) (by kernel_rfl) (by kernel_rfl) (by kernel_rfl) (by kernel_rfl) (Upd.set _ _ _ _) ?_ (by kernel_rfl)
      refine gl_pure 2 [4, 5, 6] (K' := [(4, .pointer (some ⟨g1, 0, none⟩)), (5, .int .i64 r9), (6, .bool true)]) (by kernel_rfl) ?_
      refine gl_atE (by kernel_rfl) ?_
      refine ge_seq ?_
      refine gk_rest (Tk.step (Upd.rm1 _ _) (Tk.nil _)) (fun J36 hJ37 hC38 => ?_)
      have hf39 := hC38.left.blk
      refine gk_ret (by kernel_rfl) ?_
      refine ge_seq_ret ?_
      obtain rfl := some_inj hr
      exact ge_result trivial (ResOk.cell (v := .agg #[.int .i64 1, .string s35, .int .i64 a1]) (by kernel_rfl) (loadR_agg (cs := [.int .i64 1, .string s35, .int .i64 a1]) (by kernel_rfl) (RunAt.take hf39 3)) (ResOk.tmp (by kernel_rfl) (ResOk.tmp (by kernel_rfl) ResOk.nil))) (Imm.trans hI17 hJ37) ⟨rfl, rfl⟩
  · have hr := cond_f hc4 hr
    refine gk_skip (by kernel_rfl) ?_
    refine ge_seq ?_
    refine gk_seq (by kernel_rfl) ?_
    refine gk_seq (by kernel_rfl) ?_
    refine gk_join (fun t I' L' => I ≤ I' ∧ (g1, .cells #[.int .i64 0, .string (⟨#[]⟩ : ByteArray), .int .i64 0] 28) :: L = L' ∧ Knows 129 [(0, .string a0), (1, .int .i64 a1), (4, .pointer (some ⟨g1, 0, none⟩)), (7, .int .u8 c2), (52, .bool ((c2 == 34) || (c2 == 39)))] t) ?_ ?_
    · refine gk_region (by kernel_rfl) ?_
      refine gl_pure 3 [0, 1, 4, 7, 49] (K' := [(0, .string a0), (1, .int .i64 a1), (4, .pointer (some ⟨g1, 0, none⟩)), (7, .int .u8 c2), (49, .bool (c2 == 34))]) (by kernel_rfl) ?_
      refine gl_case 49 (b := (c2 == 34)) (by kernel_rfl) (fun hc43 => ?_) (fun hc43 => ?_)
      · refine gl_pure 3 [0, 1, 4, 7, 52] (K' := [(0, .string a0), (1, .int .i64 a1), (4, .pointer (some ⟨g1, 0, none⟩)), (7, .int .u8 c2), (52, .bool true)]) (by kernel_rfl) ?_
        refine gl_atE (by kernel_rfl) ?_
        exact ge_mid fun t ht => ⟨(Imm.refl _), rfl, by rw [(show ((c2 == 34) || (c2 == 39)) = true from by rw [hc43]; try rfl)]; exact ht.pick (l := [0, 1, 4, 7, 52]) (by kernel_rfl)⟩
      · refine gl_pure 3 [0, 1, 4, 7, 52] (K' := [(0, .string a0), (1, .int .i64 a1), (4, .pointer (some ⟨g1, 0, none⟩)), (7, .int .u8 c2), (52, .bool (c2 == 39))]) (by kernel_rfl) ?_
        refine gl_atE (by kernel_rfl) ?_
        exact ge_mid fun t ht => ⟨(Imm.refl _), rfl, by rw [(show ((c2 == 34) || (c2 == 39)) = (c2 == 39) from by rw [hc43]; try rfl)]; exact ht.pick (l := [0, 1, 4, 7, 52]) (by kernel_rfl)⟩
    · rintro t I42 L' ⟨hI40, rfl, hK41⟩
      refine ge_at hK41 ?_
      refine ge_seq ?_
      refine gk_cond (b := ((c2 == 34) || (c2 == 39))) (by kernel_rfl) (by kernel_rfl) (fun hc44 => ?_) (fun hc44 => ?_)
      · have hr := cond_t hc44 hr
        refine gk_seq (by kernel_rfl) ?_
        refine gk_region (by kernel_rfl) ?_
        refine gl_pure 2 [1, 4, 54, 55] (K' := [(1, .int .i64 a1), (4, .pointer (some ⟨g1, 0, none⟩)), (54, .string a0), (55, .int .i64 a1)]) (by kernel_rfl) ?_
        obtain ⟨y45, hx46, hr⟩ := bind_some hr
        refine gl_callQ (by kernel_rfl) (tocsinref13_text_walk (r := y45)  hx46 _) ?_
        refine gl_pure 7 [1, 4, 9, 10, 11] (K' := [(1, .int .i64 a1), (4, .pointer (some ⟨g1, 0, none⟩)), (9, .string y45.1), (10, .int .i64 y45.2.1), (11, .bool y45.2.2)]) (by kernel_rfl) ?_
        refine gl_atE (by kernel_rfl) ?_
        refine ge_seq ?_
        refine gk_seq (by kernel_rfl) ?_
        refine gk_region (by kernel_rfl) ?_
        refine gl_pure 5 [4, 62, 63, 64] (K' := [(4, .pointer (some ⟨g1, 0, none⟩)), (62, .agg #[.int .i64 4, .string y45.1, .int .i64 a1]), (63, .int .i64 y45.2.1), (64, .bool y45.2.2)]) (by kernel_rfl) ?_
        refine gl_storeB (T' := 28) (xp := (.tmp 4)) (xv := (.tmp 62)) (v := .agg #[.int .i64 4, .string y45.1, .int .i64 a1]) (g := g1) (off := 0) (cs := #[.int .i64 0, .string (⟨#[]⟩ : ByteArray), .int .i64 0]) (cs' := #[.int .i64 4, .string y45.1, .int .i64 a1]) (by kernel_rfl) (by kernel_rfl) (by kernel_rfl) (by kernel_rfl) (by kernel_rfl) (Upd.set _ _ _ _) ?_ (by kernel_rfl)
        refine gl_pure 2 [4, 5, 6] (K' := [(4, .pointer (some ⟨g1, 0, none⟩)), (5, .int .i64 y45.2.1), (6, .bool y45.2.2)]) (by kernel_rfl) ?_
        refine gl_atE (by kernel_rfl) ?_
        refine ge_seq ?_
        refine gk_rest (Tk.step (Upd.rm1 _ _) (Tk.nil _)) (fun J47 hJ48 hC49 => ?_)
        have hf50 := hC49.left.blk
        refine gk_ret (by kernel_rfl) ?_
        refine ge_seq_ret ?_
        obtain rfl := some_inj hr
        exact ge_result trivial (ResOk.cell (v := .agg #[.int .i64 4, .string y45.1, .int .i64 a1]) (by kernel_rfl) (loadR_agg (cs := [.int .i64 4, .string y45.1, .int .i64 a1]) (by kernel_rfl) (RunAt.take hf50 3)) (ResOk.tmp (by kernel_rfl) (ResOk.tmp (by kernel_rfl) ResOk.nil))) (Imm.trans hI40 hJ48) ⟨rfl, rfl⟩
      · have hr := cond_f hc44 hr
        refine gk_skip (by kernel_rfl) ?_
        refine ge_seq ?_
        refine gk_seq (by kernel_rfl) ?_
        refine gk_seq (by kernel_rfl) ?_
        obtain ⟨b53, hb54⟩ : ∃ z, z = ((tocsinref13_digit c2) || (c2 == 46)) := ⟨_, rfl⟩
        refine gk_join (fun t I' L' => I42 ≤ I' ∧ (g1, .cells #[.int .i64 0, .string (⟨#[]⟩ : ByteArray), .int .i64 0] 28) :: L = L' ∧ Knows 129 [(0, .string a0), (1, .int .i64 a1), (4, .pointer (some ⟨g1, 0, none⟩)), (70, .bool b53)] t) ?_ ?_
        · refine gk_region (by kernel_rfl) ?_
          refine gl_pure 1 [0, 1, 4, 7, 65] (K' := [(0, .string a0), (1, .int .i64 a1), (4, .pointer (some ⟨g1, 0, none⟩)), (7, .int .u8 c2), (65, .int .u8 c2)]) (by kernel_rfl) ?_
          refine gl_callQ (by kernel_rfl) (tocsinref13_digit_walk (r := (tocsinref13_digit c2))  rfl _) ?_
          refine gl_pure 1 [0, 1, 4, 7, 67] (K' := [(0, .string a0), (1, .int .i64 a1), (4, .pointer (some ⟨g1, 0, none⟩)), (7, .int .u8 c2), (67, .bool (tocsinref13_digit c2))]) (by kernel_rfl) ?_
          refine gl_case 67 (b := (tocsinref13_digit c2)) (by kernel_rfl) (fun hc56 => ?_) (fun hc56 => ?_)
          · refine gl_pure 3 [0, 1, 4, 70] (K' := [(0, .string a0), (1, .int .i64 a1), (4, .pointer (some ⟨g1, 0, none⟩)), (70, .bool true)]) (by kernel_rfl) ?_
            refine gl_atE (by kernel_rfl) ?_
            exact ge_mid fun t ht => ⟨(Imm.refl _), rfl, by rw [(show b53 = true from hb54.trans (by rw [hc56]; try rfl))]; exact ht.pick (l := [0, 1, 4, 70]) (by kernel_rfl)⟩
          · refine gl_pure 3 [0, 1, 4, 70] (K' := [(0, .string a0), (1, .int .i64 a1), (4, .pointer (some ⟨g1, 0, none⟩)), (70, .bool (c2 == 46))]) (by kernel_rfl) ?_
            refine gl_atE (by kernel_rfl) ?_
            exact ge_mid fun t ht => ⟨(Imm.refl _), rfl, by rw [(show b53 = (c2 == 46) from hb54.trans (by rw [hc56]; try rfl))]; exact ht.pick (l := [0, 1, 4, 70]) (by kernel_rfl)⟩
        · rintro t I55 L' ⟨hI51, rfl, hK52⟩
          subst hb54
          refine ge_at hK52 ?_
          refine ge_seq ?_
          refine gk_cond (b := ((tocsinref13_digit c2) || (c2 == 46))) (by kernel_rfl) (by kernel_rfl) (fun hc57 => ?_) (fun hc57 => ?_)
          · have hr := cond_t hc57 hr
            refine gk_seq (by kernel_rfl) ?_
            refine gk_region (by kernel_rfl) ?_
            refine gl_pure 2 [0, 1, 4, 71, 72] (K' := [(0, .string a0), (1, .int .i64 a1), (4, .pointer (some ⟨g1, 0, none⟩)), (71, .string a0), (72, .int .i64 a1)]) (by kernel_rfl) ?_
            obtain ⟨y58, hx59, hr⟩ := bind_some hr
            refine gl_callQ (by kernel_rfl) (tocsinref13_number_walk (r := y58)  hx59 _) ?_
            refine gl_pure 1 [0, 1, 4, 12] (K' := [(0, .string a0), (1, .int .i64 a1), (4, .pointer (some ⟨g1, 0, none⟩)), (12, .int .i64 y58)]) (by kernel_rfl) ?_
            refine gl_atE (by kernel_rfl) ?_
            refine ge_seq ?_
            refine gk_seq (by kernel_rfl) ?_
            refine gk_region (by kernel_rfl) ?_
            refine gl_pure 2 [0, 1, 4, 12, 74, 75] (K' := [(0, .string a0), (1, .int .i64 a1), (4, .pointer (some ⟨g1, 0, none⟩)), (12, .int .i64 y58), (74, .string a0), (75, .int .i64 a1)]) (by kernel_rfl) ?_
            obtain ⟨y60, hx61, hr⟩ := bind_some hr
            refine gl_callQ (by kernel_rfl) (tocsinref13_span_walk (r := y60)  hx61 _) ?_
            refine gl_pure 1 [0, 1, 4, 12, 13] (K' := [(0, .string a0), (1, .int .i64 a1), (4, .pointer (some ⟨g1, 0, none⟩)), (12, .int .i64 y58), (13, .int .i64 y60)]) (by kernel_rfl) ?_
            refine gl_atE (by kernel_rfl) ?_
            refine ge_seq ?_
            refine gk_seq (by kernel_rfl) ?_
            refine gk_region (by kernel_rfl) ?_
            refine gl_pure 1 [0, 1, 4, 12, 13, 14] (K' := [(0, .string a0), (1, .int .i64 a1), (4, .pointer (some ⟨g1, 0, none⟩)), (12, .int .i64 y58), (13, .int .i64 y60), (14, .int .i64 2)]) (by kernel_rfl) ?_
            refine gl_atE (by kernel_rfl) ?_
            refine ge_seq ?_
            refine gk_seq (by kernel_rfl) ?_
            refine gk_seq (by kernel_rfl) ?_
            refine gk_region (by kernel_rfl) ?_
            refine gl_pure 3 [0, 1, 4, 12, 13, 14, 79] (K' := [(0, .string a0), (1, .int .i64 a1), (4, .pointer (some ⟨g1, 0, none⟩)), (12, .int .i64 y58), (13, .int .i64 y60), (14, .int .i64 2), (79, .bool (decide (y60 > y58)))]) (by kernel_rfl) ?_
            refine gl_atE (by kernel_rfl) ?_
            refine ge_seq ?_
            obtain ⟨j62, hj63, hr⟩ := bind_some hr
            refine gk_join (fun t I' L' => I55 ≤ I' ∧ (g1, .cells #[.int .i64 0, .string (⟨#[]⟩ : ByteArray), .int .i64 0] 28) :: L = L' ∧ Knows 129 [(0, .string a0), (1, .int .i64 a1), (4, .pointer (some ⟨g1, 0, none⟩)), (12, .int .i64 j62.1), (14, .int .i64 j62.2)] t) ?_ ?_
            · refine gk_cond (b := (decide (y60 > y58))) (by kernel_rfl) (by kernel_rfl) (fun hc67 => ?_) (fun hc67 => ?_)
              · have hj63 := cond_t hc67 hj63
                refine gk_seq (by kernel_rfl) ?_
                refine gk_region (by kernel_rfl) ?_
                refine gl_pure 2 [0, 1, 4, 12] (K' := [(0, .string a0), (1, .int .i64 a1), (4, .pointer (some ⟨g1, 0, none⟩)), (12, .int .i64 y60)]) (by kernel_rfl) ?_
                refine gl_atE (by kernel_rfl) ?_
                refine ge_seq ?_
                refine gk_region (by kernel_rfl) ?_
                refine gl_pure 1 [0, 1, 4, 12, 14] (K' := [(0, .string a0), (1, .int .i64 a1), (4, .pointer (some ⟨g1, 0, none⟩)), (12, .int .i64 y60), (14, .int .i64 3)]) (by kernel_rfl) ?_
                refine gl_atE (by kernel_rfl) ?_
                obtain rfl := some_inj hj63
                exact ge_mid fun t ht => ⟨(Imm.refl _), rfl, ht.pick (l := [0, 1, 4, 12, 14]) (by kernel_rfl)⟩
              · have hj63 := cond_f hc67 hj63
                refine gk_skip (by kernel_rfl) ?_
                obtain rfl := some_inj hj63
                exact ge_mid fun t ht => ⟨(Imm.refl _), rfl, ht.pick (l := [0, 1, 4, 12, 14]) (by kernel_rfl)⟩
            · rintro t I66 L' ⟨hI64, rfl, hK65⟩
              refine ge_at hK65 ?_
              refine ge_seq ?_
              refine gk_seq (by kernel_rfl) ?_
              refine gk_seq (by kernel_rfl) ?_
              obtain ⟨j68, hj69, hr⟩ := bind_some hr
              refine gk_join (fun t I' L' => I66 ≤ I' ∧ (g1, .cells #[.int .i64 0, .string (⟨#[]⟩ : ByteArray), .int .i64 0] 28) :: L = L' ∧ Knows 129 [(0, .string a0), (1, .int .i64 a1), (4, .pointer (some ⟨g1, 0, none⟩)), (12, .int .i64 j62.1), (14, .int .i64 j62.2), (107, .bool j68)] t) ?_ ?_
              · refine gk_region (by kernel_rfl) ?_
                refine gl_pure 4 [0, 1, 4, 12, 14, 84] (K' := [(0, .string a0), (1, .int .i64 a1), (4, .pointer (some ⟨g1, 0, none⟩)), (12, .int .i64 j62.1), (14, .int .i64 j62.2), (84, .bool (j62.1 == a1))]) (by kernel_rfl) ?_
                refine gl_case 84 (b := (j62.1 == a1)) (by kernel_rfl) (fun hc73 => ?_) (fun hc73 => ?_)
                · have hj69 := cond_t hc73 hj69
                  refine gl_pure 23 [0, 1, 4, 12, 14, 107] (K' := [(0, .string a0), (1, .int .i64 a1), (4, .pointer (some ⟨g1, 0, none⟩)), (12, .int .i64 j62.1), (14, .int .i64 j62.2), (107, .bool true)]) (by kernel_rfl) ?_
                  refine gl_atE (by kernel_rfl) ?_
                  obtain rfl := some_inj hj69
                  exact ge_mid fun t ht => ⟨(Imm.refl _), rfl, ht.pick (l := [0, 1, 4, 12, 14, 107]) (by kernel_rfl)⟩
                · have hj69 := cond_f hc73 hj69
                  refine gl_pure 5 [0, 1, 4, 12, 14, 84, 89] (K' := [(0, .string a0), (1, .int .i64 a1), (4, .pointer (some ⟨g1, 0, none⟩)), (12, .int .i64 j62.1), (14, .int .i64 j62.2), (84, .bool false), (89, .bool (decide (j62.1 < (a0.size : Int))))]) (by kernel_rfl) ?_
                  refine gl_case 89 (b := (decide (j62.1 < (a0.size : Int)))) (by kernel_rfl) (fun hc74 => ?_) (fun hc74 => ?_)
                  · have hj69 := cond_t hc74 hj69
                    refine gl_pure 2 [0, 1, 4, 12, 14, 84, 89, 90, 91] (K' := [(0, .string a0), (1, .int .i64 a1), (4, .pointer (some ⟨g1, 0, none⟩)), (12, .int .i64 j62.1), (14, .int .i64 j62.2), (84, .bool false), (89, .bool true), (90, .string a0), (91, .int .i64 j62.1)]) (by kernel_rfl) ?_
                    obtain ⟨c75, hx76, hj69⟩ := bind_some hj69
                    refine gl_index' (T' := 9) (xs := (.tmp 90)) (xi := (.tmp 91)) (kd := .i64) hx76 (by kernel_rfl) (by kernel_rfl) (by kernel_rfl) (by kernel_rfl) (by kernel_rfl) ?_
                    refine gl_callQ (by kernel_rfl) (tocsinref13_letter_walk (r := (tocsinref13_letter c75))  rfl _) ?_
                    refine gl_pure 1 [0, 1, 4, 12, 14, 84, 89, 94] (K' := [(0, .string a0), (1, .int .i64 a1), (4, .pointer (some ⟨g1, 0, none⟩)), (12, .int .i64 j62.1), (14, .int .i64 j62.2), (84, .bool false), (89, .bool true), (94, .bool (tocsinref13_letter c75))]) (by kernel_rfl) ?_
                    refine gl_case 94 (b := (tocsinref13_letter c75)) (by kernel_rfl) (fun hc77 => ?_) (fun hc77 => ?_)
                    · have hj69 := cond_t hc77 hj69
                      refine gl_pure 13 [0, 1, 4, 12, 14, 107] (K' := [(0, .string a0), (1, .int .i64 a1), (4, .pointer (some ⟨g1, 0, none⟩)), (12, .int .i64 j62.1), (14, .int .i64 j62.2), (107, .bool true)]) (by kernel_rfl) ?_
                      refine gl_atE (by kernel_rfl) ?_
                      obtain rfl := some_inj hj69
                      exact ge_mid fun t ht => ⟨(Imm.refl _), rfl, ht.pick (l := [0, 1, 4, 12, 14, 107]) (by kernel_rfl)⟩
                    · have hj69 := cond_f hc77 hj69
                      refine gl_pure 2 [0, 1, 4, 12, 14, 84, 89, 94, 95, 96] (K' := [(0, .string a0), (1, .int .i64 a1), (4, .pointer (some ⟨g1, 0, none⟩)), (12, .int .i64 j62.1), (14, .int .i64 j62.2), (84, .bool false), (89, .bool true), (94, .bool false), (95, .string a0), (96, .int .i64 j62.1)]) (by kernel_rfl) ?_
                      obtain ⟨c78, hx79, hj69⟩ := bind_some hj69
                      refine gl_index' (T' := 9) (xs := (.tmp 95)) (xi := (.tmp 96)) (kd := .i64) hx79 (by kernel_rfl) (by kernel_rfl) (by kernel_rfl) (by kernel_rfl) (by kernel_rfl) ?_
                      refine gl_callQ (by kernel_rfl) (tocsinref13_digit_walk (r := (tocsinref13_digit c78))  rfl _) ?_
                      refine gl_pure 2 [0, 1, 4, 12, 14, 84, 89, 100] (K' := [(0, .string a0), (1, .int .i64 a1), (4, .pointer (some ⟨g1, 0, none⟩)), (12, .int .i64 j62.1), (14, .int .i64 j62.2), (84, .bool false), (89, .bool true), (100, .bool (tocsinref13_digit c78))]) (by kernel_rfl) ?_
                      refine gl_case 100 (b := (tocsinref13_digit c78)) (by kernel_rfl) (fun hc80 => ?_) (fun hc80 => ?_)
                      · have hj69 := cond_t hc80 hj69
                        refine gl_pure 7 [0, 1, 4, 12, 14, 107] (K' := [(0, .string a0), (1, .int .i64 a1), (4, .pointer (some ⟨g1, 0, none⟩)), (12, .int .i64 j62.1), (14, .int .i64 j62.2), (107, .bool true)]) (by kernel_rfl) ?_
                        refine gl_atE (by kernel_rfl) ?_
                        obtain rfl := some_inj hj69
                        exact ge_mid fun t ht => ⟨(Imm.refl _), rfl, ht.pick (l := [0, 1, 4, 12, 14, 107]) (by kernel_rfl)⟩
                      · have hj69 := cond_f hc80 hj69
                        refine gl_pure 2 [0, 1, 4, 12, 14, 84, 89, 100, 101, 102] (K' := [(0, .string a0), (1, .int .i64 a1), (4, .pointer (some ⟨g1, 0, none⟩)), (12, .int .i64 j62.1), (14, .int .i64 j62.2), (84, .bool false), (89, .bool true), (100, .bool false), (101, .string a0), (102, .int .i64 j62.1)]) (by kernel_rfl) ?_
                        obtain ⟨c81, hx82, hj69⟩ := bind_some hj69
                        refine gl_index' (T' := 9) (xs := (.tmp 101)) (xi := (.tmp 102)) (kd := .i64) hx82 (by kernel_rfl) (by kernel_rfl) (by kernel_rfl) (by kernel_rfl) (by kernel_rfl) ?_
                        refine gl_pure 4 [0, 1, 4, 12, 14, 107] (K' := [(0, .string a0), (1, .int .i64 a1), (4, .pointer (some ⟨g1, 0, none⟩)), (12, .int .i64 j62.1), (14, .int .i64 j62.2), (107, .bool (c81 == 46))]) (by kernel_rfl) ?_
                        refine gl_atE (by kernel_rfl) ?_
                        obtain rfl := some_inj hj69
                        exact ge_mid fun t ht => ⟨(Imm.refl _), rfl, ht.pick (l := [0, 1, 4, 12, 14, 107]) (by kernel_rfl)⟩
                  · have hj69 := cond_f hc74 hj69
                    refine gl_pure 18 [0, 1, 4, 12, 14, 107] (K' := [(0, .string a0), (1, .int .i64 a1), (4, .pointer (some ⟨g1, 0, none⟩)), (12, .int .i64 j62.1), (14, .int .i64 j62.2), (107, .bool false)]) (by kernel_rfl) ?_
                    refine gl_atE (by kernel_rfl) ?_
                    obtain rfl := some_inj hj69
                    exact ge_mid fun t ht => ⟨(Imm.refl _), rfl, ht.pick (l := [0, 1, 4, 12, 14, 107]) (by kernel_rfl)⟩
              · rintro t I72 L' ⟨hI70, rfl, hK71⟩
                refine ge_at hK71 ?_
                refine ge_seq ?_
                refine gk_cond (b := j68) (by kernel_rfl) (by kernel_rfl) (fun hc83 => ?_) (fun hc83 => ?_)
                · have hr := cond_t hc83 hr
                  refine gk_seq (by kernel_rfl) ?_
                  refine gk_region (by kernel_rfl) ?_
                  refine gl_pure 1 [4, 108] (K' := [(4, .pointer (some ⟨g1, 0, none⟩)), (108, .agg #[.int .i64 0, .string (⟨#[]⟩ : ByteArray), .int .i64 0])]) (by kernel_rfl) ?_
                  refine gl_storeB (T' := 28) (xp := (.tmp 4)) (xv := (.tmp 108)) (v := .agg #[.int .i64 0, .string (⟨#[]⟩ : ByteArray), .int .i64 0]) (g := g1) (off := 0) (cs := #[.int .i64 0, .string (⟨#[]⟩ : ByteArray), .int .i64 0]) (cs' := #[.int .i64 0, .string (⟨#[]⟩ : ByteArray), .int .i64 0]) (by kernel_rfl) (by kernel_rfl) (by kernel_rfl) (by kernel_rfl) (by kernel_rfl) (Upd.set _ _ _ _) ?_ (by kernel_rfl)
                  refine gl_pure 2 [4, 5, 6] (K' := [(4, .pointer (some ⟨g1, 0, none⟩)), (5, .int .i64 0), (6, .bool false)]) (by kernel_rfl) ?_
                  refine gl_atE (by kernel_rfl) ?_
                  refine ge_seq ?_
                  refine gk_rest (Tk.step (Upd.rm1 _ _) (Tk.nil _)) (fun J84 hJ85 hC86 => ?_)
                  have hf87 := hC86.left.blk
                  refine gk_ret (by kernel_rfl) ?_
                  refine ge_seq_ret ?_
                  refine ge_seq_ret ?_
                  obtain rfl := some_inj hr
                  exact ge_result trivial (ResOk.cell (v := .agg #[.int .i64 0, .string (⟨#[]⟩ : ByteArray), .int .i64 0]) (by kernel_rfl) (loadR_agg (cs := [.int .i64 0, .string (⟨#[]⟩ : ByteArray), .int .i64 0]) (by kernel_rfl) (RunAt.take hf87 3)) (ResOk.tmp (by kernel_rfl) (ResOk.tmp (by kernel_rfl) ResOk.nil))) (Imm.trans (Imm.trans (Imm.trans (Imm.trans hI40 hI51) hI64) hI70) hJ85) ⟨rfl, rfl⟩
                · have hr := cond_f hc83 hr
                  refine gk_skip (by kernel_rfl) ?_
                  refine ge_seq ?_
                  refine gk_seq (by kernel_rfl) ?_
                  refine gk_region (by kernel_rfl) ?_
                  refine gl_pure 4 [1, 4, 12, 109, 110, 111, 112] (K' := [(1, .int .i64 a1), (4, .pointer (some ⟨g1, 0, none⟩)), (12, .int .i64 j62.1), (109, .int .i64 j62.2), (110, .string a0), (111, .int .i64 a1), (112, .int .i64 j62.1)]) (by kernel_rfl) ?_
                  obtain ⟨s89, hx88, hr⟩ := bind_some hr
                  refine gl_slice' (T' := 9) (xs := (.tmp 110)) (lo := (some (.tmp 111))) (hi := (some (.tmp 112))) hx88 (by kernel_rfl) (by kernel_rfl) (by kernel_rfl) (by kernel_rfl) (by kernel_rfl) (by kernel_rfl) ?_
                  refine gl_pure 3 [4, 115, 116] (K' := [(4, .pointer (some ⟨g1, 0, none⟩)), (115, .agg #[.int .i64 j62.2, .string s89, .int .i64 a1]), (116, .int .i64 j62.1)]) (by kernel_rfl) ?_
                  refine gl_storeB (T' := 28) (xp := (.tmp 4)) (xv := (.tmp 115)) (v := .agg #[.int .i64 j62.2, .string s89, .int .i64 a1]) (g := g1) (off := 0) (cs := #[.int .i64 0, .string (⟨#[]⟩ : ByteArray), .int .i64 0]) (cs' := #[.int .i64 j62.2, .string s89, .int .i64 a1]) (by kernel_rfl) (by kernel_rfl) (by kernel_rfl) (by kernel_rfl) (by kernel_rfl) (Upd.set _ _ _ _) ?_ (by kernel_rfl)
                  refine gl_pure 2 [4, 5, 6] (K' := [(4, .pointer (some ⟨g1, 0, none⟩)), (5, .int .i64 j62.1), (6, .bool true)]) (by kernel_rfl) ?_
                  refine gl_atE (by kernel_rfl) ?_
                  refine ge_seq ?_
                  refine gk_rest (Tk.step (Upd.rm1 _ _) (Tk.nil _)) (fun J90 hJ91 hC92 => ?_)
                  have hf93 := hC92.left.blk
                  refine gk_ret (by kernel_rfl) ?_
                  refine ge_seq_ret ?_
                  obtain rfl := some_inj hr
                  exact ge_result trivial (ResOk.cell (v := .agg #[.int .i64 j62.2, .string s89, .int .i64 a1]) (by kernel_rfl) (loadR_agg (cs := [.int .i64 j62.2, .string s89, .int .i64 a1]) (by kernel_rfl) (RunAt.take hf93 3)) (ResOk.tmp (by kernel_rfl) (ResOk.tmp (by kernel_rfl) ResOk.nil))) (Imm.trans (Imm.trans (Imm.trans (Imm.trans hI40 hI51) hI64) hI70) hJ91) ⟨rfl, rfl⟩
          · have hr := cond_f hc57 hr
            refine gk_skip (by kernel_rfl) ?_
            refine ge_seq ?_
            refine gk_seq (by kernel_rfl) ?_
            refine gk_region (by kernel_rfl) ?_
            refine gl_pure 2 [1, 4, 117, 118] (K' := [(1, .int .i64 a1), (4, .pointer (some ⟨g1, 0, none⟩)), (117, .string a0), (118, .int .i64 a1)]) (by kernel_rfl) ?_
            obtain ⟨y94, hx95, hr⟩ := bind_some hr
            refine gl_callQ (by kernel_rfl) (tocsinref13_sign_walk (r := y94)  hx95 _) ?_
            refine gl_pure 1 [1, 4, 15] (K' := [(1, .int .i64 a1), (4, .pointer (some ⟨g1, 0, none⟩)), (15, .string y94)]) (by kernel_rfl) ?_
            refine gl_atE (by kernel_rfl) ?_
            refine ge_seq ?_
            refine gk_seq (by kernel_rfl) ?_
            refine gk_region (by kernel_rfl) ?_
            refine gl_pure 9 [4, 122, 126, 128] (K' := [(4, .pointer (some ⟨g1, 0, none⟩)), (122, .agg #[.int .i64 5, .string y94, .int .i64 a1]), (126, .int .i64 (IntKind.wrap .i64 (a1 + (y94.size : Int)))), (128, .bool (!(y94.toList == (⟨#[]⟩ : ByteArray).toList)))]) (by kernel_rfl) ?_
            refine gl_storeB (T' := 28) (xp := (.tmp 4)) (xv := (.tmp 122)) (v := .agg #[.int .i64 5, .string y94, .int .i64 a1]) (g := g1) (off := 0) (cs := #[.int .i64 0, .string (⟨#[]⟩ : ByteArray), .int .i64 0]) (cs' := #[.int .i64 5, .string y94, .int .i64 a1]) (by kernel_rfl) (by kernel_rfl) (by kernel_rfl) (by kernel_rfl) (by kernel_rfl) (Upd.set _ _ _ _) ?_ (by kernel_rfl)
            refine gl_pure 2 [4, 5, 6] (K' := [(4, .pointer (some ⟨g1, 0, none⟩)), (5, .int .i64 (IntKind.wrap .i64 (a1 + (y94.size : Int)))), (6, .bool (!(y94.toList == (⟨#[]⟩ : ByteArray).toList)))]) (by kernel_rfl) ?_
            refine gl_atE (by kernel_rfl) ?_
            refine ge_seq ?_
            refine gk_rest (Tk.step (Upd.rm1 _ _) (Tk.nil _)) (fun J96 hJ97 hC98 => ?_)
            have hf99 := hC98.left.blk
            refine gk_ret (by kernel_rfl) ?_
            obtain rfl := some_inj hr
            exact ge_result trivial (ResOk.cell (v := .agg #[.int .i64 5, .string y94, .int .i64 a1]) (by kernel_rfl) (loadR_agg (cs := [.int .i64 5, .string y94, .int .i64 a1]) (by kernel_rfl) (RunAt.take hf99 3)) (ResOk.tmp (by kernel_rfl) (ResOk.tmp (by kernel_rfl) ResOk.nil))) (Imm.trans (Imm.trans hI40 hI51) hJ97) ⟨rfl, rfl⟩
/-! 9 tocsinref13_Tokens  -/
noncomputable def tocsinref13_Tokens_l64 (a0 : ByteArray) : Int → Option ((Int) ⊕ (Int)) := fun s55 =>
  Option.bind (bif (decide (s55 < (a0.size : Int))) then
    (Option.bind (bx a0 s55) fun (c72 : Int) =>
      some (c72 != 10))
    else
    (some false)) fun (j66 : Bool) =>
  bif j66 then
  (some (Sum.inl (IntKind.wrap .i64 (s55 + 1))))
  else
  (some (Sum.inr s55))
noncomputable def tocsinref13_Tokens_l30 (a0 : ByteArray) : ((List S27) × Int) → Option (((List S27) × Int) ⊕ (((List S27)) ⊕ ((List S27) × Int × Int))) := fun s12 =>
  bif (decide (s12.2 < (a0.size : Int))) then
  (Option.bind ((Option.bind (bx a0 s12.2) fun (c43 : Int) =>
      bif (tocsinref13_blank c43) then
      (some (Sum.inl (s12.1, (IntKind.wrap .i64 (s12.2 + 1)))))
      else
      (Option.bind (bx a0 s12.2) fun (c46 : Int) =>
        bif (c46 == 35) then
        (Option.bind (loopO (tocsinref13_Tokens_l64 a0) s12.2) fun (r53 : Int) =>
          some (Sum.inl (s12.1, r53)))
        else
        (Option.bind (tocsinref13_one a0 s12.2) fun (y75 : S27 × Int × Bool) =>
          bif (!y75.2.2) then
          (some (Sum.inr (Sum.inr (Sum.inr ([], 130, s12.2)))))
          else
          (Option.bind (app s12.1 [y75.1]) fun (zs83 : List S27) =>
            some (Sum.inl (zs83, y75.2.1))))) : Option (((List S27) × Int) ⊕ (((List S27) × Int) ⊕ (((List S27)) ⊕ ((List S27) × Int × Int)))))) fun (j33 : ((List S27) × Int) ⊕ (((List S27) × Int) ⊕ (((List S27)) ⊕ ((List S27) × Int × Int)))) =>
    match j33 with
    | Sum.inl j35 => some (Sum.inl (j35.1, j35.2))
    | Sum.inr v89 => some v89)
  else
  (some (Sum.inr (Sum.inl s12.1)))
noncomputable def tocsinref13_Tokens (a0 : ByteArray) : Option ((List S27) × Int × Int) :=
  bif (decide ((a0.size : Int) > 65536)) then
  (some ([], 4, 0))
  else
  (Option.bind (loopO (tocsinref13_Tokens_l30 a0) ([], 0)) fun (r10 : ((List S27)) ⊕ ((List S27) × Int × Int)) =>
    match r10 with
    | Sum.inl r22 => Option.bind (app r22 [(⟨0, (⟨#[]⟩ : ByteArray), (a0.size : Int)⟩ : S27)]) fun (zs94 : List S27) =>
      bif (decide ((zs94.length : Int) > 4096)) then
      (some ([], 7, 0))
      else
      (some (zs94, 0, 0))
    | Sum.inr v101 => some v101)
theorem tocsinref13_Tokens_walk {a0 : ByteArray} {I : Imm} {r : (List S27) × Int × Int}  (hr : tocsinref13_Tokens a0 = some r) (L : Own) :
    CallsTo Tryd.prog 9 #[.string a0] I L (fun v I' L' => ∃ A0 c0 C0, OwnS kS27 28 I' A0 c0 r.1 C0 ∧ v = .tuple #[.slice A0 r.1.length c0, .int .i64 r.2.1, .int .i64 r.2.2] ∧ C0 ++ L = L') := by
  unfold tocsinref13_Tokens at hr
  refine callsTo_body (N := 64) Tryd.func9 (by kernel_rfl) (by kernel_rfl) (by kernel_rfl) ?_
  refine gk_pick [0] (K' := [(0, .string a0)]) (by kernel_rfl) ?_
  refine gk_seq (by kernel_rfl) ?_
  refine gk_region (by kernel_rfl) ?_
  refine gl_pure 3 [0] (K' := [(0, .string a0)]) (by kernel_rfl) ?_
  refine gl_atE (by kernel_rfl) ?_
  refine ge_seq ?_
  refine gk_seq (by kernel_rfl) ?_
  refine gk_seq (by kernel_rfl) ?_
  refine gk_region (by kernel_rfl) ?_
  refine gl_pure 3 [0, 12] (K' := [(0, .string a0), (12, .bool (decide ((a0.size : Int) > 65536)))]) (by kernel_rfl) ?_
  refine gl_atE (by kernel_rfl) ?_
  refine ge_seq ?_
  refine gk_cond (b := (decide ((a0.size : Int) > 65536))) (by kernel_rfl) (by kernel_rfl) (fun hc1 => ?_) (fun hc1 => ?_)
  · have hr := cond_t hc1 hr
    refine gk_seq (by kernel_rfl) ?_
    refine gk_region (by kernel_rfl) ?_
    refine gl_pure 3 [2, 3, 4] (K' := [(2, .slice none 0 0), (3, .int .i64 4), (4, .int .i64 0)]) (by kernel_rfl) ?_
    refine gl_atE (by kernel_rfl) ?_
    refine ge_seq ?_
    refine gk_ret (by kernel_rfl) ?_
    refine ge_seq_ret ?_
    obtain rfl := some_inj hr
    exact ge_result trivial (ResOk.tmp (by kernel_rfl) (ResOk.tmp (by kernel_rfl) (ResOk.tmp (by kernel_rfl) ResOk.nil))) (Imm.refl _) ⟨none, 0, [], OwnS.nil _ _ _ _, rfl, rfl⟩
  · have hr := cond_f hc1 hr
    refine gk_skip (by kernel_rfl) ?_
    refine ge_seq ?_
    refine gk_seq (by kernel_rfl) ?_
    refine gk_region (by kernel_rfl) ?_
    refine gl_pure 1 [0, 5] (K' := [(0, .string a0), (5, .slice none 0 0)]) (by kernel_rfl) ?_
    refine gl_atE (by kernel_rfl) ?_
    refine ge_seq ?_
    refine gk_seq (by kernel_rfl) ?_
    refine gk_region (by kernel_rfl) ?_
    refine gl_pure 1 [0, 5, 6] (K' := [(0, .string a0), (5, .slice none 0 0), (6, .int .i64 0)]) (by kernel_rfl) ?_
    refine gl_atE (by kernel_rfl) ?_
    refine ge_seq ?_
    refine gk_seq (by kernel_rfl) ?_
    obtain ⟨r10, hl11, hr⟩ := bind_some hr
    refine gk_join (fun t I' L' => ∃ r22, r10 = Sum.inl r22 ∧ ∃ A24 n25 C26, OwnS kS27 28 I' A24 n25 r22 C26 ∧ I ≤ I' ∧ C26 ++ L = L' ∧ Knows 64 [(0, .string a0), (5, .slice A24 r22.length n25)] t) ?_ ?_
    · refine gk_block (by kernel_rfl) ?_
      refine gk_pick [0, 5, 6] (K' := [(0, .string a0), (5, .slice none 0 0), (6, .int .i64 0)]) (by kernel_rfl) ?_
      intro t hK
      refine gc_loop (tocsinref13_Tokens_l30 a0) (fun s12 t I' L' => ∃ A16 n17 C18, OwnS kS27 28 I' A16 n17 s12.1 C18 ∧ I ≤ I' ∧ C18 ++ L = L' ∧ Knows 64 [(0, .string a0), (5, .slice A16 s12.1.length n17), (6, .int .i64 s12.2)] t) (by kernel_rfl) ?_ hl11 ⟨none, 0, [], OwnS.nil _ _ _ _, (Imm.refl _), rfl, hK⟩
      rintro s12 o13 t I21 L' hb14 ⟨A16, n17, C18, hO19, hI15, rfl, hK20⟩
      unfold tocsinref13_Tokens_l30 at hb14
      refine gk_at hK20 ?_
      refine gk_seq (by kernel_rfl) ?_
      refine gk_seq (by kernel_rfl) ?_
      refine gk_region (by kernel_rfl) ?_
      refine gl_pure 4 [0, 5, 6, 16] (K' := [(0, .string a0), (5, .slice A16 s12.1.length n17), (6, .int .i64 s12.2), (16, .bool (decide (s12.2 < (a0.size : Int))))]) (by kernel_rfl) ?_
      refine gl_atE (by kernel_rfl) ?_
      refine ge_seq ?_
      refine gk_cond (b := (decide (s12.2 < (a0.size : Int)))) (by kernel_rfl) (by kernel_rfl) (fun hc32 => ?_) (fun hc32 => ?_)
      · have hb14 := cond_t hc32 hb14
        refine gk_skip (by kernel_rfl) ?_
        refine ge_seq ?_
        obtain ⟨j33, hj34, hb14⟩ := bind_some hb14
        refine gk_join (fun t I' L' => ∃ j35, j33 = Sum.inl j35 ∧ ∃ A37 n38 C39, OwnS kS27 28 I' A37 n38 j35.1 C39 ∧ I21 ≤ I' ∧ C39 ++ L = L' ∧ Knows 64 [(0, .string a0), (5, .slice A37 j35.1.length n38), (6, .int .i64 j35.2)] t) ?_ ?_
        · refine gk_block (by kernel_rfl) ?_
          refine gk_seq (by kernel_rfl) ?_
          refine gk_seq (by kernel_rfl) ?_
          refine gk_region (by kernel_rfl) ?_
          refine gl_pure 2 [0, 5, 6, 17, 18] (K' := [(0, .string a0), (5, .slice A16 s12.1.length n17), (6, .int .i64 s12.2), (17, .string a0), (18, .int .i64 s12.2)]) (by kernel_rfl) ?_
          obtain ⟨c43, hx44, hj34⟩ := bind_some hj34
          refine gl_index' (T' := 9) (xs := (.tmp 17)) (xi := (.tmp 18)) (kd := .i64) hx44 (by kernel_rfl) (by kernel_rfl) (by kernel_rfl) (by kernel_rfl) (by kernel_rfl) ?_
          refine gl_callQ (by kernel_rfl) (tocsinref13_blank_walk (r := (tocsinref13_blank c43))  rfl _) ?_
          refine gl_atE (by kernel_rfl) ?_
          refine ge_seq ?_
          refine gk_cond (b := (tocsinref13_blank c43)) (by kernel_rfl) (by kernel_rfl) (fun hc45 => ?_) (fun hc45 => ?_)
          · have hj34 := cond_t hc45 hj34
            refine gk_seq (by kernel_rfl) ?_
            refine gk_region (by kernel_rfl) ?_
            refine gl_pure 3 [0, 5, 6] (K' := [(0, .string a0), (5, .slice A16 s12.1.length n17), (6, .int .i64 (IntKind.wrap .i64 (s12.2 + 1)))]) (by kernel_rfl) ?_
            refine gl_atE (by kernel_rfl) ?_
            refine ge_seq ?_
            refine gk_exit (by kernel_rfl) ?_
            refine ge_seq_exit ?_
            refine ge_block_hit (by kernel_rfl) ?_
            obtain rfl := some_inj hj34
            exact ge_mid fun t ht => ⟨_, rfl, A16, n17, C18, hO19, (Imm.refl _), rfl, ht.pick (l := [0, 5, 6]) (by kernel_rfl)⟩
          · have hj34 := cond_f hc45 hj34
            refine gk_skip (by kernel_rfl) ?_
            refine ge_seq ?_
            refine gk_seq (by kernel_rfl) ?_
            refine gk_seq (by kernel_rfl) ?_
            refine gk_region (by kernel_rfl) ?_
            refine gl_pure 2 [0, 5, 6, 23, 24] (K' := [(0, .string a0), (5, .slice A16 s12.1.length n17), (6, .int .i64 s12.2), (23, .string a0), (24, .int .i64 s12.2)]) (by kernel_rfl) ?_
            obtain ⟨c46, hx47, hj34⟩ := bind_some hj34
            refine gl_index' (T' := 9) (xs := (.tmp 23)) (xi := (.tmp 24)) (kd := .i64) hx47 (by kernel_rfl) (by kernel_rfl) (by kernel_rfl) (by kernel_rfl) (by kernel_rfl) ?_
            refine gl_pure 1 [0, 5, 6, 26] (K' := [(0, .string a0), (5, .slice A16 s12.1.length n17), (6, .int .i64 s12.2), (26, .bool (c46 == 35))]) (by kernel_rfl) ?_
            refine gl_atE (by kernel_rfl) ?_
            refine ge_seq ?_
            refine gk_cond (b := (c46 == 35)) (by kernel_rfl) (by kernel_rfl) (fun hc48 => ?_) (fun hc48 => ?_)
            · have hj34 := cond_t hc48 hj34
              refine gk_seq (by kernel_rfl) ?_
              obtain ⟨r53, hl54, hj34⟩ := bind_some hj34
              refine gk_join (fun t I' L' => I21 ≤ I' ∧ C18 ++ L = L' ∧ Knows 64 [(0, .string a0), (5, .slice A16 s12.1.length n17), (6, .int .i64 r53)] t) ?_ ?_
              · refine gk_block (by kernel_rfl) ?_
                refine gk_pick [0, 5, 6] (K' := [(0, .string a0), (5, .slice A16 s12.1.length n17), (6, .int .i64 s12.2)]) (by kernel_rfl) ?_
                intro t hK
                refine gc_loop (tocsinref13_Tokens_l64 a0) (fun s55 t I' L' => I21 ≤ I' ∧ C18 ++ L = L' ∧ Knows 64 [(0, .string a0), (5, .slice A16 s12.1.length n17), (6, .int .i64 s55)] t) (by kernel_rfl) ?_ hl54 ⟨(Imm.refl _), rfl, hK⟩
                rintro s55 o56 t I60 L' hb57 ⟨hI58, rfl, hK59⟩
                unfold tocsinref13_Tokens_l64 at hb57
                refine gk_at hK59 ?_
                refine gk_seq (by kernel_rfl) ?_
                refine gk_seq (by kernel_rfl) ?_
                obtain ⟨j66, hj67, hb57⟩ := bind_some hb57
                refine gk_join (fun t I' L' => I60 ≤ I' ∧ C18 ++ L = L' ∧ Knows 64 [(0, .string a0), (5, .slice A16 s12.1.length n17), (6, .int .i64 s55), (36, .bool j66)] t) ?_ ?_
                · refine gk_region (by kernel_rfl) ?_
                  refine gl_pure 5 [0, 5, 6, 31] (K' := [(0, .string a0), (5, .slice A16 s12.1.length n17), (6, .int .i64 s55), (31, .bool (decide (s55 < (a0.size : Int))))]) (by kernel_rfl) ?_
                  refine gl_case 31 (b := (decide (s55 < (a0.size : Int)))) (by kernel_rfl) (fun hc71 => ?_) (fun hc71 => ?_)
                  · have hj67 := cond_t hc71 hj67
                    refine gl_pure 2 [0, 5, 6, 31, 32, 33] (K' := [(0, .string a0), (5, .slice A16 s12.1.length n17), (6, .int .i64 s55), (31, .bool true), (32, .string a0), (33, .int .i64 s55)]) (by kernel_rfl) ?_
                    obtain ⟨c72, hx73, hj67⟩ := bind_some hj67
                    refine gl_index' (T' := 9) (xs := (.tmp 32)) (xi := (.tmp 33)) (kd := .i64) hx73 (by kernel_rfl) (by kernel_rfl) (by kernel_rfl) (by kernel_rfl) (by kernel_rfl) ?_
                    refine gl_pure 2 [0, 5, 6, 36] (K' := [(0, .string a0), (5, .slice A16 s12.1.length n17), (6, .int .i64 s55), (36, .bool (c72 != 10))]) (by kernel_rfl) ?_
                    refine gl_atE (by kernel_rfl) ?_
                    obtain rfl := some_inj hj67
                    exact ge_mid fun t ht => ⟨(Imm.refl _), rfl, ht.pick (l := [0, 5, 6, 36]) (by kernel_rfl)⟩
                  · have hj67 := cond_f hc71 hj67
                    refine gl_pure 5 [0, 5, 6, 36] (K' := [(0, .string a0), (5, .slice A16 s12.1.length n17), (6, .int .i64 s55), (36, .bool false)]) (by kernel_rfl) ?_
                    refine gl_atE (by kernel_rfl) ?_
                    obtain rfl := some_inj hj67
                    exact ge_mid fun t ht => ⟨(Imm.refl _), rfl, ht.pick (l := [0, 5, 6, 36]) (by kernel_rfl)⟩
                · rintro t I70 L' ⟨hI68, rfl, hK69⟩
                  refine ge_at hK69 ?_
                  refine ge_seq ?_
                  refine gk_cond (b := j66) (by kernel_rfl) (by kernel_rfl) (fun hc74 => ?_) (fun hc74 => ?_)
                  · have hb57 := cond_t hc74 hb57
                    refine gk_skip (by kernel_rfl) ?_
                    refine ge_seq ?_
                    refine gk_block (by kernel_rfl) ?_
                    refine gk_region (by kernel_rfl) ?_
                    refine gl_pure 3 [0, 5, 6] (K' := [(0, .string a0), (5, .slice A16 s12.1.length n17), (6, .int .i64 (IntKind.wrap .i64 (s55 + 1)))]) (by kernel_rfl) ?_
                    refine gl_atE (by kernel_rfl) ?_
                    refine ge_block_normal ?_
                    obtain rfl := some_inj hb57
                    exact ge_round fun t ht => ⟨(Imm.trans hI58 hI68), rfl, ht.pick (l := [0, 5, 6]) (by kernel_rfl)⟩
                  · have hb57 := cond_f hc74 hb57
                    refine gk_exit (by kernel_rfl) ?_
                    refine ge_seq_exit ?_
                    obtain rfl := some_inj hb57
                    refine ge_round_out (fun hrr => ?_) (by intro h; cases h)
                    obtain rfl := hrr
                    refine ge_block_hit (by kernel_rfl) ?_
                    exact ge_mid fun t ht => ⟨(Imm.trans hI58 hI68), rfl, ht.pick (l := [0, 5, 6]) (by kernel_rfl)⟩
              · rintro t I63 L' ⟨hI61, rfl, hK62⟩
                refine ge_at hK62 ?_
                refine ge_seq ?_
                refine gk_exit (by kernel_rfl) ?_
                refine ge_seq_exit ?_
                refine ge_block_hit (by kernel_rfl) ?_
                obtain rfl := some_inj hj34
                exact ge_mid fun t ht => ⟨_, rfl, A16, n17, C18, (hO19.mono hI61), hI61, rfl, ht.pick (l := [0, 5, 6]) (by kernel_rfl)⟩
            · have hj34 := cond_f hc48 hj34
              refine gk_skip (by kernel_rfl) ?_
              refine ge_seq ?_
              refine gk_seq (by kernel_rfl) ?_
              refine gk_region (by kernel_rfl) ?_
              refine gl_pure 2 [0, 5, 6, 40, 41] (K' := [(0, .string a0), (5, .slice A16 s12.1.length n17), (6, .int .i64 s12.2), (40, .string a0), (41, .int .i64 s12.2)]) (by kernel_rfl) ?_
              obtain ⟨y75, hx76, hj34⟩ := bind_some hj34
              refine gl_callQ (by kernel_rfl) (tocsinref13_one_walk (r := y75)  hx76 _) ?_
              refine gl_pure 4 [0, 5, 6, 43, 44, 45] (K' := [(0, .string a0), (5, .slice A16 s12.1.length n17), (6, .int .i64 s12.2), (43, .agg #[.int .i64 y75.1.f0, .string y75.1.f1, .int .i64 y75.1.f2]), (44, .int .i64 y75.2.1), (45, .bool y75.2.2)]) (by kernel_rfl) ?_
              refine gl_alloc (T' := 28) (cs := #[.int .i64 0, .string (⟨#[]⟩ : ByteArray), .int .i64 0]) (by kernel_rfl) (by kernel_rfl) (by kernel_rfl) (fun g77 => ?_)
              refine gl_storeB (T' := 28) (xp := (.tmp 7)) (xv := (.tmp 43)) (v := .agg #[.int .i64 y75.1.f0, .string y75.1.f1, .int .i64 y75.1.f2]) (g := g77) (off := 0) (cs := #[.int .i64 0, .string (⟨#[]⟩ : ByteArray), .int .i64 0]) (cs' := #[.int .i64 y75.1.f0, .string y75.1.f1, .int .i64 y75.1.f2]) (by kernel_rfl) (by kernel_rfl) (by kernel_rfl) (by kernel_rfl) (by kernel_rfl) (Upd.set _ _ _ _) ?_ (by kernel_rfl)
              refine gl_pure 2 [0, 5, 6, 7, 8, 9] (K' := [(0, .string a0), (5, .slice A16 s12.1.length n17), (6, .int .i64 s12.2), (7, .pointer (some ⟨g77, 0, none⟩)), (8, .int .i64 y75.2.1), (9, .bool y75.2.2)]) (by kernel_rfl) ?_
              refine gl_atE (by kernel_rfl) ?_
              refine ge_seq ?_
              refine gk_seq (by kernel_rfl) ?_
              refine gk_seq (by kernel_rfl) ?_
              refine gk_region (by kernel_rfl) ?_
              refine gl_pure 2 [0, 5, 6, 7, 8, 47] (K' := [(0, .string a0), (5, .slice A16 s12.1.length n17), (6, .int .i64 s12.2), (7, .pointer (some ⟨g77, 0, none⟩)), (8, .int .i64 y75.2.1), (47, .bool (!y75.2.2))]) (by kernel_rfl) ?_
              refine gl_atE (by kernel_rfl) ?_
              refine ge_seq ?_
              refine gk_cond (b := (!y75.2.2)) (by kernel_rfl) (by kernel_rfl) (fun hc78 => ?_) (fun hc78 => ?_)
              · have hj34 := cond_t hc78 hj34
                refine gk_seq (by kernel_rfl) ?_
                refine gk_region (by kernel_rfl) ?_
                refine gl_pure 4 [2, 3, 4] (K' := [(2, .slice none 0 0), (3, .int .i64 130), (4, .int .i64 s12.2)]) (by kernel_rfl) ?_
                refine gl_atE (by kernel_rfl) ?_
                refine ge_seq ?_
                refine gk_reord (D := L) (Reord.skip (Reord.skipC (Reord.refl _))) ?_
                refine gk_ret (by kernel_rfl) ?_
                refine ge_seq_ret ?_
                refine ge_block_ret ?_
                refine ge_seq_ret ?_
                obtain rfl := some_inj hj34
                obtain rfl := some_inj hb14
                refine ge_round_out (fun hrr => ?_) (by intro h; cases h)
                obtain rfl := hrr
                refine ge_block_ret ?_
                refine ge_seq_ret ?_
                refine ge_seq_ret ?_
                obtain rfl := some_inj hr
                exact ge_result trivial (ResOk.tmp (by kernel_rfl) (ResOk.tmp (by kernel_rfl) (ResOk.tmp (by kernel_rfl) ResOk.nil))) hI15 ⟨none, 0, [], OwnS.nil _ _ _ _, rfl, rfl⟩
              · have hj34 := cond_f hc78 hj34
                refine gk_skip (by kernel_rfl) ?_
                refine ge_seq ?_
                refine gk_seq (by kernel_rfl) ?_
                refine gk_region (by kernel_rfl) ?_
                refine gl_pure 1 [0, 7, 8, 49] (K' := [(0, .string a0), (7, .pointer (some ⟨g77, 0, none⟩)), (8, .int .i64 y75.2.1), (49, .slice A16 s12.1.length n17)]) (by kernel_rfl) ?_
                refine gl_loadB (T' := 28) (xp := (.tmp 7)) (v := .agg #[.int .i64 y75.1.f0, .string y75.1.f1, .int .i64 y75.1.f2]) (g := g77) (off := 0) (cs := #[.int .i64 y75.1.f0, .string y75.1.f1, .int .i64 y75.1.f2]) (e := 28) (fz := (0, 0)) (by kernel_rfl) (by kernel_rfl) (by kernel_rfl) List.mem_cons_self (by kernel_rfl) ?_
                refine gl_buildSlice (T' := 22) (e := 28) (n := 3) (len := 1) (parts := #[(0, (.tmp 50))]) (l := [(0, .agg #[.int .i64 y75.1.f0, .string y75.1.f1, .int .i64 y75.1.f2])]) (cs := #[.int .i64 y75.1.f0, .string y75.1.f1, .int .i64 y75.1.f2]) (by kernel_rfl) (by kernel_rfl) (by kernel_rfl) (by kernel_rfl) (by kernel_rfl) (fun g79 => ?_)
                have hO80 : OwnS kS27 28 I21 (some ⟨g79, 0, none⟩) 1 [y75.1] [(g79, .cells #[.int .i64 y75.1.f0, .string y75.1.f1, .int .i64 y75.1.f2] 28)] := OwnS.lit (row_cons (l := [.int .i64 y75.1.f0, .string y75.1.f1, .int .i64 y75.1.f2]) (kS27_mk (x := y75.1) ) (row_nil _ _)) rfl rfl rfl
                refine gl_reord (D := [(g79, .cells #[.int .i64 y75.1.f0, .string y75.1.f1, .int .i64 y75.1.f2] 28)] ++ ((g77, .cells #[.int .i64 y75.1.f0, .string y75.1.f1, .int .i64 y75.1.f2] 28) :: (C18 ++ L))) (Reord.refl _) ?_
                obtain ⟨zs83, hz84, hj34⟩ := bind_some hj34
                refine gl_append (xv := .slice (some ⟨g79, 0, none⟩) [y75.1].length 1) (d := kS27) (t := 22) (tx := 22) (e := 28) (s := (.tmp 49)) (x := (.tmp 51)) (xs := s12.1) (fun X => [(g79, .cells #[.int .i64 y75.1.f0, .string y75.1.f1, .int .i64 y75.1.f2] 28)] ++ ((g77, .cells #[.int .i64 y75.1.f0, .string y75.1.f1, .int .i64 y75.1.f2] 28) :: (X ++ L))) hz84 (by kernel_rfl) (by kernel_rfl) (by kernel_rfl) (by kernel_rfl) (by kernel_rfl) (by kernel_rfl) (fun X => (Upd.app _ (Upd.one _ (Upd.head _ X _)))) hO19 (SrcOk.slice (c := 1) (e := 28) (n := 3) (OwnS.rd hO80 (Upd.selfC _ _)) (by kernel_rfl)) (fun A85 n86 C87 hO88 => ?_)
                refine gl_pure 1 [0, 5, 8] (K' := [(0, .string a0), (5, .slice A85 zs83.length n86), (8, .int .i64 y75.2.1)]) (by kernel_rfl) ?_
                refine gl_atE (by kernel_rfl) ?_
                refine ge_seq ?_
                refine gk_region (by kernel_rfl) ?_
                refine gl_pure 2 [0, 5, 6] (K' := [(0, .string a0), (5, .slice A85 zs83.length n86), (6, .int .i64 y75.2.1)]) (by kernel_rfl) ?_
                refine gl_reord (D := C87 ++ L) (Reord.step (Upd.app _ (Upd.one _ (Upd.rmC _ _))) (Reord.skipC (Reord.skip (Reord.refl _)))) ?_
                refine gl_atE (by kernel_rfl) ?_
                refine ge_block_normal ?_
                obtain rfl := some_inj hj34
                exact ge_mid fun t ht => ⟨_, rfl, A85, n86, C87, hO88, (Imm.refl _), rfl, ht.pick (l := [0, 5, 6]) (by kernel_rfl)⟩
        · rintro t I42 L' ⟨j35, rfl, A37, n38, C39, hO40, hI36, rfl, hK41⟩
          refine ge_at hK41 ?_
          obtain rfl := some_inj hb14
          exact ge_round fun t ht => ⟨A37, n38, C39, hO40, (Imm.trans hI15 hI36), rfl, ht.pick (l := [0, 5, 6]) (by kernel_rfl)⟩
      · have hb14 := cond_f hc32 hb14
        refine gk_exit (by kernel_rfl) ?_
        refine ge_seq_exit ?_
        obtain rfl := some_inj hb14
        refine ge_round_out (fun hrr => ?_) (by intro h; cases h)
        obtain rfl := hrr
        refine ge_block_hit (by kernel_rfl) ?_
        exact ge_mid fun t ht => ⟨_, rfl, A16, n17, C18, hO19, hI15, rfl, ht.pick (l := [0, 5]) (by kernel_rfl)⟩
    · rintro t I29 L' ⟨r22, rfl, A24, n25, C26, hO27, hI23, rfl, hK28⟩
      refine ge_at hK28 ?_
      refine ge_seq ?_
      refine gk_seq (by kernel_rfl) ?_
      refine gk_region (by kernel_rfl) ?_
      refine gl_pure 4 [54, 57] (K' := [(54, .slice A24 r22.length n25), (57, .agg #[.int .i64 0, .string (⟨#[]⟩ : ByteArray), .int .i64 (a0.size : Int)])]) (by kernel_rfl) ?_
      refine gl_buildSlice (T' := 22) (e := 28) (n := 3) (len := 1) (parts := #[(0, (.tmp 57))]) (l := [(0, .agg #[.int .i64 0, .string (⟨#[]⟩ : ByteArray), .int .i64 (a0.size : Int)])]) (cs := #[.int .i64 0, .string (⟨#[]⟩ : ByteArray), .int .i64 (a0.size : Int)]) (by kernel_rfl) (by kernel_rfl) (by kernel_rfl) (by kernel_rfl) (by kernel_rfl) (fun g90 => ?_)
      have hO91 : OwnS kS27 28 I29 (some ⟨g90, 0, none⟩) 1 [(⟨0, (⟨#[]⟩ : ByteArray), (a0.size : Int)⟩ : S27)] [(g90, .cells #[.int .i64 0, .string (⟨#[]⟩ : ByteArray), .int .i64 (a0.size : Int)] 28)] := OwnS.lit (row_cons (l := [.int .i64 0, .string (⟨#[]⟩ : ByteArray), .int .i64 (a0.size : Int)]) (kS27_mk (x := (⟨0, (⟨#[]⟩ : ByteArray), (a0.size : Int)⟩ : S27)) ) (row_nil _ _)) rfl rfl rfl
      refine gl_reord (D := [(g90, .cells #[.int .i64 0, .string (⟨#[]⟩ : ByteArray), .int .i64 (a0.size : Int)] 28)] ++ (C26 ++ L)) (Reord.refl _) ?_
      obtain ⟨zs94, hz95, hr⟩ := bind_some hr
      refine gl_append (xv := .slice (some ⟨g90, 0, none⟩) [(⟨0, (⟨#[]⟩ : ByteArray), (a0.size : Int)⟩ : S27)].length 1) (d := kS27) (t := 22) (tx := 22) (e := 28) (s := (.tmp 54)) (x := (.tmp 58)) (xs := r22) (fun X => [(g90, .cells #[.int .i64 0, .string (⟨#[]⟩ : ByteArray), .int .i64 (a0.size : Int)] 28)] ++ (X ++ L)) hz95 (by kernel_rfl) (by kernel_rfl) (by kernel_rfl) (by kernel_rfl) (by kernel_rfl) (by kernel_rfl) (fun X => (Upd.app _ (Upd.head _ X _))) hO27 (SrcOk.slice (c := 1) (e := 28) (n := 3) (OwnS.rd hO91 (Upd.selfC _ _)) (by kernel_rfl)) (fun A96 n97 C98 hO99 => ?_)
      refine gl_pure 1 [5] (K' := [(5, .slice A96 zs94.length n97)]) (by kernel_rfl) ?_
      refine gl_atE (by kernel_rfl) ?_
      refine ge_seq ?_
      refine gk_seq (by kernel_rfl) ?_
      refine gk_seq (by kernel_rfl) ?_
      refine gk_region (by kernel_rfl) ?_
      refine gl_pure 3 [5, 62] (K' := [(5, .slice A96 zs94.length n97), (62, .bool (decide ((zs94.length : Int) > 4096)))]) (by kernel_rfl) ?_
      refine gl_atE (by kernel_rfl) ?_
      refine ge_seq ?_
      refine gk_cond (b := (decide ((zs94.length : Int) > 4096))) (by kernel_rfl) (by kernel_rfl) (fun hc100 => ?_) (fun hc100 => ?_)
      · have hr := cond_t hc100 hr
        refine gk_seq (by kernel_rfl) ?_
        refine gk_region (by kernel_rfl) ?_
        refine gl_pure 3 [2, 3, 4] (K' := [(2, .slice none 0 0), (3, .int .i64 7), (4, .int .i64 0)]) (by kernel_rfl) ?_
        refine gl_atE (by kernel_rfl) ?_
        refine ge_seq ?_
        refine gk_reord (D := L) (Reord.skipC (Reord.skipC (Reord.refl _))) ?_
        refine gk_ret (by kernel_rfl) ?_
        refine ge_seq_ret ?_
        obtain rfl := some_inj hr
        exact ge_result trivial (ResOk.tmp (by kernel_rfl) (ResOk.tmp (by kernel_rfl) (ResOk.tmp (by kernel_rfl) ResOk.nil))) hI23 ⟨none, 0, [], OwnS.nil _ _ _ _, rfl, rfl⟩
      · have hr := cond_f hc100 hr
        refine gk_skip (by kernel_rfl) ?_
        refine ge_seq ?_
        refine gk_seq (by kernel_rfl) ?_
        refine gk_region (by kernel_rfl) ?_
        refine gl_pure 4 [2, 3, 4] (K' := [(2, .slice A96 zs94.length n97), (3, .int .i64 0), (4, .int .i64 0)]) (by kernel_rfl) ?_
        refine gl_atE (by kernel_rfl) ?_
        refine ge_seq ?_
        refine gk_reord (D := C98 ++ L) (Reord.step (Upd.app _ (Upd.rmC _ _)) (Reord.skipC (Reord.refl _))) ?_
        refine gk_ret (by kernel_rfl) ?_
        obtain rfl := some_inj hr
        exact ge_result trivial (ResOk.tmp (by kernel_rfl) (ResOk.tmp (by kernel_rfl) (ResOk.tmp (by kernel_rfl) ResOk.nil))) hI23 ⟨A96, n97, C98, hO99, rfl, rfl⟩
/-! 10 tocsinlaw13_whole  -/
noncomputable def tocsinlaw13_whole_l18 (a0 : List S27) (a1 : List S27) : Int → Option ((Int) ⊕ ((Unit) ⊕ (Bool))) := fun s8 =>
  bif (decide (s8 < (a0.length : Int))) then
  (Option.bind (ix a0 s8) fun (x21 : S27) =>
    Option.bind (ix a1 s8) fun (x29 : S27) =>
    bif (!((x21.f0 == x29.f0) && ((x21.f1.toList == x29.f1.toList) && (x21.f2 == x29.f2)))) then
    (some (Sum.inr (Sum.inr false)))
    else
    (some (Sum.inl (IntKind.wrap .i64 (s8 + 1)))))
  else
  (some (Sum.inr (Sum.inl ())))
noncomputable def tocsinlaw13_whole (a0 : List S27) (a1 : List S27) : Option Bool :=
  bif ((a0.length : Int) != (a1.length : Int)) then
  (some false)
  else
  (Option.bind (loopO (tocsinlaw13_whole_l18 a0 a1) 0) fun (r6 : (Unit) ⊕ (Bool)) =>
    match r6 with
    | Sum.inl r14 => some true
    | Sum.inr v38 => some v38)
theorem tocsinlaw13_whole_walk {a0 : List S27} {A0_0 : Option Addr} {n0_0 : Nat} {a1 : List S27} {A1_0 : Option Addr} {n1_0 : Nat} {I : Imm} {r : Bool}  (hf0_0 : RepS kS27 I A0_0 n0_0 a0)  (hf1_0 : RepS kS27 I A1_0 n1_0 a1) (hr : tocsinlaw13_whole a0 a1 = some r) (L : Own) :
    CallsTo Tryd.prog 10 #[.slice A0_0 a0.length n0_0, .slice A1_0 a1.length n1_0] I L (fun v I' L' => v = .bool r ∧ L = L') := by
  unfold tocsinlaw13_whole at hr
  refine callsTo_body (N := 26) Tryd.func10 (by kernel_rfl) (by kernel_rfl) (by kernel_rfl) ?_
  refine gk_pick [0, 1] (K' := [(0, .slice A0_0 a0.length n0_0), (1, .slice A1_0 a1.length n1_0)]) (by kernel_rfl) ?_
  refine gk_seq (by kernel_rfl) ?_
  refine gk_region (by kernel_rfl) ?_
  refine gl_pure 1 [0, 1] (K' := [(0, .slice A0_0 a0.length n0_0), (1, .slice A1_0 a1.length n1_0)]) (by kernel_rfl) ?_
  refine gl_atE (by kernel_rfl) ?_
  refine ge_seq ?_
  refine gk_seq (by kernel_rfl) ?_
  refine gk_seq (by kernel_rfl) ?_
  refine gk_region (by kernel_rfl) ?_
  refine gl_pure 5 [0, 1, 10] (K' := [(0, .slice A0_0 a0.length n0_0), (1, .slice A1_0 a1.length n1_0), (10, .bool ((a0.length : Int) != (a1.length : Int)))]) (by kernel_rfl) ?_
  refine gl_atE (by kernel_rfl) ?_
  refine ge_seq ?_
  refine gk_cond (b := ((a0.length : Int) != (a1.length : Int))) (by kernel_rfl) (by kernel_rfl) (fun hc1 => ?_) (fun hc1 => ?_)
  · have hr := cond_t hc1 hr
    refine gk_seq (by kernel_rfl) ?_
    refine gk_region (by kernel_rfl) ?_
    refine gl_pure 1 [4] (K' := [(4, .bool false)]) (by kernel_rfl) ?_
    refine gl_atE (by kernel_rfl) ?_
    refine ge_seq ?_
    refine gk_ret (by kernel_rfl) ?_
    refine ge_seq_ret ?_
    obtain rfl := some_inj hr
    exact ge_result trivial (ResOk.tmp (by kernel_rfl) ResOk.nil) (Imm.refl _) ⟨rfl, rfl⟩
  · have hr := cond_f hc1 hr
    refine gk_skip (by kernel_rfl) ?_
    refine ge_seq ?_
    refine gk_seq (by kernel_rfl) ?_
    refine gk_seq (by kernel_rfl) ?_
    refine gk_region (by kernel_rfl) ?_
    refine gl_pure 1 [0, 1, 5] (K' := [(0, .slice A0_0 a0.length n0_0), (1, .slice A1_0 a1.length n1_0), (5, .int .i64 0)]) (by kernel_rfl) ?_
    refine gl_atE (by kernel_rfl) ?_
    refine ge_seq ?_
    obtain ⟨r6, hl7, hr⟩ := bind_some hr
    refine gk_join (fun t I' L' => ∃ r14, r6 = Sum.inl r14 ∧ I ≤ I' ∧ L = L' ∧ Knows 26 [] t) ?_ ?_
    · refine gk_block (by kernel_rfl) ?_
      refine gk_pick [0, 1, 5] (K' := [(0, .slice A0_0 a0.length n0_0), (1, .slice A1_0 a1.length n1_0), (5, .int .i64 0)]) (by kernel_rfl) ?_
      intro t hK
      refine gc_loop (tocsinlaw13_whole_l18 a0 a1) (fun s8 t I' L' => I ≤ I' ∧ L = L' ∧ Knows 26 [(0, .slice A0_0 a0.length n0_0), (1, .slice A1_0 a1.length n1_0), (5, .int .i64 s8)] t) (by kernel_rfl) ?_ hl7 ⟨(Imm.refl _), rfl, hK⟩
      rintro s8 o9 t I13 L' hb10 ⟨hI11, rfl, hK12⟩
      unfold tocsinlaw13_whole_l18 at hb10
      refine gk_at hK12 ?_
      refine gk_seq (by kernel_rfl) ?_
      refine gk_seq (by kernel_rfl) ?_
      refine gk_region (by kernel_rfl) ?_
      refine gl_pure 4 [0, 1, 5, 14] (K' := [(0, .slice A0_0 a0.length n0_0), (1, .slice A1_0 a1.length n1_0), (5, .int .i64 s8), (14, .bool (decide (s8 < (a0.length : Int))))]) (by kernel_rfl) ?_
      refine gl_atE (by kernel_rfl) ?_
      refine ge_seq ?_
      refine gk_cond (b := (decide (s8 < (a0.length : Int)))) (by kernel_rfl) (by kernel_rfl) (fun hc20 => ?_) (fun hc20 => ?_)
      · have hb10 := cond_t hc20 hb10
        refine gk_skip (by kernel_rfl) ?_
        refine ge_seq ?_
        refine gk_seq (by kernel_rfl) ?_
        refine gk_block (by kernel_rfl) ?_
        refine gk_seq (by kernel_rfl) ?_
        refine gk_draw 9 [(0, true), (1, true), (2, true), (3, true), (4, true), (5, true), (6, true), (7, true), (8, true)] [] (fun p hp => by cases hp) (by kernel_rfl) (by kernel_rfl) (by kernel_rfl) ?_ (by kernel_rfl)
        refine gd_pure 2 [0, 1, 5, 17, 18] (K' := [(0, .slice A0_0 a0.length n0_0), (1, .slice A1_0 a1.length n1_0), (5, .int .i64 s8), (17, .slice A0_0 a0.length n0_0), (18, .int .i64 s8)]) (s' := [(2, true), (3, true), (4, true), (5, true), (6, true), (7, true), (8, true)]) (CC.refl (fun p hp => by cases hp)) (by kernel_rfl) ?_
        obtain ⟨x21, hx22, hb10⟩ := bind_some hb10
        obtain ⟨p23, cs24, hR25, hA26, ha27⟩ := RepS.ixAt hx22 (hf0_0.mono hI11)
        have hi28 := ix_some hx22
        obtain rfl := kS27_open hR25
        refine gd_q (v := .pointer (some p23)) (by kernel_rfl) (by kernel_rfl) (CC.refl (fun p hp => by cases hp)) (fun I' L' T hC kk => gl_indexAddrF (c := n0_0) (T' := 22) (e := 28) (xs := (.tmp 17)) (xi := (.tmp 18)) (kd := .i64) ha27 hi28.1 hi28.2.1 (by kernel_rfl) (by kernel_rfl) (by kernel_rfl) (by kernel_rfl) (by kernel_rfl) kk) ?_
        refine gd_q (v := .agg #[.int .i64 x21.f0, .string x21.f1, .int .i64 x21.f2]) (by kernel_rfl) (by kernel_rfl) (CC.refl (fun p hp => by cases hp)) (fun I' L' T hC kk => gl_loadA (T' := 28) (xp := (.tmp 19)) (p := p23) (cs := [.int .i64 x21.f0, .string x21.f1, .int .i64 x21.f2]) (by kernel_rfl) (by kernel_rfl) (by kernel_rfl) (by kernel_rfl) ((hA26.mono hC.le).take 3) kk) ?_
        refine gd_pure 2 [0, 1, 5, 20, 21, 22] (K' := [(0, .slice A0_0 a0.length n0_0), (1, .slice A1_0 a1.length n1_0), (5, .int .i64 s8), (20, .agg #[.int .i64 x21.f0, .string x21.f1, .int .i64 x21.f2]), (21, .slice A1_0 a1.length n1_0), (22, .int .i64 s8)]) (s' := [(6, true), (7, true), (8, true)]) (CC.refl (fun p hp => by cases hp)) (by kernel_rfl) ?_
        obtain ⟨x29, hx30, hb10⟩ := bind_some hb10
        obtain ⟨p31, cs32, hR33, hA34, ha35⟩ := RepS.ixAt hx30 (hf1_0.mono hI11)
        have hi36 := ix_some hx30
        obtain rfl := kS27_open hR33
        refine gd_q (v := .pointer (some p31)) (by kernel_rfl) (by kernel_rfl) (CC.refl (fun p hp => by cases hp)) (fun I' L' T hC kk => gl_indexAddrF (c := n1_0) (T' := 22) (e := 28) (xs := (.tmp 21)) (xi := (.tmp 22)) (kd := .i64) ha35 hi36.1 hi36.2.1 (by kernel_rfl) (by kernel_rfl) (by kernel_rfl) (by kernel_rfl) (by kernel_rfl) kk) ?_
        refine gd_q (v := .agg #[.int .i64 x29.f0, .string x29.f1, .int .i64 x29.f2]) (by kernel_rfl) (by kernel_rfl) (CC.refl (fun p hp => by cases hp)) (fun I' L' T hC kk => gl_loadA (T' := 28) (xp := (.tmp 23)) (p := p31) (cs := [.int .i64 x29.f0, .string x29.f1, .int .i64 x29.f2]) (by kernel_rfl) (by kernel_rfl) (by kernel_rfl) (by kernel_rfl) ((hA34.mono hC.le).take 3) kk) ?_
        refine gd_q (v := .bool (!((x21.f0 == x29.f0) && ((x21.f1.toList == x29.f1.toList) && (x21.f2 == x29.f2))))) (by kernel_rfl) (by kernel_rfl) (CC.refl (fun p hp => by cases hp)) (fun I' L' T hC kk => gl_eqAgg (cx := #[.int .i64 x21.f0, .string x21.f1, .int .i64 x21.f2]) (cy := #[.int .i64 x29.f0, .string x29.f1, .int .i64 x29.f2]) (n := true) (t := 28) (t' := 28) (x := (.tmp 20)) (y := (.tmp 24)) (b := ((x21.f0 == x29.f0) && ((x21.f1.toList == x29.f1.toList) && (x21.f2 == x29.f2)))) (by kernel_rfl) (by kernel_rfl) (by kernel_rfl) (by kernel_rfl) (by kernel_rfl) kk) ?_
        refine gd_done ?_
        refine gl_atE (by kernel_rfl) ?_
        refine ge_seq ?_
        refine gk_cond (b := (!((x21.f0 == x29.f0) && ((x21.f1.toList == x29.f1.toList) && (x21.f2 == x29.f2))))) (by kernel_rfl) (by kernel_rfl) (fun hc37 => ?_) (fun hc37 => ?_)
        · have hb10 := cond_t hc37 hb10
          refine gk_seq (by kernel_rfl) ?_
          refine gk_region (by kernel_rfl) ?_
          refine gl_pure 1 [4] (K' := [(4, .bool false)]) (by kernel_rfl) ?_
          refine gl_atE (by kernel_rfl) ?_
          refine ge_seq ?_
          refine gk_ret (by kernel_rfl) ?_
          refine ge_block_ret ?_
          refine ge_seq_ret ?_
          obtain rfl := some_inj hb10
          refine ge_round_out (fun hrr => ?_) (by intro h; cases h)
          obtain rfl := hrr
          refine ge_block_ret ?_
          refine ge_seq_ret ?_
          refine ge_seq_ret ?_
          obtain rfl := some_inj hr
          exact ge_result trivial (ResOk.tmp (by kernel_rfl) ResOk.nil) hI11 ⟨rfl, rfl⟩
        · have hb10 := cond_f hc37 hb10
          refine gk_skip (by kernel_rfl) ?_
          refine ge_block_normal ?_
          refine ge_seq ?_
          refine gk_region (by kernel_rfl) ?_
          refine gl_pure 3 [0, 1, 5] (K' := [(0, .slice A0_0 a0.length n0_0), (1, .slice A1_0 a1.length n1_0), (5, .int .i64 (IntKind.wrap .i64 (s8 + 1)))]) (by kernel_rfl) ?_
          refine gl_atE (by kernel_rfl) ?_
          obtain rfl := some_inj hb10
          exact ge_round fun t ht => ⟨hI11, rfl, ht.pick (l := [0, 1, 5]) (by kernel_rfl)⟩
      · have hb10 := cond_f hc20 hb10
        refine gk_exit (by kernel_rfl) ?_
        refine ge_seq_exit ?_
        obtain rfl := some_inj hb10
        refine ge_round_out (fun hrr => ?_) (by intro h; cases h)
        obtain rfl := hrr
        refine ge_block_hit (by kernel_rfl) ?_
        exact ge_mid fun t ht => ⟨_, rfl, hI11, rfl, ht.pick (l := []) (by kernel_rfl)⟩
    · rintro t I17 L' ⟨r14, rfl, hI15, rfl, hK16⟩
      refine ge_at hK16 ?_
      refine ge_seq ?_
      refine gk_seq (by kernel_rfl) ?_
      refine gk_region (by kernel_rfl) ?_
      refine gl_pure 1 [4] (K' := [(4, .bool true)]) (by kernel_rfl) ?_
      refine gl_atE (by kernel_rfl) ?_
      refine ge_seq ?_
      refine gk_ret (by kernel_rfl) ?_
      obtain rfl := some_inj hr
      exact ge_result trivial (ResOk.tmp (by kernel_rfl) ResOk.nil) hI15 ⟨rfl, rfl⟩
end Go.Proofs.YtlhpclfkoblnkaaDoor
