/- Plain laws: the program's scans are the lists' (numbers, durations, signs). -/
import Derived.Test.YtlhpclfkoblnkaaDoorL53dq
import Derived.Test.YtlhpclfkoblnkaaDoorM1q
import Derived.Test.YtlhpclfkoblnkaaDoorRows
import Derived.Deep.Slices
import Derived.Below
import Derived.Test.YtlhpclfkoblnkaaDoorGB10q
import Derived.Lib.ValidLaws
import Derived.Lib.Bytealg
set_option linter.unusedVariables false
set_option linter.unusedSimpArgs false
set_option maxRecDepth 100000
namespace Go.Proofs.YtlhpclfkoblnkaaDoor
open Go.GB
/-! 18 lex_SpanText  -/
noncomputable def lex_SpanText_l50 : (Unit × (List Int) × Int × Int) → Option ((Unit × (List Int) × Int × Int) ⊕ (Unit × (List Int))) := fun s29 =>
  bif (decide (s29.2.2.2 < (lex_units.length : Int))) then
  (Option.bind (ix lex_units s29.2.2.2) fun (x53 : S62) =>
    Option.bind (quox .i64 s29.2.2.1 x53.f1) fun (q63 : Int) =>
    Option.bind (bif (decide (q63 > 0)) then
      (Option.bind (strconv_FormatInt q63 10) fun (y77 : ByteArray) =>
        Option.bind (sadd y77 x53.f0) fun (s79 : ByteArray) =>
        Option.bind (strings_Builder_WriteString (⟨s29.2.1⟩ : S50) s79) fun (y81 : Int × Unit × S50) =>
        some ((IntKind.wrap .i64 (s29.2.2.1 - (IntKind.wrap .i64 (q63 * x53.f1)))), (), y81.2.2.f1))
      else
      (some (s29.2.2.1, (), s29.2.1))) fun (j65 : Int × Unit × (List Int)) =>
    some (Sum.inl ((), j65.2.2, j65.1, (IntKind.wrap .i64 (s29.2.2.2 + 1)))))
  else
  (some (Sum.inr ((), s29.2.1)))
noncomputable def lex_SpanText (a0 : Int) : Option (ByteArray × Int) :=
  bif ((decide (a0 < 0)) || (decide (a0 > 1099511627776))) then
  (some ((⟨#[]⟩ : ByteArray), 1))
  else
  (bif (a0 == 0) then
    (some ((⟨#[48, 115]⟩ : ByteArray), 0))
    else
    (Option.bind (loopO lex_SpanText_l50 ((), [], a0, 0)) fun (r27 : Unit × (List Int)) =>
      Option.bind (strings_Builder_String (⟨r27.2⟩ : S50)) fun (y92 : ByteArray) =>
      some (y92, 0)))
theorem lex_SpanText_walk {a0 : Int} {I : Imm} {r : ByteArray × Int} (hG : Gl I) (hr : lex_SpanText a0 = some r) (L : Own) :
    CallsTo Tryd.prog 18 #[.int .i64 a0] I L (fun v I' L' => v = .tuple #[.string r.1, .int .i64 r.2] ∧ L = L') := by
  unfold lex_SpanText at hr
  refine callsTo_body (N := 44) Tryd.func18 (by kernel_rfl) (by kernel_rfl) (by kernel_rfl) ?_
  refine gk_pick [0] (K' := [(0, .int .i64 a0)]) (by kernel_rfl) ?_
  refine gk_seq (by kernel_rfl) ?_
  refine gk_region (by kernel_rfl) ?_
  refine gl_pure 2 [0] (K' := [(0, .int .i64 a0)]) (by kernel_rfl) ?_
  refine gl_atE (by kernel_rfl) ?_
  refine ge_seq ?_
  refine gk_seq (by kernel_rfl) ?_
  refine gk_block (by kernel_rfl) ?_
  refine gk_seq (by kernel_rfl) ?_
  obtain ⟨b3, hb4⟩ : ∃ z, z = ((decide (a0 < 0)) || (decide (a0 > 1099511627776))) := ⟨_, rfl⟩
  refine gk_join (fun t I' L' => I ≤ I' ∧ L = L' ∧ Knows 44 [(0, .int .i64 a0), (8, .bool b3)] t) ?_ ?_
  · refine gk_region (by kernel_rfl) ?_
    refine gl_pure 3 [0, 11] (K' := [(0, .int .i64 a0), (11, .bool (decide (a0 < 0)))]) (by kernel_rfl) ?_
    refine gl_case 11 (b := (decide (a0 < 0))) (by kernel_rfl) (fun hc6 => ?_) (fun hc6 => ?_)
    · refine gl_pure 4 [0, 8] (K' := [(0, .int .i64 a0), (8, .bool true)]) (by kernel_rfl) ?_
      refine gl_atE (by kernel_rfl) ?_
      exact ge_mid fun t ht => ⟨(Imm.refl _), rfl, by rw [(show b3 = true from hb4.trans (by rw [hc6]; try rfl))]; exact ht.pick (l := [0, 8]) (by kernel_rfl)⟩
    · refine gl_pure 4 [0, 8] (K' := [(0, .int .i64 a0), (8, .bool (decide (a0 > 1099511627776)))]) (by kernel_rfl) ?_
      refine gl_atE (by kernel_rfl) ?_
      exact ge_mid fun t ht => ⟨(Imm.refl _), rfl, by rw [(show b3 = (decide (a0 > 1099511627776)) from hb4.trans (by rw [hc6]; try rfl))]; exact ht.pick (l := [0, 8]) (by kernel_rfl)⟩
  · rintro t I5 L' ⟨hI1, rfl, hK2⟩
    subst hb4
    refine ge_at hK2 ?_
    refine ge_seq ?_
    refine gk_cond (b := ((decide (a0 < 0)) || (decide (a0 > 1099511627776)))) (by kernel_rfl) (by kernel_rfl) (fun hc7 => ?_) (fun hc7 => ?_)
    · have hr := cond_t hc7 hr
      refine gk_seq (by kernel_rfl) ?_
      refine gk_region (by kernel_rfl) ?_
      refine gl_pure 2 [2, 3] (K' := [(2, .string (⟨#[]⟩ : ByteArray)), (3, .int .i64 1)]) (by kernel_rfl) ?_
      refine gl_atE (by kernel_rfl) ?_
      refine ge_seq ?_
      refine gk_ret (by kernel_rfl) ?_
      refine ge_block_ret ?_
      refine ge_seq_ret ?_
      obtain rfl := some_inj hr
      exact ge_result trivial (ResOk.tmp (by kernel_rfl) (ResOk.tmp (by kernel_rfl) ResOk.nil)) hI1 ⟨rfl, rfl⟩
    · have hr := cond_f hc7 hr
      refine gk_seq (by kernel_rfl) ?_
      refine gk_region (by kernel_rfl) ?_
      refine gl_pure 3 [0, 15] (K' := [(0, .int .i64 a0), (15, .bool (a0 == 0))]) (by kernel_rfl) ?_
      refine gl_atE (by kernel_rfl) ?_
      refine ge_seq ?_
      refine gk_cond (b := (a0 == 0)) (by kernel_rfl) (by kernel_rfl) (fun hc8 => ?_) (fun hc8 => ?_)
      · have hr := cond_t hc8 hr
        refine gk_seq (by kernel_rfl) ?_
        refine gk_region (by kernel_rfl) ?_
        refine gl_pure 2 [2, 3] (K' := [(2, .string (⟨#[48, 115]⟩ : ByteArray)), (3, .int .i64 0)]) (by kernel_rfl) ?_
        refine gl_atE (by kernel_rfl) ?_
        refine ge_seq ?_
        refine gk_ret (by kernel_rfl) ?_
        refine ge_block_ret ?_
        refine ge_seq_ret ?_
        obtain rfl := some_inj hr
        exact ge_result trivial (ResOk.tmp (by kernel_rfl) (ResOk.tmp (by kernel_rfl) ResOk.nil)) hI1 ⟨rfl, rfl⟩
      · have hr := cond_f hc8 hr
        refine gk_skip (by kernel_rfl) ?_
        refine ge_block_normal ?_
        refine ge_seq ?_
        refine gk_seq (by kernel_rfl) ?_
        refine gk_region (by kernel_rfl) ?_
        refine gl_alloc (T' := 51) (cs := #[.pointer none, .slice none 0 0]) (by kernel_rfl) (by kernel_rfl) (by kernel_rfl) (fun g9 => ?_)
        refine gl_atE (by kernel_rfl) ?_
        refine ge_seq ?_
        refine gk_seq (by kernel_rfl) ?_
        refine gk_seq (by kernel_rfl) ?_
        refine gk_region (by kernel_rfl) ?_
        refine gl_call (by kernel_rfl) (lex_units_walk (r := lex_units)  rfl _) ?_
        rintro v I10 L11 hI12 ⟨A13, c14, C15, hO16, rfl, rfl⟩
        refine gl_pure 2 [0, 4, 18, 19, 20] (K' := [(0, .int .i64 a0), (4, .pointer (some ⟨g9, 0, none⟩)), (18, .slice A13 lex_units.length c14), (19, .int .i64 (lex_units.length : Int)), (20, .int .i64 0)]) (by kernel_rfl) ?_
        refine gl_atE (by kernel_rfl) ?_
        refine ge_seq ?_
        obtain ⟨r27, hl28, hr⟩ := bind_some hr
        refine gk_join (fun t I' L' => ∃ q42 A44 n45 C46, (q42 = none ∨ q42 = some (⟨g9, 0, none⟩ : Addr)) ∧ OwnS (Kd.int .u8) 5 I' A44 n45 r27.2 C46 ∧ I10 ≤ I' ∧ C46 ++ ((g9, .cells #[.pointer q42, .slice A44 r27.2.length n45] 51) :: L) = L' ∧ Knows 44 [(4, .pointer (some ⟨g9, 0, none⟩))] t) ?_ ?_
        · refine gk_block (by kernel_rfl) ?_
          refine gk_pick [0, 4, 18, 19, 20] (K' := [(0, .int .i64 a0), (4, .pointer (some ⟨g9, 0, none⟩)), (18, .slice A13 lex_units.length c14), (19, .int .i64 (lex_units.length : Int)), (20, .int .i64 0)]) (by kernel_rfl) ?_
          intro t hK
          refine gc_loop (lex_SpanText_l50) (fun s29 t I' L' => ∃ q33 A35 n36 C37, (q33 = none ∨ q33 = some (⟨g9, 0, none⟩ : Addr)) ∧ OwnS (Kd.int .u8) 5 I' A35 n36 s29.2.1 C37 ∧ I10 ≤ I' ∧ C37 ++ (C15 ++ ((g9, .cells #[.pointer q33, .slice A35 s29.2.1.length n36] 51) :: L)) = L' ∧ Knows 44 [(0, .int .i64 s29.2.2.1), (4, .pointer (some ⟨g9, 0, none⟩)), (18, .slice A13 lex_units.length c14), (19, .int .i64 (lex_units.length : Int)), (20, .int .i64 s29.2.2.2)] t) (by kernel_rfl) ?_ hl28 ⟨none, none, 0, [], (Or.inl rfl), OwnS.nil _ _ _ _, (Imm.refl _), rfl, hK⟩
          rintro s29 o30 t I40 L' hb31 ⟨q33, A35, n36, C37, hq34, hO38, hI32, rfl, hK39⟩
          unfold lex_SpanText_l50 at hb31
          refine gk_at hK39 ?_
          refine gk_seq (by kernel_rfl) ?_
          refine gk_region (by kernel_rfl) ?_
          refine gl_pure 1 [0, 4, 18, 19, 20, 21] (K' := [(0, .int .i64 s29.2.2.1), (4, .pointer (some ⟨g9, 0, none⟩)), (18, .slice A13 lex_units.length c14), (19, .int .i64 (lex_units.length : Int)), (20, .int .i64 s29.2.2.2), (21, .bool (decide (s29.2.2.2 < (lex_units.length : Int))))]) (by kernel_rfl) ?_
          refine gl_atE (by kernel_rfl) ?_
          refine ge_seq ?_
          refine gk_seq (by kernel_rfl) ?_
          refine gk_cond (b := (decide (s29.2.2.2 < (lex_units.length : Int)))) (by kernel_rfl) (by kernel_rfl) (fun hc52 => ?_) (fun hc52 => ?_)
          · have hb31 := cond_t hc52 hb31
            refine gk_skip (by kernel_rfl) ?_
            refine ge_seq ?_
            refine gk_seq (by kernel_rfl) ?_
            refine gk_block (by kernel_rfl) ?_
            refine gk_seq (by kernel_rfl) ?_
            refine gk_region (by kernel_rfl) ?_
            obtain ⟨x53, hx54, hb31⟩ := bind_some hb31
            refine gl_indexAddrW (d := kS62) (c := c14) (T' := 60) (e := 63) (xs := (.tmp 18)) (xi := (.tmp 20)) (kd := .i64) hx54 (hO16.mono hI32) (Upd.app _ (Upd.selfC _ _)) (by kernel_rfl) (by kernel_rfl) (by kernel_rfl) (by kernel_rfl) (by kernel_rfl) (fun p55 cs56 hR57 hA58 hp61 => ?_)
            obtain rfl := kS62_open hR57
            refine gl_loadOA (T' := 63) (xp := (.tmp 22)) (p := p55) (cs := [.string x53.f0, .int .i64 x53.f1]) (by kernel_rfl) (by kernel_rfl) (by kernel_rfl) (by kernel_rfl) (hA58.take 2) ?_
            refine gl_alloc (T' := 63) (cs := #[.string (⟨#[]⟩ : ByteArray), .int .i64 0]) (by kernel_rfl) (by kernel_rfl) (by kernel_rfl) (fun g62 => ?_)
            refine gl_storeB (T' := 63) (xp := (.tmp 6)) (xv := (.tmp 23)) (v := .agg #[.string x53.f0, .int .i64 x53.f1]) (g := g62) (off := 0) (cs := #[.string (⟨#[]⟩ : ByteArray), .int .i64 0]) (cs' := #[.string x53.f0, .int .i64 x53.f1]) (by kernel_rfl) (by kernel_rfl) (by kernel_rfl) (by kernel_rfl) (by kernel_rfl) (Upd.set _ _ _ _) ?_ (by kernel_rfl)
            refine gl_atE (by kernel_rfl) ?_
            refine ge_seq ?_
            refine gk_seq (by kernel_rfl) ?_
            refine gk_region (by kernel_rfl) ?_
            refine gl_pure 2 [0, 4, 6, 18, 19, 20, 24, 25] (K' := [(0, .int .i64 s29.2.2.1), (4, .pointer (some ⟨g9, 0, none⟩)), (6, .pointer (some ⟨g62, 0, none⟩)), (18, .slice A13 lex_units.length c14), (19, .int .i64 (lex_units.length : Int)), (20, .int .i64 s29.2.2.2), (24, .int .i64 s29.2.2.1), (25, .pointer (some ⟨g62, 1, none⟩))]) (by kernel_rfl) ?_
            refine gl_loadB (T' := 2) (xp := (.tmp 25)) (v := .int .i64 x53.f1) (g := g62) (off := 1) (cs := #[.string x53.f0, .int .i64 x53.f1]) (e := 63) (fz := (0, 0)) (by kernel_rfl) (by kernel_rfl) (by kernel_rfl) List.mem_cons_self (by kernel_rfl) ?_
            obtain ⟨q63, hx64, hb31⟩ := bind_some hb31
            refine gl_quo (t := 2) (t' := 2) (x := (.tmp 24)) (y := (.tmp 26)) (kx := .i64) hx64 (by kernel_rfl) (by kernel_rfl) (by kernel_rfl) (by kernel_rfl) ?_
            refine gl_pure 1 [0, 4, 6, 7, 18, 19, 20] (K' := [(0, .int .i64 s29.2.2.1), (4, .pointer (some ⟨g9, 0, none⟩)), (6, .pointer (some ⟨g62, 0, none⟩)), (7, .int .i64 q63), (18, .slice A13 lex_units.length c14), (19, .int .i64 (lex_units.length : Int)), (20, .int .i64 s29.2.2.2)]) (by kernel_rfl) ?_
            refine gl_atE (by kernel_rfl) ?_
            refine ge_seq ?_
            refine gk_seq (by kernel_rfl) ?_
            refine gk_region (by kernel_rfl) ?_
            refine gl_pure 2 [0, 4, 6, 7, 18, 19, 20, 29] (K' := [(0, .int .i64 s29.2.2.1), (4, .pointer (some ⟨g9, 0, none⟩)), (6, .pointer (some ⟨g62, 0, none⟩)), (7, .int .i64 q63), (18, .slice A13 lex_units.length c14), (19, .int .i64 (lex_units.length : Int)), (20, .int .i64 s29.2.2.2), (29, .bool (decide (q63 > 0)))]) (by kernel_rfl) ?_
            refine gl_atE (by kernel_rfl) ?_
            refine ge_seq ?_
            obtain ⟨j65, hj66, hb31⟩ := bind_some hb31
            refine gk_join (fun t I' L' => ∃ q68 A70 n71 C72, (q68 = none ∨ q68 = some (⟨g9, 0, none⟩ : Addr)) ∧ OwnS (Kd.int .u8) 5 I' A70 n71 j65.2.2 C72 ∧ I40 ≤ I' ∧ C72 ++ (C15 ++ ((g9, .cells #[.pointer q68, .slice A70 j65.2.2.length n71] 51) :: L)) = L' ∧ Knows 44 [(0, .int .i64 j65.1), (4, .pointer (some ⟨g9, 0, none⟩)), (18, .slice A13 lex_units.length c14), (19, .int .i64 (lex_units.length : Int)), (20, .int .i64 s29.2.2.2)] t) ?_ ?_
            · refine gk_cond (b := (decide (q63 > 0))) (by kernel_rfl) (by kernel_rfl) (fun hc76 => ?_) (fun hc76 => ?_)
              · have hj66 := cond_t hc76 hj66
                refine gk_seq (by kernel_rfl) ?_
                refine gk_draw 5 [(0, true), (1, true), (2, true), (3, true), (4, true)] [(g62, .cells #[.string x53.f0, .int .i64 x53.f1] 63), (g9, .cells #[.pointer q33, .slice A35 s29.2.1.length n36] 51)] (List.forall_mem_cons.2 ⟨List.mem_cons_self, (List.forall_mem_cons.2 ⟨(List.mem_cons_of_mem _ (List.mem_append_right _ (List.mem_append_right _ List.mem_cons_self))), (fun p hp => by cases hp)⟩)⟩) (by kernel_rfl) (by kernel_rfl) (by kernel_rfl) ?_ (by kernel_rfl)
                refine gd_pure 1 [0, 4, 6, 7, 18, 19, 20, 30] (K' := [(0, .int .i64 s29.2.2.1), (4, .pointer (some ⟨g9, 0, none⟩)), (6, .pointer (some ⟨g62, 0, none⟩)), (7, .int .i64 q63), (18, .slice A13 lex_units.length c14), (19, .int .i64 (lex_units.length : Int)), (20, .int .i64 s29.2.2.2), (30, .int .i64 q63)]) (s' := [(1, true), (2, true), (3, true), (4, true)]) (CC.refl (List.forall_mem_cons.2 ⟨List.mem_cons_self, (List.forall_mem_cons.2 ⟨(List.mem_cons_of_mem _ (List.mem_append_right _ (List.mem_append_right _ List.mem_cons_self))), (fun p hp => by cases hp)⟩)⟩)) (by kernel_rfl) ?_
                obtain ⟨y77, hx78, hj66⟩ := bind_some hj66
                refine gd_q (v := .string y77) (by kernel_rfl) (by kernel_rfl) (CC.refl (List.forall_mem_cons.2 ⟨List.mem_cons_self, (List.forall_mem_cons.2 ⟨(List.mem_cons_of_mem _ (List.mem_append_right _ (List.mem_append_right _ List.mem_cons_self))), (fun p hp => by cases hp)⟩)⟩)) (fun I' L' T hC kk => gl_callQ (by kernel_rfl) (strconv_FormatInt_walk (r := y77) ((hG.mono (Imm.trans (Imm.trans hI1 hI12) hI32)).mono hC.le) hx78 _) kk) ?_
                refine gd_pure 1 [0, 4, 6, 7, 18, 19, 20, 31, 32] (K' := [(0, .int .i64 s29.2.2.1), (4, .pointer (some ⟨g9, 0, none⟩)), (6, .pointer (some ⟨g62, 0, none⟩)), (7, .int .i64 q63), (18, .slice A13 lex_units.length c14), (19, .int .i64 (lex_units.length : Int)), (20, .int .i64 s29.2.2.2), (31, .string y77), (32, .pointer (some ⟨g62, 0, none⟩))]) (s' := [(3, true), (4, true)]) (CC.refl (List.forall_mem_cons.2 ⟨List.mem_cons_self, (List.forall_mem_cons.2 ⟨(List.mem_cons_of_mem _ (List.mem_append_right _ (List.mem_append_right _ List.mem_cons_self))), (fun p hp => by cases hp)⟩)⟩)) (by kernel_rfl) ?_
                refine gd_q (v := .string x53.f0) (by kernel_rfl) (by kernel_rfl) (CC.refl (List.forall_mem_cons.2 ⟨List.mem_cons_self, (List.forall_mem_cons.2 ⟨(List.mem_cons_of_mem _ (List.mem_append_right _ (List.mem_append_right _ List.mem_cons_self))), (fun p hp => by cases hp)⟩)⟩)) (fun I' L' T hC kk => gl_loadB (T' := 9) (xp := (.tmp 32)) (v := .string x53.f0) (g := g62) (off := 0) (cs := #[.string x53.f0, .int .i64 x53.f1]) (e := 63) (fz := (0, 0)) (by kernel_rfl) (by kernel_rfl) (by kernel_rfl) (hC.sub _ List.mem_cons_self) (by kernel_rfl) kk) ?_
                obtain ⟨s79, hx80, hj66⟩ := bind_some hj66
                refine gd_q (v := .string s79) (by kernel_rfl) (by kernel_rfl) (CC.refl (List.forall_mem_cons.2 ⟨List.mem_cons_self, (List.forall_mem_cons.2 ⟨(List.mem_cons_of_mem _ (List.mem_append_right _ (List.mem_append_right _ List.mem_cons_self))), (fun p hp => by cases hp)⟩)⟩)) (fun I' L' T hC kk => gl_sadd (t := 9) (t' := 9) (x := (.tmp 31)) (y := (.tmp 33)) hx80 (by kernel_rfl) (by kernel_rfl) (by kernel_rfl) (by kernel_rfl) kk) ?_
                refine gd_done ?_
                obtain ⟨y81, hx82, hj66⟩ := bind_some hj66
                refine gl_reord (D := (g9, .cells #[.pointer q33, .slice A35 s29.2.1.length n36] 51) :: (C37 ++ ((g62, .cells #[.string x53.f0, .int .i64 x53.f1] 63) :: (C15 ++ L)))) (Reord.step1 (Upd.one _ (Upd.app _ (Upd.app _ (Upd.rm1 _ _)))) (Reord.step (Upd.one _ (Upd.rmC _ _)) (Reord.step1 (Upd.rm1 _ _) (Reord.step (Upd.rmC _ _) (Reord.refl _))))) ?_
                refine gl_call (by kernel_rfl) (strings_Builder_WriteString_walk (r := y81) (g0 := g9) (q0_0 := q33) (A0_1 := A35) (c0_1 := n36) (C0_1 := C37) (a0 := (⟨s29.2.1⟩ : S50)) hq34 hO38 hx82 _) ?_
                rintro v I83 L84 hI85 ⟨z86, A87, c88, C89, hO90, hO91, rfl, rfl⟩
                refine gl_atE (by kernel_rfl) ?_
                refine ge_seq ?_
                refine gk_region (by kernel_rfl) ?_
                refine gl_pure 3 [4, 18, 19, 20, 36, 37, 38] (K' := [(4, .pointer (some ⟨g9, 0, none⟩)), (18, .slice A13 lex_units.length c14), (19, .int .i64 (lex_units.length : Int)), (20, .int .i64 s29.2.2.2), (36, .int .i64 s29.2.2.1), (37, .int .i64 q63), (38, .pointer (some ⟨g62, 1, none⟩))]) (by kernel_rfl) ?_
                refine gl_loadB (T' := 2) (xp := (.tmp 38)) (v := .int .i64 x53.f1) (g := g62) (off := 1) (cs := #[.string x53.f0, .int .i64 x53.f1]) (e := 63) (fz := (0, 0)) (by kernel_rfl) (by kernel_rfl) (by kernel_rfl) (List.mem_cons_of_mem _ (List.mem_append_right _ List.mem_cons_self)) (by kernel_rfl) ?_
                refine gl_pure 3 [0, 4, 18, 19, 20] (K' := [(0, .int .i64 (IntKind.wrap .i64 (s29.2.2.1 - (IntKind.wrap .i64 (q63 * x53.f1))))), (4, .pointer (some ⟨g9, 0, none⟩)), (18, .slice A13 lex_units.length c14), (19, .int .i64 (lex_units.length : Int)), (20, .int .i64 s29.2.2.2)]) (by kernel_rfl) ?_
                refine gl_reord (D := C89 ++ (C15 ++ ((g9, .cells #[.pointer z86, .slice A87 y81.2.2.f1.length c88] 51) :: L))) (Reord.step (Upd.one _ (Upd.rmC _ _)) (Reord.step (Upd.one _ (Upd.one _ (Upd.rmC _ _))) (Reord.step1 (Upd.rm1 _ _) (Reord.skip (Reord.refl _))))) ?_
                refine gl_atE (by kernel_rfl) ?_
                obtain rfl := some_inj hj66
                exact ge_mid fun t ht => ⟨z86, A87, c88, C89, hO90, hO91, hI85, rfl, ht.pick (l := [0, 4, 18, 19, 20]) (by kernel_rfl)⟩
              · have hj66 := cond_f hc76 hj66
                refine gk_reord (D := C37 ++ (C15 ++ ((g9, .cells #[.pointer q33, .slice A35 s29.2.1.length n36] 51) :: L))) (Reord.step (Upd.one _ (Upd.rmC _ _)) (Reord.step (Upd.one _ (Upd.rmC _ _)) (Reord.step1 (Upd.one _ (Upd.rm1 _ _)) (Reord.skip (Reord.refl _))))) ?_
                refine gk_skip (by kernel_rfl) ?_
                obtain rfl := some_inj hj66
                exact ge_mid fun t ht => ⟨q33, A35, n36, C37, hq34, hO38, (Imm.refl _), rfl, ht.pick (l := [0, 4, 18, 19, 20]) (by kernel_rfl)⟩
            · rintro t I75 L' ⟨q68, A70, n71, C72, hq69, hO73, hI67, rfl, hK74⟩
              refine ge_at hK74 ?_
              refine ge_block_normal ?_
              refine ge_seq ?_
              refine gk_region (by kernel_rfl) ?_
              refine gl_pure 2 [0, 4, 18, 19, 20] (K' := [(0, .int .i64 j65.1), (4, .pointer (some ⟨g9, 0, none⟩)), (18, .slice A13 lex_units.length c14), (19, .int .i64 (lex_units.length : Int)), (20, .int .i64 (IntKind.wrap .i64 (s29.2.2.2 + 1)))]) (by kernel_rfl) ?_
              refine gl_atE (by kernel_rfl) ?_
              obtain rfl := some_inj hb31
              exact ge_round fun t ht => ⟨q68, A70, n71, C72, hq69, hO73, (Imm.trans hI32 hI67), rfl, ht.pick (l := [0, 4, 18, 19, 20]) (by kernel_rfl)⟩
          · have hb31 := cond_f hc52 hb31
            refine gk_reord (D := C37 ++ ((g9, .cells #[.pointer q33, .slice A35 s29.2.1.length n36] 51) :: L)) (Reord.step (Upd.rmC _ _) (Reord.step1 (Upd.app _ (Upd.rm1 _ _)) (Reord.skipC (Reord.refl _)))) ?_
            refine gk_exit (by kernel_rfl) ?_
            refine ge_seq_exit ?_
            obtain rfl := some_inj hb31
            refine ge_round_out (fun hrr => ?_) (by intro h; cases h)
            obtain rfl := hrr
            refine ge_block_hit (by kernel_rfl) ?_
            exact ge_mid fun t ht => ⟨q33, A35, n36, C37, hq34, hO38, hI32, rfl, ht.pick (l := [4]) (by kernel_rfl)⟩
        · rintro t I49 L' ⟨q42, A44, n45, C46, hq43, hO47, hI41, rfl, hK48⟩
          refine ge_at hK48 ?_
          refine ge_seq ?_
          refine gk_seq (by kernel_rfl) ?_
          refine gk_region (by kernel_rfl) ?_
          obtain ⟨y92, hx93, hr⟩ := bind_some hr
          refine gl_reord (D := (g9, .cells #[.pointer q42, .slice A44 r27.2.length n45] 51) :: (C46 ++ L)) (Reord.step1 (Upd.app _ (Upd.rm1 _ _)) (Reord.step (Upd.rmC _ _) (Reord.refl _))) ?_
          refine gl_call (by kernel_rfl) (strings_Builder_String_walk (r := y92) (g0 := g9) (q0_0 := q42) (A0_1 := A44) (c0_1 := n45) (C0_1 := C46) (a0 := (⟨r27.2⟩ : S50)) hq43 hO47 hx93 _) ?_
          rintro v I94 L95 hI96 ⟨rfl, rfl⟩
          refine gl_pure 2 [2, 3] (K' := [(2, .string y92), (3, .int .i64 0)]) (by kernel_rfl) ?_
          refine gl_atE (by kernel_rfl) ?_
          refine ge_seq ?_
          refine gk_ret (by kernel_rfl) ?_
          obtain rfl := some_inj hr
          exact ge_result trivial (ResOk.tmp (by kernel_rfl) (ResOk.tmp (by kernel_rfl) ResOk.nil)) (Imm.trans (Imm.trans (Imm.trans hI1 hI12) hI41) hI96) ⟨rfl, rfl⟩
/-! 11 tocsinlaw13_known  -/
noncomputable def tocsinlaw13_known : Option Bool :=
  Option.bind (lex_Tokens (⟨#[97, 58, 98, 123, 120, 61, 126, 34, 99, 46, 42, 34, 125, 91, 53, 109, 93, 32, 62, 32, 49, 46, 53, 101, 51, 32, 35, 32, 101, 110, 100]⟩ : ByteArray)) fun (y1 : (List S27) × Int × Int) =>
  Option.bind (lex_Span (⟨#[49, 104, 51, 48, 109]⟩ : ByteArray)) fun (y10 : Int × Int) =>
  Option.bind (lex_SpanText 1500) fun (y12 : ByteArray × Int) =>
  Option.bind (bif (y1.2.1 == 0) then
    (bif ((y1.1.length : Int) == 12) then
      (Option.bind (ix y1.1 4) fun (x21 : S27) =>
        bif (x21.f1.toList == (⟨#[99, 46, 42]⟩ : ByteArray).toList) then
        (Option.bind (ix y1.1 7) fun (x31 : S27) =>
          bif (x31.f0 == 3) then
          (bif (y10.2 == 0) then
            (bif (y10.1 == 5400000) then
              (bif (y12.2 == 0) then
                (some (y12.1.toList == (⟨#[49, 115, 53, 48, 48, 109, 115]⟩ : ByteArray).toList))
                else
                (some false))
              else
              (some false))
            else
            (some false))
          else
          (some false))
        else
        (some false))
      else
      (some false))
    else
    (some false)) fun (j14 : Bool) =>
  some j14
theorem tocsinlaw13_known_walk  {I : Imm} {r : Bool} (hG : Gl I) (hr : tocsinlaw13_known = some r) (L : Own) :
    CallsTo Tryd.prog 11 #[] I L (fun v I' L' => v = .bool r ∧ L = L') := by
  unfold tocsinlaw13_known at hr
  refine callsTo_body (N := 58) Tryd.func11 (by kernel_rfl) (by kernel_rfl) (by kernel_rfl) ?_
  refine gk_pick [] (K' := []) (by kernel_rfl) ?_
  refine gk_seq (by kernel_rfl) ?_
  refine gk_region (by kernel_rfl) ?_
  refine gl_pure 1 [] (K' := []) (by kernel_rfl) ?_
  refine gl_atE (by kernel_rfl) ?_
  refine ge_seq ?_
  refine gk_seq (by kernel_rfl) ?_
  refine gk_region (by kernel_rfl) ?_
  obtain ⟨y1, hx2, hr⟩ := bind_some hr
  refine gl_call (by kernel_rfl) (lex_Tokens_walk (r := y1) hG hx2 _) ?_
  rintro v I3 L4 hI5 ⟨A6, c7, C8, hO9, rfl, rfl⟩
  refine gl_pure 7 [1, 2] (K' := [(1, .slice A6 y1.1.length c7), (2, .int .i64 y1.2.1)]) (by kernel_rfl) ?_
  refine gl_atE (by kernel_rfl) ?_
  refine ge_seq ?_
  refine gk_seq (by kernel_rfl) ?_
  refine gk_region (by kernel_rfl) ?_
  obtain ⟨y10, hx11, hr⟩ := bind_some hr
  refine gl_callQ (by kernel_rfl) (lex_Span_walk (r := y10) (hG.mono hI5) hx11 _) ?_
  refine gl_pure 5 [1, 2, 4, 5] (K' := [(1, .slice A6 y1.1.length c7), (2, .int .i64 y1.2.1), (4, .int .i64 y10.1), (5, .int .i64 y10.2)]) (by kernel_rfl) ?_
  refine gl_atE (by kernel_rfl) ?_
  refine ge_seq ?_
  refine gk_seq (by kernel_rfl) ?_
  refine gk_region (by kernel_rfl) ?_
  obtain ⟨y12, hx13, hr⟩ := bind_some hr
  refine gl_callQ (by kernel_rfl) (lex_SpanText_walk (r := y12) (hG.mono hI5) hx13 _) ?_
  refine gl_pure 5 [1, 2, 4, 5, 6, 7] (K' := [(1, .slice A6 y1.1.length c7), (2, .int .i64 y1.2.1), (4, .int .i64 y10.1), (5, .int .i64 y10.2), (6, .string y12.1), (7, .int .i64 y12.2)]) (by kernel_rfl) ?_
  refine gl_atE (by kernel_rfl) ?_
  refine ge_seq ?_
  refine gk_seq (by kernel_rfl) ?_
  obtain ⟨j14, hj15, hr⟩ := bind_some hr
  refine gk_join (fun t I' L' => I3 ≤ I' ∧ L = L' ∧ Knows 58 [(0, .bool j14)] t) ?_ ?_
  · refine gk_region (by kernel_rfl) ?_
    refine gl_pure 3 [1, 4, 5, 6, 7, 23] (K' := [(1, .slice A6 y1.1.length c7), (4, .int .i64 y10.1), (5, .int .i64 y10.2), (6, .string y12.1), (7, .int .i64 y12.2), (23, .bool (y1.2.1 == 0))]) (by kernel_rfl) ?_
    refine gl_case 23 (b := (y1.2.1 == 0)) (by kernel_rfl) (fun hc19 => ?_) (fun hc19 => ?_)
    · have hj15 := cond_t hc19 hj15
      refine gl_pure 5 [1, 4, 5, 6, 7, 28] (K' := [(1, .slice A6 y1.1.length c7), (4, .int .i64 y10.1), (5, .int .i64 y10.2), (6, .string y12.1), (7, .int .i64 y12.2), (28, .bool ((y1.1.length : Int) == 12))]) (by kernel_rfl) ?_
      refine gl_case 28 (b := ((y1.1.length : Int) == 12)) (by kernel_rfl) (fun hc20 => ?_) (fun hc20 => ?_)
      · have hj15 := cond_t hc20 hj15
        refine gl_pure 1 [1, 4, 5, 6, 7, 28, 29] (K' := [(1, .slice A6 y1.1.length c7), (4, .int .i64 y10.1), (5, .int .i64 y10.2), (6, .string y12.1), (7, .int .i64 y12.2), (28, .bool true), (29, .slice A6 y1.1.length c7)]) (by kernel_rfl) ?_
        obtain ⟨x21, hx22, hj15⟩ := bind_some hj15
        refine gl_indexAddrW (d := kS27) (c := c7) (T' := 22) (e := 28) (xs := (.tmp 29)) (xi := (.const (.int .i64 4))) (kd := .i64) hx22 hO9 (Upd.selfC _ _) (by kernel_rfl) (by kernel_rfl) (by kernel_rfl) (by kernel_rfl) (by kernel_rfl) (fun p23 cs24 hR25 hA26 hp29 => ?_)
        obtain rfl := kS27_open hR25
        refine gl_pure 1 [1, 4, 5, 6, 7, 28, 31] (K' := [(1, .slice A6 y1.1.length c7), (4, .int .i64 y10.1), (5, .int .i64 y10.2), (6, .string y12.1), (7, .int .i64 y12.2), (28, .bool true), (31, .pointer (some (p23.add 1)))]) (by kernel_rfl) ?_
        refine gl_loadO (T' := 9) (xp := (.tmp 31)) (p := (p23.add 1)) (c := .string x21.f1) (n := 1) (by kernel_rfl) (by kernel_rfl) (by kernel_rfl) (by kernel_rfl) (hA26.drop 1) ?_
        refine gl_pure 3 [1, 4, 5, 6, 7, 35] (K' := [(1, .slice A6 y1.1.length c7), (4, .int .i64 y10.1), (5, .int .i64 y10.2), (6, .string y12.1), (7, .int .i64 y12.2), (35, .bool (x21.f1.toList == (⟨#[99, 46, 42]⟩ : ByteArray).toList))]) (by kernel_rfl) ?_
        refine gl_case 35 (b := (x21.f1.toList == (⟨#[99, 46, 42]⟩ : ByteArray).toList)) (by kernel_rfl) (fun hc30 => ?_) (fun hc30 => ?_)
        · have hj15 := cond_t hc30 hj15
          refine gl_pure 1 [4, 5, 6, 7, 35, 36] (K' := [(4, .int .i64 y10.1), (5, .int .i64 y10.2), (6, .string y12.1), (7, .int .i64 y12.2), (35, .bool true), (36, .slice A6 y1.1.length c7)]) (by kernel_rfl) ?_
          obtain ⟨x31, hx32, hj15⟩ := bind_some hj15
          refine gl_indexAddrW (d := kS27) (c := c7) (T' := 22) (e := 28) (xs := (.tmp 36)) (xi := (.const (.int .i64 7))) (kd := .i64) hx32 hO9 (Upd.selfC _ _) (by kernel_rfl) (by kernel_rfl) (by kernel_rfl) (by kernel_rfl) (by kernel_rfl) (fun p33 cs34 hR35 hA36 hp39 => ?_)
          obtain rfl := kS27_open hR35
          refine gl_pure 1 [4, 5, 6, 7, 35, 38] (K' := [(4, .int .i64 y10.1), (5, .int .i64 y10.2), (6, .string y12.1), (7, .int .i64 y12.2), (35, .bool true), (38, .pointer (some (p33.add 0)))]) (by kernel_rfl) ?_
          refine gl_loadO (T' := 3) (xp := (.tmp 38)) (p := (p33.add 0)) (c := .int .i64 x31.f0) (n := 1) (by kernel_rfl) (by kernel_rfl) (by kernel_rfl) (by kernel_rfl) (hA36.drop 0) ?_
          refine gl_pure 3 [4, 5, 6, 7, 42] (K' := [(4, .int .i64 y10.1), (5, .int .i64 y10.2), (6, .string y12.1), (7, .int .i64 y12.2), (42, .bool (x31.f0 == 3))]) (by kernel_rfl) ?_
          refine gl_case 42 (b := (x31.f0 == 3)) (by kernel_rfl) (fun hc40 => ?_) (fun hc40 => ?_)
          · have hj15 := cond_t hc40 hj15
            refine gl_pure 4 [4, 6, 7, 46] (K' := [(4, .int .i64 y10.1), (6, .string y12.1), (7, .int .i64 y12.2), (46, .bool (y10.2 == 0))]) (by kernel_rfl) ?_
            refine gl_case 46 (b := (y10.2 == 0)) (by kernel_rfl) (fun hc41 => ?_) (fun hc41 => ?_)
            · have hj15 := cond_t hc41 hj15
              refine gl_pure 4 [6, 7, 50] (K' := [(6, .string y12.1), (7, .int .i64 y12.2), (50, .bool (y10.1 == 5400000))]) (by kernel_rfl) ?_
              refine gl_case 50 (b := (y10.1 == 5400000)) (by kernel_rfl) (fun hc42 => ?_) (fun hc42 => ?_)
              · have hj15 := cond_t hc42 hj15
                refine gl_pure 4 [6, 54] (K' := [(6, .string y12.1), (54, .bool (y12.2 == 0))]) (by kernel_rfl) ?_
                refine gl_case 54 (b := (y12.2 == 0)) (by kernel_rfl) (fun hc43 => ?_) (fun hc43 => ?_)
                · have hj15 := cond_t hc43 hj15
                  refine gl_pure 4 [0] (K' := [(0, .bool (y12.1.toList == (⟨#[49, 115, 53, 48, 48, 109, 115]⟩ : ByteArray).toList))]) (by kernel_rfl) ?_
                  refine gl_reord (D := L) (Reord.skipC (Reord.refl _)) ?_
                  refine gl_atE (by kernel_rfl) ?_
                  obtain rfl := some_inj hj15
                  exact ge_mid fun t ht => ⟨(Imm.refl _), rfl, ht.pick (l := [0]) (by kernel_rfl)⟩
                · have hj15 := cond_f hc43 hj15
                  refine gl_pure 4 [0] (K' := [(0, .bool false)]) (by kernel_rfl) ?_
                  refine gl_reord (D := L) (Reord.skipC (Reord.refl _)) ?_
                  refine gl_atE (by kernel_rfl) ?_
                  obtain rfl := some_inj hj15
                  exact ge_mid fun t ht => ⟨(Imm.refl _), rfl, ht.pick (l := [0]) (by kernel_rfl)⟩
              · have hj15 := cond_f hc42 hj15
                refine gl_pure 8 [0] (K' := [(0, .bool false)]) (by kernel_rfl) ?_
                refine gl_reord (D := L) (Reord.skipC (Reord.refl _)) ?_
                refine gl_atE (by kernel_rfl) ?_
                obtain rfl := some_inj hj15
                exact ge_mid fun t ht => ⟨(Imm.refl _), rfl, ht.pick (l := [0]) (by kernel_rfl)⟩
            · have hj15 := cond_f hc41 hj15
              refine gl_pure 12 [0] (K' := [(0, .bool false)]) (by kernel_rfl) ?_
              refine gl_reord (D := L) (Reord.skipC (Reord.refl _)) ?_
              refine gl_atE (by kernel_rfl) ?_
              obtain rfl := some_inj hj15
              exact ge_mid fun t ht => ⟨(Imm.refl _), rfl, ht.pick (l := [0]) (by kernel_rfl)⟩
          · have hj15 := cond_f hc40 hj15
            refine gl_pure 16 [0] (K' := [(0, .bool false)]) (by kernel_rfl) ?_
            refine gl_reord (D := L) (Reord.skipC (Reord.refl _)) ?_
            refine gl_atE (by kernel_rfl) ?_
            obtain rfl := some_inj hj15
            exact ge_mid fun t ht => ⟨(Imm.refl _), rfl, ht.pick (l := [0]) (by kernel_rfl)⟩
        · have hj15 := cond_f hc30 hj15
          refine gl_pure 23 [0] (K' := [(0, .bool false)]) (by kernel_rfl) ?_
          refine gl_reord (D := L) (Reord.skipC (Reord.refl _)) ?_
          refine gl_atE (by kernel_rfl) ?_
          obtain rfl := some_inj hj15
          exact ge_mid fun t ht => ⟨(Imm.refl _), rfl, ht.pick (l := [0]) (by kernel_rfl)⟩
      · have hj15 := cond_f hc20 hj15
        refine gl_pure 30 [0] (K' := [(0, .bool false)]) (by kernel_rfl) ?_
        refine gl_reord (D := L) (Reord.skipC (Reord.refl _)) ?_
        refine gl_atE (by kernel_rfl) ?_
        obtain rfl := some_inj hj15
        exact ge_mid fun t ht => ⟨(Imm.refl _), rfl, ht.pick (l := [0]) (by kernel_rfl)⟩
    · have hj15 := cond_f hc19 hj15
      refine gl_pure 35 [0] (K' := [(0, .bool false)]) (by kernel_rfl) ?_
      refine gl_reord (D := L) (Reord.skipC (Reord.refl _)) ?_
      refine gl_atE (by kernel_rfl) ?_
      obtain rfl := some_inj hj15
      exact ge_mid fun t ht => ⟨(Imm.refl _), rfl, ht.pick (l := [0]) (by kernel_rfl)⟩
  · rintro t I18 L' ⟨hI16, rfl, hK17⟩
    refine ge_at hK17 ?_
    refine ge_seq ?_
    refine gk_ret (by kernel_rfl) ?_
    obtain rfl := some_inj hr
    exact ge_result trivial (ResOk.tmp (by kernel_rfl) ResOk.nil) (Imm.trans hI5 hI16) ⟨rfl, rfl⟩
/-! 5 tocsinlaw13_LexJoins  -/
noncomputable def tocsinlaw13_LexJoins (a0 : ByteArray) (a1 : List S27) (a2 : List S27) : Option Bool :=
  Option.bind (app ([] : List S27) a1) fun (zs1 : List S27) =>
  Option.bind (app zs1 [(⟨77, (⟨#[]⟩ : ByteArray), 0⟩ : S27)]) fun (zs11 : List S27) =>
  Option.bind (lx zs11 0 (a1.length : Int)) fun (l18 : List S27) =>
  Option.bind (lex_Join l18) fun (y21 : ByteArray × Int) =>
  Option.bind (tocsinref13_Join a1) fun (y23 : ByteArray × Int) =>
  Option.bind (lex_Quote a0) fun (y25 : ByteArray × Int) =>
  Option.bind (tocsinref13_Quote a0) fun (y27 : ByteArray × Int) =>
  Option.bind (bif (y21.1.toList == y23.1.toList) then
    (bif (y21.2 == y23.2) then
      (bif (y25.1.toList == y27.1.toList) then
        (bif (y25.2 == y27.2) then
          (Option.bind (lex_Same a1 a2) fun (y38 : Bool) =>
            Option.bind (tocsinref13_Same a1 a2) fun (y40 : Bool) =>
            bif (y38 == y40) then
            (Option.bind (lex_Same a1 a1) fun (y43 : Bool) =>
              bif y43 then
              (Option.bind (lx zs11 0 (a1.length : Int)) fun (l47 : List S27) =>
                Option.bind (tocsinlaw13_whole l47 a1) fun (y50 : Bool) =>
                bif y50 then
                (Option.bind (ix zs11 (a1.length : Int)) fun (x53 : S27) =>
                  bif (x53.f0 == 77) then
                  (Option.bind tocsinlaw13_known fun (y63 : Bool) =>
                    some y63)
                  else
                  (some false))
                else
                (some false))
              else
              (some false))
            else
            (some false))
          else
          (some false))
        else
        (some false))
      else
      (some false))
    else
    (some false)) fun (j29 : Bool) =>
  some j29
theorem tocsinlaw13_LexJoins_walk {a0 : ByteArray} {a1 : List S27} {A1_0 : Option Addr} {n1_0 : Nat} {a2 : List S27} {A2_0 : Option Addr} {n2_0 : Nat} {I : Imm} {r : Bool} (hG : Gl I)  (hf1_0 : RepS kS27 I A1_0 n1_0 a1)  (hf2_0 : RepS kS27 I A2_0 n2_0 a2) (hr : tocsinlaw13_LexJoins a0 a1 a2 = some r) (L : Own) :
    CallsTo Tryd.prog 5 #[.string a0, .slice A1_0 a1.length n1_0, .slice A2_0 a2.length n2_0] I L (fun v I' L' => v = .bool r ∧ L = L') := by
  unfold tocsinlaw13_LexJoins at hr
  refine callsTo_body (N := 98) Tryd.func5 (by kernel_rfl) (by kernel_rfl) (by kernel_rfl) ?_
  refine gk_pick [0, 1, 2] (K' := [(0, .string a0), (1, .slice A1_0 a1.length n1_0), (2, .slice A2_0 a2.length n2_0)]) (by kernel_rfl) ?_
  refine gk_seq (by kernel_rfl) ?_
  refine gk_region (by kernel_rfl) ?_
  refine gl_pure 1 [0, 1, 2] (K' := [(0, .string a0), (1, .slice A1_0 a1.length n1_0), (2, .slice A2_0 a2.length n2_0)]) (by kernel_rfl) ?_
  refine gl_atE (by kernel_rfl) ?_
  refine ge_seq ?_
  refine gk_seq (by kernel_rfl) ?_
  refine gk_region (by kernel_rfl) ?_
  refine gl_pure 1 [0, 1, 2, 7] (K' := [(0, .string a0), (1, .slice A1_0 a1.length n1_0), (2, .slice A2_0 a2.length n2_0), (7, .slice none 0 0)]) (by kernel_rfl) ?_
  refine gl_atE (by kernel_rfl) ?_
  refine ge_seq ?_
  refine gk_seq (by kernel_rfl) ?_
  refine gk_region (by kernel_rfl) ?_
  refine gl_pure 2 [0, 1, 2, 16, 17] (K' := [(0, .string a0), (1, .slice A1_0 a1.length n1_0), (2, .slice A2_0 a2.length n2_0), (16, .slice none 0 0), (17, .slice A1_0 a1.length n1_0)]) (by kernel_rfl) ?_
  obtain ⟨zs1, hz2, hr⟩ := bind_some hr
  refine gl_append (xv := .slice A1_0 a1.length n1_0) (d := kS27) (t := 22) (tx := 22) (e := 28) (s := (.tmp 16)) (x := (.tmp 17)) (xs := []) (A := none) (c := 0) (C := []) (fun X => X ++ L) hz2 (by kernel_rfl) (by kernel_rfl) (by kernel_rfl) (by kernel_rfl) (by kernel_rfl) (by kernel_rfl) (fun X => Upd.new X _) (OwnS.nil _ _ _ none) (SrcOk.slice (c := n1_0) (e := 28) (n := 3) (RepS.rd hf1_0 _) (by kernel_rfl)) (fun A3 n4 C5 hO6 => ?_)
  refine gl_pure 1 [0, 1, 2, 7] (K' := [(0, .string a0), (1, .slice A1_0 a1.length n1_0), (2, .slice A2_0 a2.length n2_0), (7, .slice A3 zs1.length n4)]) (by kernel_rfl) ?_
  refine gl_atE (by kernel_rfl) ?_
  refine ge_seq ?_
  refine gk_seq (by kernel_rfl) ?_
  refine gk_region (by kernel_rfl) ?_
  refine gl_pure 2 [0, 1, 2, 19, 20] (K' := [(0, .string a0), (1, .slice A1_0 a1.length n1_0), (2, .slice A2_0 a2.length n2_0), (19, .slice A3 zs1.length n4), (20, .agg #[.int .i64 77, .string (⟨#[]⟩ : ByteArray), .int .i64 0])]) (by kernel_rfl) ?_
  refine gl_buildSlice (T' := 22) (e := 28) (n := 3) (len := 1) (parts := #[(0, (.tmp 20))]) (l := [(0, .agg #[.int .i64 77, .string (⟨#[]⟩ : ByteArray), .int .i64 0])]) (cs := #[.int .i64 77, .string (⟨#[]⟩ : ByteArray), .int .i64 0]) (by kernel_rfl) (by kernel_rfl) (by kernel_rfl) (by kernel_rfl) (by kernel_rfl) (fun g7 => ?_)
  have hO8 : OwnS kS27 28 I (some ⟨g7, 0, none⟩) 1 [(⟨77, (⟨#[]⟩ : ByteArray), 0⟩ : S27)] [(g7, .cells #[.int .i64 77, .string (⟨#[]⟩ : ByteArray), .int .i64 0] 28)] := OwnS.lit (row_cons (l := [.int .i64 77, .string (⟨#[]⟩ : ByteArray), .int .i64 0]) (kS27_mk (x := (⟨77, (⟨#[]⟩ : ByteArray), 0⟩ : S27)) ) (row_nil _ _)) rfl rfl rfl
  refine gl_reord (D := [(g7, .cells #[.int .i64 77, .string (⟨#[]⟩ : ByteArray), .int .i64 0] 28)] ++ (C5 ++ L)) (Reord.refl _) ?_
  obtain ⟨zs11, hz12, hr⟩ := bind_some hr
  refine gl_append (xv := .slice (some ⟨g7, 0, none⟩) [(⟨77, (⟨#[]⟩ : ByteArray), 0⟩ : S27)].length 1) (d := kS27) (t := 22) (tx := 22) (e := 28) (s := (.tmp 19)) (x := (.tmp 21)) (xs := zs1) (fun X => [(g7, .cells #[.int .i64 77, .string (⟨#[]⟩ : ByteArray), .int .i64 0] 28)] ++ (X ++ L)) hz12 (by kernel_rfl) (by kernel_rfl) (by kernel_rfl) (by kernel_rfl) (by kernel_rfl) (by kernel_rfl) (fun X => (Upd.app _ (Upd.head _ X _))) hO6 (SrcOk.slice (c := 1) (e := 28) (n := 3) (OwnS.rd hO8 (Upd.selfC _ _)) (by kernel_rfl)) (fun A13 n14 C15 hO16 => ?_)
  refine gl_pure 1 [0, 1, 2, 7] (K' := [(0, .string a0), (1, .slice A1_0 a1.length n1_0), (2, .slice A2_0 a2.length n2_0), (7, .slice A13 zs11.length n14)]) (by kernel_rfl) ?_
  refine gl_atE (by kernel_rfl) ?_
  refine ge_seq ?_
  refine gk_seq (by kernel_rfl) ?_
  refine gk_region (by kernel_rfl) ?_
  refine gl_pure 3 [0, 1, 2, 7, 24, 26] (K' := [(0, .string a0), (1, .slice A1_0 a1.length n1_0), (2, .slice A2_0 a2.length n2_0), (7, .slice A13 zs11.length n14), (24, .slice A13 zs11.length n14), (26, .int .i64 (a1.length : Int))]) (by kernel_rfl) ?_
  obtain ⟨l18, hx17, hr⟩ := bind_some hr
  have hlc19 := OwnS.lenc hO16
  have hd20 := lx_take hx17
  refine gl_sliceH (A := A13) (c := n14) (n := 3) (T' := 22) (e := 28) (xs := (.tmp 24)) (lo := none) (hi := (some (.tmp 26))) hx17 hlc19 (by kernel_rfl) (by kernel_rfl) (by kernel_rfl) (by kernel_rfl) (by kernel_rfl) (by kernel_rfl) ?_
  obtain ⟨y21, hx22, hr⟩ := bind_some hr
  refine gl_callB (r := .tuple #[.string y21.1, .int .i64 y21.2]) (Tk.step (Upd.app _ (Upd.rmC _ _)) (Tk.nil _)) (by kernel_rfl) (fun J hJ hC => lex_Join_walk (r := y21) (hG.mono hJ) (RepS.head hd20 (OwnS.rest hO16 hJ hC.left)) hx22 _) ?_
  refine gl_pure 5 [0, 1, 2, 7, 8, 9] (K' := [(0, .string a0), (1, .slice A1_0 a1.length n1_0), (2, .slice A2_0 a2.length n2_0), (7, .slice A13 zs11.length n14), (8, .string y21.1), (9, .int .i64 y21.2)]) (by kernel_rfl) ?_
  refine gl_atE (by kernel_rfl) ?_
  refine ge_seq ?_
  refine gk_seq (by kernel_rfl) ?_
  refine gk_region (by kernel_rfl) ?_
  refine gl_pure 1 [0, 1, 2, 7, 8, 9, 32] (K' := [(0, .string a0), (1, .slice A1_0 a1.length n1_0), (2, .slice A2_0 a2.length n2_0), (7, .slice A13 zs11.length n14), (8, .string y21.1), (9, .int .i64 y21.2), (32, .slice A1_0 a1.length n1_0)]) (by kernel_rfl) ?_
  obtain ⟨y23, hx24, hr⟩ := bind_some hr
  refine gl_callQ (by kernel_rfl) (tocsinref13_Join_walk (r := y23) hf1_0 hx24 _) ?_
  refine gl_pure 5 [0, 1, 2, 7, 8, 9, 10, 11] (K' := [(0, .string a0), (1, .slice A1_0 a1.length n1_0), (2, .slice A2_0 a2.length n2_0), (7, .slice A13 zs11.length n14), (8, .string y21.1), (9, .int .i64 y21.2), (10, .string y23.1), (11, .int .i64 y23.2)]) (by kernel_rfl) ?_
  refine gl_atE (by kernel_rfl) ?_
  refine ge_seq ?_
  refine gk_seq (by kernel_rfl) ?_
  refine gk_region (by kernel_rfl) ?_
  refine gl_pure 1 [0, 1, 2, 7, 8, 9, 10, 11, 37] (K' := [(0, .string a0), (1, .slice A1_0 a1.length n1_0), (2, .slice A2_0 a2.length n2_0), (7, .slice A13 zs11.length n14), (8, .string y21.1), (9, .int .i64 y21.2), (10, .string y23.1), (11, .int .i64 y23.2), (37, .string a0)]) (by kernel_rfl) ?_
  obtain ⟨y25, hx26, hr⟩ := bind_some hr
  refine gl_callQ (by kernel_rfl) (lex_Quote_walk (r := y25) hG hx26 _) ?_
  refine gl_pure 5 [0, 1, 2, 7, 8, 9, 10, 11, 12, 13] (K' := [(0, .string a0), (1, .slice A1_0 a1.length n1_0), (2, .slice A2_0 a2.length n2_0), (7, .slice A13 zs11.length n14), (8, .string y21.1), (9, .int .i64 y21.2), (10, .string y23.1), (11, .int .i64 y23.2), (12, .string y25.1), (13, .int .i64 y25.2)]) (by kernel_rfl) ?_
  refine gl_atE (by kernel_rfl) ?_
  refine ge_seq ?_
  refine gk_seq (by kernel_rfl) ?_
  refine gk_region (by kernel_rfl) ?_
  refine gl_pure 1 [1, 2, 7, 8, 9, 10, 11, 12, 13, 42] (K' := [(1, .slice A1_0 a1.length n1_0), (2, .slice A2_0 a2.length n2_0), (7, .slice A13 zs11.length n14), (8, .string y21.1), (9, .int .i64 y21.2), (10, .string y23.1), (11, .int .i64 y23.2), (12, .string y25.1), (13, .int .i64 y25.2), (42, .string a0)]) (by kernel_rfl) ?_
  obtain ⟨y27, hx28, hr⟩ := bind_some hr
  refine gl_callQ (by kernel_rfl) (tocsinref13_Quote_walk (r := y27)  hx28 _) ?_
  refine gl_pure 5 [1, 2, 7, 8, 9, 10, 11, 12, 13, 14, 15] (K' := [(1, .slice A1_0 a1.length n1_0), (2, .slice A2_0 a2.length n2_0), (7, .slice A13 zs11.length n14), (8, .string y21.1), (9, .int .i64 y21.2), (10, .string y23.1), (11, .int .i64 y23.2), (12, .string y25.1), (13, .int .i64 y25.2), (14, .string y27.1), (15, .int .i64 y27.2)]) (by kernel_rfl) ?_
  refine gl_atE (by kernel_rfl) ?_
  refine ge_seq ?_
  refine gk_seq (by kernel_rfl) ?_
  obtain ⟨j29, hj30, hr⟩ := bind_some hr
  refine gk_join (fun t I' L' => I ≤ I' ∧ L = L' ∧ Knows 98 [(6, .bool j29)] t) ?_ ?_
  · refine gk_region (by kernel_rfl) ?_
    refine gl_pure 4 [1, 2, 7, 9, 11, 12, 13, 14, 15, 49] (K' := [(1, .slice A1_0 a1.length n1_0), (2, .slice A2_0 a2.length n2_0), (7, .slice A13 zs11.length n14), (9, .int .i64 y21.2), (11, .int .i64 y23.2), (12, .string y25.1), (13, .int .i64 y25.2), (14, .string y27.1), (15, .int .i64 y27.2), (49, .bool (y21.1.toList == y23.1.toList))]) (by kernel_rfl) ?_
    refine gl_case 49 (b := (y21.1.toList == y23.1.toList)) (by kernel_rfl) (fun hc34 => ?_) (fun hc34 => ?_)
    · have hj30 := cond_t hc34 hj30
      refine gl_pure 5 [1, 2, 7, 12, 13, 14, 15, 54] (K' := [(1, .slice A1_0 a1.length n1_0), (2, .slice A2_0 a2.length n2_0), (7, .slice A13 zs11.length n14), (12, .string y25.1), (13, .int .i64 y25.2), (14, .string y27.1), (15, .int .i64 y27.2), (54, .bool (y21.2 == y23.2))]) (by kernel_rfl) ?_
      refine gl_case 54 (b := (y21.2 == y23.2)) (by kernel_rfl) (fun hc35 => ?_) (fun hc35 => ?_)
      · have hj30 := cond_t hc35 hj30
        refine gl_pure 5 [1, 2, 7, 13, 15, 59] (K' := [(1, .slice A1_0 a1.length n1_0), (2, .slice A2_0 a2.length n2_0), (7, .slice A13 zs11.length n14), (13, .int .i64 y25.2), (15, .int .i64 y27.2), (59, .bool (y25.1.toList == y27.1.toList))]) (by kernel_rfl) ?_
        refine gl_case 59 (b := (y25.1.toList == y27.1.toList)) (by kernel_rfl) (fun hc36 => ?_) (fun hc36 => ?_)
        · have hj30 := cond_t hc36 hj30
          refine gl_pure 5 [1, 2, 7, 64] (K' := [(1, .slice A1_0 a1.length n1_0), (2, .slice A2_0 a2.length n2_0), (7, .slice A13 zs11.length n14), (64, .bool (y25.2 == y27.2))]) (by kernel_rfl) ?_
          refine gl_case 64 (b := (y25.2 == y27.2)) (by kernel_rfl) (fun hc37 => ?_) (fun hc37 => ?_)
          · have hj30 := cond_t hc37 hj30
            refine gl_pure 2 [1, 2, 7, 64, 65, 66] (K' := [(1, .slice A1_0 a1.length n1_0), (2, .slice A2_0 a2.length n2_0), (7, .slice A13 zs11.length n14), (64, .bool true), (65, .slice A1_0 a1.length n1_0), (66, .slice A2_0 a2.length n2_0)]) (by kernel_rfl) ?_
            obtain ⟨y38, hx39, hj30⟩ := bind_some hj30
            refine gl_callQ (by kernel_rfl) (lex_Same_walk (r := y38) hf1_0 hf2_0 hx39 _) ?_
            refine gl_pure 2 [1, 7, 64, 67, 68, 69] (K' := [(1, .slice A1_0 a1.length n1_0), (7, .slice A13 zs11.length n14), (64, .bool true), (67, .bool y38), (68, .slice A1_0 a1.length n1_0), (69, .slice A2_0 a2.length n2_0)]) (by kernel_rfl) ?_
            obtain ⟨y40, hx41, hj30⟩ := bind_some hj30
            refine gl_callQ (by kernel_rfl) (tocsinref13_Same_walk (r := y40) hf1_0 hf2_0 hx41 _) ?_
            refine gl_pure 3 [1, 7, 73] (K' := [(1, .slice A1_0 a1.length n1_0), (7, .slice A13 zs11.length n14), (73, .bool (y38 == y40))]) (by kernel_rfl) ?_
            refine gl_case 73 (b := (y38 == y40)) (by kernel_rfl) (fun hc42 => ?_) (fun hc42 => ?_)
            · have hj30 := cond_t hc42 hj30
              refine gl_pure 2 [1, 7, 73, 74, 75] (K' := [(1, .slice A1_0 a1.length n1_0), (7, .slice A13 zs11.length n14), (73, .bool true), (74, .slice A1_0 a1.length n1_0), (75, .slice A1_0 a1.length n1_0)]) (by kernel_rfl) ?_
              obtain ⟨y43, hx44, hj30⟩ := bind_some hj30
              refine gl_callQ (by kernel_rfl) (lex_Same_walk (r := y43) hf1_0 hf1_0 hx44 _) ?_
              refine gl_pure 2 [1, 7, 78] (K' := [(1, .slice A1_0 a1.length n1_0), (7, .slice A13 zs11.length n14), (78, .bool y43)]) (by kernel_rfl) ?_
              refine gl_case 78 (b := y43) (by kernel_rfl) (fun hc45 => ?_) (fun hc45 => ?_)
              · have hj30 := cond_t hc45 hj30
                refine gl_pure 3 [1, 7, 78, 79, 81] (K' := [(1, .slice A1_0 a1.length n1_0), (7, .slice A13 zs11.length n14), (78, .bool true), (79, .slice A13 zs11.length n14), (81, .int .i64 (a1.length : Int))]) (by kernel_rfl) ?_
                obtain ⟨l47, hx46, hj30⟩ := bind_some hj30
                have hlc48 := OwnS.lenc hO16
                have hd49 := lx_take hx46
                refine gl_sliceH (A := A13) (c := n14) (n := 3) (T' := 22) (e := 28) (xs := (.tmp 79)) (lo := none) (hi := (some (.tmp 81))) hx46 hlc48 (by kernel_rfl) (by kernel_rfl) (by kernel_rfl) (by kernel_rfl) (by kernel_rfl) (by kernel_rfl) ?_
                refine gl_pure 1 [1, 7, 78, 82, 83] (K' := [(1, .slice A1_0 a1.length n1_0), (7, .slice A13 zs11.length n14), (78, .bool true), (82, .slice A13 l47.length n14), (83, .slice A1_0 a1.length n1_0)]) (by kernel_rfl) ?_
                obtain ⟨y50, hx51, hj30⟩ := bind_some hj30
                refine gl_callB (r := .bool y50) (Tk.step (Upd.app _ (Upd.rmC _ _)) (Tk.nil _)) (by kernel_rfl) (fun J hJ hC => tocsinlaw13_whole_walk (r := y50) (RepS.head hd49 (OwnS.rest hO16 hJ hC.left)) (hf1_0.mono hJ) hx51 _) ?_
                refine gl_pure 2 [1, 7, 86] (K' := [(1, .slice A1_0 a1.length n1_0), (7, .slice A13 zs11.length n14), (86, .bool y50)]) (by kernel_rfl) ?_
                refine gl_case 86 (b := y50) (by kernel_rfl) (fun hc52 => ?_) (fun hc52 => ?_)
                · have hj30 := cond_t hc52 hj30
                  refine gl_pure 3 [86, 87, 89] (K' := [(86, .bool true), (87, .slice A13 zs11.length n14), (89, .int .i64 (a1.length : Int))]) (by kernel_rfl) ?_
                  obtain ⟨x53, hx54, hj30⟩ := bind_some hj30
                  refine gl_indexAddrW (d := kS27) (c := n14) (T' := 22) (e := 28) (xs := (.tmp 87)) (xi := (.tmp 89)) (kd := .i64) hx54 hO16 (Upd.app _ (Upd.selfC _ _)) (by kernel_rfl) (by kernel_rfl) (by kernel_rfl) (by kernel_rfl) (by kernel_rfl) (fun p55 cs56 hR57 hA58 hp61 => ?_)
                  obtain rfl := kS27_open hR57
                  refine gl_pure 1 [86, 91] (K' := [(86, .bool true), (91, .pointer (some (p55.add 0)))]) (by kernel_rfl) ?_
                  refine gl_loadO (T' := 3) (xp := (.tmp 91)) (p := (p55.add 0)) (c := .int .i64 x53.f0) (n := 1) (by kernel_rfl) (by kernel_rfl) (by kernel_rfl) (by kernel_rfl) (hA58.drop 0) ?_
                  refine gl_pure 3 [95] (K' := [(95, .bool (x53.f0 == 77))]) (by kernel_rfl) ?_
                  refine gl_case 95 (b := (x53.f0 == 77)) (by kernel_rfl) (fun hc62 => ?_) (fun hc62 => ?_)
                  · have hj30 := cond_t hc62 hj30
                    obtain ⟨y63, hx64, hj30⟩ := bind_some hj30
                    refine gl_callQ (by kernel_rfl) (tocsinlaw13_known_walk (r := y63) hG hx64 _) ?_
                    refine gl_pure 2 [6] (K' := [(6, .bool y63)]) (by kernel_rfl) ?_
                    refine gl_reord (D := L) (Reord.skipC (Reord.skipC (Reord.refl _))) ?_
                    refine gl_atE (by kernel_rfl) ?_
                    obtain rfl := some_inj hj30
                    exact ge_mid fun t ht => ⟨(Imm.refl _), rfl, ht.pick (l := [6]) (by kernel_rfl)⟩
                  · have hj30 := cond_f hc62 hj30
                    refine gl_pure 3 [6] (K' := [(6, .bool false)]) (by kernel_rfl) ?_
                    refine gl_reord (D := L) (Reord.skipC (Reord.skipC (Reord.refl _))) ?_
                    refine gl_atE (by kernel_rfl) ?_
                    obtain rfl := some_inj hj30
                    exact ge_mid fun t ht => ⟨(Imm.refl _), rfl, ht.pick (l := [6]) (by kernel_rfl)⟩
                · have hj30 := cond_f hc52 hj30
                  refine gl_pure 12 [6] (K' := [(6, .bool false)]) (by kernel_rfl) ?_
                  refine gl_reord (D := L) (Reord.skipC (Reord.skipC (Reord.refl _))) ?_
                  refine gl_atE (by kernel_rfl) ?_
                  obtain rfl := some_inj hj30
                  exact ge_mid fun t ht => ⟨(Imm.refl _), rfl, ht.pick (l := [6]) (by kernel_rfl)⟩
              · have hj30 := cond_f hc45 hj30
                refine gl_pure 20 [6] (K' := [(6, .bool false)]) (by kernel_rfl) ?_
                refine gl_reord (D := L) (Reord.skipC (Reord.skipC (Reord.refl _))) ?_
                refine gl_atE (by kernel_rfl) ?_
                obtain rfl := some_inj hj30
                exact ge_mid fun t ht => ⟨(Imm.refl _), rfl, ht.pick (l := [6]) (by kernel_rfl)⟩
            · have hj30 := cond_f hc42 hj30
              refine gl_pure 25 [6] (K' := [(6, .bool false)]) (by kernel_rfl) ?_
              refine gl_reord (D := L) (Reord.skipC (Reord.skipC (Reord.refl _))) ?_
              refine gl_atE (by kernel_rfl) ?_
              obtain rfl := some_inj hj30
              exact ge_mid fun t ht => ⟨(Imm.refl _), rfl, ht.pick (l := [6]) (by kernel_rfl)⟩
          · have hj30 := cond_f hc37 hj30
            refine gl_pure 34 [6] (K' := [(6, .bool false)]) (by kernel_rfl) ?_
            refine gl_reord (D := L) (Reord.skipC (Reord.skipC (Reord.refl _))) ?_
            refine gl_atE (by kernel_rfl) ?_
            obtain rfl := some_inj hj30
            exact ge_mid fun t ht => ⟨(Imm.refl _), rfl, ht.pick (l := [6]) (by kernel_rfl)⟩
        · have hj30 := cond_f hc36 hj30
          refine gl_pure 39 [6] (K' := [(6, .bool false)]) (by kernel_rfl) ?_
          refine gl_reord (D := L) (Reord.skipC (Reord.skipC (Reord.refl _))) ?_
          refine gl_atE (by kernel_rfl) ?_
          obtain rfl := some_inj hj30
          exact ge_mid fun t ht => ⟨(Imm.refl _), rfl, ht.pick (l := [6]) (by kernel_rfl)⟩
      · have hj30 := cond_f hc35 hj30
        refine gl_pure 44 [6] (K' := [(6, .bool false)]) (by kernel_rfl) ?_
        refine gl_reord (D := L) (Reord.skipC (Reord.skipC (Reord.refl _))) ?_
        refine gl_atE (by kernel_rfl) ?_
        obtain rfl := some_inj hj30
        exact ge_mid fun t ht => ⟨(Imm.refl _), rfl, ht.pick (l := [6]) (by kernel_rfl)⟩
    · have hj30 := cond_f hc34 hj30
      refine gl_pure 49 [6] (K' := [(6, .bool false)]) (by kernel_rfl) ?_
      refine gl_reord (D := L) (Reord.skipC (Reord.skipC (Reord.refl _))) ?_
      refine gl_atE (by kernel_rfl) ?_
      obtain rfl := some_inj hj30
      exact ge_mid fun t ht => ⟨(Imm.refl _), rfl, ht.pick (l := [6]) (by kernel_rfl)⟩
  · rintro t I33 L' ⟨hI31, rfl, hK32⟩
    refine ge_at hK32 ?_
    refine ge_seq ?_
    refine gk_ret (by kernel_rfl) ?_
    obtain rfl := some_inj hr
    exact ge_result trivial (ResOk.tmp (by kernel_rfl) ResOk.nil) hI31 ⟨rfl, rfl⟩
end Go.Proofs.YtlhpclfkoblnkaaDoor

/- From data that are read to what the walks ask: rows. -/
set_option linter.unusedVariables false
namespace Go.GB
open Go Go.RowKit
open Go.Proofs.YtlhpclfkoblnkaaDoor.Rows (uptoBulk uptoBulkAll)

def immOf (W : World) : Imm := ⟨fun b => W.heap[b]?, W.os, W.tape, W.output, 0⟩
theorem holds_immOf (W : World) : Holds (immOf W) [] W := ⟨fun _ _ h => h, by simp, by simp, by simp, rfl, rfl, rfl, Nat.zero_le _⟩
theorem below_of {I' : Imm} {L' : Own} {W W' : World} (h : Holds I' L' W') (hI : immOf W ≤ I') : Below W.heap.size W W' := by
  refine ⟨by rw [h.os, hI.os]; rfl, by rw [h.tape, hI.tape]; rfl, by rw [h.out, hI.out]; rfl, ?_, fun k hk => ?_⟩
  · rcases Nat.eq_zero_or_pos W.heap.size with h0 | h0
    · omega
    · have : W.heap[W.heap.size - 1]? = some (W.heap[W.heap.size - 1]'(by omega)) := Array.getElem?_eq_getElem _
      have := lt_of_heap (h.imm _ _ (hI.h _ _ this))
      omega
  · have : W.heap[k]? = some (W.heap[k]) := Array.getElem?_eq_getElem hk
    rw [this]; exact h.imm _ _ (hI.h _ _ this)
theorem imm_cell {W : World} {a : Addr} {v : Value} (h : W.cell? a = some v) : (immOf W).cell a = some v := h
theorem run_of_cells {W : World} {a : Addr} {n : Nat} {cs : List Value} (h : W.cells? 0 a n = some cs) : RunAt (immOf W) a cs := fun j v hj => by
  unfold World.cells? at h
  rw [if_pos (Nat.zero_le _)] at h
  have hl := mapM_some_length h
  have hj' : j < n := by have := (List.getElem?_eq_some_iff.1 hj).1; simpa [hl] using this
  have := mapM_some_get h j j (by simp [hj'])
  exact imm_cell (this.trans hj)

def Reads {α : Type} (P : Program) (T : TypeId) (d : Kd α) (w : α → Nat → Prop) : Prop := ∀ {H : Type} {enc : TypeId × Value → H} {W : World} {spare : Nat → Bool} {held : Bool} {fuel : Nat} {cs : List Value} {x : DataW H × List MemPlace},
  DataW.trod enc P W 0 spare held fuel T cs = some x → uptoBulk x.1 ≤ 1048576 → ∃ y, d.R (immOf W) y cs ∧ w y (uptoBulk x.1)
theorem reads_int {P : Program} {T : TypeId} {k : IntKind} (h : P.underlying T = some (.int k)) : Reads P T (Kd.int k) (wInt k) := fun ht _ => by
  obtain ⟨n, rfl, _, hw⟩ := DataW.trod_int h ht
  simp only [Lit.wf, Bool.and_eq_true, decide_eq_true_eq] at hw
  exact ⟨n, rfl, hw⟩
theorem reads_str {P : Program} {T : TypeId} (h : P.underlying T = some .string) : Reads P T Kd.str wStr := fun ht _ => by
  obtain ⟨n, rfl, rfl, _⟩ := DataW.trod_string h ht
  exact ⟨n, rfl, by simp [uptoBulk, wStr]⟩
theorem bulk_pos {H : Type} (d : DataW H) : 1 ≤ uptoBulk d := by
  cases d with
  | lit l => cases l <;> simp [uptoBulk]
  | _ => simp [uptoBulk]
theorem bulkAll_ge {H : Type} : ∀ (l : List (DataW H)), l.length ≤ uptoBulkAll l
  | [] => by simp
  | d :: r => by have := bulk_pos d; have := bulkAll_ge r; simp only [uptoBulkAll, List.length_cons]; omega
theorem bulkAll_mem {H : Type} {d : DataW H} : ∀ {l : List (DataW H)}, d ∈ l → uptoBulk d ≤ uptoBulkAll l
  | [], h => by cases h
  | e :: r, h => by
    simp only [uptoBulkAll]
    rcases List.mem_cons.1 h with rfl | h
    · omega
    · have := bulkAll_mem h; omega
theorem choose_list {α : Type} {p : Nat → α → Prop} : ∀ (n : Nat), (∀ i, i < n → ∃ y, p i y) → ∃ xs : List α, xs.length = n ∧ ∀ i x, xs[i]? = some x → p i x
  | 0, _ => ⟨[], rfl, fun i x h => by simp at h⟩
  | m + 1, key => by
    obtain ⟨xs, hxl, hx⟩ := choose_list m (fun i hi => key i (by omega))
    obtain ⟨y, hy⟩ := key m (by omega)
    refine ⟨xs ++ [y], by simp [hxl], fun i x h => ?_⟩
    rcases Nat.lt_or_ge i m with hi | hi
    · rw [List.getElem?_append_left (by omega)] at h; exact hx i x h
    · rw [List.getElem?_append_right (by omega), hxl] at h
      have hi0 : i - m = 0 := by have := (List.getElem?_eq_some_iff.1 h).1; simpa using this
      rw [hi0] at h
      simp only [List.getElem?_cons_zero, Option.some.injEq] at h
      subst h
      rw [show i = m from by omega]
      exact hy
theorem wSl_of {α H : Type} {w : α → Nat → Prop} : ∀ (xs : List α) (es : List (DataW H)), xs.length = es.length → (∀ (i : Nat) (x : α) (e : DataW H), xs[i]? = some x → es[i]? = some e → w x (uptoBulk e)) → wSl w xs (uptoBulkAll es)
  | [], _, _, _ => trivial
  | x :: r, [], h, _ => by simp at h
  | x :: r, e :: es, h, hw => ⟨uptoBulk e, uptoBulkAll es, hw 0 x e rfl rfl, wSl_of r es (by simpa using h) (fun i x' e' h1 h2 => hw (i + 1) x' e' (by simpa using h1) (by simpa using h2)), by simp [uptoBulkAll], bulk_pos e⟩
theorem reads_slice {α : Type} {P : Program} {T e : TypeId} {d : Kd α} {w : α → Nat → Prop} (hu : P.underlying T = some (.slice e)) (hn : P.cellsOf e = d.n) (hr : Reads P e d w) : Reads P T (Kd.sl d) (wSl w) := by
  intro H enc W spare held fuel cs x ht hb
  rcases DataW.trod_slice hu ht with ⟨rfl, rfl⟩ | ⟨a, len, cap, elems, rest, n, rfl, rfl, rfl, _, hlc, hcm, hel, hat, _, _⟩
  · exact ⟨[], ⟨none, 0, rfl, RepS.nil _ _⟩, trivial⟩
  · simp only [uptoBulk] at hb
    have hlen := bulkAll_ge (elems.map (·.1))
    rw [List.length_map, hel] at hlen
    have key : ∀ i, i < len → ∃ y, (∃ cs', d.R (immOf W) y cs' ∧ RunAt (immOf W) (a.add (i * d.n)) cs') ∧ ∀ e, (elems.map (·.1))[i]? = some e → w y (uptoBulk e) := fun i hi => by
      have h1 := hat i hi
      have hie : i < elems.length := by omega
      rw [List.getElem?_eq_getElem hie] at h1
      simp only [Option.bind_eq_some_iff] at h1
      obtain ⟨cs', h2, h3⟩ := h1
      obtain ⟨y, hy, hw⟩ := hr h3 (by
        have := bulkAll_mem (l := elems.map (·.1)) (List.mem_map_of_mem (List.getElem_mem hie))
        omega)
      refine ⟨y, ⟨cs', hy, ?_⟩, fun e he => ?_⟩
      · rw [← hn]
        exact run_of_cells h2
      · rw [List.getElem?_map, List.getElem?_eq_getElem hie] at he
        cases he; exact hw
    have hex := choose_list (p := fun i y => (∃ cs', d.R (immOf W) y cs' ∧ RunAt (immOf W) (a.add (i * d.n)) cs') ∧ ∀ e, (elems.map (·.1))[i]? = some e → w y (uptoBulk e)) len key
    obtain ⟨xs, hxl, hx⟩ := hex
    refine ⟨xs, ⟨some a, cap, by rw [hxl], by omega, by unfold maxLen'; omega, fun i x h => ?_⟩, ?_⟩
    · obtain ⟨⟨cs', h1, h2⟩, _⟩ := hx i x h
      exact ⟨a, cs', rfl, h1, h2⟩
    · exact (wSl_of xs (elems.map (·.1)) (by simp [hxl, hel]) (fun i x e h1 h2 => (hx i x h1).2 e h2)).le (by simp only [uptoBulk]; omega)
theorem pairR {α β : Type} {a : Kd α} {b : Kd β} {I : Imm} {x : α} {y : β} {cs : List Value} {o n m : Nat} (h0 : a.R I x ((cs.drop o).take n)) (h1 : b.R I y (cs.drop m)) (hm : m = o + n) : (Kd.pair a b).R I (x, y) (cs.drop o) := by
  subst hm
  exact ⟨(cs.drop o).take n, (cs.drop o).drop n, (List.take_append_drop _ _).symm, h0, by rw [List.drop_drop]; exact h1⟩
theorem lastR {α : Type} {a : Kd α} {I : Imm} {x : α} {cs : List Value} {o n : Nat} (h : a.R I x ((cs.drop o).take n)) (hl : cs.length = o + n) : a.R I x (cs.drop o) := by
  rwa [List.take_of_length_le (by rw [List.length_drop]; omega)] at h
def fieldD (P : Program) (T : TypeId) (i : Nat) : Field := (P.fieldsOf T).getD i default
/-- A field of a struct that is read. -/
theorem field_read {α : Type} {H : Type} {enc : TypeId × Value → H} {P : Program} {W : World} {spare : Nat → Bool} {held : Bool} {m : Nat} {T t : TypeId} {d : Kd α} {w : α → Nat → Prop} {cs : List Value} {xs : List (DataW H × List MemPlace)} {x : DataW H × List MemPlace} {i o n : Nat}
    (hf : ∀ (i : Nat) (f : Field), (P.fieldsOf T)[i]? = some f → DataW.trod enc P W 0 spare held m f.type ((cs.drop f.offset).take (P.cellsOf f.type)) = xs[i]?)
    (hx : xs[i]? = some x) (h1 : (P.fieldsOf T)[i]? = some (fieldD P T i)) (h2 : (fieldD P T i).type = t) (h3 : (fieldD P T i).offset = o) (h4 : P.cellsOf t = n) (hr : Reads P t d w) (hb : uptoBulk x.1 ≤ 1048576) : ∃ y, d.R (immOf W) y ((cs.drop o).take n) ∧ w y (uptoBulk x.1) := by
  have := hf i _ h1
  rw [hx, h2, h3, h4] at this
  exact hr this hb
theorem calls_of {P : Program} {f : FuncId} {args : Array Value} {W : World} {b : Value} (h : CallsTo P f args (immOf W) [] (fun v I' L' => v = b ∧ [] = L')) : Calls P f args W fun e W' => e = .returned b ∧ Below W.heap.size W W' :=
  (h W (holds_immOf W)).mono fun e W' ⟨v, I', L', he, hI, hh, hv, _⟩ => ⟨by rw [he, hv], below_of hh hI⟩
end Go.GB

/- Functions that can be run out: twins with a bound on rounds. -/
set_option linter.unusedVariables false
namespace Go.GB
def loopF {σ ρ : Type} : Nat → (σ → Option (σ ⊕ ρ)) → σ → Option ρ
  | 0, _, _ => none
  | n + 1, body, s => match body s with
    | none => none
    | some (.inr r) => some r
    | some (.inl s') => loopF n body s'
def OLe {α : Type} (x y : Option α) : Prop := ∀ r, x = some r → y = some r
theorem OLe.refl {α : Type} (x : Option α) : OLe x x := fun _ h => h
theorem OLe.bind {α β : Type} {x y : Option α} {f g : α → Option β} (h : OLe x y) (hf : ∀ a, OLe (f a) (g a)) : OLe (Option.bind x f) (Option.bind y g) := fun r hr => by
  obtain ⟨a, ha, hb⟩ := bind_some hr
  rw [h a ha]; exact hf a r hb
theorem OLe.cond {α : Type} {b : Bool} {x y x' y' : Option α} (h : OLe x x') (h' : OLe y y') : OLe (bif b then x else y) (bif b then x' else y') := by
  cases b
  · exact h'
  · exact h
theorem loopF_R {σ ρ : Type} {body body' : σ → Option (σ ⊕ ρ)} (h : ∀ s, OLe (body s) (body' s)) : ∀ (n : Nat) (s : σ) (r : ρ), loopF n body s = some r → LoopR body' s r
  | 0, _, _, hr => by cases hr
  | n + 1, s, r, hr => by
    unfold loopF at hr
    cases hb : body s with
    | none => rw [hb] at hr; cases hr
    | some o =>
      rw [hb] at hr
      cases o with
      | inl s' => exact .step (h s _ hb) (loopF_R h n s' r hr)
      | inr r' => cases hr; exact .done (h s _ hb)
theorem OLe.loop {σ ρ : Type} {body body' : σ → Option (σ ⊕ ρ)} {n : Nat} {s : σ} (h : ∀ s, OLe (body s) (body' s)) : OLe (loopF n body s) (loopO body' s) := fun r hr => loopO_of (loopF_R h n s r hr)

/-! ### Loops that go up -/
end Go.GB

/- What plain functions come to: a calculus for 'it answers, and its answer is ..'. -/
set_option linter.unusedVariables false
namespace Go.GB
theorem wrap_up {i : Nat} (h : i < 4294967296) : IntKind.wrap .i64 ((i : Int) + 1) = ((i + 1 : Nat) : Int) := by rw [wrap64 (by omega) (by omega)]; omega
theorem ix_nat {α : Type} (xs : List α) (i : Nat) : ix xs (i : Int) = xs[i]? := by simp [ix]
theorem size_zero_iff {s : ByteArray} : (s.toList == (⟨#[]⟩ : ByteArray).toList) = decide (s.size = 0) := by
  rw [ByteArray.toList_eq, ByteArray.toList_eq]
  obtain ⟨⟨l⟩⟩ := s
  cases l <;> rfl
theorem toList_inj {a b : ByteArray} : (a.toList == b.toList) = true ↔ a = b := by
  rw [ByteArray.toList_eq, ByteArray.toList_eq]
  obtain ⟨⟨x⟩⟩ := a
  obtain ⟨⟨y⟩⟩ := b
  simp
end Go.GB

/- Plain laws, base: loops that are alike; searches; words of bits. -/
set_option linter.unusedVariables false
namespace Go.GB
/-- One round. -/
theorem loopO_step {σ ρ : Type} {b : σ → Option (σ ⊕ ρ)} {s s' : σ} (h : b s = some (.inl s')) : loopO b s = loopO b s' := by rw [loopO_eq, h]; rfl
theorem loopO_done {σ ρ : Type} {b : σ → Option (σ ⊕ ρ)} {s : σ} {r : ρ} (h : b s = some (.inr r)) : loopO b s = some r := by rw [loopO_eq, h]; rfl
/-- A search that goes up: the first place at which there is something to tell. -/
theorem up_find {ρ : Type} {body : Int → Option (Int ⊕ (Unit ⊕ ρ))} {n : Nat} (p : Nat → Option ρ) (h : ∀ i : Nat, i < n → body i = some (match p i with | some r => .inr (.inr r) | none => .inl ((i + 1 : Nat) : Int))) (he : body n = some (.inr (.inl ()))) :
    loopO body 0 = some (match (List.range n).findSome? p with | some r => .inr r | none => .inl ()) := by
  have key : ∀ d i : Nat, i + d = n → loopO body i = some (match (List.range' i d).findSome? p with | some r => .inr r | none => .inl ()) := by
    intro d
    induction d with
    | zero =>
      intro i hi
      have : i = n := by omega
      subst this
      simp [loopO_done he]
    | succ d ih =>
      intro i hi
      have h1 := h i (by omega)
      rw [List.range'_succ, List.findSome?_cons]
      cases hp : p i with
      | some r => rw [hp] at h1; rw [loopO_done h1]
      | none => rw [hp] at h1; rw [loopO_step h1]; exact ih (i + 1) (by omega)
  have := key n 0 (by omega)
  rw [List.range_eq_range']
  exact this
/-- All of a list, by a loop that goes up. -/
theorem up_all {body : Int → Option (Int ⊕ (Unit ⊕ Bool))} {n : Nat} (q : Nat → Bool) (h : ∀ i : Nat, i < n → body i = some (bif q i then .inl ((i + 1 : Nat) : Int) else .inr (.inr false))) (he : body n = some (.inr (.inl ()))) :
    loopO body 0 = some (if (List.range n).all q then .inl () else .inr false) := by
  rw [up_find (fun i => if q i then none else some false) (fun i hi => by rw [h i hi]; cases q i <;> rfl) he]
  congr 1
  by_cases ha : (List.range n).all q = true
  · rw [if_pos ha]
    have : (List.range n).findSome? (fun i => if q i then none else some false) = none := by
      rw [List.findSome?_eq_none_iff]
      intro i hi
      rw [if_pos (List.all_eq_true.1 ha i hi)]
    rw [this]
  · rw [if_neg ha]
    have hx : (List.range n).all q = false := by simpa using ha
    rw [List.all_eq_false] at hx
    obtain ⟨i, hi, hq⟩ := hx
    cases hf : (List.range n).findSome? (fun i => if q i then none else some false) with
    | none =>
      rw [List.findSome?_eq_none_iff] at hf
      have := hf i hi
      rw [if_neg hq] at this; cases this
    | some b =>
      obtain ⟨j, _, hj⟩ := List.exists_of_findSome?_eq_some hf
      split at hj <;> cases hj
      rfl
theorem wrapU8 {x : Int} (h : 0 ≤ x) (h' : x < 256) : IntKind.wrap .u8 x = x := by
  unfold IntKind.wrap
  simp [IntKind.bits, IntKind.signed]
  omega
theorem wrapU8_eq (x : Int) : IntKind.wrap .u8 x = x % 256 := by
  unfold IntKind.wrap
  simp [IntKind.bits, IntKind.signed]
theorem and63 : ∀ c : Fin 256, bitAnd .u8 ((c.val : Nat) : Int) 63 = ((c.val % 64 : Nat) : Int) := by decide +kernel
theorem and192 : ∀ c : Fin 256, (bitAnd .u8 ((c.val : Nat) : Int) 192 != 128) = !(decide (c.val / 64 = 2)) := by decide +kernel
theorem and31 : ∀ c : Fin 256, bitAnd .i64 ((c.val : Nat) : Int) 31 = ((c.val % 32 : Nat) : Int) := by decide +kernel
theorem and15 : ∀ c : Fin 256, bitAnd .i64 ((c.val : Nat) : Int) 15 = ((c.val % 16 : Nat) : Int) := by decide +kernel
theorem and7 : ∀ c : Fin 256, bitAnd .i64 ((c.val : Nat) : Int) 7 = ((c.val % 8 : Nat) : Int) := by decide +kernel
theorem bx_at {s : ByteArray} {i : Nat} (h : i < s.size) : bx s (i : Int) = some (((s.data.toList.getD i 0).toNat : Nat) : Int) := by
  unfold bx
  rw [if_pos ⟨by omega, by omega⟩]
  unfold byteAt
  rw [Int.toNat_natCast]
  simp [List.getD_eq_getElem?_getD]
theorem size_list (s : ByteArray) : s.data.toList.length = s.size := by rw [Array.length_toList]; rfl
theorem nil_size (s : ByteArray) : (s.toList == (⟨#[]⟩ : ByteArray).toList) = decide (s.size = 0) := size_zero_iff
end Go.GB

set_option linter.unusedVariables false
namespace Go.GB
/-! bytes -/
def letN (c : Nat) : Bool := decide (97 ≤ c ∧ c ≤ 122) || decide (65 ≤ c ∧ c ≤ 90) || decide (c = 95) || decide (c = 58)
def digN (c : Nat) : Bool := decide (48 ≤ c ∧ c ≤ 57)
def hexN (c : Nat) : Bool := digN c || decide (97 ≤ c ∧ c ≤ 102) || decide (65 ≤ c ∧ c ≤ 70)
def lowN (c : Nat) : Bool := decide (97 ≤ c ∧ c ≤ 122)
/-- how many bytes of a kind stand ahead -/
def runL (p : Nat → Bool) (l : List UInt8) : Nat := (l.takeWhile fun c => p c.toNat).length
/-- the byte at a place; 0 behind the end -/
def gB (l : List UInt8) (i : Nat) : Nat := (l.getD i 0).toNat
theorem gB_drop (l : List UInt8) (a i : Nat) : gB (l.drop a) i = gB l (a + i) := by simp [gB, List.getD, List.getElem?_drop]
theorem runL_le (p : Nat → Bool) (l : List UInt8) : runL p l ≤ l.length := by
  unfold runL; exact (List.takeWhile_sublist _).length_le
theorem runL_cons (p : Nat → Bool) (c : UInt8) (l : List UInt8) : runL p (c :: l) = if p c.toNat then runL p l + 1 else 0 := by
  unfold runL; rw [List.takeWhile_cons]; split <;> simp
/-- a place within the run -/
theorem runL_in {p : Nat → Bool} {l : List UInt8} {i : Nat} (h : i < runL p l) : i < l.length ∧ p (gB l i) = true := by
  induction l generalizing i with
  | nil => simp [runL] at h
  | cons c l ih =>
    rw [runL_cons] at h
    split at h
    · rename_i hc
      cases i with
      | zero => exact ⟨by simp, by simpa [gB] using hc⟩
      | succ i =>
        obtain ⟨h1, h2⟩ := ih (by omega : i < runL p l)
        exact ⟨by simp; omega, by simpa [gB] using h2⟩
    · omega
theorem runL_end {p : Nat → Bool} {l : List UInt8} (h : runL p l < l.length) : p (gB l (runL p l)) = false := by
  induction l with
  | nil => simp at h
  | cons c l ih =>
    rw [runL_cons] at h ⊢
    split
    · rename_i hc
      rw [if_pos hc] at h
      have := ih (by simpa using h)
      simpa [gB] using this
    · rename_i hc; simpa [gB] using hc
theorem runL_step {p : Nat → Bool} {l : List UInt8} {i : Nat} (hi : i < l.length) : runL p (l.drop i) = if p (gB l i) then runL p (l.drop (i + 1)) + 1 else 0 := by
  rw [List.drop_eq_getElem_cons hi, runL_cons]
  simp [gB, List.getD, List.getElem?_eq_getElem hi]
theorem runL_out {p : Nat → Bool} {l : List UInt8} {i : Nat} (hi : l.length ≤ i) : runL p (l.drop i) = 0 := by rw [List.drop_eq_nil_of_le hi]; rfl
/-! numbers -/
def expK (l : List UInt8) (n : Nat) : Nat := if gB l (n + 1) = 43 ∨ gB l (n + 1) = 45 then n + 2 else n + 1
def expL (l : List UInt8) (n : Nat) : Nat :=
  if gB l n = 101 ∨ gB l n = 69 then (if 0 < runL digN (l.drop (expK l n)) then expK l n + runL digN (l.drop (expK l n)) else n) else n
def numA (l : List UInt8) (a : Nat) : Nat := if gB l a = 46 then (if a + runL digN (l.drop (a + 1)) = 0 then 0 else a + 1 + runL digN (l.drop (a + 1))) else a
def numL (l : List UInt8) : Nat :=
  if gB l 0 = 48 ∧ (gB l 1 = 120 ∨ gB l 1 = 88) ∧ 0 < runL hexN (l.drop 2) then 2 + runL hexN (l.drop 2)
  else if numA l (runL digN l) = 0 then 0 else expL l (numA l (runL digN l))
end Go.GB

set_option linter.unusedVariables false
namespace Go.GB
open Go.Lib
theorem take_getD {a b : List UInt8} {w i : Nat} (h : b.take w = a.take w) (hi : i < w) : b.getD i 0 = a.getD i 0 := by
  have h1 : (b.take w)[i]? = (a.take w)[i]? := by rw [h]
  rw [List.getElem?_take, List.getElem?_take, if_pos hi, if_pos hi] at h1
  simp [List.getD, h1]
theorem take_len {a b : List UInt8} {w : Nat} (h : b.take w = a.take w) (hl : w ≤ a.length) : w ≤ b.length := by
  have := congrArg List.length h
  simp at this; omega
set_option maxRecDepth 100000 in
/-- a rune that is right is read of its own bytes alone -/
theorem decode_ext {a b : List UInt8} (ha : ¬ ((decodeL a).1 = 65533 ∧ (decodeL a).2 = 1)) (hl : (decodeL a).2 ≤ a.length) (h : b.take (decodeL a).2 = a.take (decodeL a).2) : decodeL b = decodeL a := by
  have hb := take_len h hl
  rw [decodeL_N a] at *
  rw [decodeL_N b]
  rcases decodeN_shape a.length (a.getD 0 0).toNat (a.getD 1 0).toNat (a.getD 2 0).toNat (a.getD 3 0).toNat with ⟨c, e⟩ | ⟨c1, c2, c3, cv, e⟩ | ⟨c1, c2, c3, c4, cv, cs, e⟩ | ⟨c1, c2, c3, c4, c5, cv, cw, e⟩ | e
  · rw [e] at h hb ⊢
    rw [take_getD h (i := 0) (by omega)]
    unfold decodeN; rw [if_pos c]
  · rw [e] at h hb ⊢
    rw [take_getD h (i := 0) (by omega), take_getD h (i := 1) (by omega)]
    dsimp only at hb
    unfold decodeN
    rw [if_neg (by omega), if_pos ⟨c1, by omega, c3⟩, if_pos (by omega)]
  · rw [e] at h hb ⊢
    rw [take_getD h (i := 0) (by omega), take_getD h (i := 1) (by omega), take_getD h (i := 2) (by omega)]
    dsimp only at hb
    unfold decodeN
    rw [if_neg (by omega), if_neg (by omega), if_pos ⟨c1, ⟨by omega, c3⟩, by omega, c4⟩, if_pos ⟨by omega, by omega⟩]
  · rw [e] at h hb ⊢
    rw [take_getD h (i := 0) (by omega), take_getD h (i := 1) (by omega), take_getD h (i := 2) (by omega), take_getD h (i := 3) (by omega)]
    dsimp only at hb
    unfold decodeN
    rw [if_neg (by omega), if_neg (by omega), if_neg (by omega), if_pos ⟨c1, ⟨by omega, c3⟩, ⟨by omega, c4⟩, by omega, c5⟩, if_pos ⟨by omega, by omega⟩]
  · rw [e] at ha; exact absurd ⟨rfl, rfl⟩ ha
/-- the bytes of a right rune behind its first one are from 128 on; so is the first one, if there are more -/
theorem decode_high {l : List UInt8} {i : Nat} (hi : i < (decodeL l).2) (h1 : (decodeL l).2 ≠ 1) : 128 ≤ gB l i := by
  unfold gB
  rw [decodeL_N l] at *
  rcases decodeN_shape l.length (l.getD 0 0).toNat (l.getD 1 0).toNat (l.getD 2 0).toNat (l.getD 3 0).toNat with ⟨c, e⟩ | ⟨c1, c2, c3, cv, e⟩ | ⟨c1, c2, c3, c4, cv, cs, e⟩ | ⟨c1, c2, c3, c4, c5, cv, cw, e⟩ | e
  all_goals (rw [e] at hi h1; dsimp only at hi h1)
  · omega
  · rcases (by omega : i = 0 ∨ i = 1) with rfl | rfl <;> omega
  · rcases (by omega : i = 0 ∨ i = 1 ∨ i = 2) with rfl | rfl | rfl <;> omega
  · rcases (by omega : i = 0 ∨ i = 1 ∨ i = 2 ∨ i = 3) with rfl | rfl | rfl | rfl <;> omega
  · omega
theorem decode_ascii {l : List UInt8} (h : gB l 0 < 128) : decodeL l = (gB l 0, 1) := by
  rw [decodeL_N, decodeN, if_pos (show (l.getD 0 0).toNat < 128 from h)]; rfl
theorem decode_big {l : List UInt8} (h : 128 ≤ gB l 0) : 128 ≤ (decodeL l).1 := by
  unfold gB at h
  rw [decodeL_N]
  rcases decodeN_shape l.length (l.getD 0 0).toNat (l.getD 1 0).toNat (l.getD 2 0).toNat (l.getD 3 0).toNat with ⟨c, e⟩ | ⟨c1, c2, c3, cv, e⟩ | ⟨c1, c2, c3, c4, cv, cs, e⟩ | ⟨c1, c2, c3, c4, c5, cv, cw, e⟩ | e
  all_goals (rw [e]; dsimp only; omega)
theorem decode_one {l : List UInt8} (h : 128 ≤ gB l 0) (h1 : (decodeL l).2 = 1) : (decodeL l).1 = 65533 := by
  unfold gB at h
  rw [decodeL_N] at *
  rcases decodeN_shape l.length (l.getD 0 0).toNat (l.getD 1 0).toNat (l.getD 2 0).toNat (l.getD 3 0).toNat with ⟨c, e⟩ | ⟨c1, c2, c3, cv, e⟩ | ⟨c1, c2, c3, c4, cv, cs, e⟩ | ⟨c1, c2, c3, c4, c5, cv, cw, e⟩ | e
  all_goals (rw [e] at h1 ⊢)
  all_goals (dsimp only at h1 ⊢; try omega)
theorem validD_low {l : List UInt8} (hl : l ≠ []) (h : gB l 0 < 128) : validD l = validD (l.drop 1) := by
  obtain ⟨c, t, rfl⟩ := List.exists_cons_of_ne_nil hl
  exact validD_cons c t h
theorem validD_rune {l x : List UInt8} (hv : ¬ ((decodeL l).1 = 65533 ∧ (decodeL l).2 = 1)) (hl : l ≠ []) : validD (l.take (decodeL l).2 ++ x) = validD x := by
  have hle := decodeL_le l hl
  have hw := decodeL_width l
  have e : (l.take (decodeL l).2 ++ x).take (decodeL l).2 = l.take (decodeL l).2 := by rw [List.take_left' (by rw [List.length_take]; omega)]
  have hd := decode_ext hv hle e
  rw [validD_step _ (by intro h; have := congrArg List.length h; rw [List.length_append, List.length_take, List.length_nil] at this; have := List.length_pos_iff.2 hl; omega), hd, if_neg hv, List.drop_left' (by rw [List.length_take]; omega)]

/-! ### texts in quotes -/
def hexV (c : Nat) : Nat := if c ≤ 57 then c - 48 else if c ≤ 70 then c - 55 else c - 87
def escL (l : List UInt8) : Option (UInt8 × Nat) :=
  if gB l 0 = 110 then some (10, 1) else if gB l 0 = 92 ∨ gB l 0 = 34 ∨ gB l 0 = 39 then some (l.getD 0 0, 1) else if gB l 0 = 116 then some (9, 1) else if gB l 0 = 114 then some (13, 1)
  else if gB l 0 = 120 ∧ hexN (gB l 1) = true ∧ hexN (gB l 2) = true ∧ gB l 1 ≤ 55 then some (UInt8.ofNat (16 * hexV (gB l 1) + hexV (gB l 2)), 3) else none
theorem escL_low {l : List UInt8} {x : UInt8} {k : Nat} (h : escL l = some (x, k)) : x.toNat < 128 ∧ 1 ≤ k ∧ k ≤ l.length ∧ ∀ i, i < k → gB l i < 128 := by
  have g0 : ∀ i, 0 < gB l i → i < l.length := fun i hi => by
    rcases Nat.lt_or_ge i l.length with h | h
    · exact h
    · unfold gB at hi; rw [List.getD_eq_getElem?_getD, List.getElem?_eq_none h] at hi; simp at hi
  have hx : ∀ c, hexN c = true → 48 ≤ c ∧ c ≤ 102 ∧ hexV c < 16 := by
    intro c hc
    unfold hexN digN at hc
    unfold hexV
    simp only [Bool.or_eq_true, decide_eq_true_eq] at hc
    split <;> (try split) <;> omega
  unfold escL at h
  split at h
  · cases h; exact ⟨by decide, by omega, g0 0 (by omega), fun i hi => by
      have h00 : i = 0 := by omega
      rw [h00]; omega⟩
  split at h
  · cases h
    rename_i h2
    exact ⟨by show gB l 0 < 128; omega, by omega, g0 0 (by omega), fun i hi => by
      have h00 : i = 0 := by omega
      rw [h00]; omega⟩
  split at h
  · cases h; exact ⟨by decide, by omega, g0 0 (by omega), fun i hi => by
      have h00 : i = 0 := by omega
      rw [h00]; omega⟩
  split at h
  · cases h; exact ⟨by decide, by omega, g0 0 (by omega), fun i hi => by
      have h00 : i = 0 := by omega
      rw [h00]; omega⟩
  split at h
  · cases h
    rename_i h2
    obtain ⟨h3, h4, h5, h6⟩ := h2
    have a1 := hx _ h4
    have a2 := hx _ h5
    have a3 : hexV (gB l 1) < 8 := by unfold hexV; split <;> omega
    refine ⟨?_, by omega, g0 2 (by omega), fun i hi => ?_⟩
    · rw [UInt8.toNat_ofNat']; omega
    · rcases (by omega : i = 0 ∨ i = 1 ∨ i = 2) with rfl | rfl | rfl <;> omega
  · cases h
def textR (q : Nat) (l : List UInt8) : Option (List UInt8 × Nat) :=
  if hl : l = [] then none
  else if gB l 0 = q then some ([], 1)
  else if gB l 0 = 10 then none
  else if gB l 0 = 92 then match escL (l.drop 1) with
    | none => none
    | some (x, k) => (textR q (l.drop (1 + k))).map fun o => (x :: o.1, o.2 + (1 + k))
  else (textR q (l.drop 1)).map fun o => (l.getD 0 0 :: o.1, o.2 + 1)
termination_by l.length
decreasing_by all_goals (have := List.length_pos_iff.2 hl; rw [List.length_drop]; omega)
/-- the same, rune by rune -/
def textP (q : Nat) (l : List UInt8) : Option (List UInt8 × Nat) :=
  if hl : l = [] then none
  else if (decodeL l).1 = q then some ([], 1)
  else if ((decodeL l).1 = 65533 ∧ (decodeL l).2 = 1) ∨ (decodeL l).1 = 10 then none
  else if (decodeL l).1 = 92 then match escL (l.drop 1) with
    | none => none
    | some (x, k) => (textP q (l.drop (1 + k))).map fun o => (x :: o.1, o.2 + (1 + k))
  else (textP q (l.drop (decodeL l).2)).map fun o => (l.take (decodeL l).2 ++ o.1, o.2 + (decodeL l).2)
termination_by l.length
decreasing_by all_goals (have := List.length_pos_iff.2 hl; have := decodeL_width l; rw [List.length_drop]; omega)
theorem textR_pos {q : Nat} {l : List UInt8} {o : List UInt8} {n : Nat} (h : textR q l = some (o, n)) : 1 ≤ n ∧ n ≤ l.length := by
  induction hm : l.length using Nat.strongRecOn generalizing l o n with
  | _ m ih =>
    rw [textR] at h
    split at h
    · cases h
    rename_i hl
    have hp := List.length_pos_iff.2 hl
    split at h
    · cases h; omega
    split at h
    · cases h
    split at h
    · split at h
      · cases h
      · rename_i x k he
        obtain ⟨⟨o', n'⟩, h1, h2⟩ := Option.map_eq_some_iff.1 h
        cases h2
        have hk := escL_low he
        have := ih _ (by rw [List.length_drop]; omega) h1 rfl
        rw [List.length_drop] at this hk
        omega
    · obtain ⟨⟨o', n'⟩, h1, h2⟩ := Option.map_eq_some_iff.1 h
      cases h2
      have := ih _ (by rw [List.length_drop]; omega) h1 rfl
      rw [List.length_drop] at this
      omega
/-- bytes from 128 on are taken one by one -/
theorem textR_high {q : Nat} (hq : q < 128) : ∀ (w : Nat) (l : List UInt8), w ≤ l.length → (∀ i, i < w → 128 ≤ gB l i) → textR q l = (textR q (l.drop w)).map fun o => (l.take w ++ o.1, o.2 + w)
  | 0, l, _, _ => by simp
  | w + 1, l, hl, h => by
    have h0 := h 0 (by omega)
    have hne : l ≠ [] := by intro e; subst e; simp at hl
    rw [textR, dif_neg hne, if_neg (by omega), if_neg (by omega), if_neg (by omega)]
    have e := textR_high hq w (l.drop 1) (by rw [List.length_drop]; omega) (fun i hi => by rw [gB_drop]; exact h _ (by omega))
    rw [e, List.drop_drop, Option.map_map]
    obtain ⟨c, t, rfl⟩ := List.exists_cons_of_ne_nil hne
    simp only [List.drop_succ_cons, List.drop_zero, List.take_succ_cons, Nat.add_comm 1 w]
    refine congrArg (fun f => Option.map f (textR q (List.drop w t))) ?_
    funext o
    show ((c :: t).getD 0 0 :: (List.take w t ++ o.1), o.2 + w + 1) = (c :: List.take w t ++ o.1, o.2 + (w + 1))
    rw [Nat.add_assoc]; rfl
theorem textP_eq {q : Nat} (hq : q < 128) (l : List UInt8) : textP q l = match textR q l with
    | none => none
    | some (o, n) => if validD o = true ∧ validD (l.take (n - 1)) = true then some (o, n) else none := by
  induction hm : l.length using Nat.strongRecOn generalizing l with
  | _ m ih =>
    by_cases hl : l = []
    · subst hl; rw [textP, textR]; simp
    have hp := List.length_pos_iff.2 hl
    by_cases h0 : gB l 0 < 128
    · rw [textP, textR, dif_neg hl, dif_neg hl, decode_ascii h0]
      by_cases hc : gB l 0 = q
      · rw [if_pos hc, if_pos hc]; simp [validD_nil]
      rw [if_neg hc, if_neg hc]
      by_cases h10 : gB l 0 = 10
      · rw [if_pos (Or.inr h10), if_pos h10]
      have h11 : ¬ ((gB l 0 = 65533 ∧ (1 : Nat) = 1) ∨ gB l 0 = 10) := by omega
      rw [if_neg h11, if_neg h10]
      by_cases h92 : gB l 0 = 92
      · rw [if_pos h92, if_pos h92]
        cases he : escL (l.drop 1) with
        | none => rfl
        | some xk =>
          obtain ⟨x, k⟩ := xk
          simp only
          have hk := escL_low he
          rw [List.length_drop] at hk
          rw [ih _ (by rw [List.length_drop]; omega) (l.drop (1 + k)) rfl]
          cases hr : textR q (l.drop (1 + k)) with
          | none => rfl
          | some on =>
            obtain ⟨o, n⟩ := on
            have hn := textR_pos hr
            rw [List.length_drop] at hn
            simp only [Option.map_some]
            have e1 : validD (x :: o) = validD o := validD_cons x o hk.1
            have e2 : validD (l.take (n + (1 + k) - 1)) = validD ((l.drop (1 + k)).take (n - 1)) := by
              rw [validD_ascii (1 + k) (l.take (n + (1 + k) - 1)) (fun b hb => ?_)]
              · rw [List.drop_take, show n + (1 + k) - 1 - (1 + k) = n - 1 from by omega]
              · rw [List.take_take] at hb
                obtain ⟨i, hi, rfl⟩ := List.getElem_of_mem hb
                rw [List.length_take] at hi
                have hg : (List.take (min (1 + k) (n + (1 + k) - 1)) l)[i].toNat = gB l i := by
                  rw [List.getElem_take]; simp [gB, List.getD, List.getElem?_eq_getElem (show i < l.length by omega)]
                rw [hg]
                rcases Nat.eq_zero_or_pos i with rfl | hip
                · exact h0
                · have := hk.2.2.2 (i - 1) (by omega)
                  rw [gB_drop, show 1 + (i - 1) = i from by omega] at this
                  exact this
            rw [e1, e2]
            split <;> rfl
      · rw [if_neg h92, if_neg h92]
        rw [ih _ (by rw [List.length_drop]; omega) (l.drop 1) rfl]
        cases hr : textR q (l.drop 1) with
        | none => rfl
        | some on =>
          obtain ⟨o, n⟩ := on
          have hn := textR_pos hr
          rw [List.length_drop] at hn
          simp only [Option.map_some]
          have e1 : validD (l.getD 0 0 :: o) = validD o := validD_cons _ o h0
          have e2 : validD (l.take (n + 1 - 1)) = validD ((l.drop 1).take (n - 1)) := by
            have g0 : gB (l.take (n + 1 - 1)) 0 = gB l 0 := by
              unfold gB; rw [List.getD_eq_getElem?_getD, List.getElem?_take, if_pos (by omega), List.getD_eq_getElem?_getD]
            rw [validD_low (by intro h; have := congrArg List.length h; rw [List.length_take, List.length_nil] at this; omega) (by rw [g0]; exact h0), List.drop_take]
            rfl
          rw [e1, e2]
          obtain ⟨c, t, rfl⟩ := List.exists_cons_of_ne_nil hl
          simp only [List.take_succ_cons, List.take_zero, List.singleton_append, List.cons_append, List.nil_append]
          split <;> rfl
    · have h0' : 128 ≤ gB l 0 := by omega
      have hbig := decode_big h0'
      rw [textP, dif_neg hl, if_neg (by omega)]
      by_cases hv : (decodeL l).1 = 65533 ∧ (decodeL l).2 = 1
      · rw [if_pos (.inl hv)]
        cases hr : textR q l with
        | none => rfl
        | some on =>
          obtain ⟨o, n⟩ := on
          have hn := textR_pos hr
          have hn2 : 2 ≤ n := by
            rw [textR_high hq 1 l (by omega) (fun i hi => by
      have h00 : i = 0 := by omega
      rw [h00]; exact h0')] at hr
            obtain ⟨⟨o', n'⟩, h1, h2⟩ := Option.map_eq_some_iff.1 hr
            cases h2
            have := textR_pos h1
            omega
          have : validD (l.take (n - 1)) = false := by
            have hne : l.take (n - 1) ≠ [] := by intro h; have := congrArg List.length h; rw [List.length_take, List.length_nil] at this; omega
            rw [validD_step _ hne]
            by_cases hd : (decodeL (l.take (n - 1))).1 = 65533 ∧ (decodeL (l.take (n - 1))).2 = 1
            · rw [if_pos hd]
            · have hle := decodeL_le _ hne
              have hle2 := hle
              rw [List.length_take] at hle2
              have := decode_ext (b := l) hd hle (by rw [List.take_take, Nat.min_eq_left (by omega)])
              rw [this] at hv; exact absurd hv hd
          simp [this]
      · rw [if_neg (by omega), if_neg (by omega)]
        have h1 : (decodeL l).2 ≠ 1 := fun h => hv ⟨decode_one h0' h, h⟩
        have hw := decodeL_width l
        have hle := decodeL_le l hl
        rw [textR_high hq (decodeL l).2 l hle (fun i hi => decode_high hi h1), ih _ (by rw [List.length_drop]; omega) (l.drop (decodeL l).2) rfl]
        cases hr : textR q (l.drop (decodeL l).2) with
        | none => rfl
        | some on =>
          obtain ⟨o, n⟩ := on
          have hn := textR_pos hr
          simp only [Option.map_some]
          have e1 : validD (l.take (decodeL l).2 ++ o) = validD o := validD_rune hv hl
          have e2 : validD (l.take (n + (decodeL l).2 - 1)) = validD ((l.drop (decodeL l).2).take (n - 1)) := by
            have e3 : l.take (n + (decodeL l).2 - 1) = l.take (decodeL l).2 ++ (l.drop (decodeL l).2).take (n - 1) := by
              rw [show n + (decodeL l).2 - 1 = (decodeL l).2 + (n - 1) from by omega, List.take_add]
            rw [e3, validD_rune hv hl]
          rw [e1, e2]
          split <;> rfl
end Go.GB

/- Plain laws: durations, signs, tokens, over lists of bytes; where the document goes another way and comes to the same. -/
set_option linter.unusedVariables false
namespace Go.GB
open Go.Lib
theorem gBn_out {l : List UInt8} {i : Nat} (h : l.length ≤ i) : gB l i = 0 := by unfold gB; rw [List.getD_eq_getElem?_getD, List.getElem?_eq_none h]; rfl
theorem gBn_in {l : List UInt8} {i : Nat} (h : 0 < gB l i) : i < l.length := by
  rcases Nat.lt_or_ge i l.length with h1 | h1
  · exact h1
  · rw [gBn_out h1] at h; omega
/-! ### durations -/
def unitsL : List (List UInt8) := [[121], [119], [100], [104], [109], [115], [109, 115]]
def msL : List Nat := [31536000000, 604800000, 86400000, 3600000, 60000, 1000, 1]
def uName (i : Nat) : List UInt8 := unitsL.getD i []
def uMs (i : Nat) : Nat := msL.getD i 0
/-- the unit that is just the letters that stand ahead, from the place 'first' on -/
def unitL (l : List UInt8) (first : Nat) : Option Nat := (List.range 7).find? fun i => decide (first ≤ i) && (l.take (runL lowN l) == uName i)
/-- the document's: a unit that stands ahead -/
def unitR (l : List UInt8) (first : Nat) : Option Nat := (List.range 7).find? fun i => decide (first ≤ i) && ((uName i).isPrefixOf l && !(i == 4 && decide (gB l 1 = 115)))
def maxS : Nat := 1099511627776
def timesL (d : List UInt8) (ms : Nat) : Nat :=
  (let n := d.foldl (fun n c => min (n * 10 + (c.toNat - 48)) (maxS + 1)) 0
   if n > maxS / ms + 1 then maxS + 1 else min (n * ms) (maxS + 1))
def spanGo : Nat → List UInt8 → Nat → Nat → Nat × Nat
  | 0, _, _, sum => (0, sum)
  | f + 1, l, first, sum =>
    if runL digN l = 0 then (0, sum) else match unitL (l.drop (runL digN l)) first with
      | none => (0, sum)
      | some i =>
        (let r := spanGo f (l.drop (runL digN l + (uName i).length)) (i + 1) (min (sum + timesL (l.take (runL digN l)) (uMs i)) (maxS + 1))
         (runL digN l + (uName i).length + r.1, r.2))
def spanRGo : Nat → List UInt8 → Nat → Nat
  | 0, _, _ => 0
  | f + 1, l, first =>
    if runL digN l = 0 then 0 else match unitR (l.drop (runL digN l)) first with
      | none => 0
      | some i => runL digN l + (uName i).length + spanRGo f (l.drop (runL digN l + (uName i).length)) (i + 1)
def spanL (l : List UInt8) : Nat := (spanGo 8 l 0 0).1
def spanR (l : List UInt8) : Nat := spanRGo 8 l 0
theorem pre_one' (x : UInt8) (l : List UInt8) (hx : x.toNat ≠ 0) : [x].isPrefixOf l = decide (gB l 0 = x.toNat) := by
  cases l with
  | nil => simp [gB, List.isPrefixOf]; omega
  | cons y l =>
    simp only [List.isPrefixOf, Bool.and_true, gB, List.getD_cons_zero]
    rw [Bool.eq_iff_iff, beq_iff_eq, decide_eq_true_eq]
    exact ⟨fun h => by rw [h], fun h => (UInt8.toNat_inj.1 h).symm⟩
theorem pre_two' (x y : UInt8) (l : List UInt8) (hx : x.toNat ≠ 0) (hy : y.toNat ≠ 0) : [x, y].isPrefixOf l = (decide (gB l 0 = x.toNat) && decide (gB l 1 = y.toNat)) := by
  cases l with
  | nil => simp [gB, List.isPrefixOf]; omega
  | cons z l =>
    have h1 := pre_one' y l hy
    rw [List.isPrefixOf, h1, show gB (z :: l) 1 = gB l 0 from rfl]
    congr 1
    rw [Bool.eq_iff_iff, beq_iff_eq, decide_eq_true_eq]
    exact ⟨fun h => by rw [h]; rfl, fun h => (UInt8.toNat_inj.1 h).symm⟩
theorem run_one (x : UInt8) (l : List UInt8) (hx : lowN x.toNat = true) : (l.take (runL lowN l) == [x]) = (decide (gB l 0 = x.toNat) && !(lowN (gB l 1))) := by
  rw [Bool.eq_iff_iff, beq_iff_eq]
  cases l with
  | nil =>
    constructor
    · intro h; simp at h
    · intro h
      rw [Bool.and_eq_true] at h
      have h1 : (0 : Nat) = x.toNat := of_decide_eq_true h.1
      rw [← h1] at hx; exact absurd hx (by decide)
  | cons y l =>
    rw [runL_cons]
    by_cases hy : lowN y.toNat = true
    · rw [if_pos hy, List.take_succ_cons]
      have hg : gB (y :: l) 1 = gB l 0 := rfl
      have hg0 : gB (y :: l) 0 = y.toNat := rfl
      rw [hg, hg0]
      simp only [List.cons.injEq, Bool.and_eq_true, decide_eq_true_eq, Bool.not_eq_true']
      refine ⟨fun ⟨h1, h2⟩ => ⟨by rw [h1], ?_⟩, fun ⟨h1, h2⟩ => ⟨UInt8.toNat_inj.1 h1, ?_⟩⟩
      · rw [List.take_eq_nil_iff] at h2
        rcases h2 with h2 | h2
        · rcases Nat.lt_or_ge 0 l.length with h3 | h3
          · have := runL_end (p := lowN) (l := l) (by rw [h2]; exact h3); rwa [h2] at this
          · rw [gBn_out h3]; rfl
        · subst h2; rfl
      · cases l with
        | nil => rfl
        | cons z l => rw [runL_cons, if_neg (by rw [show z.toNat = gB (z :: l) 0 from rfl, h2]; simp)]; rfl
    · rw [if_neg hy]
      constructor
      · intro h; simp at h
      · intro h
        simp only [Bool.and_eq_true, decide_eq_true_eq] at h
        exact absurd (by rw [show y.toNat = gB (y :: l) 0 from rfl, h.1]; exact hx) hy
theorem run_two (x y : UInt8) (l : List UInt8) (hx : lowN x.toNat = true) (hy : lowN y.toNat = true) : (l.take (runL lowN l) == [x, y]) = (decide (gB l 0 = x.toNat) && (decide (gB l 1 = y.toNat) && !(lowN (gB l 2)))) := by
  cases l with
  | nil =>
    rw [Bool.eq_iff_iff]
    constructor
    · intro h; simp at h
    · intro h
      rw [Bool.and_eq_true] at h
      have h1 : (0 : Nat) = x.toNat := of_decide_eq_true h.1
      rw [← h1] at hx; exact absurd hx (by decide)
  | cons z l =>
    have h1 := run_one y l hy
    rw [show gB (z :: l) 1 = gB l 0 from rfl, show gB (z :: l) 2 = gB l 1 from rfl, ← h1, runL_cons]
    by_cases hz : lowN z.toNat = true
    · rw [if_pos hz, List.take_succ_cons]
      show (z == x && (l.take (runL lowN l) == [y])) = _
      congr 1
      rw [Bool.eq_iff_iff, beq_iff_eq, decide_eq_true_eq]
      exact ⟨fun h => by rw [h]; rfl, fun h => UInt8.toNat_inj.1 h⟩
    · rw [if_neg hz]
      have : decide (gB (z :: l) 0 = x.toNat) = false := decide_eq_false (fun h => hz (by rw [show z.toNat = gB (z :: l) 0 from rfl, h]; exact hx))
      rw [this]; rfl
theorem unitL_ex (l : List UInt8) (first : Nat) : unitL l first = [0, 1, 2, 3, 4, 5, 6].find? fun i => decide (first ≤ i) && (l.take (runL lowN l) == uName i) := rfl
theorem unitR_ex (l : List UInt8) (first : Nat) : unitR l first = [0, 1, 2, 3, 4, 5, 6].find? fun i => decide (first ≤ i) && ((uName i).isPrefixOf l && !(i == 4 && decide (gB l 1 = 115))) := rfl
set_option maxHeartbeats 1000000 in
theorem unit_rel (l : List UInt8) (first : Nat) : unitL l first = unitR l first ∨ (unitL l first = none ∧ ∃ i, unitR l first = some i ∧ lowN (gB l (uName i).length) = true) := by
  have a0 := run_one 121 l (by decide); have a1 := run_one 119 l (by decide); have a2 := run_one 100 l (by decide); have a3 := run_one 104 l (by decide)
  have a4 := run_one 109 l (by decide); have a5 := run_one 115 l (by decide); have a6 := run_two 109 115 l (by decide) (by decide)
  have b0 := pre_one' 121 l (by decide); have b1 := pre_one' 119 l (by decide); have b2 := pre_one' 100 l (by decide); have b3 := pre_one' 104 l (by decide)
  have b4 := pre_one' 109 l (by decide); have b5 := pre_one' 115 l (by decide); have b6 := pre_two' 109 115 l (by decide) (by decide)
  rw [unitL_ex, unitR_ex]
  simp only [List.find?, show uName 0 = [121] from rfl, show uName 1 = [119] from rfl, show uName 2 = [100] from rfl, show uName 3 = [104] from rfl, show uName 4 = [109] from rfl, show uName 5 = [115] from rfl, show uName 6 = [109, 115] from rfl,
    a0, a1, a2, a3, a4, a5, a6, b0, b1, b2, b3, b4, b5, b6]
  clear a0 a1 a2 a3 a4 a5 a6 b0 b1 b2 b3 b4 b5 b6
  generalize gB l 0 = c0
  have hs : lowN 115 = true := by decide
  by_cases k0 : c0 = 121
  · subst k0; by_cases hf : first ≤ 0 <;> by_cases hl : lowN (gB l 1) = true <;> simp [hf, hl, uName, unitsL]
  by_cases k1 : c0 = 119
  · subst k1; by_cases hf : first ≤ 1 <;> by_cases hl : lowN (gB l 1) = true <;> simp [hf, hl, uName, unitsL]
  by_cases k2 : c0 = 100
  · subst k2; by_cases hf : first ≤ 2 <;> by_cases hl : lowN (gB l 1) = true <;> simp [hf, hl, uName, unitsL]
  by_cases k3 : c0 = 104
  · subst k3; by_cases hf : first ≤ 3 <;> by_cases hl : lowN (gB l 1) = true <;> simp [hf, hl, uName, unitsL]
  by_cases k5 : c0 = 115
  · subst k5; by_cases hf : first ≤ 5 <;> by_cases hl : lowN (gB l 1) = true <;> simp [hf, hl, uName, unitsL]
  by_cases k4 : c0 = 109
  · subst k4
    by_cases h1 : gB l 1 = 115
    · by_cases hf : first ≤ 6 <;> by_cases hl : lowN (gB l 2) = true <;> simp [hf, hl, h1, hs, uName, unitsL]
    · by_cases hf : first ≤ 4 <;> by_cases hl : lowN (gB l 1) = true <;> simp [hf, hl, h1, uName, unitsL]
  · simp [k0, k1, k2, k3, k4, k5]

theorem uName_len {i : Nat} (h : i < 7) : 1 ≤ (uName i).length ∧ (uName i).length ≤ 2 := by
  have : ∀ j : Fin 7, 1 ≤ (uName j.val).length ∧ (uName j.val).length ≤ 2 := by decide
  exact this ⟨i, h⟩
theorem uName_low {i : Nat} (h : i < 7) {j : Nat} (hj : j < (uName i).length) : lowN (gB (uName i) j) = true := by
  have : ∀ (i : Fin 7) (j : Fin 2), j.val < (uName i.val).length → lowN (gB (uName i.val) j.val) = true := by decide
  have h2 := (uName_len h).2
  exact this ⟨i, h⟩ ⟨j, by omega⟩ hj
theorem unitR_some {l : List UInt8} {first i : Nat} (h : unitR l first = some i) : i < 7 ∧ first ≤ i ∧ (uName i) <+: l := by
  unfold unitR at h
  have h1 := List.mem_of_find?_eq_some h
  have h2 := List.find?_some h
  simp only [Bool.and_eq_true, decide_eq_true_eq] at h2
  exact ⟨List.mem_range.1 h1, h2.1, List.isPrefixOf_iff_prefix.1 h2.2.1⟩
theorem gB_prefix {p l : List UInt8} (h : p <+: l) {i : Nat} (hi : i < p.length) : gB l i = gB p i := by
  obtain ⟨t, rfl⟩ := h
  simp [gB, List.getD, List.getElem?_append_left hi]
def identN (c : Nat) : Bool := letN c || digN c || decide (c = 46)
theorem low_ident {c : Nat} (h : lowN c = true) : identN c = true := by unfold lowN at h; unfold identN letN; simp at h ⊢; omega
theorem low_dig {c : Nat} (h : lowN c = true) : ¬ digN c = true := by unfold lowN at h; unfold digN; simp at h ⊢; omega
theorem dig_ident {c : Nat} (h : digN c = true) : identN c = true := by unfold identN; simp [h]
theorem unit_within {l : List UInt8} {first i : Nat} (h : unitR l first = some i) {j : Nat} (hj : j < (uName i).length) : identN (gB l j) = true := by
  obtain ⟨h1, _, h3⟩ := unitR_some h
  rw [gB_prefix h3 hj]; exact low_ident (uName_low h1 hj)
theorem span_rel : ∀ (f : Nat) (l : List UInt8) (first sum : Nat), (spanGo f l first sum).1 = spanRGo f l first ∨ ((spanGo f l first sum).1 < spanRGo f l first ∧ ∀ i, i ≤ spanRGo f l first → identN (gB l i) = true)
  | 0, l, first, sum => .inl rfl
  | f + 1, l, first, sum => by
    unfold spanGo spanRGo
    by_cases hd : runL digN l = 0
    · rw [if_pos hd, if_pos hd]; exact .inl rfl
    rw [if_neg hd, if_neg hd]
    have hdi : ∀ i, i < runL digN l → identN (gB l i) = true := fun i hi => dig_ident (runL_in hi).2
    rcases unit_rel (l.drop (runL digN l)) first with h | ⟨h, i, hR, hlow⟩
    · rw [h]
      cases hR : unitR (l.drop (runL digN l)) first with
      | none => exact .inl rfl
      | some i =>
        simp only
        have hu : ∀ j, j < (uName i).length → identN (gB l (runL digN l + j)) = true := fun j hj => by rw [← gB_drop]; exact unit_within hR hj
        rcases span_rel f (l.drop (runL digN l + (uName i).length)) (i + 1) (min (sum + timesL (l.take (runL digN l)) (uMs i)) (maxS + 1)) with e | ⟨e1, e2⟩
        · exact .inl (by rw [e])
        · refine .inr ⟨by omega, fun j hj => ?_⟩
          rcases Nat.lt_or_ge j (runL digN l) with h1 | h1
          · exact hdi j h1
          rcases Nat.lt_or_ge j (runL digN l + (uName i).length) with h2 | h2
          · have := hu (j - runL digN l) (by omega); rwa [show runL digN l + (j - runL digN l) = j from by omega] at this
          · have := e2 (j - (runL digN l + (uName i).length)) (by omega)
            rw [gB_drop] at this; rwa [show runL digN l + (uName i).length + (j - (runL digN l + (uName i).length)) = j from by omega] at this
    · rw [h, hR]
      simp only
      have hlow' : lowN (gB l (runL digN l + (uName i).length)) = true := by rw [← gB_drop]; exact hlow
      have h0 : spanRGo f (l.drop (runL digN l + (uName i).length)) (i + 1) = 0 := by
        cases f with
        | zero => rfl
        | succ f =>
          unfold spanRGo
          have : runL digN (l.drop (runL digN l + (uName i).length)) = 0 := by
            rcases Nat.lt_or_ge (runL digN l + (uName i).length) l.length with hl | hl
            · rw [runL_step hl, if_neg (low_dig hlow')]
            · exact runL_out hl
          rw [if_pos this]
      rw [h0]
      refine .inr ⟨by omega, fun j hj => ?_⟩
      rcases Nat.lt_or_ge j (runL digN l) with h1 | h1
      · exact hdi j h1
      rcases Nat.lt_or_ge j (runL digN l + (uName i).length) with h2 | h2
      · have := unit_within hR (j := j - runL digN l) (by omega)
        rw [gB_drop] at this; rwa [show runL digN l + (j - runL digN l) = j from by omega] at this
      · rw [show j = runL digN l + (uName i).length from by omega]; exact low_ident hlow'
theorem unitL_some {l : List UInt8} {first i : Nat} (h : unitL l first = some i) : i < 7 ∧ first ≤ i ∧ l.take (runL lowN l) = uName i := by
  unfold unitL at h
  have h1 := List.mem_of_find?_eq_some h
  have h2 := List.find?_some h
  simp only [Bool.and_eq_true, decide_eq_true_eq, beq_iff_eq] at h2
  exact ⟨List.mem_range.1 h1, h2.1, h2.2⟩
theorem unitL_run {l : List UInt8} {first i : Nat} (h : unitL l first = some i) : runL lowN l = (uName i).length := by
  have := congrArg List.length (unitL_some h).2.2
  rw [List.length_take, Nat.min_eq_left (runL_le _ _)] at this
  exact this
theorem spanRGo_le : ∀ (f : Nat) (l : List UInt8) (first : Nat), spanRGo f l first ≤ l.length
  | 0, l, first => Nat.zero_le _
  | f + 1, l, first => by
    unfold spanRGo
    split
    · omega
    · rename_i hd
      cases hR : unitR (l.drop (runL digN l)) first with
      | none => exact Nat.zero_le _
      | some i =>
        simp only
        have h1 := (unitR_some hR).2.2.length_le
        have h2 := spanRGo_le f (l.drop (runL digN l + (uName i).length)) (i + 1)
        have h3 := runL_le digN l
        rw [List.length_drop] at h1 h2
        omega
theorem spanL_le (l : List UInt8) : spanL l ≤ l.length := by
  have h1 := spanRGo_le 8 l 0
  rcases span_rel 8 l 0 0 with h | ⟨h, _⟩
  · unfold spanL; omega
  · unfold spanL; omega
theorem expK_le {l : List UInt8} {n : Nat} (h : n < l.length) : n + 1 ≤ expK l n ∧ expK l n ≤ l.length := by
  unfold expK
  split
  · have := gBn_in (l := l) (i := n + 1) (by omega); omega
  · omega
theorem expL_le {l : List UInt8} {n : Nat} (hn : n ≤ l.length) : n ≤ expL l n ∧ expL l n ≤ l.length := by
  unfold expL
  split
  · rename_i he
    have hi := gBn_in (l := l) (i := n) (by omega)
    have hk := expK_le hi
    have := runL_le digN (l.drop (expK l n)); rw [List.length_drop] at this
    split <;> omega
  · omega
theorem numA_le {l : List UInt8} {a : Nat} (ha : a ≤ l.length) : numA l a ≤ l.length := by
  unfold numA
  split
  · have hi := gBn_in (l := l) (i := a) (by omega)
    have hB := runL_le digN (l.drop (a + 1)); rw [List.length_drop] at hB
    split <;> omega
  · omega
theorem numL_le (l : List UInt8) : numL l ≤ l.length := by
  unfold numL
  split
  · rename_i h
    have hi := gBn_in (l := l) (i := 1) (by omega)
    have := runL_le hexN (l.drop 2); rw [List.length_drop] at this
    omega
  · split
    · omega
    · exact (expL_le (numA_le (runL_le _ _))).2
/-! ### one token -/
def signsL : List (List UInt8) := [[33, 61], [61, 126], [33, 126], [61, 61], [62, 61], [60, 61], [40], [41], [123], [125], [91], [93], [44], [61], [43], [45], [42], [47], [37], [94], [62], [60]]
def signL (l : List UInt8) : Option (List UInt8) := signsL.find? fun x => x.isPrefixOf l
def numTok (l : List UInt8) (m : Nat) : Option (Nat × List UInt8 × Nat) :=
  (let e := if m > numL l then m else numL l
   if e = 0 ∨ identN (gB l e) = true then none else some (if m > numL l then 3 else 2, l.take e, e))
theorem numTok_rel (l : List UInt8) : numTok l (spanL l) = numTok l (spanR l) := by
  rcases span_rel 8 l 0 0 with h | ⟨h1, h2⟩
  · rw [show spanL l = spanR l from h]
  · have h1' : spanL l < spanR l := h1
    have h2' : ∀ i, i ≤ spanR l → identN (gB l i) = true := h2
    unfold numTok
    by_cases hn : spanR l > numL l
    · have : ∀ X : Option (Nat × List UInt8 × Nat), (if (if spanL l > numL l then spanL l else numL l) = 0 ∨ identN (gB l (if spanL l > numL l then spanL l else numL l)) = true then none else X) = none := fun X => by
        rw [if_pos]
        right
        split
        · exact h2' _ (by omega)
        · exact h2' _ (by omega)
      simp only [this, if_pos hn]
      rw [if_pos (Or.inr (h2' _ (Nat.le_refl _)))]
    · simp only [if_neg hn, if_neg (show ¬ spanL l > numL l by omega)]
theorem numTok_some {l : List UInt8} {m k n : Nat} {t : List UInt8} (hm : m ≤ l.length) (h : numTok l m = some (k, t, n)) : 1 ≤ n ∧ n ≤ l.length ∧ t = l.take n ∧ identN (gB l n) = false ∧ n = (if m > numL l then m else numL l) ∧ k = (if m > numL l then 3 else 2) := by
  unfold numTok at h
  simp only at h
  have h1 := numL_le l
  generalize he : (if m > numL l then m else numL l) = e at h
  have hel : e ≤ l.length := by rw [← he]; split <;> omega
  by_cases hc : e = 0 ∨ identN (gB l e) = true
  · rw [if_pos hc] at h; cases h
  · rw [if_neg hc] at h
    simp only [Option.some.injEq, Prod.mk.injEq] at h
    obtain ⟨h2, h3, h4⟩ := h
    rw [not_or, Bool.not_eq_true] at hc
    subst h4
    exact ⟨by omega, hel, h3.symm, hc.2, rfl, h2.symm⟩
/-- the token that stands ahead: its kind, its text, how many bytes; none: there is none -/
def oneL (l : List UInt8) : Option (Nat × List UInt8 × Nat) :=
  if letN (gB l 0) = true then some (1, l.take (runL (fun c => letN c || digN c) l), runL (fun c => letN c || digN c) l)
  else if digN (gB l 0) = true ∨ gB l 0 = 46 then numTok l (spanL l)
  else if gB l 0 = 34 ∨ gB l 0 = 39 then (textP (gB l 0) (l.drop 1)).map fun o => (4, o.1, o.2 + 1)
  else (signL l).map fun x => (5, x, x.length)
structure Tk3 where
  kind : Nat
  text : List UInt8
  at_ : Nat
end Go.GB

/- Plain laws, base: the order of texts. -/
set_option linter.unusedVariables false
namespace Go.GB
open Go.Lib
theorem ba_eq {a b : ByteArray} (h : a.data.toList = b.data.toList) : a = b := by
  obtain ⟨⟨x⟩⟩ := a
  obtain ⟨⟨y⟩⟩ := b
  simpa using h
theorem toList_eq (a : ByteArray) : a.toList = a.data.toList := ByteArray.toList_eq a
end Go.GB

set_option linter.unusedVariables false
set_option maxRecDepth 100000
namespace Go.GB
open Go.Lib
theorem bind_of {α β : Type} {x : Option α} {a : α} {f : α → Option β} {r : Option β} (h : x = some a) (k : f a = r) : Option.bind x f = r := by rw [h]; exact k
theorem fin_all {P : Nat → Prop} (h : ∀ c : Fin 256, P c.val) {n : Nat} (hn : n < 256) : P n := h ⟨n, hn⟩
theorem wrapN {n : Nat} {z : Int} (h : z = (n : Int)) (hn : n < 9223372036854775808) : IntKind.wrap .i64 z = (n : Int) := by rw [wrap64 (by omega) (by omega), h]
abbrev tl (s : ByteArray) : List UInt8 := s.data.toList
theorem tl_len (s : ByteArray) : (tl s).length = s.size := size_list s
theorem gB_lt (l : List UInt8) (i : Nat) : gB l i < 256 := UInt8.toNat_lt _
theorem gB_out {l : List UInt8} {i : Nat} (h : l.length ≤ i) : gB l i = 0 := by unfold gB; rw [List.getD_eq_getElem?_getD, List.getElem?_eq_none h]; rfl
theorem gB_in {l : List UInt8} {i : Nat} (h : 0 < gB l i) : i < l.length := by
  rcases Nat.lt_or_ge i l.length with h1 | h1
  · exact h1
  · rw [gB_out h1] at h; omega
theorem bx_tl {s : ByteArray} {i : Nat} (h : i < s.size) : bx s (i : Int) = some ((gB (tl s) i : Nat) : Int) := bx_at h
theorem tl_extract (s : ByteArray) (a b : Nat) : tl (s.extract a b) = ((tl s).drop a).take (b - a) := by
  show (s.extract a b).data.toList = _
  rw [ByteArray.data_extract, Array.toList_extract, List.extract_eq_take_drop]
theorem sx_tl {s : ByteArray} {a b : Nat} (h : a ≤ b) (hb : b ≤ s.size) : sx s (a : Int) (b : Int) = some (s.extract a b) := by
  unfold sx
  rw [if_pos ⟨by omega, by omega, by omega⟩]; rfl
theorem tl_inj {a b : ByteArray} : (a.toList == b.toList) = (tl a == tl b) := by rw [ByteArray.toList_eq, ByteArray.toList_eq]
theorem at_if {s : ByteArray} {i : Nat} {f : Int → Option Bool} (q : Nat → Bool) (h0 : q 0 = false) (hf : i < s.size → f ((gB (tl s) i : Nat) : Int) = some (q (gB (tl s) i))) :
    (bif decide ((i : Int) < (s.size : Int)) then Option.bind (bx s (i : Int)) f else some false) = some (q (gB (tl s) i)) := by
  by_cases h : i < s.size
  · rw [decide_eq_true (by omega), cond_true, bx_tl h, Option.bind_some, hf h]
  · rw [decide_eq_false (by omega), cond_false, gB_out (by rw [tl_len]; omega), h0]
/-- a loop that counts a run -/
theorem loop_runL {body : Int → Option (Int ⊕ Int)} {l : List UInt8} {p : Nat → Bool} (off : Nat)
    (h : ∀ k : Nat, off + k ≤ l.length → body (k : Int) = some (if off + k < l.length ∧ p (gB l (off + k)) = true then .inl ((k + 1 : Nat) : Int) else .inr (k : Int))) :
    ∀ d k : Nat, off + k + d = l.length → loopO body (k : Int) = some ((k + runL p (l.drop (off + k)) : Nat) : Int)
  | 0, k, hd => by
    have := h k (by omega)
    rw [if_neg (by omega)] at this
    rw [loopO_done this, runL_out (by omega), Nat.add_zero]
  | d + 1, k, hd => by
    have h1 := h k (by omega)
    rw [runL_step (by omega)]
    by_cases hp : p (gB l (off + k)) = true
    · rw [if_pos ⟨by omega, hp⟩] at h1
      rw [if_pos hp, loopO_step h1, loop_runL off h d (k + 1) (by omega)]
      congr 2
      rw [show off + (k + 1) = off + k + 1 from by omega]; omega
    · rw [if_neg (fun h => hp h.2)] at h1
      rw [if_neg hp, loopO_done h1, Nat.add_zero]
end Go.GB
namespace Go.Proofs.YtlhpclfkoblnkaaDoor
open Go.GB Go.Lib
theorem let_eq {c : Nat} (h : c < 256) : lex_letter (c : Int) = letN c := fin_all (P := fun n => lex_letter (n : Int) = letN n) (by unfold lex_letter; decide +kernel) h
theorem dig_eq {c : Nat} (h : c < 256) : lex_digit (c : Int) = digN c := fin_all (P := fun n => lex_digit (n : Int) = digN n) (by unfold lex_digit; decide +kernel) h
theorem hex_eq {c : Nat} (h : c < 256) : lex_hex (c : Int) = hexN c := fin_all (P := fun n => lex_hex (n : Int) = hexN n) (by unfold lex_hex lex_digit; decide +kernel) h
theorem low_eq {c : Nat} (h : c < 256) : lex_span_1 (c : Int) = lowN c := fin_all (P := fun n => lex_span_1 (n : Int) = lowN n) (by unfold lex_span_1; decide +kernel) h
theorem ident_eq {c : Nat} (h : c < 256) : lex_one_1 (c : Int) = (letN c || digN c) := by unfold lex_one_1; rw [let_eq h, dig_eq h]
theorem lex_run_eq {s : ByteArray} {a : Nat} {f : Int → Option Bool} (p : Nat → Bool) (hs : s.size < 4294967296) (ha : a ≤ s.size) (hp : ∀ c : Nat, c < 256 → f (c : Int) = some (p c)) (h0 : p 0 = false) :
    lex_run s (a : Int) f = some ((runL p ((tl s).drop a) : Nat) : Int) := by
  unfold lex_run
  have hl := tl_len s
  have := loop_runL (body := lex_run_l16 s (a : Int) f) (l := tl s) (p := p) a (fun k hk => by
    unfold lex_run_l16
    rw [wrapN (n := a + k) (by omega) (by omega)]
    refine bind_of (a := p (gB (tl s) (a + k))) ?_ ?_
    · exact at_if p h0 (fun hi => by rw [hp _ (gB_lt _ _)]; rfl)
    · by_cases hc : p (gB (tl s) (a + k)) = true
      · have hi : a + k < (tl s).length := by
          rcases Nat.lt_or_ge (a + k) (tl s).length with h | h
          · exact h
          · rw [gB_out h, h0] at hc; cases hc
        rw [hc, cond_true, if_pos ⟨hi, rfl⟩, wrapN (n := k + 1) (by omega) (by omega)]
      · rw [Bool.not_eq_true] at hc
        rw [hc, cond_false, if_neg (by simp)]) (s.size - a) 0 (by omega)
  rw [show ((0 : Nat) : Int) = 0 from rfl] at this
  rw [this]
  simp
theorem pref_eq {s p : ByteArray} : strings_HasPrefix s p = some ((tl p).isPrefixOf (tl s)) := by
  unfold strings_HasPrefix stringslite_HasPrefix
  refine bind_of (a := (tl p).isPrefixOf (tl s)) ?_ rfl
  refine bind_of (a := (tl p).isPrefixOf (tl s)) ?_ rfl
  by_cases h : p.size ≤ s.size
  · rw [decide_eq_true (by omega), cond_true, show (0 : Int) = ((0 : Nat) : Int) from rfl, sx_tl (Nat.zero_le _) h, Option.bind_some, tl_inj, tl_extract, List.drop_zero, Nat.sub_zero]
    congr 1
    rw [Bool.eq_iff_iff, List.isPrefixOf_iff_prefix, beq_iff_eq, List.prefix_iff_eq_take, tl_len]
    exact ⟨fun h => h.symm, fun h => h.symm⟩
  · rw [decide_eq_false (by omega), cond_false]
    congr 1
    symm
    rw [Bool.eq_false_iff]
    intro hp
    have := (List.isPrefixOf_iff_prefix.1 hp).length_le
    rw [tl_len, tl_len] at this; omega
theorem num_dig {s : ByteArray} {a : Nat} (hs : s.size < 4294967296) (ha : a ≤ s.size) : lex_run s (a : Int) (fun x0 => some (lex_digit x0)) = some ((runL digN ((tl s).drop a) : Nat) : Int) :=
  lex_run_eq digN hs ha (fun c hc => by rw [dig_eq hc]) rfl
theorem lex_number_eq {s : ByteArray} (hs : s.size < 4294967296) : lex_number s = some ((numL (tl s) : Nat) : Int) := by
  have hl := tl_len s
  have q1 : lex_run s 2 (fun x0 => some (lex_hex x0)) = lex_run s ((2 : Nat) : Int) (fun x0 => some (lex_hex x0)) := rfl
  have hp1 := pre_two' 48 120 (tl s) (by decide) (by decide)
  have hp2 := pre_two' 48 88 (tl s) (by decide) (by decide)
  unfold lex_number
  refine bind_of (a := decide (gB (tl s) 0 = 48 ∧ (gB (tl s) 1 = 120 ∨ gB (tl s) 1 = 88))) ?_ ?_
  · rw [pref_eq, pref_eq, show tl (⟨#[48, 120]⟩ : ByteArray) = [48, 120] from rfl, show tl (⟨#[48, 88]⟩ : ByteArray) = [48, 88] from rfl, hp1, hp2]
    show Option.bind (some (decide (gB (tl s) 0 = 48) && decide (gB (tl s) 1 = 120))) _ = _
    rw [Option.bind_some]
    by_cases h0 : gB (tl s) 0 = 48 <;> by_cases h1 : gB (tl s) 1 = 120 <;> by_cases h2 : gB (tl s) 1 = 88 <;> simp [h0, h1, h2]
  refine bind_of (a := if gB (tl s) 0 = 48 ∧ (gB (tl s) 1 = 120 ∨ gB (tl s) 1 = 88) ∧ 0 < runL hexN ((tl s).drop 2) then Sum.inr ((2 + runL hexN ((tl s).drop 2) : Nat) : Int) else Sum.inl ()) ?_ ?_
  · by_cases hc : gB (tl s) 0 = 48 ∧ (gB (tl s) 1 = 120 ∨ gB (tl s) 1 = 88)
    · have h2 : 2 ≤ s.size := by have := gB_in (l := tl s) (i := 1) (by omega); omega
      rw [decide_eq_true hc, cond_true, q1, lex_run_eq hexN hs h2 (fun c hc => by rw [hex_eq hc]) rfl, Option.bind_some]
      by_cases hr : 0 < runL hexN ((tl s).drop 2)
      · rw [decide_eq_true (by omega), cond_true, if_pos ⟨hc.1, hc.2, hr⟩, wrapN (n := 2 + runL hexN ((tl s).drop 2)) (by omega) (by have := runL_le hexN ((tl s).drop 2); rw [List.length_drop] at this; omega)]
      · rw [decide_eq_false (by omega), cond_false, if_neg (fun h => hr h.2.2)]
    · rw [decide_eq_false hc, cond_false, if_neg (fun h => hc ⟨h.1, h.2.1⟩)]
  unfold numL
  by_cases hH : gB (tl s) 0 = 48 ∧ (gB (tl s) 1 = 120 ∨ gB (tl s) 1 = 88) ∧ 0 < runL hexN ((tl s).drop 2)
  · rw [if_pos hH, if_pos hH]
  rw [if_neg hH, if_neg hH]
  show Option.bind _ _ = _
  have hA := runL_le digN (tl s)
  refine bind_of (a := ((runL digN (tl s) : Nat) : Int)) (by have := num_dig (a := 0) hs (by omega); rw [List.drop_zero] at this; exact this) ?_
  generalize hAe : runL digN (tl s) = A at *
  refine bind_of (a := decide (gB (tl s) A = 46)) ?_ ?_
  · exact at_if (fun c => decide (c = 46)) rfl (fun hi => by show some (((gB (tl s) A : Nat) : Int) == 46) = some (decide (gB (tl s) A = 46)); congr 1; rw [Bool.eq_iff_iff, beq_iff_eq, decide_eq_true_eq]; omega)
  have hNA := numA_le (l := tl s) (a := A) (by omega)
  refine bind_of (a := if gB (tl s) A = 46 ∧ numA (tl s) A = 0 then Sum.inr (0 : Int) else Sum.inl ((numA (tl s) A : Nat) : Int)) ?_ ?_
  · by_cases hd : gB (tl s) A = 46
    · have hi := gB_in (l := tl s) (i := A) (by omega)
      have hB := runL_le digN ((tl s).drop (A + 1))
      rw [List.length_drop] at hB
      unfold numA
      rw [decide_eq_true hd, cond_true, if_pos hd, wrapN (n := A + 1) (by omega) (by omega), num_dig hs (by omega), Option.bind_some, wrapN (n := A + runL digN ((tl s).drop (A + 1))) (by omega) (by omega)]
      by_cases hz : A + runL digN ((tl s).drop (A + 1)) = 0
      · rw [if_pos hz, if_pos ⟨hd, rfl⟩, hz]; rfl
      · rw [if_neg hz, if_neg (fun h => by have := h.2; omega), show (((A + runL digN ((tl s).drop (A + 1)) : Nat) : Int) == 0) = false from by rw [beq_eq_false_iff_ne]; omega, cond_false,
          wrapN (z := 1 + ((runL digN ((tl s).drop (A + 1)) : Nat) : Int)) (n := 1 + runL digN ((tl s).drop (A + 1))) (by omega) (by omega), wrapN (n := A + 1 + runL digN ((tl s).drop (A + 1))) (by omega) (by omega)]
    · rw [decide_eq_false hd, cond_false, if_neg (fun h => hd h.1)]
      unfold numA; rw [if_neg hd]
  by_cases hz : gB (tl s) A = 46 ∧ numA (tl s) A = 0
  · rw [if_pos hz]
    show some (0 : Int) = _
    rw [if_pos hz.2]; rfl
  rw [if_neg hz]
  have hnl : numA (tl s) A ≤ s.size := by omega
  generalize numA (tl s) A = M at *
  show (bif ((M : Int) == 0) then _ else _) = _
  by_cases hM : M = 0
  · subst hM; rfl
  rw [show ((M : Int) == 0) = false from by rw [beq_eq_false_iff_ne]; omega, cond_false, if_neg hM]
  unfold expL
  refine bind_of (a := decide (gB (tl s) M = 101 ∨ gB (tl s) M = 69)) ?_ ?_
  · exact at_if (fun c => decide (c = 101 ∨ c = 69)) rfl (fun hi => by
      rw [bx_tl hi]
      by_cases h1 : gB (tl s) M = 101
      · rw [h1]; rfl
      · rw [show (((gB (tl s) M : Nat) : Int) == 101) = false from by rw [beq_eq_false_iff_ne]; omega]
        simp only [cond_false, Option.bind_some, h1, false_or]
        congr 1; rw [Bool.eq_iff_iff, beq_iff_eq, decide_eq_true_eq]; omega)
  by_cases hE : gB (tl s) M = 101 ∨ gB (tl s) M = 69
  · rw [decide_eq_true hE, cond_true, if_pos hE]
    have hi := gB_in (l := tl s) (i := M) (by omega)
    refine bind_of (a := (((if 0 < runL digN ((tl s).drop (expK (tl s) M)) then expK (tl s) M + runL digN ((tl s).drop (expK (tl s) M)) else M) : Nat) : Int)) ?_ rfl
    rw [wrapN (n := M + 1) (by omega) (by omega)]
    refine bind_of (a := decide (gB (tl s) (M + 1) = 43 ∨ gB (tl s) (M + 1) = 45)) ?_ ?_
    · exact at_if (fun c => decide (c = 43 ∨ c = 45)) rfl (fun hi => by
        rw [bx_tl hi]
        by_cases h1 : gB (tl s) (M + 1) = 43
        · rw [h1]; rfl
        · rw [show (((gB (tl s) (M + 1) : Nat) : Int) == 43) = false from by rw [beq_eq_false_iff_ne]; omega]
          simp only [cond_false, Option.bind_some, h1, false_or]
          congr 1; rw [Bool.eq_iff_iff, beq_iff_eq, decide_eq_true_eq]; omega)
    refine bind_of (a := ((expK (tl s) M : Nat) : Int)) ?_ ?_
    · unfold expK
      by_cases hS : gB (tl s) (M + 1) = 43 ∨ gB (tl s) (M + 1) = 45
      · rw [decide_eq_true hS, cond_true, if_pos hS, wrapN (n := M + 2) (by omega) (by omega)]
      · rw [decide_eq_false hS, cond_false, if_neg hS]
    have hk := (expK_le (l := tl s) (n := M) hi).2
    rw [hl] at hk
    generalize expK (tl s) M = Kk at *
    have hD := runL_le digN ((tl s).drop Kk)
    rw [List.length_drop] at hD
    refine bind_of (num_dig hs hk) ?_
    refine bind_of (a := (((if 0 < runL digN ((tl s).drop Kk) then Kk + runL digN ((tl s).drop Kk) else M) : Nat) : Int)) ?_ rfl
    by_cases hr : 0 < runL digN ((tl s).drop Kk)
    · rw [decide_eq_true (by omega), cond_true, if_pos hr, wrapN (n := Kk + runL digN ((tl s).drop Kk)) (by omega) (by omega)]
    · rw [decide_eq_false (by omega), cond_false, if_neg hr]
  · rw [decide_eq_false hE, cond_false, if_neg hE]; rfl
end Go.Proofs.YtlhpclfkoblnkaaDoor
