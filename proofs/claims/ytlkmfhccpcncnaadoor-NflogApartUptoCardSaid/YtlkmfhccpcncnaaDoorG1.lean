import Derived.Test.YtlkmfhccpcncnaaDoorG1b
set_option linter.unusedVariables false
set_option linter.unusedSimpArgs false
set_option maxRecDepth 100000
namespace Go.Proofs.YtlkmfhccpcncnaaDoor
open Go.GB
/-! 3 tocsinlaw26_NflogApart  -/
noncomputable def tocsinlaw26_NflogApart (a0 : S23) (a1 : S23) (a2 : Int) (a3 : Int) : Option Bool :=
  bif ((a0.f0.toList == a1.f0.toList) && (a0.f1.toList == a1.f1.toList)) then
  (Option.bind tocsinlaw26_awake fun (y26 : Bool) =>
    some y26)
  else
  (Option.bind (nflog_Log_Put (⟨(⟨nflog_New.f0.f0⟩ : S75)⟩ : S77) a0) fun (y28 : Int × S77) =>
    Option.bind (nflog_Log_Put (⟨(⟨nflog_New.f0.f0⟩ : S75)⟩ : S77) a0) fun (y37 : Int × S77) =>
    Option.bind (nflog_Log_Put y37.2 a1) fun (y46 : Int × S77) =>
    Option.bind (nflog_Log_Find y28.2 a0.f0 a0.f1) fun (y55 : S23 × Bool) =>
    Option.bind (nflog_Log_Find y46.2 a0.f0 a0.f1) fun (y67 : S23 × Bool) =>
    Option.bind (nflog_Log_Needs y28.2 a0.f0 a0.f1 a2 a3 a0.f3 a1.f4) fun (y79 : Bool × Int) =>
    Option.bind (nflog_Log_Needs y46.2 a0.f0 a0.f1 a2 a3 a0.f3 a1.f4) fun (y84 : Bool × Int) =>
    Option.bind (bif (y55.2 == y67.2) then
      (Option.bind (tocsinref26_Same y55.1 y67.1) fun (y95 : Bool) =>
        bif y95 then
        (bif (y79.1 == y84.1) then
          (bif (y79.2 == y84.2) then
            (Option.bind tocsinlaw26_awake fun (y100 : Bool) =>
              some y100)
            else
            (some false))
          else
          (some false))
        else
        (some false))
      else
      (some false)) fun (j89 : Bool) =>
    some j89)
theorem tocsinlaw26_NflogApart_walk {a0 : S23} {A0_3 : Option Addr} {n0_3 : Nat} {A0_4 : Option Addr} {n0_4 : Nat} {a1 : S23} {A1_3 : Option Addr} {n1_3 : Nat} {A1_4 : Option Addr} {n1_4 : Nat} {a2 : Int} {a3 : Int} {I : Imm} {r : Bool} (hG : Gl I)  (hf0_3 : RepS (Kd.sl kS79) I A0_3 n0_3 a0.f3) (hf0_4 : RepS (Kd.sl kS79) I A0_4 n0_4 a0.f4)  (hf1_3 : RepS (Kd.sl kS79) I A1_3 n1_3 a1.f3) (hf1_4 : RepS (Kd.sl kS79) I A1_4 n1_4 a1.f4) (hr : tocsinlaw26_NflogApart a0 a1 a2 a3 = some r) (L : Own) :
    CallsTo Tryd.prog 3 #[.agg #[.string a0.f0, .string a0.f1, .int .i64 a0.f2, .slice A0_3 a0.f3.length n0_3, .slice A0_4 a0.f4.length n0_4], .agg #[.string a1.f0, .string a1.f1, .int .i64 a1.f2, .slice A1_3 a1.f3.length n1_3, .slice A1_4 a1.f4.length n1_4], .int .i64 a2, .int .i64 a3] I L (fun v I' L' => v = .bool r ∧ L = L') := by
  unfold tocsinlaw26_NflogApart at hr
  refine callsTo_body (N := 118) Tryd.func3 (by kernel_rfl) (by kernel_rfl) (by kernel_rfl) ?_
  refine gk_pick [0, 1, 2, 3] (K' := [(0, .agg #[.string a0.f0, .string a0.f1, .int .i64 a0.f2, .slice A0_3 a0.f3.length n0_3, .slice A0_4 a0.f4.length n0_4]), (1, .agg #[.string a1.f0, .string a1.f1, .int .i64 a1.f2, .slice A1_3 a1.f3.length n1_3, .slice A1_4 a1.f4.length n1_4]), (2, .int .i64 a2), (3, .int .i64 a3)]) (by kernel_rfl) ?_
  refine gk_seq (by kernel_rfl) ?_
  refine gk_region (by kernel_rfl) ?_
  refine gl_box (T' := 24) (x := (.tmp 0)) (v := .agg #[.string a0.f0, .string a0.f1, .int .i64 a0.f2, .slice A0_3 a0.f3.length n0_3, .slice A0_4 a0.f4.length n0_4]) (cs := #[.string a0.f0, .string a0.f1, .int .i64 a0.f2, .slice A0_3 a0.f3.length n0_3, .slice A0_4 a0.f4.length n0_4]) (by kernel_rfl) (by kernel_rfl) (by kernel_rfl) (by kernel_rfl) (fun g1 => ?_)
  refine gl_box (T' := 24) (x := (.tmp 1)) (v := .agg #[.string a1.f0, .string a1.f1, .int .i64 a1.f2, .slice A1_3 a1.f3.length n1_3, .slice A1_4 a1.f4.length n1_4]) (cs := #[.string a1.f0, .string a1.f1, .int .i64 a1.f2, .slice A1_3 a1.f3.length n1_3, .slice A1_4 a1.f4.length n1_4]) (by kernel_rfl) (by kernel_rfl) (by kernel_rfl) (by kernel_rfl) (fun g2 => ?_)
  refine gl_pure 1 [2, 3, 4, 5] (K' := [(2, .int .i64 a2), (3, .int .i64 a3), (4, .pointer (some ⟨g1, 0, none⟩)), (5, .pointer (some ⟨g2, 0, none⟩))]) (by kernel_rfl) ?_
  refine gl_atE (by kernel_rfl) ?_
  refine ge_seq ?_
  refine gk_seq (by kernel_rfl) ?_
  refine gk_region (by kernel_rfl) ?_
  refine gl_call (by kernel_rfl) (nflog_New_walk (r := nflog_New)  rfl _) ?_
  rintro v I3 L4 hI5 ⟨g6, A7, c8, C9, hO10, rfl, rfl⟩
  refine gl_call (by kernel_rfl) (nflog_New_walk (r := nflog_New)  rfl _) ?_
  rintro v I11 L12 hI13 ⟨g14, A15, c16, C17, hO18, rfl, rfl⟩
  refine gl_pure 2 [2, 3, 4, 5, 9, 10] (K' := [(2, .int .i64 a2), (3, .int .i64 a3), (4, .pointer (some ⟨g1, 0, none⟩)), (5, .pointer (some ⟨g2, 0, none⟩)), (9, .pointer (some ⟨g6, 0, none⟩)), (10, .pointer (some ⟨g14, 0, none⟩))]) (by kernel_rfl) ?_
  refine gl_atE (by kernel_rfl) ?_
  refine ge_seq ?_
  refine gk_seq (by kernel_rfl) ?_
  refine gk_seq (by kernel_rfl) ?_
  refine gk_region (by kernel_rfl) ?_
  refine gl_pure 6 [2, 3, 4, 5, 9, 10, 26] (K' := [(2, .int .i64 a2), (3, .int .i64 a3), (4, .pointer (some ⟨g1, 0, none⟩)), (5, .pointer (some ⟨g2, 0, none⟩)), (9, .pointer (some ⟨g6, 0, none⟩)), (10, .pointer (some ⟨g14, 0, none⟩)), (26, .bool false)]) (by kernel_rfl) ?_
  refine gl_atE (by kernel_rfl) ?_
  refine ge_seq ?_
  refine gk_cond (b := false) (by kernel_rfl) (by kernel_rfl) (fun h => by cases h) (fun _ => ?_)
  refine gk_skip (by kernel_rfl) ?_
  refine ge_seq ?_
  refine gk_seq (by kernel_rfl) ?_
  refine gk_seq (by kernel_rfl) ?_
  obtain ⟨b21, hb22⟩ : ∃ z, z = ((a0.f0.toList == a1.f0.toList) && (a0.f1.toList == a1.f1.toList)) := ⟨_, rfl⟩
  refine gk_join (fun t I' L' => I11 ≤ I' ∧ (g14, .cells #[.slice A15 nflog_New.f0.f0.length c16] 78) :: (C17 ++ ((g6, .cells #[.slice A7 nflog_New.f0.f0.length c8] 78) :: (C9 ++ ((g2, .cells #[.string a1.f0, .string a1.f1, .int .i64 a1.f2, .slice A1_3 a1.f3.length n1_3, .slice A1_4 a1.f4.length n1_4] 24) :: ((g1, .cells #[.string a0.f0, .string a0.f1, .int .i64 a0.f2, .slice A0_3 a0.f3.length n0_3, .slice A0_4 a0.f4.length n0_4] 24) :: L))))) = L' ∧ Knows 118 [(2, .int .i64 a2), (3, .int .i64 a3), (4, .pointer (some ⟨g1, 0, none⟩)), (5, .pointer (some ⟨g2, 0, none⟩)), (9, .pointer (some ⟨g6, 0, none⟩)), (10, .pointer (some ⟨g14, 0, none⟩)), (38, .bool b21)] t) ?_ ?_
  · refine gk_region (by kernel_rfl) ?_
    refine gl_pure 1 [2, 3, 4, 5, 9, 10, 27] (K' := [(2, .int .i64 a2), (3, .int .i64 a3), (4, .pointer (some ⟨g1, 0, none⟩)), (5, .pointer (some ⟨g2, 0, none⟩)), (9, .pointer (some ⟨g6, 0, none⟩)), (10, .pointer (some ⟨g14, 0, none⟩)), (27, .pointer (some ⟨g1, 0, none⟩))]) (by kernel_rfl) ?_
    refine gl_loadB (T' := 9) (xp := (.tmp 27)) (v := .string a0.f0) (g := g1) (off := 0) (cs := #[.string a0.f0, .string a0.f1, .int .i64 a0.f2, .slice A0_3 a0.f3.length n0_3, .slice A0_4 a0.f4.length n0_4]) (e := 24) (fz := (0, 0)) (by kernel_rfl) (by kernel_rfl) (by kernel_rfl) (List.mem_cons_of_mem _ (List.mem_append_right _ (List.mem_cons_of_mem _ (List.mem_append_right _ (List.mem_cons_of_mem _ List.mem_cons_self))))) (by kernel_rfl) ?_
    refine gl_pure 1 [2, 3, 4, 5, 9, 10, 28, 29] (K' := [(2, .int .i64 a2), (3, .int .i64 a3), (4, .pointer (some ⟨g1, 0, none⟩)), (5, .pointer (some ⟨g2, 0, none⟩)), (9, .pointer (some ⟨g6, 0, none⟩)), (10, .pointer (some ⟨g14, 0, none⟩)), (28, .string a0.f0), (29, .pointer (some ⟨g2, 0, none⟩))]) (by kernel_rfl) ?_
    refine gl_loadB (T' := 9) (xp := (.tmp 29)) (v := .string a1.f0) (g := g2) (off := 0) (cs := #[.string a1.f0, .string a1.f1, .int .i64 a1.f2, .slice A1_3 a1.f3.length n1_3, .slice A1_4 a1.f4.length n1_4]) (e := 24) (fz := (0, 0)) (by kernel_rfl) (by kernel_rfl) (by kernel_rfl) (List.mem_cons_of_mem _ (List.mem_append_right _ (List.mem_cons_of_mem _ (List.mem_append_right _ List.mem_cons_self)))) (by kernel_rfl) ?_
    refine gl_pure 2 [2, 3, 4, 5, 9, 10, 32] (K' := [(2, .int .i64 a2), (3, .int .i64 a3), (4, .pointer (some ⟨g1, 0, none⟩)), (5, .pointer (some ⟨g2, 0, none⟩)), (9, .pointer (some ⟨g6, 0, none⟩)), (10, .pointer (some ⟨g14, 0, none⟩)), (32, .bool (a0.f0.toList == a1.f0.toList))]) (by kernel_rfl) ?_
    refine gl_case 32 (b := (a0.f0.toList == a1.f0.toList)) (by kernel_rfl) (fun hc24 => ?_) (fun hc24 => ?_)
    · refine gl_pure 1 [2, 3, 4, 5, 9, 10, 32, 33] (K' := [(2, .int .i64 a2), (3, .int .i64 a3), (4, .pointer (some ⟨g1, 0, none⟩)), (5, .pointer (some ⟨g2, 0, none⟩)), (9, .pointer (some ⟨g6, 0, none⟩)), (10, .pointer (some ⟨g14, 0, none⟩)), (32, .bool true), (33, .pointer (some ⟨g1, 1, none⟩))]) (by kernel_rfl) ?_
      refine gl_loadB (T' := 9) (xp := (.tmp 33)) (v := .string a0.f1) (g := g1) (off := 1) (cs := #[.string a0.f0, .string a0.f1, .int .i64 a0.f2, .slice A0_3 a0.f3.length n0_3, .slice A0_4 a0.f4.length n0_4]) (e := 24) (fz := (0, 0)) (by kernel_rfl) (by kernel_rfl) (by kernel_rfl) (List.mem_cons_of_mem _ (List.mem_append_right _ (List.mem_cons_of_mem _ (List.mem_append_right _ (List.mem_cons_of_mem _ List.mem_cons_self))))) (by kernel_rfl) ?_
      refine gl_pure 1 [2, 3, 4, 5, 9, 10, 32, 34, 35] (K' := [(2, .int .i64 a2), (3, .int .i64 a3), (4, .pointer (some ⟨g1, 0, none⟩)), (5, .pointer (some ⟨g2, 0, none⟩)), (9, .pointer (some ⟨g6, 0, none⟩)), (10, .pointer (some ⟨g14, 0, none⟩)), (32, .bool true), (34, .string a0.f1), (35, .pointer (some ⟨g2, 1, none⟩))]) (by kernel_rfl) ?_
      refine gl_loadB (T' := 9) (xp := (.tmp 35)) (v := .string a1.f1) (g := g2) (off := 1) (cs := #[.string a1.f0, .string a1.f1, .int .i64 a1.f2, .slice A1_3 a1.f3.length n1_3, .slice A1_4 a1.f4.length n1_4]) (e := 24) (fz := (0, 0)) (by kernel_rfl) (by kernel_rfl) (by kernel_rfl) (List.mem_cons_of_mem _ (List.mem_append_right _ (List.mem_cons_of_mem _ (List.mem_append_right _ List.mem_cons_self)))) (by kernel_rfl) ?_
      refine gl_pure 2 [2, 3, 4, 5, 9, 10, 38] (K' := [(2, .int .i64 a2), (3, .int .i64 a3), (4, .pointer (some ⟨g1, 0, none⟩)), (5, .pointer (some ⟨g2, 0, none⟩)), (9, .pointer (some ⟨g6, 0, none⟩)), (10, .pointer (some ⟨g14, 0, none⟩)), (38, .bool (a0.f1.toList == a1.f1.toList))]) (by kernel_rfl) ?_
      refine gl_atE (by kernel_rfl) ?_
      exact ge_mid fun t ht => ⟨(Imm.refl _), rfl, by rw [(show b21 = (a0.f1.toList == a1.f1.toList) from hb22.trans (by rw [hc24]; try rfl))]; exact ht.pick (l := [2, 3, 4, 5, 9, 10, 38]) (by kernel_rfl)⟩
    · refine gl_pure 6 [2, 3, 4, 5, 9, 10, 38] (K' := [(2, .int .i64 a2), (3, .int .i64 a3), (4, .pointer (some ⟨g1, 0, none⟩)), (5, .pointer (some ⟨g2, 0, none⟩)), (9, .pointer (some ⟨g6, 0, none⟩)), (10, .pointer (some ⟨g14, 0, none⟩)), (38, .bool false)]) (by kernel_rfl) ?_
      refine gl_atE (by kernel_rfl) ?_
      exact ge_mid fun t ht => ⟨(Imm.refl _), rfl, by rw [(show b21 = false from hb22.trans (by rw [hc24]; try rfl))]; exact ht.pick (l := [2, 3, 4, 5, 9, 10, 38]) (by kernel_rfl)⟩
  · rintro t I23 L' ⟨hI19, rfl, hK20⟩
    subst hb22
    refine ge_at hK20 ?_
    refine ge_seq ?_
    refine gk_cond (b := ((a0.f0.toList == a1.f0.toList) && (a0.f1.toList == a1.f1.toList))) (by kernel_rfl) (by kernel_rfl) (fun hc25 => ?_) (fun hc25 => ?_)
    · have hr := cond_t hc25 hr
      refine gk_seq (by kernel_rfl) ?_
      refine gk_region (by kernel_rfl) ?_
      obtain ⟨y26, hx27, hr⟩ := bind_some hr
      refine gl_callQ (by kernel_rfl) (tocsinlaw26_awake_walk (r := y26) (hG.mono (Imm.trans (Imm.trans hI5 hI13) hI19)) hx27 _) ?_
      refine gl_pure 1 [8] (K' := [(8, .bool y26)]) (by kernel_rfl) ?_
      refine gl_atE (by kernel_rfl) ?_
      refine ge_seq ?_
      refine gk_reord (D := L) (Reord.skip (Reord.skipC (Reord.skip (Reord.skipC (Reord.skip (Reord.skip (Reord.refl _))))))) ?_
      refine gk_ret (by kernel_rfl) ?_
      refine ge_seq_ret ?_
      obtain rfl := some_inj hr
      exact ge_result trivial (ResOk.tmp (by kernel_rfl) ResOk.nil) (Imm.trans (Imm.trans hI5 hI13) hI19) ⟨rfl, rfl⟩
    · have hr := cond_f hc25 hr
      refine gk_skip (by kernel_rfl) ?_
      refine ge_seq ?_
      refine gk_seq (by kernel_rfl) ?_
      refine gk_region (by kernel_rfl) ?_
      refine gl_pure 1 [2, 3, 4, 5, 9, 10, 40] (K' := [(2, .int .i64 a2), (3, .int .i64 a3), (4, .pointer (some ⟨g1, 0, none⟩)), (5, .pointer (some ⟨g2, 0, none⟩)), (9, .pointer (some ⟨g6, 0, none⟩)), (10, .pointer (some ⟨g14, 0, none⟩)), (40, .pointer (some ⟨g6, 0, none⟩))]) (by kernel_rfl) ?_
      refine gl_loadB (T' := 24) (xp := (.tmp 4)) (v := .agg #[.string a0.f0, .string a0.f1, .int .i64 a0.f2, .slice A0_3 a0.f3.length n0_3, .slice A0_4 a0.f4.length n0_4]) (g := g1) (off := 0) (cs := #[.string a0.f0, .string a0.f1, .int .i64 a0.f2, .slice A0_3 a0.f3.length n0_3, .slice A0_4 a0.f4.length n0_4]) (e := 24) (fz := (0, 0)) (by kernel_rfl) (by kernel_rfl) (by kernel_rfl) (List.mem_cons_of_mem _ (List.mem_append_right _ (List.mem_cons_of_mem _ (List.mem_append_right _ (List.mem_cons_of_mem _ List.mem_cons_self))))) (by kernel_rfl) ?_
      obtain ⟨y28, hx29, hr⟩ := bind_some hr
      refine gl_reord (D := (g6, .cells #[.slice A7 nflog_New.f0.f0.length c8] 78) :: (C9 ++ ((g14, .cells #[.slice A15 nflog_New.f0.f0.length c16] 78) :: (C17 ++ ((g2, .cells #[.string a1.f0, .string a1.f1, .int .i64 a1.f2, .slice A1_3 a1.f3.length n1_3, .slice A1_4 a1.f4.length n1_4] 24) :: ((g1, .cells #[.string a0.f0, .string a0.f1, .int .i64 a0.f2, .slice A0_3 a0.f3.length n0_3, .slice A0_4 a0.f4.length n0_4] 24) :: L)))))) (Reord.step1 (Upd.one _ (Upd.app _ (Upd.rm1 _ _))) (Reord.step (Upd.one _ (Upd.app _ (Upd.rmC _ _))) (Reord.step1 (Upd.rm1 _ _) (Reord.step (Upd.rmC _ _) (Reord.step1 (Upd.rm1 _ _) (Reord.step1 (Upd.rm1 _ _) (Reord.refl _))))))) ?_
      refine gl_call (by kernel_rfl) (nflog_Log_Put_walk (r := y28) (g0 := g6) (T0 := 78) (A0_0 := A7) (c0_0 := c8) (C0_0 := C9) (a0 := (⟨(⟨nflog_New.f0.f0⟩ : S75)⟩ : S77)) (hG.mono (Imm.trans (Imm.trans hI5 hI13) hI19)) (hO10.mono (Imm.trans hI13 hI19)) (hf0_3.mono (Imm.trans (Imm.trans hI5 hI13) hI19)) (hf0_4.mono (Imm.trans (Imm.trans hI5 hI13) hI19)) hx29 _) ?_
      rintro v I30 L31 hI32 ⟨A33, c34, C35, hO36, rfl, rfl⟩
      refine gl_atE (by kernel_rfl) ?_
      refine ge_seq ?_
      refine gk_seq (by kernel_rfl) ?_
      refine gk_region (by kernel_rfl) ?_
      refine gl_pure 1 [2, 3, 4, 5, 9, 10, 43] (K' := [(2, .int .i64 a2), (3, .int .i64 a3), (4, .pointer (some ⟨g1, 0, none⟩)), (5, .pointer (some ⟨g2, 0, none⟩)), (9, .pointer (some ⟨g6, 0, none⟩)), (10, .pointer (some ⟨g14, 0, none⟩)), (43, .pointer (some ⟨g14, 0, none⟩))]) (by kernel_rfl) ?_
      refine gl_loadB (T' := 24) (xp := (.tmp 4)) (v := .agg #[.string a0.f0, .string a0.f1, .int .i64 a0.f2, .slice A0_3 a0.f3.length n0_3, .slice A0_4 a0.f4.length n0_4]) (g := g1) (off := 0) (cs := #[.string a0.f0, .string a0.f1, .int .i64 a0.f2, .slice A0_3 a0.f3.length n0_3, .slice A0_4 a0.f4.length n0_4]) (e := 24) (fz := (0, 0)) (by kernel_rfl) (by kernel_rfl) (by kernel_rfl) (List.mem_cons_of_mem _ (List.mem_append_right _ (List.mem_cons_of_mem _ (List.mem_append_right _ (List.mem_cons_of_mem _ List.mem_cons_self))))) (by kernel_rfl) ?_
      obtain ⟨y37, hx38, hr⟩ := bind_some hr
      refine gl_reord (D := (g14, .cells #[.slice A15 nflog_New.f0.f0.length c16] 78) :: (C17 ++ ((g6, .cells #[.slice A33 y28.2.f0.f0.length c34] 78) :: (C35 ++ ((g2, .cells #[.string a1.f0, .string a1.f1, .int .i64 a1.f2, .slice A1_3 a1.f3.length n1_3, .slice A1_4 a1.f4.length n1_4] 24) :: ((g1, .cells #[.string a0.f0, .string a0.f1, .int .i64 a0.f2, .slice A0_3 a0.f3.length n0_3, .slice A0_4 a0.f4.length n0_4] 24) :: L)))))) (Reord.step1 (Upd.one _ (Upd.app _ (Upd.rm1 _ _))) (Reord.step (Upd.one _ (Upd.app _ (Upd.rmC _ _))) (Reord.step1 (Upd.rm1 _ _) (Reord.step (Upd.rmC _ _) (Reord.step1 (Upd.rm1 _ _) (Reord.step1 (Upd.rm1 _ _) (Reord.refl _))))))) ?_
      refine gl_call (by kernel_rfl) (nflog_Log_Put_walk (r := y37) (g0 := g14) (T0 := 78) (A0_0 := A15) (c0_0 := c16) (C0_0 := C17) (a0 := (⟨(⟨nflog_New.f0.f0⟩ : S75)⟩ : S77)) (hG.mono (Imm.trans (Imm.trans (Imm.trans hI5 hI13) hI19) hI32)) (hO18.mono (Imm.trans hI19 hI32)) (hf0_3.mono (Imm.trans (Imm.trans (Imm.trans hI5 hI13) hI19) hI32)) (hf0_4.mono (Imm.trans (Imm.trans (Imm.trans hI5 hI13) hI19) hI32)) hx38 _) ?_
      rintro v I39 L40 hI41 ⟨A42, c43, C44, hO45, rfl, rfl⟩
      refine gl_atE (by kernel_rfl) ?_
      refine ge_seq ?_
      refine gk_seq (by kernel_rfl) ?_
      refine gk_region (by kernel_rfl) ?_
      refine gl_pure 1 [2, 3, 4, 5, 9, 10, 46] (K' := [(2, .int .i64 a2), (3, .int .i64 a3), (4, .pointer (some ⟨g1, 0, none⟩)), (5, .pointer (some ⟨g2, 0, none⟩)), (9, .pointer (some ⟨g6, 0, none⟩)), (10, .pointer (some ⟨g14, 0, none⟩)), (46, .pointer (some ⟨g14, 0, none⟩))]) (by kernel_rfl) ?_
      refine gl_loadB (T' := 24) (xp := (.tmp 5)) (v := .agg #[.string a1.f0, .string a1.f1, .int .i64 a1.f2, .slice A1_3 a1.f3.length n1_3, .slice A1_4 a1.f4.length n1_4]) (g := g2) (off := 0) (cs := #[.string a1.f0, .string a1.f1, .int .i64 a1.f2, .slice A1_3 a1.f3.length n1_3, .slice A1_4 a1.f4.length n1_4]) (e := 24) (fz := (0, 0)) (by kernel_rfl) (by kernel_rfl) (by kernel_rfl) (List.mem_cons_of_mem _ (List.mem_append_right _ (List.mem_cons_of_mem _ (List.mem_append_right _ List.mem_cons_self)))) (by kernel_rfl) ?_
      obtain ⟨y46, hx47, hr⟩ := bind_some hr
      refine gl_call (by kernel_rfl) (nflog_Log_Put_walk (r := y46) (g0 := g14) (T0 := 78) (A0_0 := A42) (c0_0 := c43) (C0_0 := C44) (a0 := y37.2) (hG.mono (Imm.trans (Imm.trans (Imm.trans (Imm.trans hI5 hI13) hI19) hI32) hI41)) hO45 (hf1_3.mono (Imm.trans (Imm.trans (Imm.trans (Imm.trans hI5 hI13) hI19) hI32) hI41)) (hf1_4.mono (Imm.trans (Imm.trans (Imm.trans (Imm.trans hI5 hI13) hI19) hI32) hI41)) hx47 _) ?_
      rintro v I48 L49 hI50 ⟨A51, c52, C53, hO54, rfl, rfl⟩
      refine gl_atE (by kernel_rfl) ?_
      refine ge_seq ?_
      refine gk_seq (by kernel_rfl) ?_
      refine gk_region (by kernel_rfl) ?_
      refine gl_pure 2 [2, 3, 4, 5, 9, 10, 50, 51] (K' := [(2, .int .i64 a2), (3, .int .i64 a3), (4, .pointer (some ⟨g1, 0, none⟩)), (5, .pointer (some ⟨g2, 0, none⟩)), (9, .pointer (some ⟨g6, 0, none⟩)), (10, .pointer (some ⟨g14, 0, none⟩)), (50, .pointer (some ⟨g6, 0, none⟩)), (51, .pointer (some ⟨g1, 0, none⟩))]) (by kernel_rfl) ?_
      refine gl_loadB (T' := 9) (xp := (.tmp 51)) (v := .string a0.f0) (g := g1) (off := 0) (cs := #[.string a0.f0, .string a0.f1, .int .i64 a0.f2, .slice A0_3 a0.f3.length n0_3, .slice A0_4 a0.f4.length n0_4]) (e := 24) (fz := (0, 0)) (by kernel_rfl) (by kernel_rfl) (by kernel_rfl) (List.mem_cons_of_mem _ (List.mem_append_right _ (List.mem_cons_of_mem _ (List.mem_append_right _ (List.mem_cons_of_mem _ List.mem_cons_self))))) (by kernel_rfl) ?_
      refine gl_pure 1 [2, 3, 4, 5, 9, 10, 50, 52, 53] (K' := [(2, .int .i64 a2), (3, .int .i64 a3), (4, .pointer (some ⟨g1, 0, none⟩)), (5, .pointer (some ⟨g2, 0, none⟩)), (9, .pointer (some ⟨g6, 0, none⟩)), (10, .pointer (some ⟨g14, 0, none⟩)), (50, .pointer (some ⟨g6, 0, none⟩)), (52, .string a0.f0), (53, .pointer (some ⟨g1, 1, none⟩))]) (by kernel_rfl) ?_
      refine gl_loadB (T' := 9) (xp := (.tmp 53)) (v := .string a0.f1) (g := g1) (off := 1) (cs := #[.string a0.f0, .string a0.f1, .int .i64 a0.f2, .slice A0_3 a0.f3.length n0_3, .slice A0_4 a0.f4.length n0_4]) (e := 24) (fz := (0, 0)) (by kernel_rfl) (by kernel_rfl) (by kernel_rfl) (List.mem_cons_of_mem _ (List.mem_append_right _ (List.mem_cons_of_mem _ (List.mem_append_right _ (List.mem_cons_of_mem _ List.mem_cons_self))))) (by kernel_rfl) ?_
      obtain ⟨y55, hx56, hr⟩ := bind_some hr
      refine gl_reord (D := (g6, .cells #[.slice A33 y28.2.f0.f0.length c34] 78) :: (C35 ++ ((g14, .cells #[.slice A51 y46.2.f0.f0.length c52] 78) :: (C53 ++ ((g2, .cells #[.string a1.f0, .string a1.f1, .int .i64 a1.f2, .slice A1_3 a1.f3.length n1_3, .slice A1_4 a1.f4.length n1_4] 24) :: ((g1, .cells #[.string a0.f0, .string a0.f1, .int .i64 a0.f2, .slice A0_3 a0.f3.length n0_3, .slice A0_4 a0.f4.length n0_4] 24) :: L)))))) (Reord.step1 (Upd.one _ (Upd.app _ (Upd.rm1 _ _))) (Reord.step (Upd.one _ (Upd.app _ (Upd.rmC _ _))) (Reord.step1 (Upd.rm1 _ _) (Reord.step (Upd.rmC _ _) (Reord.step1 (Upd.rm1 _ _) (Reord.step1 (Upd.rm1 _ _) (Reord.refl _))))))) ?_
      refine gl_call (by kernel_rfl) (nflog_Log_Find_walk (r := y55) (g0 := g6) (T0 := 78) (A0_0 := A33) (c0_0 := c34) (C0_0 := C35) (a0 := y28.2) (hO36.mono (Imm.trans hI41 hI50)) hx56 _) ?_
      rintro v I57 L58 hI59 ⟨A60, c61, A62, c63, hf64, hf65, rfl, rfl⟩
      refine gl_pure 3 [2, 3, 4, 5, 9, 10, 56, 57] (K' := [(2, .int .i64 a2), (3, .int .i64 a3), (4, .pointer (some ⟨g1, 0, none⟩)), (5, .pointer (some ⟨g2, 0, none⟩)), (9, .pointer (some ⟨g6, 0, none⟩)), (10, .pointer (some ⟨g14, 0, none⟩)), (56, .agg #[.string y55.1.f0, .string y55.1.f1, .int .i64 y55.1.f2, .slice A60 y55.1.f3.length c61, .slice A62 y55.1.f4.length c63]), (57, .bool y55.2)]) (by kernel_rfl) ?_
      refine gl_alloc (T' := 24) (cs := #[.string (⟨#[]⟩ : ByteArray), .string (⟨#[]⟩ : ByteArray), .int .i64 0, .slice none 0 0, .slice none 0 0]) (by kernel_rfl) (by kernel_rfl) (by kernel_rfl) (fun g66 => ?_)
      refine gl_storeB (T' := 24) (xp := (.tmp 11)) (xv := (.tmp 56)) (v := .agg #[.string y55.1.f0, .string y55.1.f1, .int .i64 y55.1.f2, .slice A60 y55.1.f3.length c61, .slice A62 y55.1.f4.length c63]) (g := g66) (off := 0) (cs := #[.string (⟨#[]⟩ : ByteArray), .string (⟨#[]⟩ : ByteArray), .int .i64 0, .slice none 0 0, .slice none 0 0]) (cs' := #[.string y55.1.f0, .string y55.1.f1, .int .i64 y55.1.f2, .slice A60 y55.1.f3.length c61, .slice A62 y55.1.f4.length c63]) (by kernel_rfl) (by kernel_rfl) (by kernel_rfl) (by kernel_rfl) (by kernel_rfl) (Upd.set _ _ _ _) ?_ (by kernel_rfl)
      refine gl_pure 1 [2, 3, 4, 5, 9, 10, 11, 12] (K' := [(2, .int .i64 a2), (3, .int .i64 a3), (4, .pointer (some ⟨g1, 0, none⟩)), (5, .pointer (some ⟨g2, 0, none⟩)), (9, .pointer (some ⟨g6, 0, none⟩)), (10, .pointer (some ⟨g14, 0, none⟩)), (11, .pointer (some ⟨g66, 0, none⟩)), (12, .bool y55.2)]) (by kernel_rfl) ?_
      refine gl_atE (by kernel_rfl) ?_
      refine ge_seq ?_
      refine gk_seq (by kernel_rfl) ?_
      refine gk_region (by kernel_rfl) ?_
      refine gl_pure 2 [2, 3, 4, 5, 9, 10, 11, 12, 59, 60] (K' := [(2, .int .i64 a2), (3, .int .i64 a3), (4, .pointer (some ⟨g1, 0, none⟩)), (5, .pointer (some ⟨g2, 0, none⟩)), (9, .pointer (some ⟨g6, 0, none⟩)), (10, .pointer (some ⟨g14, 0, none⟩)), (11, .pointer (some ⟨g66, 0, none⟩)), (12, .bool y55.2), (59, .pointer (some ⟨g14, 0, none⟩)), (60, .pointer (some ⟨g1, 0, none⟩))]) (by kernel_rfl) ?_
      refine gl_loadB (T' := 9) (xp := (.tmp 60)) (v := .string a0.f0) (g := g1) (off := 0) (cs := #[.string a0.f0, .string a0.f1, .int .i64 a0.f2, .slice A0_3 a0.f3.length n0_3, .slice A0_4 a0.f4.length n0_4]) (e := 24) (fz := (0, 0)) (by kernel_rfl) (by kernel_rfl) (by kernel_rfl) (List.mem_cons_of_mem _ (List.mem_cons_of_mem _ (List.mem_append_right _ (List.mem_cons_of_mem _ (List.mem_append_right _ (List.mem_cons_of_mem _ List.mem_cons_self)))))) (by kernel_rfl) ?_
      refine gl_pure 1 [2, 3, 4, 5, 9, 10, 11, 12, 59, 61, 62] (K' := [(2, .int .i64 a2), (3, .int .i64 a3), (4, .pointer (some ⟨g1, 0, none⟩)), (5, .pointer (some ⟨g2, 0, none⟩)), (9, .pointer (some ⟨g6, 0, none⟩)), (10, .pointer (some ⟨g14, 0, none⟩)), (11, .pointer (some ⟨g66, 0, none⟩)), (12, .bool y55.2), (59, .pointer (some ⟨g14, 0, none⟩)), (61, .string a0.f0), (62, .pointer (some ⟨g1, 1, none⟩))]) (by kernel_rfl) ?_
      refine gl_loadB (T' := 9) (xp := (.tmp 62)) (v := .string a0.f1) (g := g1) (off := 1) (cs := #[.string a0.f0, .string a0.f1, .int .i64 a0.f2, .slice A0_3 a0.f3.length n0_3, .slice A0_4 a0.f4.length n0_4]) (e := 24) (fz := (0, 0)) (by kernel_rfl) (by kernel_rfl) (by kernel_rfl) (List.mem_cons_of_mem _ (List.mem_cons_of_mem _ (List.mem_append_right _ (List.mem_cons_of_mem _ (List.mem_append_right _ (List.mem_cons_of_mem _ List.mem_cons_self)))))) (by kernel_rfl) ?_
      obtain ⟨y67, hx68, hr⟩ := bind_some hr
      refine gl_reord (D := (g14, .cells #[.slice A51 y46.2.f0.f0.length c52] 78) :: (C53 ++ ((g66, .cells #[.string y55.1.f0, .string y55.1.f1, .int .i64 y55.1.f2, .slice A60 y55.1.f3.length c61, .slice A62 y55.1.f4.length c63] 24) :: ((g6, .cells #[.slice A33 y28.2.f0.f0.length c34] 78) :: (C35 ++ ((g2, .cells #[.string a1.f0, .string a1.f1, .int .i64 a1.f2, .slice A1_3 a1.f3.length n1_3, .slice A1_4 a1.f4.length n1_4] 24) :: ((g1, .cells #[.string a0.f0, .string a0.f1, .int .i64 a0.f2, .slice A0_3 a0.f3.length n0_3, .slice A0_4 a0.f4.length n0_4] 24) :: L))))))) (Reord.step1 (Upd.one _ (Upd.one _ (Upd.app _ (Upd.rm1 _ _)))) (Reord.step (Upd.one _ (Upd.one _ (Upd.app _ (Upd.rmC _ _)))) (Reord.step1 (Upd.rm1 _ _) (Reord.step1 (Upd.rm1 _ _) (Reord.step (Upd.rmC _ _) (Reord.step1 (Upd.rm1 _ _) (Reord.step1 (Upd.rm1 _ _) (Reord.refl _)))))))) ?_
      refine gl_call (by kernel_rfl) (nflog_Log_Find_walk (r := y67) (g0 := g14) (T0 := 78) (A0_0 := A51) (c0_0 := c52) (C0_0 := C53) (a0 := y46.2) (hO54.mono hI59) hx68 _) ?_
      rintro v I69 L70 hI71 ⟨A72, c73, A74, c75, hf76, hf77, rfl, rfl⟩
      refine gl_pure 3 [2, 3, 4, 5, 9, 10, 11, 12, 65, 66] (K' := [(2, .int .i64 a2), (3, .int .i64 a3), (4, .pointer (some ⟨g1, 0, none⟩)), (5, .pointer (some ⟨g2, 0, none⟩)), (9, .pointer (some ⟨g6, 0, none⟩)), (10, .pointer (some ⟨g14, 0, none⟩)), (11, .pointer (some ⟨g66, 0, none⟩)), (12, .bool y55.2), (65, .agg #[.string y67.1.f0, .string y67.1.f1, .int .i64 y67.1.f2, .slice A72 y67.1.f3.length c73, .slice A74 y67.1.f4.length c75]), (66, .bool y67.2)]) (by kernel_rfl) ?_
      refine gl_alloc (T' := 24) (cs := #[.string (⟨#[]⟩ : ByteArray), .string (⟨#[]⟩ : ByteArray), .int .i64 0, .slice none 0 0, .slice none 0 0]) (by kernel_rfl) (by kernel_rfl) (by kernel_rfl) (fun g78 => ?_)
      refine gl_storeB (T' := 24) (xp := (.tmp 13)) (xv := (.tmp 65)) (v := .agg #[.string y67.1.f0, .string y67.1.f1, .int .i64 y67.1.f2, .slice A72 y67.1.f3.length c73, .slice A74 y67.1.f4.length c75]) (g := g78) (off := 0) (cs := #[.string (⟨#[]⟩ : ByteArray), .string (⟨#[]⟩ : ByteArray), .int .i64 0, .slice none 0 0, .slice none 0 0]) (cs' := #[.string y67.1.f0, .string y67.1.f1, .int .i64 y67.1.f2, .slice A72 y67.1.f3.length c73, .slice A74 y67.1.f4.length c75]) (by kernel_rfl) (by kernel_rfl) (by kernel_rfl) (by kernel_rfl) (by kernel_rfl) (Upd.set _ _ _ _) ?_ (by kernel_rfl)
      refine gl_pure 1 [2, 3, 4, 5, 9, 10, 11, 12, 13, 14] (K' := [(2, .int .i64 a2), (3, .int .i64 a3), (4, .pointer (some ⟨g1, 0, none⟩)), (5, .pointer (some ⟨g2, 0, none⟩)), (9, .pointer (some ⟨g6, 0, none⟩)), (10, .pointer (some ⟨g14, 0, none⟩)), (11, .pointer (some ⟨g66, 0, none⟩)), (12, .bool y55.2), (13, .pointer (some ⟨g78, 0, none⟩)), (14, .bool y67.2)]) (by kernel_rfl) ?_
      refine gl_atE (by kernel_rfl) ?_
      refine ge_seq ?_
      refine gk_seq (by kernel_rfl) ?_
      refine gk_region (by kernel_rfl) ?_
      refine gl_pure 2 [2, 3, 4, 5, 10, 11, 12, 13, 14, 68, 69] (K' := [(2, .int .i64 a2), (3, .int .i64 a3), (4, .pointer (some ⟨g1, 0, none⟩)), (5, .pointer (some ⟨g2, 0, none⟩)), (10, .pointer (some ⟨g14, 0, none⟩)), (11, .pointer (some ⟨g66, 0, none⟩)), (12, .bool y55.2), (13, .pointer (some ⟨g78, 0, none⟩)), (14, .bool y67.2), (68, .pointer (some ⟨g6, 0, none⟩)), (69, .pointer (some ⟨g1, 0, none⟩))]) (by kernel_rfl) ?_
      refine gl_loadB (T' := 9) (xp := (.tmp 69)) (v := .string a0.f0) (g := g1) (off := 0) (cs := #[.string a0.f0, .string a0.f1, .int .i64 a0.f2, .slice A0_3 a0.f3.length n0_3, .slice A0_4 a0.f4.length n0_4]) (e := 24) (fz := (0, 0)) (by kernel_rfl) (by kernel_rfl) (by kernel_rfl) (List.mem_cons_of_mem _ (List.mem_cons_of_mem _ (List.mem_append_right _ (List.mem_cons_of_mem _ (List.mem_cons_of_mem _ (List.mem_append_right _ (List.mem_cons_of_mem _ List.mem_cons_self))))))) (by kernel_rfl) ?_
      refine gl_pure 1 [2, 3, 4, 5, 10, 11, 12, 13, 14, 68, 70, 71] (K' := [(2, .int .i64 a2), (3, .int .i64 a3), (4, .pointer (some ⟨g1, 0, none⟩)), (5, .pointer (some ⟨g2, 0, none⟩)), (10, .pointer (some ⟨g14, 0, none⟩)), (11, .pointer (some ⟨g66, 0, none⟩)), (12, .bool y55.2), (13, .pointer (some ⟨g78, 0, none⟩)), (14, .bool y67.2), (68, .pointer (some ⟨g6, 0, none⟩)), (70, .string a0.f0), (71, .pointer (some ⟨g1, 1, none⟩))]) (by kernel_rfl) ?_
      refine gl_loadB (T' := 9) (xp := (.tmp 71)) (v := .string a0.f1) (g := g1) (off := 1) (cs := #[.string a0.f0, .string a0.f1, .int .i64 a0.f2, .slice A0_3 a0.f3.length n0_3, .slice A0_4 a0.f4.length n0_4]) (e := 24) (fz := (0, 0)) (by kernel_rfl) (by kernel_rfl) (by kernel_rfl) (List.mem_cons_of_mem _ (List.mem_cons_of_mem _ (List.mem_append_right _ (List.mem_cons_of_mem _ (List.mem_cons_of_mem _ (List.mem_append_right _ (List.mem_cons_of_mem _ List.mem_cons_self))))))) (by kernel_rfl) ?_
      refine gl_pure 3 [2, 3, 4, 5, 10, 11, 12, 13, 14, 68, 70, 72, 73, 74, 75] (K' := [(2, .int .i64 a2), (3, .int .i64 a3), (4, .pointer (some ⟨g1, 0, none⟩)), (5, .pointer (some ⟨g2, 0, none⟩)), (10, .pointer (some ⟨g14, 0, none⟩)), (11, .pointer (some ⟨g66, 0, none⟩)), (12, .bool y55.2), (13, .pointer (some ⟨g78, 0, none⟩)), (14, .bool y67.2), (68, .pointer (some ⟨g6, 0, none⟩)), (70, .string a0.f0), (72, .string a0.f1), (73, .int .i64 a2), (74, .int .i64 a3), (75, .pointer (some ⟨g1, 3, none⟩))]) (by kernel_rfl) ?_
      refine gl_loadB (T' := 22) (xp := (.tmp 75)) (v := .slice A0_3 a0.f3.length n0_3) (g := g1) (off := 3) (cs := #[.string a0.f0, .string a0.f1, .int .i64 a0.f2, .slice A0_3 a0.f3.length n0_3, .slice A0_4 a0.f4.length n0_4]) (e := 24) (fz := (0, 0)) (by kernel_rfl) (by kernel_rfl) (by kernel_rfl) (List.mem_cons_of_mem _ (List.mem_cons_of_mem _ (List.mem_append_right _ (List.mem_cons_of_mem _ (List.mem_cons_of_mem _ (List.mem_append_right _ (List.mem_cons_of_mem _ List.mem_cons_self))))))) (by kernel_rfl) ?_
      refine gl_pure 1 [2, 3, 4, 5, 10, 11, 12, 13, 14, 68, 70, 72, 73, 74, 76, 77] (K' := [(2, .int .i64 a2), (3, .int .i64 a3), (4, .pointer (some ⟨g1, 0, none⟩)), (5, .pointer (some ⟨g2, 0, none⟩)), (10, .pointer (some ⟨g14, 0, none⟩)), (11, .pointer (some ⟨g66, 0, none⟩)), (12, .bool y55.2), (13, .pointer (some ⟨g78, 0, none⟩)), (14, .bool y67.2), (68, .pointer (some ⟨g6, 0, none⟩)), (70, .string a0.f0), (72, .string a0.f1), (73, .int .i64 a2), (74, .int .i64 a3), (76, .slice A0_3 a0.f3.length n0_3), (77, .pointer (some ⟨g2, 4, none⟩))]) (by kernel_rfl) ?_
      refine gl_loadB (T' := 22) (xp := (.tmp 77)) (v := .slice A1_4 a1.f4.length n1_4) (g := g2) (off := 4) (cs := #[.string a1.f0, .string a1.f1, .int .i64 a1.f2, .slice A1_3 a1.f3.length n1_3, .slice A1_4 a1.f4.length n1_4]) (e := 24) (fz := (0, 0)) (by kernel_rfl) (by kernel_rfl) (by kernel_rfl) (List.mem_cons_of_mem _ (List.mem_cons_of_mem _ (List.mem_append_right _ (List.mem_cons_of_mem _ (List.mem_cons_of_mem _ (List.mem_append_right _ List.mem_cons_self)))))) (by kernel_rfl) ?_
      obtain ⟨y79, hx80, hr⟩ := bind_some hr
      refine gl_reord (D := (g6, .cells #[.slice A33 y28.2.f0.f0.length c34] 78) :: (C35 ++ ((g78, .cells #[.string y67.1.f0, .string y67.1.f1, .int .i64 y67.1.f2, .slice A72 y67.1.f3.length c73, .slice A74 y67.1.f4.length c75] 24) :: ((g14, .cells #[.slice A51 y46.2.f0.f0.length c52] 78) :: (C53 ++ ((g66, .cells #[.string y55.1.f0, .string y55.1.f1, .int .i64 y55.1.f2, .slice A60 y55.1.f3.length c61, .slice A62 y55.1.f4.length c63] 24) :: ((g2, .cells #[.string a1.f0, .string a1.f1, .int .i64 a1.f2, .slice A1_3 a1.f3.length n1_3, .slice A1_4 a1.f4.length n1_4] 24) :: ((g1, .cells #[.string a0.f0, .string a0.f1, .int .i64 a0.f2, .slice A0_3 a0.f3.length n0_3, .slice A0_4 a0.f4.length n0_4] 24) :: L)))))))) (Reord.step1 (Upd.one _ (Upd.one _ (Upd.app _ (Upd.one _ (Upd.rm1 _ _))))) (Reord.step (Upd.one _ (Upd.one _ (Upd.app _ (Upd.one _ (Upd.rmC _ _))))) (Reord.step1 (Upd.rm1 _ _) (Reord.step1 (Upd.rm1 _ _) (Reord.step (Upd.rmC _ _) (Reord.step1 (Upd.rm1 _ _) (Reord.step1 (Upd.rm1 _ _) (Reord.step1 (Upd.rm1 _ _) (Reord.refl _))))))))) ?_
      refine gl_call (by kernel_rfl) (nflog_Log_Needs_walk (r := y79) (g0 := g6) (T0 := 78) (A0_0 := A33) (c0_0 := c34) (C0_0 := C35) (a0 := y28.2) (hG.mono (Imm.trans (Imm.trans (Imm.trans (Imm.trans (Imm.trans (Imm.trans (Imm.trans hI5 hI13) hI19) hI32) hI41) hI50) hI59) hI71)) (hO36.mono (Imm.trans (Imm.trans (Imm.trans hI41 hI50) hI59) hI71)) (hf0_3.mono (Imm.trans (Imm.trans (Imm.trans (Imm.trans (Imm.trans (Imm.trans (Imm.trans hI5 hI13) hI19) hI32) hI41) hI50) hI59) hI71)) (hf1_4.mono (Imm.trans (Imm.trans (Imm.trans (Imm.trans (Imm.trans (Imm.trans (Imm.trans hI5 hI13) hI19) hI32) hI41) hI50) hI59) hI71)) hx80 _) ?_
      rintro v I81 L82 hI83 ⟨rfl, rfl⟩
      refine gl_pure 5 [2, 3, 4, 5, 10, 11, 12, 13, 14, 15, 16] (K' := [(2, .int .i64 a2), (3, .int .i64 a3), (4, .pointer (some ⟨g1, 0, none⟩)), (5, .pointer (some ⟨g2, 0, none⟩)), (10, .pointer (some ⟨g14, 0, none⟩)), (11, .pointer (some ⟨g66, 0, none⟩)), (12, .bool y55.2), (13, .pointer (some ⟨g78, 0, none⟩)), (14, .bool y67.2), (15, .bool y79.1), (16, .int .i64 y79.2)]) (by kernel_rfl) ?_
      refine gl_atE (by kernel_rfl) ?_
      refine ge_seq ?_
      refine gk_seq (by kernel_rfl) ?_
      refine gk_region (by kernel_rfl) ?_
      refine gl_pure 2 [2, 3, 4, 5, 11, 12, 13, 14, 15, 16, 83, 84] (K' := [(2, .int .i64 a2), (3, .int .i64 a3), (4, .pointer (some ⟨g1, 0, none⟩)), (5, .pointer (some ⟨g2, 0, none⟩)), (11, .pointer (some ⟨g66, 0, none⟩)), (12, .bool y55.2), (13, .pointer (some ⟨g78, 0, none⟩)), (14, .bool y67.2), (15, .bool y79.1), (16, .int .i64 y79.2), (83, .pointer (some ⟨g14, 0, none⟩)), (84, .pointer (some ⟨g1, 0, none⟩))]) (by kernel_rfl) ?_
      refine gl_loadB (T' := 9) (xp := (.tmp 84)) (v := .string a0.f0) (g := g1) (off := 0) (cs := #[.string a0.f0, .string a0.f1, .int .i64 a0.f2, .slice A0_3 a0.f3.length n0_3, .slice A0_4 a0.f4.length n0_4]) (e := 24) (fz := (0, 0)) (by kernel_rfl) (by kernel_rfl) (by kernel_rfl) (List.mem_cons_of_mem _ (List.mem_append_right _ (List.mem_cons_of_mem _ (List.mem_cons_of_mem _ (List.mem_append_right _ (List.mem_cons_of_mem _ (List.mem_cons_of_mem _ List.mem_cons_self))))))) (by kernel_rfl) ?_
      refine gl_pure 1 [2, 3, 4, 5, 11, 12, 13, 14, 15, 16, 83, 85, 86] (K' := [(2, .int .i64 a2), (3, .int .i64 a3), (4, .pointer (some ⟨g1, 0, none⟩)), (5, .pointer (some ⟨g2, 0, none⟩)), (11, .pointer (some ⟨g66, 0, none⟩)), (12, .bool y55.2), (13, .pointer (some ⟨g78, 0, none⟩)), (14, .bool y67.2), (15, .bool y79.1), (16, .int .i64 y79.2), (83, .pointer (some ⟨g14, 0, none⟩)), (85, .string a0.f0), (86, .pointer (some ⟨g1, 1, none⟩))]) (by kernel_rfl) ?_
      refine gl_loadB (T' := 9) (xp := (.tmp 86)) (v := .string a0.f1) (g := g1) (off := 1) (cs := #[.string a0.f0, .string a0.f1, .int .i64 a0.f2, .slice A0_3 a0.f3.length n0_3, .slice A0_4 a0.f4.length n0_4]) (e := 24) (fz := (0, 0)) (by kernel_rfl) (by kernel_rfl) (by kernel_rfl) (List.mem_cons_of_mem _ (List.mem_append_right _ (List.mem_cons_of_mem _ (List.mem_cons_of_mem _ (List.mem_append_right _ (List.mem_cons_of_mem _ (List.mem_cons_of_mem _ List.mem_cons_self))))))) (by kernel_rfl) ?_
      refine gl_pure 3 [5, 11, 12, 13, 14, 15, 16, 83, 85, 87, 88, 89, 90] (K' := [(5, .pointer (some ⟨g2, 0, none⟩)), (11, .pointer (some ⟨g66, 0, none⟩)), (12, .bool y55.2), (13, .pointer (some ⟨g78, 0, none⟩)), (14, .bool y67.2), (15, .bool y79.1), (16, .int .i64 y79.2), (83, .pointer (some ⟨g14, 0, none⟩)), (85, .string a0.f0), (87, .string a0.f1), (88, .int .i64 a2), (89, .int .i64 a3), (90, .pointer (some ⟨g1, 3, none⟩))]) (by kernel_rfl) ?_
      refine gl_loadB (T' := 22) (xp := (.tmp 90)) (v := .slice A0_3 a0.f3.length n0_3) (g := g1) (off := 3) (cs := #[.string a0.f0, .string a0.f1, .int .i64 a0.f2, .slice A0_3 a0.f3.length n0_3, .slice A0_4 a0.f4.length n0_4]) (e := 24) (fz := (0, 0)) (by kernel_rfl) (by kernel_rfl) (by kernel_rfl) (List.mem_cons_of_mem _ (List.mem_append_right _ (List.mem_cons_of_mem _ (List.mem_cons_of_mem _ (List.mem_append_right _ (List.mem_cons_of_mem _ (List.mem_cons_of_mem _ List.mem_cons_self))))))) (by kernel_rfl) ?_
      refine gl_pure 1 [11, 12, 13, 14, 15, 16, 83, 85, 87, 88, 89, 91, 92] (K' := [(11, .pointer (some ⟨g66, 0, none⟩)), (12, .bool y55.2), (13, .pointer (some ⟨g78, 0, none⟩)), (14, .bool y67.2), (15, .bool y79.1), (16, .int .i64 y79.2), (83, .pointer (some ⟨g14, 0, none⟩)), (85, .string a0.f0), (87, .string a0.f1), (88, .int .i64 a2), (89, .int .i64 a3), (91, .slice A0_3 a0.f3.length n0_3), (92, .pointer (some ⟨g2, 4, none⟩))]) (by kernel_rfl) ?_
      refine gl_loadB (T' := 22) (xp := (.tmp 92)) (v := .slice A1_4 a1.f4.length n1_4) (g := g2) (off := 4) (cs := #[.string a1.f0, .string a1.f1, .int .i64 a1.f2, .slice A1_3 a1.f3.length n1_3, .slice A1_4 a1.f4.length n1_4]) (e := 24) (fz := (0, 0)) (by kernel_rfl) (by kernel_rfl) (by kernel_rfl) (List.mem_cons_of_mem _ (List.mem_append_right _ (List.mem_cons_of_mem _ (List.mem_cons_of_mem _ (List.mem_append_right _ (List.mem_cons_of_mem _ List.mem_cons_self)))))) (by kernel_rfl) ?_
      obtain ⟨y84, hx85, hr⟩ := bind_some hr
      refine gl_reord (D := (g14, .cells #[.slice A51 y46.2.f0.f0.length c52] 78) :: (C53 ++ ((g6, .cells #[.slice A33 y28.2.f0.f0.length c34] 78) :: (C35 ++ ((g78, .cells #[.string y67.1.f0, .string y67.1.f1, .int .i64 y67.1.f2, .slice A72 y67.1.f3.length c73, .slice A74 y67.1.f4.length c75] 24) :: ((g66, .cells #[.string y55.1.f0, .string y55.1.f1, .int .i64 y55.1.f2, .slice A60 y55.1.f3.length c61, .slice A62 y55.1.f4.length c63] 24) :: ((g2, .cells #[.string a1.f0, .string a1.f1, .int .i64 a1.f2, .slice A1_3 a1.f3.length n1_3, .slice A1_4 a1.f4.length n1_4] 24) :: ((g1, .cells #[.string a0.f0, .string a0.f1, .int .i64 a0.f2, .slice A0_3 a0.f3.length n0_3, .slice A0_4 a0.f4.length n0_4] 24) :: L)))))))) (Reord.step1 (Upd.one _ (Upd.app _ (Upd.one _ (Upd.rm1 _ _)))) (Reord.step (Upd.one _ (Upd.app _ (Upd.one _ (Upd.rmC _ _)))) (Reord.step1 (Upd.rm1 _ _) (Reord.step (Upd.rmC _ _) (Reord.step1 (Upd.rm1 _ _) (Reord.step1 (Upd.rm1 _ _) (Reord.step1 (Upd.rm1 _ _) (Reord.step1 (Upd.rm1 _ _) (Reord.refl _))))))))) ?_
      refine gl_call (by kernel_rfl) (nflog_Log_Needs_walk (r := y84) (g0 := g14) (T0 := 78) (A0_0 := A51) (c0_0 := c52) (C0_0 := C53) (a0 := y46.2) (hG.mono (Imm.trans (Imm.trans (Imm.trans (Imm.trans (Imm.trans (Imm.trans (Imm.trans (Imm.trans hI5 hI13) hI19) hI32) hI41) hI50) hI59) hI71) hI83)) (hO54.mono (Imm.trans (Imm.trans hI59 hI71) hI83)) (hf0_3.mono (Imm.trans (Imm.trans (Imm.trans (Imm.trans (Imm.trans (Imm.trans (Imm.trans (Imm.trans hI5 hI13) hI19) hI32) hI41) hI50) hI59) hI71) hI83)) (hf1_4.mono (Imm.trans (Imm.trans (Imm.trans (Imm.trans (Imm.trans (Imm.trans (Imm.trans (Imm.trans hI5 hI13) hI19) hI32) hI41) hI50) hI59) hI71) hI83)) hx85 _) ?_
      rintro v I86 L87 hI88 ⟨rfl, rfl⟩
      refine gl_pure 5 [11, 12, 13, 14, 15, 16, 17, 18] (K' := [(11, .pointer (some ⟨g66, 0, none⟩)), (12, .bool y55.2), (13, .pointer (some ⟨g78, 0, none⟩)), (14, .bool y67.2), (15, .bool y79.1), (16, .int .i64 y79.2), (17, .bool y84.1), (18, .int .i64 y84.2)]) (by kernel_rfl) ?_
      refine gl_atE (by kernel_rfl) ?_
      refine ge_seq ?_
      refine gk_seq (by kernel_rfl) ?_
      obtain ⟨j89, hj90, hr⟩ := bind_some hr
      refine gk_join (fun t I' L' => I86 ≤ I' ∧ L = L' ∧ Knows 118 [(8, .bool j89)] t) ?_ ?_
      · refine gk_region (by kernel_rfl) ?_
        refine gl_pure 4 [11, 13, 15, 16, 17, 18, 100] (K' := [(11, .pointer (some ⟨g66, 0, none⟩)), (13, .pointer (some ⟨g78, 0, none⟩)), (15, .bool y79.1), (16, .int .i64 y79.2), (17, .bool y84.1), (18, .int .i64 y84.2), (100, .bool (y55.2 == y67.2))]) (by kernel_rfl) ?_
        refine gl_case 100 (b := (y55.2 == y67.2)) (by kernel_rfl) (fun hc94 => ?_) (fun hc94 => ?_)
        · have hj90 := cond_t hc94 hj90
          refine gl_loadB (T' := 24) (xp := (.tmp 11)) (v := .agg #[.string y55.1.f0, .string y55.1.f1, .int .i64 y55.1.f2, .slice A60 y55.1.f3.length c61, .slice A62 y55.1.f4.length c63]) (g := g66) (off := 0) (cs := #[.string y55.1.f0, .string y55.1.f1, .int .i64 y55.1.f2, .slice A60 y55.1.f3.length c61, .slice A62 y55.1.f4.length c63]) (e := 24) (fz := (0, 0)) (by kernel_rfl) (by kernel_rfl) (by kernel_rfl) (List.mem_cons_of_mem _ (List.mem_append_right _ (List.mem_cons_of_mem _ (List.mem_append_right _ (List.mem_cons_of_mem _ List.mem_cons_self))))) (by kernel_rfl) ?_
          refine gl_loadB (T' := 24) (xp := (.tmp 13)) (v := .agg #[.string y67.1.f0, .string y67.1.f1, .int .i64 y67.1.f2, .slice A72 y67.1.f3.length c73, .slice A74 y67.1.f4.length c75]) (g := g78) (off := 0) (cs := #[.string y67.1.f0, .string y67.1.f1, .int .i64 y67.1.f2, .slice A72 y67.1.f3.length c73, .slice A74 y67.1.f4.length c75]) (e := 24) (fz := (0, 0)) (by kernel_rfl) (by kernel_rfl) (by kernel_rfl) (List.mem_cons_of_mem _ (List.mem_append_right _ (List.mem_cons_of_mem _ (List.mem_append_right _ List.mem_cons_self)))) (by kernel_rfl) ?_
          obtain ⟨y95, hx96, hj90⟩ := bind_some hj90
          refine gl_callQ (by kernel_rfl) (tocsinref26_Same_walk (r := y95) (hf64.mono (Imm.trans (Imm.trans hI71 hI83) hI88)) (hf65.mono (Imm.trans (Imm.trans hI71 hI83) hI88)) (hf76.mono (Imm.trans hI83 hI88)) (hf77.mono (Imm.trans hI83 hI88)) hx96 _) ?_
          refine gl_pure 2 [15, 16, 17, 18, 105] (K' := [(15, .bool y79.1), (16, .int .i64 y79.2), (17, .bool y84.1), (18, .int .i64 y84.2), (105, .bool y95)]) (by kernel_rfl) ?_
          refine gl_case 105 (b := y95) (by kernel_rfl) (fun hc97 => ?_) (fun hc97 => ?_)
          · have hj90 := cond_t hc97 hj90
            refine gl_pure 5 [16, 18, 110] (K' := [(16, .int .i64 y79.2), (18, .int .i64 y84.2), (110, .bool (y79.1 == y84.1))]) (by kernel_rfl) ?_
            refine gl_case 110 (b := (y79.1 == y84.1)) (by kernel_rfl) (fun hc98 => ?_) (fun hc98 => ?_)
            · have hj90 := cond_t hc98 hj90
              refine gl_pure 5 [115] (K' := [(115, .bool (y79.2 == y84.2))]) (by kernel_rfl) ?_
              refine gl_case 115 (b := (y79.2 == y84.2)) (by kernel_rfl) (fun hc99 => ?_) (fun hc99 => ?_)
              · have hj90 := cond_t hc99 hj90
                obtain ⟨y100, hx101, hj90⟩ := bind_some hj90
                refine gl_callQ (by kernel_rfl) (tocsinlaw26_awake_walk (r := y100) (hG.mono (Imm.trans (Imm.trans (Imm.trans (Imm.trans (Imm.trans (Imm.trans (Imm.trans (Imm.trans (Imm.trans hI5 hI13) hI19) hI32) hI41) hI50) hI59) hI71) hI83) hI88)) hx101 _) ?_
                refine gl_pure 2 [8] (K' := [(8, .bool y100)]) (by kernel_rfl) ?_
                refine gl_reord (D := L) (Reord.skip (Reord.skipC (Reord.skip (Reord.skipC (Reord.skip (Reord.skip (Reord.skip (Reord.skip (Reord.refl _))))))))) ?_
                refine gl_atE (by kernel_rfl) ?_
                obtain rfl := some_inj hj90
                exact ge_mid fun t ht => ⟨(Imm.refl _), rfl, ht.pick (l := [8]) (by kernel_rfl)⟩
              · have hj90 := cond_f hc99 hj90
                refine gl_pure 3 [8] (K' := [(8, .bool false)]) (by kernel_rfl) ?_
                refine gl_reord (D := L) (Reord.skip (Reord.skipC (Reord.skip (Reord.skipC (Reord.skip (Reord.skip (Reord.skip (Reord.skip (Reord.refl _))))))))) ?_
                refine gl_atE (by kernel_rfl) ?_
                obtain rfl := some_inj hj90
                exact ge_mid fun t ht => ⟨(Imm.refl _), rfl, ht.pick (l := [8]) (by kernel_rfl)⟩
            · have hj90 := cond_f hc98 hj90
              refine gl_pure 8 [8] (K' := [(8, .bool false)]) (by kernel_rfl) ?_
              refine gl_reord (D := L) (Reord.skip (Reord.skipC (Reord.skip (Reord.skipC (Reord.skip (Reord.skip (Reord.skip (Reord.skip (Reord.refl _))))))))) ?_
              refine gl_atE (by kernel_rfl) ?_
              obtain rfl := some_inj hj90
              exact ge_mid fun t ht => ⟨(Imm.refl _), rfl, ht.pick (l := [8]) (by kernel_rfl)⟩
          · have hj90 := cond_f hc97 hj90
            refine gl_pure 13 [8] (K' := [(8, .bool false)]) (by kernel_rfl) ?_
            refine gl_reord (D := L) (Reord.skip (Reord.skipC (Reord.skip (Reord.skipC (Reord.skip (Reord.skip (Reord.skip (Reord.skip (Reord.refl _))))))))) ?_
            refine gl_atE (by kernel_rfl) ?_
            obtain rfl := some_inj hj90
            exact ge_mid fun t ht => ⟨(Imm.refl _), rfl, ht.pick (l := [8]) (by kernel_rfl)⟩
        · have hj90 := cond_f hc94 hj90
          refine gl_pure 18 [8] (K' := [(8, .bool false)]) (by kernel_rfl) ?_
          refine gl_reord (D := L) (Reord.skip (Reord.skipC (Reord.skip (Reord.skipC (Reord.skip (Reord.skip (Reord.skip (Reord.skip (Reord.refl _))))))))) ?_
          refine gl_atE (by kernel_rfl) ?_
          obtain rfl := some_inj hj90
          exact ge_mid fun t ht => ⟨(Imm.refl _), rfl, ht.pick (l := [8]) (by kernel_rfl)⟩
      · rintro t I93 L' ⟨hI91, rfl, hK92⟩
        refine ge_at hK92 ?_
        refine ge_seq ?_
        refine gk_ret (by kernel_rfl) ?_
        obtain rfl := some_inj hr
        exact ge_result trivial (ResOk.tmp (by kernel_rfl) ResOk.nil) (Imm.trans (Imm.trans (Imm.trans (Imm.trans (Imm.trans (Imm.trans (Imm.trans (Imm.trans (Imm.trans (Imm.trans hI5 hI13) hI19) hI32) hI41) hI50) hI59) hI71) hI83) hI88) hI91) ⟨rfl, rfl⟩
end Go.Proofs.YtlkmfhccpcncnaaDoor
