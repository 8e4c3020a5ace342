import Derived.Test.YtjkkmbjkndageaaDoorF1b
set_option linter.unusedVariables false
set_option linter.unusedSimpArgs false
set_option maxRecDepth 100000
namespace Go.Proofs.YtjkkmbjkndageaaDoor
open Go.GB
/-! 18 nflog_own_f18 ('bor',) -/
noncomputable def nflog_own_f18 (a0 : S23) : Option S23 :=
  Option.bind (nflog_sets_f36 a0.f3) fun (y3 : (List (List S53))) =>
  Option.bind (nflog_sets_f36 a0.f4) fun (y12 : (List (List S53))) =>
  some (⟨a0.f0, a0.f1, a0.f2, y3, y12⟩ : S23)
theorem nflog_own_f18_walk {a0 : S23} {X0 : Own} {A0_3 : Option Addr} {n0_3 : Nat} {A0_4 : Option Addr} {n0_4 : Nat} {I : Imm} {r : S23}  (hf0_3 : RepS (Kd.sl kS53) (I.adds X0) A0_3 n0_3 a0.f3) (hf0_4 : RepS (Kd.sl kS53) (I.adds X0) A0_4 n0_4 a0.f4) (hr : nflog_own_f18 a0 = some r) (L : Own) :
    CallsTo Tryd.prog 18 #[.agg #[.string a0.f0, .string a0.f1, .int .i64 a0.f2, .slice A0_3 a0.f3.length n0_3, .slice A0_4 a0.f4.length n0_4]] I (X0 ++ L) (fun v I' L' => ∃ A0_3 c0_3 A0_4 c0_4, RepS (Kd.sl kS53) I' A0_3 c0_3 r.f3 ∧ RepS (Kd.sl kS53) I' A0_4 c0_4 r.f4 ∧ v = .agg #[.string r.f0, .string r.f1, .int .i64 r.f2, .slice A0_3 r.f3.length c0_3, .slice A0_4 r.f4.length c0_4] ∧ X0 ++ L = L') := by
  unfold nflog_own_f18 at hr
  refine callsTo_body (N := 12) Tryd.func18 (by kernel_rfl) (by kernel_rfl) (by kernel_rfl) ?_
  refine gk_pick [0] (K' := [(0, .agg #[.string a0.f0, .string a0.f1, .int .i64 a0.f2, .slice A0_3 a0.f3.length n0_3, .slice A0_4 a0.f4.length n0_4])]) (by kernel_rfl) ?_
  refine gk_seq (by kernel_rfl) ?_
  refine gk_region (by kernel_rfl) ?_
  refine gl_box (T' := 24) (x := (.tmp 0)) (v := .agg #[.string a0.f0, .string a0.f1, .int .i64 a0.f2, .slice A0_3 a0.f3.length n0_3, .slice A0_4 a0.f4.length n0_4]) (cs := #[.string a0.f0, .string a0.f1, .int .i64 a0.f2, .slice A0_3 a0.f3.length n0_3, .slice A0_4 a0.f4.length n0_4]) (by kernel_rfl) (by kernel_rfl) (by kernel_rfl) (by kernel_rfl) (fun g1 => ?_)
  refine gl_alloc (T' := 24) (cs := #[.string (⟨#[]⟩ : ByteArray), .string (⟨#[]⟩ : ByteArray), .int .i64 0, .slice none 0 0, .slice none 0 0]) (by kernel_rfl) (by kernel_rfl) (by kernel_rfl) (fun g2 => ?_)
  refine gl_atE (by kernel_rfl) ?_
  refine ge_seq ?_
  refine gk_seq (by kernel_rfl) ?_
  refine gk_draw 7 [(0, true), (1, true), (3, true), (4, true), (2, false), (6, true), (5, false)] [(g2, .cells #[.string (⟨#[]⟩ : ByteArray), .string (⟨#[]⟩ : ByteArray), .int .i64 0, .slice none 0 0, .slice none 0 0] 24), (g1, .cells #[.string a0.f0, .string a0.f1, .int .i64 a0.f2, .slice A0_3 a0.f3.length n0_3, .slice A0_4 a0.f4.length n0_4] 24)] (List.forall_mem_cons.2 ⟨List.mem_cons_self, (List.forall_mem_cons.2 ⟨(List.mem_cons_of_mem _ List.mem_cons_self), (fun p hp => by cases hp)⟩)⟩) (by kernel_rfl) (by kernel_rfl) (by kernel_rfl) ?_ (by kernel_rfl)
  refine gd_pure 1 [1, 2, 3] (K' := [(1, .pointer (some ⟨g1, 0, none⟩)), (2, .pointer (some ⟨g2, 0, none⟩)), (3, .pointer (some ⟨g1, 3, none⟩))]) (s' := [(1, true), (3, true), (4, true), (2, false), (6, true), (5, false)]) (CC.refl (List.forall_mem_cons.2 ⟨List.mem_cons_self, (List.forall_mem_cons.2 ⟨(List.mem_cons_of_mem _ List.mem_cons_self), (fun p hp => by cases hp)⟩)⟩)) (by kernel_rfl) ?_
  refine gd_q (v := .slice A0_3 a0.f3.length n0_3) (by kernel_rfl) (by kernel_rfl) (CC.refl (List.forall_mem_cons.2 ⟨List.mem_cons_self, (List.forall_mem_cons.2 ⟨(List.mem_cons_of_mem _ List.mem_cons_self), (fun p hp => by cases hp)⟩)⟩)) (fun I' L' T hC kk => gl_loadB (T' := 22) (xp := (.tmp 3)) (v := .slice A0_3 a0.f3.length n0_3) (g := g1) (off := 3) (cs := #[.string a0.f0, .string a0.f1, .int .i64 a0.f2, .slice A0_3 a0.f3.length n0_3, .slice A0_4 a0.f4.length n0_4]) (e := 24) (fz := (0, 0)) (by kernel_rfl) (by kernel_rfl) (by kernel_rfl) (hC.sub _ (List.mem_cons_of_mem _ List.mem_cons_self)) (by kernel_rfl) kk) ?_
  refine gd_pure 1 [1, 2, 4, 6] (K' := [(1, .pointer (some ⟨g1, 0, none⟩)), (2, .pointer (some ⟨g2, 0, none⟩)), (4, .slice A0_3 a0.f3.length n0_3), (6, .pointer (some ⟨g1, 4, none⟩))]) (s' := [(4, true), (2, false), (6, true), (5, false)]) (CC.refl (List.forall_mem_cons.2 ⟨List.mem_cons_self, (List.forall_mem_cons.2 ⟨(List.mem_cons_of_mem _ List.mem_cons_self), (fun p hp => by cases hp)⟩)⟩)) (by kernel_rfl) ?_
  refine gd_q (v := .slice A0_4 a0.f4.length n0_4) (by kernel_rfl) (by kernel_rfl) (CC.refl (List.forall_mem_cons.2 ⟨List.mem_cons_self, (List.forall_mem_cons.2 ⟨(List.mem_cons_of_mem _ List.mem_cons_self), (fun p hp => by cases hp)⟩)⟩)) (fun I' L' T hC kk => gl_loadB (T' := 22) (xp := (.tmp 6)) (v := .slice A0_4 a0.f4.length n0_4) (g := g1) (off := 4) (cs := #[.string a0.f0, .string a0.f1, .int .i64 a0.f2, .slice A0_3 a0.f3.length n0_3, .slice A0_4 a0.f4.length n0_4]) (e := 24) (fz := (0, 0)) (by kernel_rfl) (by kernel_rfl) (by kernel_rfl) (hC.sub _ (List.mem_cons_of_mem _ List.mem_cons_self)) (by kernel_rfl) kk) ?_
  refine gd_one (by kernel_rfl) ?_
  obtain ⟨y3, hx4, hr⟩ := bind_some hr
  refine gl_reord (D := X0 ++ ((g2, .cells #[.string (⟨#[]⟩ : ByteArray), .string (⟨#[]⟩ : ByteArray), .int .i64 0, .slice none 0 0, .slice none 0 0] 24) :: ((g1, .cells #[.string a0.f0, .string a0.f1, .int .i64 a0.f2, .slice A0_3 a0.f3.length n0_3, .slice A0_4 a0.f4.length n0_4] 24) :: L))) (Reord.step (Upd.one _ (Upd.one _ (Upd.rmC _ _))) (Reord.step1 (Upd.rm1 _ _) (Reord.step1 (Upd.rm1 _ _) (Reord.refl _)))) ?_
  refine gl_call (by kernel_rfl) (nflog_sets_f36_walk (r := y3) (X0 := X0) (a0 := a0.f3) hf0_3 hx4 _) ?_
  rintro v I5 L6 hI7 ⟨A8, c9, C10, hO11, rfl, rfl⟩
  refine gl_toD (by kernel_rfl) ⟨hI7, (List.forall_mem_cons.2 ⟨(List.mem_append_right _ (List.mem_append_right _ List.mem_cons_self)), (List.forall_mem_cons.2 ⟨(List.mem_append_right _ (List.mem_append_right _ (List.mem_cons_of_mem _ List.mem_cons_self))), (fun p hp => by cases hp)⟩)⟩)⟩ ?_
  refine gd_pure 1 [1, 2, 5, 7, 9] (K' := [(1, .pointer (some ⟨g1, 0, none⟩)), (2, .pointer (some ⟨g2, 0, none⟩)), (5, .slice A8 y3.length c9), (7, .slice A0_4 a0.f4.length n0_4), (9, .pointer (some ⟨g1, 3, none⟩))]) (s' := [(5, false)]) (CC.refl (List.forall_mem_cons.2 ⟨(List.mem_append_right _ (List.mem_append_right _ List.mem_cons_self)), (List.forall_mem_cons.2 ⟨(List.mem_append_right _ (List.mem_append_right _ (List.mem_cons_of_mem _ List.mem_cons_self))), (fun p hp => by cases hp)⟩)⟩)) (by kernel_rfl) ?_
  refine gd_one (by kernel_rfl) ?_
  obtain ⟨y12, hx13, hr⟩ := bind_some hr
  refine gl_reord (D := X0 ++ (C10 ++ ((g2, .cells #[.string (⟨#[]⟩ : ByteArray), .string (⟨#[]⟩ : ByteArray), .int .i64 0, .slice none 0 0, .slice none 0 0] 24) :: ((g1, .cells #[.string a0.f0, .string a0.f1, .int .i64 a0.f2, .slice A0_3 a0.f3.length n0_3, .slice A0_4 a0.f4.length n0_4] 24) :: L)))) (Reord.step (Upd.app _ (Upd.rmC _ _)) (Reord.step (Upd.rmC _ _) (Reord.step1 (Upd.rm1 _ _) (Reord.step1 (Upd.rm1 _ _) (Reord.refl _))))) ?_
  refine gl_call (by kernel_rfl) (nflog_sets_f36_walk (r := y12) (X0 := X0) (a0 := a0.f4) (hf0_4.mono (adds_mono hI7)) hx13 _) ?_
  rintro v I14 L15 hI16 ⟨A17, c18, C19, hO20, rfl, rfl⟩
  refine gl_toD (by kernel_rfl) ⟨hI16, (List.forall_mem_cons.2 ⟨(List.mem_append_right _ (List.mem_append_right _ (List.mem_append_right _ List.mem_cons_self))), (List.forall_mem_cons.2 ⟨(List.mem_append_right _ (List.mem_append_right _ (List.mem_append_right _ (List.mem_cons_of_mem _ List.mem_cons_self)))), (fun p hp => by cases hp)⟩)⟩)⟩ ?_
  refine gd_done ?_
  refine gl_storeB (T' := 22) (xp := (.tmp 9)) (xv := (.tmp 5)) (v := .slice A8 y3.length c9) (g := g1) (off := 3) (cs := #[.string a0.f0, .string a0.f1, .int .i64 a0.f2, .slice A0_3 a0.f3.length n0_3, .slice A0_4 a0.f4.length n0_4]) (cs' := #[.string a0.f0, .string a0.f1, .int .i64 a0.f2, .slice A8 y3.length c9, .slice A0_4 a0.f4.length n0_4]) (by kernel_rfl) (by kernel_rfl) (by kernel_rfl) (by kernel_rfl) (by kernel_rfl) (Upd.app _ (Upd.app _ (Upd.app _ (Upd.one _ (Upd.set _ _ _ _))))) ?_ (by kernel_rfl)
  refine gl_pure 1 [1, 2, 8, 10] (K' := [(1, .pointer (some ⟨g1, 0, none⟩)), (2, .pointer (some ⟨g2, 0, none⟩)), (8, .slice A17 y12.length c18), (10, .pointer (some ⟨g1, 4, none⟩))]) (by kernel_rfl) ?_
  refine gl_storeB (T' := 22) (xp := (.tmp 10)) (xv := (.tmp 8)) (v := .slice A17 y12.length c18) (g := g1) (off := 4) (cs := #[.string a0.f0, .string a0.f1, .int .i64 a0.f2, .slice A8 y3.length c9, .slice A0_4 a0.f4.length n0_4]) (cs' := #[.string a0.f0, .string a0.f1, .int .i64 a0.f2, .slice A8 y3.length c9, .slice A17 y12.length c18]) (by kernel_rfl) (by kernel_rfl) (by kernel_rfl) (by kernel_rfl) (by kernel_rfl) (Upd.app _ (Upd.app _ (Upd.app _ (Upd.one _ (Upd.set _ _ _ _))))) ?_ (by kernel_rfl)
  refine gl_atE (by kernel_rfl) ?_
  refine ge_seq ?_
  refine gk_seq (by kernel_rfl) ?_
  refine gk_region (by kernel_rfl) ?_
  refine gl_loadB (T' := 24) (xp := (.tmp 1)) (v := .agg #[.string a0.f0, .string a0.f1, .int .i64 a0.f2, .slice A8 y3.length c9, .slice A17 y12.length c18]) (g := g1) (off := 0) (cs := #[.string a0.f0, .string a0.f1, .int .i64 a0.f2, .slice A8 y3.length c9, .slice A17 y12.length c18]) (e := 24) (fz := (0, 0)) (by kernel_rfl) (by kernel_rfl) (by kernel_rfl) (List.mem_append_right _ (List.mem_append_right _ (List.mem_append_right _ (List.mem_cons_of_mem _ List.mem_cons_self)))) (by kernel_rfl) ?_
  refine gl_storeB (T' := 24) (xp := (.tmp 2)) (xv := (.tmp 11)) (v := .agg #[.string a0.f0, .string a0.f1, .int .i64 a0.f2, .slice A8 y3.length c9, .slice A17 y12.length c18]) (g := g2) (off := 0) (cs := #[.string (⟨#[]⟩ : ByteArray), .string (⟨#[]⟩ : ByteArray), .int .i64 0, .slice none 0 0, .slice none 0 0]) (cs' := #[.string a0.f0, .string a0.f1, .int .i64 a0.f2, .slice A8 y3.length c9, .slice A17 y12.length c18]) (by kernel_rfl) (by kernel_rfl) (by kernel_rfl) (by kernel_rfl) (by kernel_rfl) (Upd.app _ (Upd.app _ (Upd.app _ (Upd.set _ _ _ _)))) ?_ (by kernel_rfl)
  refine gl_atE (by kernel_rfl) ?_
  refine ge_seq ?_
  refine gk_rest (Tk.step (Upd.rmC _ _) (Tk.step (Upd.app _ (Upd.rmC _ _)) (Tk.step (Upd.app _ (Upd.rm1 _ _)) (Tk.nil _)))) (fun J21 hJ22 hC23 => ?_)
  have hf24 := (OwnS.rest hO20 hJ22 hC23.left)
  have hf25 := (OwnS.rest (hO11.mono hI16) hJ22 hC23.right.left)
  have hf26 := hC23.right.right.left.blk
  refine gk_reord (D := X0 ++ L) (Reord.step (Upd.rmC _ _) (Reord.skip (Reord.refl _))) ?_
  refine gk_ret (by kernel_rfl) ?_
  obtain rfl := some_inj hr
  exact ge_result trivial (ResOk.cell (v := .agg #[.string a0.f0, .string a0.f1, .int .i64 a0.f2, .slice A8 y3.length c9, .slice A17 y12.length c18]) (by kernel_rfl) (loadR_agg (cs := [.string a0.f0, .string a0.f1, .int .i64 a0.f2, .slice A8 y3.length c9, .slice A17 y12.length c18]) (by kernel_rfl) (RunAt.take hf26 5)) ResOk.nil) (Imm.trans (Imm.trans hI7 hI16) hJ22) ⟨A8, c9, A17, c18, hf25, hf24, rfl, rfl⟩
/-! 6 nflog_Log_Put_f6 ('obj', 'bor') -/
noncomputable def nflog_Log_Put_f6 (a0 : S45) (a1 : S23) : Option (Int × S45) :=
  Option.bind (nflog_Right a1) fun (y2 : Int) =>
  bif (y2 != 0) then
  (some (y2, a0))
  else
  (Option.bind (nflog_Log_Find a0 a1.f0 a1.f1) fun (y5 : S23 × Bool) =>
    bif (y5.2 && (decide (y5.1.f2 > a1.f2))) then
    (some (90, a0))
    else
    (Option.bind (bif (!y5.2) then
        (some (decide ((nflog_Log_Len a0) ≥ 500)))
        else
        (some false)) fun (j24 : Bool) =>
      bif j24 then
      (some (8, a0))
      else
      (Option.bind (nflog_own_f18 a1) fun (y34 : S23) =>
        Option.bind (nflog_list_put a0.f0 (⟨a1.f0, a1.f1⟩ : S59) y34) fun (y45 : S43) =>
        some (0, (⟨(⟨y45.f0⟩ : S43)⟩ : S45)))))
theorem nflog_Log_Put_f6_walk {a0 : S45} {g0 : Nat} {T0 : TypeId} {A0_0 : Option Addr} {c0_0 : Nat} {C0_0 : Own} {a1 : S23} {X1 : Own} {A1_3 : Option Addr} {n1_3 : Nat} {A1_4 : Option Addr} {n1_4 : Nat} {I : Imm} {r : Int × S45} (hG : Gl I)  (hO0_0 : OwnS kS76 77 I A0_0 c0_0 a0.f0.f0 C0_0)  (hf1_3 : RepS (Kd.sl kS53) (I.adds X1) A1_3 n1_3 a1.f3) (hf1_4 : RepS (Kd.sl kS53) (I.adds X1) A1_4 n1_4 a1.f4) (hr : nflog_Log_Put_f6 a0 a1 = some r) (L : Own) :
    CallsTo Tryd.prog 6 #[.pointer (some ⟨g0, 0, none⟩), .agg #[.string a1.f0, .string a1.f1, .int .i64 a1.f2, .slice A1_3 a1.f3.length n1_3, .slice A1_4 a1.f4.length n1_4]] I ((g0, .cells #[.slice A0_0 a0.f0.f0.length c0_0] T0) :: (C0_0 ++ (X1 ++ L))) (fun v I' L' => ∃ A1_0 c1_0 C1_0, OwnS kS76 77 I' A1_0 c1_0 r.2.f0.f0 C1_0 ∧ v = .int .i64 r.1 ∧ (g0, .cells #[.slice A1_0 r.2.f0.f0.length c1_0] T0) :: (C1_0 ++ (X1 ++ L)) = L') := by
  unfold nflog_Log_Put_f6 at hr
  refine callsTo_body (N := 52) Tryd.func6 (by kernel_rfl) (by kernel_rfl) (by kernel_rfl) ?_
  refine gk_pick [0, 1] (K' := [(0, .pointer (some ⟨g0, 0, none⟩)), (1, .agg #[.string a1.f0, .string a1.f1, .int .i64 a1.f2, .slice A1_3 a1.f3.length n1_3, .slice A1_4 a1.f4.length n1_4])]) (by kernel_rfl) ?_
  refine gk_seq (by kernel_rfl) ?_
  refine gk_region (by kernel_rfl) ?_
  refine gl_box (T' := 24) (x := (.tmp 1)) (v := .agg #[.string a1.f0, .string a1.f1, .int .i64 a1.f2, .slice A1_3 a1.f3.length n1_3, .slice A1_4 a1.f4.length n1_4]) (cs := #[.string a1.f0, .string a1.f1, .int .i64 a1.f2, .slice A1_3 a1.f3.length n1_3, .slice A1_4 a1.f4.length n1_4]) (by kernel_rfl) (by kernel_rfl) (by kernel_rfl) (by kernel_rfl) (fun gb1 => ?_)
  refine gl_pure 1 [0, 3] (K' := [(0, .pointer (some ⟨g0, 0, none⟩)), (3, .pointer (some ⟨gb1, 0, none⟩))]) (by kernel_rfl) ?_
  refine gl_atE (by kernel_rfl) ?_
  refine ge_seq ?_
  refine gk_seq (by kernel_rfl) ?_
  refine gk_seq (by kernel_rfl) ?_
  refine gk_region (by kernel_rfl) ?_
  refine gl_pure 2 [0, 3, 9] (K' := [(0, .pointer (some ⟨g0, 0, none⟩)), (3, .pointer (some ⟨gb1, 0, none⟩)), (9, .bool false)]) (by kernel_rfl) ?_
  refine gl_atE (by kernel_rfl) ?_
  refine ge_seq ?_
  refine gk_cond (b := false) (by kernel_rfl) (by kernel_rfl) (fun h => by cases h) (fun _ => ?_)
  refine gk_skip (by kernel_rfl) ?_
  refine ge_seq ?_
  refine gk_seq (by kernel_rfl) ?_
  refine gk_seq (by kernel_rfl) ?_
  refine gk_region (by kernel_rfl) ?_
  refine gl_loadB (T' := 24) (xp := (.tmp 3)) (v := .agg #[.string a1.f0, .string a1.f1, .int .i64 a1.f2, .slice A1_3 a1.f3.length n1_3, .slice A1_4 a1.f4.length n1_4]) (g := gb1) (off := 0) (cs := #[.string a1.f0, .string a1.f1, .int .i64 a1.f2, .slice A1_3 a1.f3.length n1_3, .slice A1_4 a1.f4.length n1_4]) (e := 24) (fz := (0, 0)) (by kernel_rfl) (by kernel_rfl) (by kernel_rfl) List.mem_cons_self (by kernel_rfl) ?_
  obtain ⟨y2, hx3, hr⟩ := bind_some hr
  refine gl_callB (r := .int .i64 y2) (Tk.step (Upd.one _ (Upd.one _ (Upd.app _ (Upd.rmC _ _)))) (Tk.nil _)) (by kernel_rfl) (fun J hJ hC => nflog_Right_walk (r := y2) (hG.mono hJ) (hf1_3.mono (adds_le hJ hC.left)) (hf1_4.mono (adds_le hJ hC.left)) hx3 _) ?_
  refine gl_pure 1 [0, 3, 5] (K' := [(0, .pointer (some ⟨g0, 0, none⟩)), (3, .pointer (some ⟨gb1, 0, none⟩)), (5, .int .i64 y2)]) (by kernel_rfl) ?_
  refine gl_atE (by kernel_rfl) ?_
  refine ge_seq ?_
  refine gk_seq (by kernel_rfl) ?_
  refine gk_region (by kernel_rfl) ?_
  refine gl_pure 2 [0, 3, 5, 13] (K' := [(0, .pointer (some ⟨g0, 0, none⟩)), (3, .pointer (some ⟨gb1, 0, none⟩)), (5, .int .i64 y2), (13, .bool (y2 != 0))]) (by kernel_rfl) ?_
  refine gl_atE (by kernel_rfl) ?_
  refine ge_seq ?_
  refine gk_cond (b := (y2 != 0)) (by kernel_rfl) (by kernel_rfl) (fun hc4 => ?_) (fun hc4 => ?_)
  · have hr := cond_t hc4 hr
    refine gk_seq (by kernel_rfl) ?_
    refine gk_region (by kernel_rfl) ?_
    refine gl_pure 2 [4] (K' := [(4, .int .i64 y2)]) (by kernel_rfl) ?_
    refine gl_atE (by kernel_rfl) ?_
    refine ge_seq ?_
    refine gk_reord (D := (g0, .cells #[.slice A0_0 a0.f0.f0.length c0_0] T0) :: (C0_0 ++ (X1 ++ L))) (Reord.step1 (Upd.one _ (Upd.rm1 _ _)) (Reord.step (Upd.one _ (Upd.rmC _ _)) (Reord.step (Upd.one _ (Upd.rmC _ _)) (Reord.skip (Reord.refl _))))) ?_
    refine gk_ret (by kernel_rfl) ?_
    refine ge_seq_ret ?_
    obtain rfl := some_inj hr
    exact ge_result trivial (ResOk.tmp (by kernel_rfl) ResOk.nil) (Imm.refl _) ⟨A0_0, c0_0, C0_0, hO0_0, rfl, rfl⟩
  · have hr := cond_f hc4 hr
    refine gk_skip (by kernel_rfl) ?_
    refine ge_seq ?_
    refine gk_seq (by kernel_rfl) ?_
    refine gk_region (by kernel_rfl) ?_
    refine gl_pure 2 [0, 3, 16, 17] (K' := [(0, .pointer (some ⟨g0, 0, none⟩)), (3, .pointer (some ⟨gb1, 0, none⟩)), (16, .pointer (some ⟨g0, 0, none⟩)), (17, .pointer (some ⟨gb1, 0, none⟩))]) (by kernel_rfl) ?_
    refine gl_loadB (T' := 9) (xp := (.tmp 17)) (v := .string a1.f0) (g := gb1) (off := 0) (cs := #[.string a1.f0, .string a1.f1, .int .i64 a1.f2, .slice A1_3 a1.f3.length n1_3, .slice A1_4 a1.f4.length n1_4]) (e := 24) (fz := (0, 0)) (by kernel_rfl) (by kernel_rfl) (by kernel_rfl) List.mem_cons_self (by kernel_rfl) ?_
    refine gl_pure 1 [0, 3, 16, 18, 19] (K' := [(0, .pointer (some ⟨g0, 0, none⟩)), (3, .pointer (some ⟨gb1, 0, none⟩)), (16, .pointer (some ⟨g0, 0, none⟩)), (18, .string a1.f0), (19, .pointer (some ⟨gb1, 1, none⟩))]) (by kernel_rfl) ?_
    refine gl_loadB (T' := 9) (xp := (.tmp 19)) (v := .string a1.f1) (g := gb1) (off := 1) (cs := #[.string a1.f0, .string a1.f1, .int .i64 a1.f2, .slice A1_3 a1.f3.length n1_3, .slice A1_4 a1.f4.length n1_4]) (e := 24) (fz := (0, 0)) (by kernel_rfl) (by kernel_rfl) (by kernel_rfl) List.mem_cons_self (by kernel_rfl) ?_
    obtain ⟨y5, hx6, hr⟩ := bind_some hr
    refine gl_reord (D := (g0, .cells #[.slice A0_0 a0.f0.f0.length c0_0] T0) :: (C0_0 ++ ((gb1, .cells #[.string a1.f0, .string a1.f1, .int .i64 a1.f2, .slice A1_3 a1.f3.length n1_3, .slice A1_4 a1.f4.length n1_4] 24) :: (X1 ++ L)))) (Reord.step1 (Upd.one _ (Upd.rm1 _ _)) (Reord.step (Upd.one _ (Upd.rmC _ _)) (Reord.step1 (Upd.rm1 _ _) (Reord.step (Upd.rmC _ _) (Reord.refl _))))) ?_
    refine gl_call (by kernel_rfl) (nflog_Log_Find_walk (r := y5) (g0 := g0) (T0 := T0) (A0_0 := A0_0) (c0_0 := c0_0) (C0_0 := C0_0) (a0 := a0) hO0_0 hx6 _) ?_
    rintro v I7 L8 hI9 ⟨A10, c11, A12, c13, hf14, hf15, rfl, rfl⟩
    refine gl_pure 3 [0, 3, 22, 23] (K' := [(0, .pointer (some ⟨g0, 0, none⟩)), (3, .pointer (some ⟨gb1, 0, none⟩)), (22, .agg #[.string y5.1.f0, .string y5.1.f1, .int .i64 y5.1.f2, .slice A10 y5.1.f3.length c11, .slice A12 y5.1.f4.length c13]), (23, .bool y5.2)]) (by kernel_rfl) ?_
    refine gl_alloc (T' := 24) (cs := #[.string (⟨#[]⟩ : ByteArray), .string (⟨#[]⟩ : ByteArray), .int .i64 0, .slice none 0 0, .slice none 0 0]) (by kernel_rfl) (by kernel_rfl) (by kernel_rfl) (fun g16 => ?_)
    refine gl_storeB (T' := 24) (xp := (.tmp 6)) (xv := (.tmp 22)) (v := .agg #[.string y5.1.f0, .string y5.1.f1, .int .i64 y5.1.f2, .slice A10 y5.1.f3.length c11, .slice A12 y5.1.f4.length c13]) (g := g16) (off := 0) (cs := #[.string (⟨#[]⟩ : ByteArray), .string (⟨#[]⟩ : ByteArray), .int .i64 0, .slice none 0 0, .slice none 0 0]) (cs' := #[.string y5.1.f0, .string y5.1.f1, .int .i64 y5.1.f2, .slice A10 y5.1.f3.length c11, .slice A12 y5.1.f4.length c13]) (by kernel_rfl) (by kernel_rfl) (by kernel_rfl) (by kernel_rfl) (by kernel_rfl) (Upd.set _ _ _ _) ?_ (by kernel_rfl)
    refine gl_pure 1 [0, 3, 6, 7] (K' := [(0, .pointer (some ⟨g0, 0, none⟩)), (3, .pointer (some ⟨gb1, 0, none⟩)), (6, .pointer (some ⟨g16, 0, none⟩)), (7, .bool y5.2)]) (by kernel_rfl) ?_
    refine gl_atE (by kernel_rfl) ?_
    refine ge_seq ?_
    refine gk_seq (by kernel_rfl) ?_
    refine gk_block (by kernel_rfl) ?_
    refine gk_seq (by kernel_rfl) ?_
    obtain ⟨b19, hb20⟩ : ∃ z, z = (y5.2 && (decide (y5.1.f2 > a1.f2))) := ⟨_, rfl⟩
    refine gk_join (fun t I' L' => I7 ≤ I' ∧ (g16, .cells #[.string y5.1.f0, .string y5.1.f1, .int .i64 y5.1.f2, .slice A10 y5.1.f3.length c11, .slice A12 y5.1.f4.length c13] 24) :: ((g0, .cells #[.slice A0_0 a0.f0.f0.length c0_0] T0) :: (C0_0 ++ ((gb1, .cells #[.string a1.f0, .string a1.f1, .int .i64 a1.f2, .slice A1_3 a1.f3.length n1_3, .slice A1_4 a1.f4.length n1_4] 24) :: (X1 ++ L)))) = L' ∧ Knows 52 [(0, .pointer (some ⟨g0, 0, none⟩)), (3, .pointer (some ⟨gb1, 0, none⟩)), (7, .bool y5.2), (24, .bool b19)] t) ?_ ?_
    · refine gk_region (by kernel_rfl) ?_
      refine gl_pure 2 [0, 3, 6, 7, 26] (K' := [(0, .pointer (some ⟨g0, 0, none⟩)), (3, .pointer (some ⟨gb1, 0, none⟩)), (6, .pointer (some ⟨g16, 0, none⟩)), (7, .bool y5.2), (26, .bool y5.2)]) (by kernel_rfl) ?_
      refine gl_case 26 (b := y5.2) (by kernel_rfl) (fun hc22 => ?_) (fun hc22 => ?_)
      · refine gl_pure 1 [0, 3, 7, 26, 27] (K' := [(0, .pointer (some ⟨g0, 0, none⟩)), (3, .pointer (some ⟨gb1, 0, none⟩)), (7, .bool y5.2), (26, .bool true), (27, .pointer (some ⟨g16, 2, none⟩))]) (by kernel_rfl) ?_
        refine gl_loadB (T' := 2) (xp := (.tmp 27)) (v := .int .i64 y5.1.f2) (g := g16) (off := 2) (cs := #[.string y5.1.f0, .string y5.1.f1, .int .i64 y5.1.f2, .slice A10 y5.1.f3.length c11, .slice A12 y5.1.f4.length c13]) (e := 24) (fz := (0, 0)) (by kernel_rfl) (by kernel_rfl) (by kernel_rfl) List.mem_cons_self (by kernel_rfl) ?_
        refine gl_pure 1 [0, 3, 7, 26, 28, 29] (K' := [(0, .pointer (some ⟨g0, 0, none⟩)), (3, .pointer (some ⟨gb1, 0, none⟩)), (7, .bool y5.2), (26, .bool true), (28, .int .i64 y5.1.f2), (29, .pointer (some ⟨gb1, 2, none⟩))]) (by kernel_rfl) ?_
        refine gl_loadB (T' := 2) (xp := (.tmp 29)) (v := .int .i64 a1.f2) (g := gb1) (off := 2) (cs := #[.string a1.f0, .string a1.f1, .int .i64 a1.f2, .slice A1_3 a1.f3.length n1_3, .slice A1_4 a1.f4.length n1_4]) (e := 24) (fz := (0, 0)) (by kernel_rfl) (by kernel_rfl) (by kernel_rfl) (List.mem_cons_of_mem _ (List.mem_cons_of_mem _ (List.mem_append_right _ List.mem_cons_self))) (by kernel_rfl) ?_
        refine gl_pure 3 [0, 3, 7, 24] (K' := [(0, .pointer (some ⟨g0, 0, none⟩)), (3, .pointer (some ⟨gb1, 0, none⟩)), (7, .bool y5.2), (24, .bool (decide (y5.1.f2 > a1.f2)))]) (by kernel_rfl) ?_
        refine gl_atE (by kernel_rfl) ?_
        exact ge_mid fun t ht => ⟨(Imm.refl _), rfl, by rw [(show b19 = (decide (y5.1.f2 > a1.f2)) from hb20.trans (by first | (rw [hc22]; done) | (rw [hc22]; rfl) | (simp [hc22]; done) | (simp only [hc22]; rfl) | (simp at *; omega)))]; exact ht.pick (l := [0, 3, 7, 24]) (by kernel_rfl)⟩
      · refine gl_pure 7 [0, 3, 7, 24] (K' := [(0, .pointer (some ⟨g0, 0, none⟩)), (3, .pointer (some ⟨gb1, 0, none⟩)), (7, .bool y5.2), (24, .bool false)]) (by kernel_rfl) ?_
        refine gl_atE (by kernel_rfl) ?_
        exact ge_mid fun t ht => ⟨(Imm.refl _), rfl, by rw [(show b19 = false from hb20.trans (by first | (rw [hc22]; done) | (rw [hc22]; rfl) | (simp [hc22]; done) | (simp only [hc22]; rfl) | (simp at *; omega)))]; exact ht.pick (l := [0, 3, 7, 24]) (by kernel_rfl)⟩
    · rintro t I21 L' ⟨hI17, rfl, hK18⟩
      subst hb20
      refine ge_at hK18 ?_
      refine ge_seq ?_
      refine gk_cond (b := (y5.2 && (decide (y5.1.f2 > a1.f2)))) (by kernel_rfl) (by kernel_rfl) (fun hc23 => ?_) (fun hc23 => ?_)
      · have hr := cond_t hc23 hr
        refine gk_seq (by kernel_rfl) ?_
        refine gk_region (by kernel_rfl) ?_
        refine gl_pure 1 [4] (K' := [(4, .int .i64 90)]) (by kernel_rfl) ?_
        refine gl_atE (by kernel_rfl) ?_
        refine ge_seq ?_
        refine gk_reord (D := (g0, .cells #[.slice A0_0 a0.f0.f0.length c0_0] T0) :: (C0_0 ++ (X1 ++ L))) (Reord.step1 (Upd.one _ (Upd.rm1 _ _)) (Reord.step (Upd.one _ (Upd.rmC _ _)) (Reord.step (Upd.one _ (Upd.one _ (Upd.rmC _ _))) (Reord.skip (Reord.skip (Reord.refl _)))))) ?_
        refine gk_ret (by kernel_rfl) ?_
        refine ge_block_ret ?_
        refine ge_seq_ret ?_
        obtain rfl := some_inj hr
        exact ge_result trivial (ResOk.tmp (by kernel_rfl) ResOk.nil) (Imm.trans hI9 hI17) ⟨A0_0, c0_0, C0_0, (hO0_0.mono (Imm.trans hI9 hI17)), rfl, rfl⟩
      · have hr := cond_f hc23 hr
        refine gk_seq (by kernel_rfl) ?_
        obtain ⟨j24, hj25, hr⟩ := bind_some hr
        refine gk_join (fun t I' L' => I21 ≤ I' ∧ (g0, .cells #[.slice A0_0 a0.f0.f0.length c0_0] T0) :: (C0_0 ++ ((gb1, .cells #[.string a1.f0, .string a1.f1, .int .i64 a1.f2, .slice A1_3 a1.f3.length n1_3, .slice A1_4 a1.f4.length n1_4] 24) :: (X1 ++ L))) = L' ∧ Knows 52 [(0, .pointer (some ⟨g0, 0, none⟩)), (3, .pointer (some ⟨gb1, 0, none⟩)), (33, .bool j24)] t) ?_ ?_
        · refine gk_region (by kernel_rfl) ?_
          refine gl_pure 3 [0, 3, 36] (K' := [(0, .pointer (some ⟨g0, 0, none⟩)), (3, .pointer (some ⟨gb1, 0, none⟩)), (36, .bool (!y5.2))]) (by kernel_rfl) ?_
          refine gl_case 36 (b := (!y5.2)) (by kernel_rfl) (fun hc29 => ?_) (fun hc29 => ?_)
          · have hj25 := cond_t hc29 hj25
            refine gl_pure 1 [0, 3, 36, 37] (K' := [(0, .pointer (some ⟨g0, 0, none⟩)), (3, .pointer (some ⟨gb1, 0, none⟩)), (36, .bool true), (37, .pointer (some ⟨g0, 0, none⟩))]) (by kernel_rfl) ?_
            refine gl_reord (D := (g0, .cells #[.slice A0_0 a0.f0.f0.length c0_0] T0) :: (C0_0 ++ ((g16, .cells #[.string y5.1.f0, .string y5.1.f1, .int .i64 y5.1.f2, .slice A10 y5.1.f3.length c11, .slice A12 y5.1.f4.length c13] 24) :: ((gb1, .cells #[.string a1.f0, .string a1.f1, .int .i64 a1.f2, .slice A1_3 a1.f3.length n1_3, .slice A1_4 a1.f4.length n1_4] 24) :: (X1 ++ L))))) (Reord.step1 (Upd.one _ (Upd.rm1 _ _)) (Reord.step (Upd.one _ (Upd.rmC _ _)) (Reord.step1 (Upd.rm1 _ _) (Reord.step1 (Upd.rm1 _ _) (Reord.step (Upd.rmC _ _) (Reord.refl _)))))) ?_
            refine gl_call (by kernel_rfl) (nflog_Log_Len_walk (r := (nflog_Log_Len a0)) (g0 := g0) (T0 := T0) (A0_0 := A0_0) (c0_0 := c0_0) (C0_0 := C0_0) (a0 := a0) (hO0_0.mono (Imm.trans hI9 hI17)) rfl _) ?_
            rintro v I30 L31 hI32 ⟨rfl, rfl⟩
            refine gl_pure 3 [0, 3, 33] (K' := [(0, .pointer (some ⟨g0, 0, none⟩)), (3, .pointer (some ⟨gb1, 0, none⟩)), (33, .bool (decide ((nflog_Log_Len a0) ≥ 500)))]) (by kernel_rfl) ?_
            refine gl_reord (D := (g0, .cells #[.slice A0_0 a0.f0.f0.length c0_0] T0) :: (C0_0 ++ ((gb1, .cells #[.string a1.f0, .string a1.f1, .int .i64 a1.f2, .slice A1_3 a1.f3.length n1_3, .slice A1_4 a1.f4.length n1_4] 24) :: (X1 ++ L)))) (Reord.step1 (Upd.rm1 _ _) (Reord.step (Upd.rmC _ _) (Reord.step1 (Upd.one _ (Upd.rm1 _ _)) (Reord.step (Upd.one _ (Upd.rmC _ _)) (Reord.skip (Reord.refl _)))))) ?_
            refine gl_atE (by kernel_rfl) ?_
            obtain rfl := some_inj hj25
            exact ge_mid fun t ht => ⟨hI32, rfl, ht.pick (l := [0, 3, 33]) (by kernel_rfl)⟩
          · have hj25 := cond_f hc29 hj25
            refine gl_pure 5 [0, 3, 33] (K' := [(0, .pointer (some ⟨g0, 0, none⟩)), (3, .pointer (some ⟨gb1, 0, none⟩)), (33, .bool false)]) (by kernel_rfl) ?_
            refine gl_reord (D := (g0, .cells #[.slice A0_0 a0.f0.f0.length c0_0] T0) :: (C0_0 ++ ((gb1, .cells #[.string a1.f0, .string a1.f1, .int .i64 a1.f2, .slice A1_3 a1.f3.length n1_3, .slice A1_4 a1.f4.length n1_4] 24) :: (X1 ++ L)))) (Reord.step1 (Upd.one _ (Upd.rm1 _ _)) (Reord.step (Upd.one _ (Upd.rmC _ _)) (Reord.step1 (Upd.one _ (Upd.rm1 _ _)) (Reord.step (Upd.one _ (Upd.rmC _ _)) (Reord.skip (Reord.refl _)))))) ?_
            refine gl_atE (by kernel_rfl) ?_
            obtain rfl := some_inj hj25
            exact ge_mid fun t ht => ⟨(Imm.refl _), rfl, ht.pick (l := [0, 3, 33]) (by kernel_rfl)⟩
        · rintro t I28 L' ⟨hI26, rfl, hK27⟩
          refine ge_at hK27 ?_
          refine ge_seq ?_
          refine gk_cond (b := j24) (by kernel_rfl) (by kernel_rfl) (fun hc33 => ?_) (fun hc33 => ?_)
          · have hr := cond_t hc33 hr
            refine gk_seq (by kernel_rfl) ?_
            refine gk_region (by kernel_rfl) ?_
            refine gl_pure 1 [4] (K' := [(4, .int .i64 8)]) (by kernel_rfl) ?_
            refine gl_atE (by kernel_rfl) ?_
            refine ge_seq ?_
            refine gk_reord (D := (g0, .cells #[.slice A0_0 a0.f0.f0.length c0_0] T0) :: (C0_0 ++ (X1 ++ L))) (Reord.step1 (Upd.rm1 _ _) (Reord.step (Upd.rmC _ _) (Reord.step (Upd.one _ (Upd.rmC _ _)) (Reord.skip (Reord.refl _))))) ?_
            refine gk_ret (by kernel_rfl) ?_
            refine ge_block_ret ?_
            refine ge_seq_ret ?_
            obtain rfl := some_inj hr
            exact ge_result trivial (ResOk.tmp (by kernel_rfl) ResOk.nil) (Imm.trans (Imm.trans hI9 hI17) hI26) ⟨A0_0, c0_0, C0_0, (hO0_0.mono (Imm.trans (Imm.trans hI9 hI17) hI26)), rfl, rfl⟩
          · have hr := cond_f hc33 hr
            refine gk_skip (by kernel_rfl) ?_
            refine ge_block_normal ?_
            refine ge_seq ?_
            refine gk_seq (by kernel_rfl) ?_
            refine gk_draw 10 [(0, true), (1, true), (2, true), (3, true), (4, true), (5, true), (6, true), (7, true), (8, true), (9, false)] [(g0, .cells #[.slice A0_0 a0.f0.f0.length c0_0] T0), (gb1, .cells #[.string a1.f0, .string a1.f1, .int .i64 a1.f2, .slice A1_3 a1.f3.length n1_3, .slice A1_4 a1.f4.length n1_4] 24)] (List.forall_mem_cons.2 ⟨List.mem_cons_self, (List.forall_mem_cons.2 ⟨(List.mem_cons_of_mem _ (List.mem_append_right _ List.mem_cons_self)), (fun p hp => by cases hp)⟩)⟩) (by kernel_rfl) (by kernel_rfl) (by kernel_rfl) ?_ (by kernel_rfl)
            refine gd_pure 4 [3, 43, 44] (K' := [(3, .pointer (some ⟨gb1, 0, none⟩)), (43, .pointer (some ⟨g0, 0, none⟩)), (44, .pointer (some ⟨gb1, 0, none⟩))]) (s' := [(4, true), (5, true), (6, true), (7, true), (8, true), (9, false)]) (CC.refl (List.forall_mem_cons.2 ⟨List.mem_cons_self, (List.forall_mem_cons.2 ⟨(List.mem_cons_of_mem _ (List.mem_append_right _ List.mem_cons_self)), (fun p hp => by cases hp)⟩)⟩)) (by kernel_rfl) ?_
            refine gd_q (v := .string a1.f0) (by kernel_rfl) (by kernel_rfl) (CC.refl (List.forall_mem_cons.2 ⟨List.mem_cons_self, (List.forall_mem_cons.2 ⟨(List.mem_cons_of_mem _ (List.mem_append_right _ List.mem_cons_self)), (fun p hp => by cases hp)⟩)⟩)) (fun I' L' T hC kk => gl_loadB (T' := 9) (xp := (.tmp 44)) (v := .string a1.f0) (g := gb1) (off := 0) (cs := #[.string a1.f0, .string a1.f1, .int .i64 a1.f2, .slice A1_3 a1.f3.length n1_3, .slice A1_4 a1.f4.length n1_4]) (e := 24) (fz := (0, 0)) (by kernel_rfl) (by kernel_rfl) (by kernel_rfl) (hC.sub _ (List.mem_cons_of_mem _ List.mem_cons_self)) (by kernel_rfl) kk) ?_
            refine gd_pure 1 [3, 43, 45, 46] (K' := [(3, .pointer (some ⟨gb1, 0, none⟩)), (43, .pointer (some ⟨g0, 0, none⟩)), (45, .string a1.f0), (46, .pointer (some ⟨gb1, 1, none⟩))]) (s' := [(6, true), (7, true), (8, true), (9, false)]) (CC.refl (List.forall_mem_cons.2 ⟨List.mem_cons_self, (List.forall_mem_cons.2 ⟨(List.mem_cons_of_mem _ (List.mem_append_right _ List.mem_cons_self)), (fun p hp => by cases hp)⟩)⟩)) (by kernel_rfl) ?_
            refine gd_q (v := .string a1.f1) (by kernel_rfl) (by kernel_rfl) (CC.refl (List.forall_mem_cons.2 ⟨List.mem_cons_self, (List.forall_mem_cons.2 ⟨(List.mem_cons_of_mem _ (List.mem_append_right _ List.mem_cons_self)), (fun p hp => by cases hp)⟩)⟩)) (fun I' L' T hC kk => gl_loadB (T' := 9) (xp := (.tmp 46)) (v := .string a1.f1) (g := gb1) (off := 1) (cs := #[.string a1.f0, .string a1.f1, .int .i64 a1.f2, .slice A1_3 a1.f3.length n1_3, .slice A1_4 a1.f4.length n1_4]) (e := 24) (fz := (0, 0)) (by kernel_rfl) (by kernel_rfl) (by kernel_rfl) (hC.sub _ (List.mem_cons_of_mem _ List.mem_cons_self)) (by kernel_rfl) kk) ?_
            refine gd_pure 1 [3, 43, 48] (K' := [(3, .pointer (some ⟨gb1, 0, none⟩)), (43, .pointer (some ⟨g0, 0, none⟩)), (48, .agg #[.string a1.f0, .string a1.f1])]) (s' := [(8, true), (9, false)]) (CC.refl (List.forall_mem_cons.2 ⟨List.mem_cons_self, (List.forall_mem_cons.2 ⟨(List.mem_cons_of_mem _ (List.mem_append_right _ List.mem_cons_self)), (fun p hp => by cases hp)⟩)⟩)) (by kernel_rfl) ?_
            refine gd_q (v := .agg #[.string a1.f0, .string a1.f1, .int .i64 a1.f2, .slice A1_3 a1.f3.length n1_3, .slice A1_4 a1.f4.length n1_4]) (by kernel_rfl) (by kernel_rfl) (CC.refl (List.forall_mem_cons.2 ⟨List.mem_cons_self, (List.forall_mem_cons.2 ⟨(List.mem_cons_of_mem _ (List.mem_append_right _ List.mem_cons_self)), (fun p hp => by cases hp)⟩)⟩)) (fun I' L' T hC kk => gl_loadB (T' := 24) (xp := (.tmp 3)) (v := .agg #[.string a1.f0, .string a1.f1, .int .i64 a1.f2, .slice A1_3 a1.f3.length n1_3, .slice A1_4 a1.f4.length n1_4]) (g := gb1) (off := 0) (cs := #[.string a1.f0, .string a1.f1, .int .i64 a1.f2, .slice A1_3 a1.f3.length n1_3, .slice A1_4 a1.f4.length n1_4]) (e := 24) (fz := (0, 0)) (by kernel_rfl) (by kernel_rfl) (by kernel_rfl) (hC.sub _ (List.mem_cons_of_mem _ List.mem_cons_self)) (by kernel_rfl) kk) ?_
            refine gd_one (by kernel_rfl) ?_
            obtain ⟨y34, hx35, hr⟩ := bind_some hr
            refine gl_reord (D := X1 ++ ((g0, .cells #[.slice A0_0 a0.f0.f0.length c0_0] T0) :: (C0_0 ++ ((gb1, .cells #[.string a1.f0, .string a1.f1, .int .i64 a1.f2, .slice A1_3 a1.f3.length n1_3, .slice A1_4 a1.f4.length n1_4] 24) :: L)))) (Reord.step (Upd.one _ (Upd.app _ (Upd.one _ (Upd.rmC _ _)))) (Reord.step1 (Upd.rm1 _ _) (Reord.step (Upd.rmC _ _) (Reord.step1 (Upd.rm1 _ _) (Reord.refl _))))) ?_
            refine gl_call (by kernel_rfl) (nflog_own_f18_walk (r := y34) (X0 := X1) (a0 := a1) (hf1_3.mono (adds_mono (Imm.trans (Imm.trans hI9 hI17) hI26))) (hf1_4.mono (adds_mono (Imm.trans (Imm.trans hI9 hI17) hI26))) hx35 _) ?_
            rintro v I36 L37 hI38 ⟨A39, c40, A41, c42, hf43, hf44, rfl, rfl⟩
            refine gl_toD (by kernel_rfl) ⟨hI38, (List.forall_mem_cons.2 ⟨(List.mem_append_right _ List.mem_cons_self), (List.forall_mem_cons.2 ⟨(List.mem_append_right _ (List.mem_cons_of_mem _ (List.mem_append_right _ List.mem_cons_self))), (fun p hp => by cases hp)⟩)⟩)⟩ ?_
            refine gd_done ?_
            obtain ⟨y45, hx46, hr⟩ := bind_some hr
            refine gl_reord (D := (g0, .cells #[.slice A0_0 a0.f0.f0.length c0_0] T0) :: (C0_0 ++ (X1 ++ ((gb1, .cells #[.string a1.f0, .string a1.f1, .int .i64 a1.f2, .slice A1_3 a1.f3.length n1_3, .slice A1_4 a1.f4.length n1_4] 24) :: L)))) (Reord.step1 (Upd.app _ (Upd.rm1 _ _)) (Reord.step (Upd.app _ (Upd.rmC _ _)) (Reord.step (Upd.rmC _ _) (Reord.step1 (Upd.rm1 _ _) (Reord.refl _))))) ?_
            refine gl_call (by kernel_rfl) (nflog_list_put_walk (r := y45) (g0 := g0) (T0 := T0) (A0_0 := A0_0) (c0_0 := c0_0) (C0_0 := C0_0) (a0 := a0.f0) (hO0_0.mono (Imm.trans (Imm.trans (Imm.trans hI9 hI17) hI26) hI38)) hf43 hf44 hx46 _) ?_
            rintro v I47 L48 hI49 ⟨A50, c51, C52, hO53, rfl, rfl⟩
            refine gl_atE (by kernel_rfl) ?_
            refine ge_seq ?_
            refine gk_seq (by kernel_rfl) ?_
            refine gk_region (by kernel_rfl) ?_
            refine gl_pure 1 [4] (K' := [(4, .int .i64 0)]) (by kernel_rfl) ?_
            refine gl_atE (by kernel_rfl) ?_
            refine ge_seq ?_
            refine gk_reord (D := (g0, .cells #[.slice A50 y45.f0.length c51] T0) :: (C52 ++ (X1 ++ L))) (Reord.step1 (Upd.rm1 _ _) (Reord.step (Upd.rmC _ _) (Reord.step (Upd.rmC _ _) (Reord.skip (Reord.refl _))))) ?_
            refine gk_ret (by kernel_rfl) ?_
            obtain rfl := some_inj hr
            exact ge_result trivial (ResOk.tmp (by kernel_rfl) ResOk.nil) (Imm.trans (Imm.trans (Imm.trans (Imm.trans hI9 hI17) hI26) hI38) hI49) ⟨A50, c51, C52, hO53, rfl, rfl⟩
/-! 46 tocsinref26_time  -/
noncomputable def tocsinref26_time (a0 : Int) : Bool :=
  ((decide (a0 ≥ 0)) && (decide (a0 ≤ 1125899906842624)))
theorem tocsinref26_time_walk {a0 : Int} {I : Imm} {r : Bool}  (hr : tocsinref26_time a0 = r) (L : Own) :
    CallsTo Tryd.prog 46 #[.int .i64 a0] I L (fun v I' L' => v = .bool r ∧ L = L') := by
  replace hr : some (tocsinref26_time a0) = some r := congrArg some hr
  unfold tocsinref26_time at hr
  refine callsTo_body (N := 9) Tryd.func46 (by kernel_rfl) (by kernel_rfl) (by kernel_rfl) ?_
  refine gk_pick [0] (K' := [(0, .int .i64 a0)]) (by kernel_rfl) ?_
  refine gk_seq (by kernel_rfl) ?_
  refine gk_region (by kernel_rfl) ?_
  refine gl_pure 1 [0] (K' := [(0, .int .i64 a0)]) (by kernel_rfl) ?_
  refine gl_atE (by kernel_rfl) ?_
  refine ge_seq ?_
  refine gk_seq (by kernel_rfl) ?_
  obtain ⟨b3, hb4⟩ : ∃ z, z = ((decide (a0 ≥ 0)) && (decide (a0 ≤ 1125899906842624))) := ⟨_, rfl⟩
  refine gk_join (fun t I' L' => I ≤ I' ∧ L = L' ∧ Knows 9 [(2, .bool b3)] t) ?_ ?_
  · refine gk_region (by kernel_rfl) ?_
    refine gl_pure 3 [0, 5] (K' := [(0, .int .i64 a0), (5, .bool (decide (a0 ≥ 0)))]) (by kernel_rfl) ?_
    refine gl_case 5 (b := (decide (a0 ≥ 0))) (by kernel_rfl) (fun hc6 => ?_) (fun hc6 => ?_)
    · refine gl_pure 4 [2] (K' := [(2, .bool (decide (a0 ≤ 1125899906842624)))]) (by kernel_rfl) ?_
      refine gl_atE (by kernel_rfl) ?_
      exact ge_mid fun t ht => ⟨(Imm.refl _), rfl, by rw [(show b3 = (decide (a0 ≤ 1125899906842624)) from hb4.trans (by first | (rw [hc6]; done) | (rw [hc6]; rfl) | (simp [hc6]; done) | (simp only [hc6]; rfl) | (simp at *; omega)))]; exact ht.pick (l := [2]) (by kernel_rfl)⟩
    · refine gl_pure 4 [2] (K' := [(2, .bool false)]) (by kernel_rfl) ?_
      refine gl_atE (by kernel_rfl) ?_
      exact ge_mid fun t ht => ⟨(Imm.refl _), rfl, by rw [(show b3 = false from hb4.trans (by first | (rw [hc6]; done) | (rw [hc6]; rfl) | (simp [hc6]; done) | (simp only [hc6]; rfl) | (simp at *; omega)))]; exact ht.pick (l := [2]) (by kernel_rfl)⟩
  · rintro t I5 L' ⟨hI1, rfl, hK2⟩
    subst hb4
    refine ge_at hK2 ?_
    refine ge_seq ?_
    refine gk_ret (by kernel_rfl) ?_
    obtain rfl := some_inj hr
    exact ge_result trivial (ResOk.tmp (by kernel_rfl) ResOk.nil) hI1 ⟨rfl, rfl⟩
/-! 79 tocsinref04_side  -/
noncomputable def tocsinref04_side (a0 : ByteArray) (a1 : ByteArray) : Int :=
  bif (Op.bytesLess a0.toList a1.toList) then
  ((-1))
  else
  (bif (!((Op.bytesLess a0.toList a1.toList) || (a0.toList == a1.toList))) then
    (1)
    else
    (0))
theorem tocsinref04_side_walk {a0 : ByteArray} {a1 : ByteArray} {I : Imm} {r : Int}  (hr : tocsinref04_side a0 a1 = r) (L : Own) :
    CallsTo Tryd.prog 79 #[.string a0, .string a1] I L (fun v I' L' => v = .int .i64 r ∧ L = L') := by
  replace hr : some (tocsinref04_side a0 a1) = some r := congrArg some hr
  unfold tocsinref04_side at hr
  refine callsTo_body (N := 11) Tryd.func79 (by kernel_rfl) (by kernel_rfl) (by kernel_rfl) ?_
  refine gk_pick [0, 1] (K' := [(0, .string a0), (1, .string a1)]) (by kernel_rfl) ?_
  refine gk_seq (by kernel_rfl) ?_
  refine gk_region (by kernel_rfl) ?_
  refine gl_pure 1 [0, 1] (K' := [(0, .string a0), (1, .string a1)]) (by kernel_rfl) ?_
  refine gl_atE (by kernel_rfl) ?_
  refine ge_seq ?_
  refine gk_seq (by kernel_rfl) ?_
  refine gk_seq (by kernel_rfl) ?_
  refine gk_region (by kernel_rfl) ?_
  refine gl_pure 3 [0, 1, 7] (K' := [(0, .string a0), (1, .string a1), (7, .bool (Op.bytesLess a0.toList a1.toList))]) (by kernel_rfl) ?_
  refine gl_atE (by kernel_rfl) ?_
  refine ge_seq ?_
  refine gk_cond (b := (Op.bytesLess a0.toList a1.toList)) (by kernel_rfl) (by kernel_rfl) (fun hc1 => ?_) (fun hc1 => ?_)
  · have hr := scond_t hc1 hr
    refine gk_seq (by kernel_rfl) ?_
    refine gk_region (by kernel_rfl) ?_
    refine gl_pure 1 [4] (K' := [(4, .int .i64 (-1))]) (by kernel_rfl) ?_
    refine gl_atE (by kernel_rfl) ?_
    refine ge_seq ?_
    refine gk_ret (by kernel_rfl) ?_
    refine ge_seq_ret ?_
    obtain rfl := some_inj hr
    exact ge_result trivial (ResOk.tmp (by kernel_rfl) ResOk.nil) (Imm.refl _) ⟨rfl, rfl⟩
  · have hr := scond_f hc1 hr
    refine gk_skip (by kernel_rfl) ?_
    refine ge_seq ?_
    refine gk_seq (by kernel_rfl) ?_
    refine gk_seq (by kernel_rfl) ?_
    refine gk_region (by kernel_rfl) ?_
    refine gl_pure 3 [10] (K' := [(10, .bool (!((Op.bytesLess a0.toList a1.toList) || (a0.toList == a1.toList))))]) (by kernel_rfl) ?_
    refine gl_atE (by kernel_rfl) ?_
    refine ge_seq ?_
    refine gk_cond (b := (!((Op.bytesLess a0.toList a1.toList) || (a0.toList == a1.toList)))) (by kernel_rfl) (by kernel_rfl) (fun hc2 => ?_) (fun hc2 => ?_)
    · have hr := scond_t hc2 hr
      refine gk_seq (by kernel_rfl) ?_
      refine gk_region (by kernel_rfl) ?_
      refine gl_pure 1 [4] (K' := [(4, .int .i64 1)]) (by kernel_rfl) ?_
      refine gl_atE (by kernel_rfl) ?_
      refine ge_seq ?_
      refine gk_ret (by kernel_rfl) ?_
      refine ge_seq_ret ?_
      obtain rfl := some_inj hr
      exact ge_result trivial (ResOk.tmp (by kernel_rfl) ResOk.nil) (Imm.refl _) ⟨rfl, rfl⟩
    · have hr := scond_f hc2 hr
      refine gk_skip (by kernel_rfl) ?_
      refine ge_seq ?_
      refine gk_seq (by kernel_rfl) ?_
      refine gk_region (by kernel_rfl) ?_
      refine gl_pure 1 [4] (K' := [(4, .int .i64 0)]) (by kernel_rfl) ?_
      refine gl_atE (by kernel_rfl) ?_
      refine ge_seq ?_
      refine gk_ret (by kernel_rfl) ?_
      obtain rfl := some_inj hr
      exact ge_result trivial (ResOk.tmp (by kernel_rfl) ResOk.nil) (Imm.refl _) ⟨rfl, rfl⟩
/-! 72 tocsinref04_Compare  -/
noncomputable def tocsinref04_Compare_l17 (a0 : List S53) (a1 : List S53) : Int → Option ((Int) ⊕ ((Unit) ⊕ (Int))) := fun s7 =>
  bif ((decide (s7 < (a0.length : Int))) && (decide (s7 < (a1.length : Int)))) then
  (Option.bind (ix a0 s7) fun (x26 : S53) =>
    Option.bind (ix a1 s7) fun (x34 : S53) =>
    bif ((tocsinref04_side x26.f0 x34.f0) != 0) then
    (some (Sum.inr (Sum.inr (tocsinref04_side x26.f0 x34.f0))))
    else
    (Option.bind (ix a0 s7) fun (x43 : S53) =>
      Option.bind (ix a1 s7) fun (x51 : S53) =>
      bif ((tocsinref04_side x43.f1 x51.f1) != 0) then
      (some (Sum.inr (Sum.inr (tocsinref04_side x43.f1 x51.f1))))
      else
      (some (Sum.inl (IntKind.wrap .i64 (s7 + 1))))))
  else
  (some (Sum.inr (Sum.inl ())))
noncomputable def tocsinref04_Compare (a0 : List S53) (a1 : List S53) : Option Int :=
  Option.bind (loopO (tocsinref04_Compare_l17 a0 a1) 0) fun (r5 : (Unit) ⊕ (Int)) =>
  match r5 with
  | Sum.inl r13 => bif (decide ((a0.length : Int) < (a1.length : Int))) then
    (some (-1))
    else
    (bif (decide ((a0.length : Int) > (a1.length : Int))) then
      (some 1)
      else
      (some 0))
  | Sum.inr v62 => some v62
theorem tocsinref04_Compare_walk {a0 : List S53} {A0_0 : Option Addr} {n0_0 : Nat} {a1 : List S53} {A1_0 : Option Addr} {n1_0 : Nat} {I : Imm} {r : Int}  (hf0_0 : RepS kS53 I A0_0 n0_0 a0)  (hf1_0 : RepS kS53 I A1_0 n1_0 a1) (hr : tocsinref04_Compare a0 a1 = some r) (L : Own) :
    CallsTo Tryd.prog 72 #[.slice A0_0 a0.length n0_0, .slice A1_0 a1.length n1_0] I L (fun v I' L' => v = .int .i64 r ∧ L = L') := by
  unfold tocsinref04_Compare at hr
  refine callsTo_body (N := 58) Tryd.func72 (by kernel_rfl) (by kernel_rfl) (by kernel_rfl) ?_
  refine gk_pick [0, 1] (K' := [(0, .slice A0_0 a0.length n0_0), (1, .slice A1_0 a1.length n1_0)]) (by kernel_rfl) ?_
  refine gk_seq (by kernel_rfl) ?_
  refine gk_region (by kernel_rfl) ?_
  refine gl_pure 1 [0, 1] (K' := [(0, .slice A0_0 a0.length n0_0), (1, .slice A1_0 a1.length n1_0)]) (by kernel_rfl) ?_
  refine gl_atE (by kernel_rfl) ?_
  refine ge_seq ?_
  refine gk_seq (by kernel_rfl) ?_
  refine gk_seq (by kernel_rfl) ?_
  refine gk_region (by kernel_rfl) ?_
  refine gl_pure 1 [0, 1, 5] (K' := [(0, .slice A0_0 a0.length n0_0), (1, .slice A1_0 a1.length n1_0), (5, .int .i64 0)]) (by kernel_rfl) ?_
  refine gl_atE (by kernel_rfl) ?_
  refine ge_seq ?_
  obtain ⟨r5, hl6, hr⟩ := bind_some hr
  refine gk_join (fun t I' L' => ∃ r13, r5 = Sum.inl r13 ∧ I ≤ I' ∧ L = L' ∧ Knows 58 [(0, .slice A0_0 a0.length n0_0), (1, .slice A1_0 a1.length n1_0)] t) ?_ ?_
  · refine gk_block (by kernel_rfl) ?_
    refine gk_pick [0, 1, 5] (K' := [(0, .slice A0_0 a0.length n0_0), (1, .slice A1_0 a1.length n1_0), (5, .int .i64 0)]) (by kernel_rfl) ?_
    intro t hK
    refine gc_loop (tocsinref04_Compare_l17 a0 a1) (fun s7 t I' L' => I ≤ I' ∧ L = L' ∧ Knows 58 [(0, .slice A0_0 a0.length n0_0), (1, .slice A1_0 a1.length n1_0), (5, .int .i64 s7)] t) (by kernel_rfl) ?_ hl6 ⟨(Imm.refl _), rfl, hK⟩
    rintro s7 o8 t I12 L' hb9 ⟨hI10, rfl, hK11⟩
    unfold tocsinref04_Compare_l17 at hb9
    refine gk_at hK11 ?_
    refine gk_seq (by kernel_rfl) ?_
    refine gk_seq (by kernel_rfl) ?_
    obtain ⟨b21, hb22⟩ : ∃ z, z = ((decide (s7 < (a0.length : Int))) && (decide (s7 < (a1.length : Int)))) := ⟨_, rfl⟩
    refine gk_join (fun t I' L' => I12 ≤ I' ∧ L = L' ∧ Knows 58 [(0, .slice A0_0 a0.length n0_0), (1, .slice A1_0 a1.length n1_0), (5, .int .i64 s7), (17, .bool b21)] t) ?_ ?_
    · refine gk_region (by kernel_rfl) ?_
      refine gl_pure 5 [0, 1, 5, 12] (K' := [(0, .slice A0_0 a0.length n0_0), (1, .slice A1_0 a1.length n1_0), (5, .int .i64 s7), (12, .bool (decide (s7 < (a0.length : Int))))]) (by kernel_rfl) ?_
      refine gl_case 12 (b := (decide (s7 < (a0.length : Int)))) (by kernel_rfl) (fun hc24 => ?_) (fun hc24 => ?_)
      · refine gl_pure 5 [0, 1, 5, 17] (K' := [(0, .slice A0_0 a0.length n0_0), (1, .slice A1_0 a1.length n1_0), (5, .int .i64 s7), (17, .bool (decide (s7 < (a1.length : Int))))]) (by kernel_rfl) ?_
        refine gl_atE (by kernel_rfl) ?_
        exact ge_mid fun t ht => ⟨(Imm.refl _), rfl, by rw [(show b21 = (decide (s7 < (a1.length : Int))) from hb22.trans (by first | (rw [hc24]; done) | (rw [hc24]; rfl) | (simp [hc24]; done) | (simp only [hc24]; rfl) | (simp at *; omega)))]; exact ht.pick (l := [0, 1, 5, 17]) (by kernel_rfl)⟩
      · refine gl_pure 5 [0, 1, 5, 17] (K' := [(0, .slice A0_0 a0.length n0_0), (1, .slice A1_0 a1.length n1_0), (5, .int .i64 s7), (17, .bool false)]) (by kernel_rfl) ?_
        refine gl_atE (by kernel_rfl) ?_
        exact ge_mid fun t ht => ⟨(Imm.refl _), rfl, by rw [(show b21 = false from hb22.trans (by first | (rw [hc24]; done) | (rw [hc24]; rfl) | (simp [hc24]; done) | (simp only [hc24]; rfl) | (simp at *; omega)))]; exact ht.pick (l := [0, 1, 5, 17]) (by kernel_rfl)⟩
    · rintro t I23 L' ⟨hI19, rfl, hK20⟩
      subst hb22
      refine ge_at hK20 ?_
      refine ge_seq ?_
      refine gk_cond (b := ((decide (s7 < (a0.length : Int))) && (decide (s7 < (a1.length : Int))))) (by kernel_rfl) (by kernel_rfl) (fun hc25 => ?_) (fun hc25 => ?_)
      · have hb9 := cond_t hc25 hb9
        refine gk_skip (by kernel_rfl) ?_
        refine ge_seq ?_
        refine gk_seq (by kernel_rfl) ?_
        refine gk_block (by kernel_rfl) ?_
        refine gk_seq (by kernel_rfl) ?_
        refine gk_seq (by kernel_rfl) ?_
        refine gk_draw 10 [(0, true), (1, true), (2, true), (3, true), (4, true), (5, true), (6, true), (7, true), (8, true), (9, true)] [] (fun p hp => by cases hp) (by kernel_rfl) (by kernel_rfl) (by kernel_rfl) ?_ (by kernel_rfl)
        refine gd_pure 2 [0, 1, 5, 20, 21] (K' := [(0, .slice A0_0 a0.length n0_0), (1, .slice A1_0 a1.length n1_0), (5, .int .i64 s7), (20, .slice A0_0 a0.length n0_0), (21, .int .i64 s7)]) (s' := [(2, true), (3, true), (4, true), (5, true), (6, true), (7, true), (8, true), (9, true)]) (CC.refl (fun p hp => by cases hp)) (by kernel_rfl) ?_
        obtain ⟨x26, hx27, hb9⟩ := bind_some hb9
        obtain ⟨p28, cs29, hR30, hA31, ha32⟩ := RepS.ixAt hx27 (hf0_0.mono (Imm.trans hI10 hI19))
        have hi33 := ix_some hx27
        obtain rfl := kS53_open hR30
        refine gd_q (v := .pointer (some p28)) (by kernel_rfl) (by kernel_rfl) (CC.refl (fun p hp => by cases hp)) (fun I' L' T hC kk => gl_indexAddrF (c := n0_0) (T' := 25) (e := 54) (xs := (.tmp 20)) (xi := (.tmp 21)) (kd := .i64) ha32 hi33.1 hi33.2.1 (by kernel_rfl) (by kernel_rfl) (by kernel_rfl) (by kernel_rfl) (by kernel_rfl) kk) ?_
        refine gd_pure 1 [0, 1, 5, 23] (K' := [(0, .slice A0_0 a0.length n0_0), (1, .slice A1_0 a1.length n1_0), (5, .int .i64 s7), (23, .pointer (some (p28.add 0)))]) (s' := [(4, true), (5, true), (6, true), (7, true), (8, true), (9, true)]) (CC.refl (fun p hp => by cases hp)) (by kernel_rfl) ?_
        refine gd_q (v := .string x26.f0) (by kernel_rfl) (by kernel_rfl) (CC.refl (fun p hp => by cases hp)) (fun I' L' T hC kk => gl_load (T' := 9) (xp := (.tmp 23)) (p := (p28.add 0)) (c := .string x26.f0) (n := 1) (by kernel_rfl) (by kernel_rfl) (by kernel_rfl) (by kernel_rfl) ((hA31.drop 0).mono hC.le) kk) ?_
        refine gd_pure 2 [0, 1, 5, 24, 25, 26] (K' := [(0, .slice A0_0 a0.length n0_0), (1, .slice A1_0 a1.length n1_0), (5, .int .i64 s7), (24, .string x26.f0), (25, .slice A1_0 a1.length n1_0), (26, .int .i64 s7)]) (s' := [(7, true), (8, true), (9, true)]) (CC.refl (fun p hp => by cases hp)) (by kernel_rfl) ?_
        obtain ⟨x34, hx35, hb9⟩ := bind_some hb9
        obtain ⟨p36, cs37, hR38, hA39, ha40⟩ := RepS.ixAt hx35 (hf1_0.mono (Imm.trans hI10 hI19))
        have hi41 := ix_some hx35
        obtain rfl := kS53_open hR38
        refine gd_q (v := .pointer (some p36)) (by kernel_rfl) (by kernel_rfl) (CC.refl (fun p hp => by cases hp)) (fun I' L' T hC kk => gl_indexAddrF (c := n1_0) (T' := 25) (e := 54) (xs := (.tmp 25)) (xi := (.tmp 26)) (kd := .i64) ha40 hi41.1 hi41.2.1 (by kernel_rfl) (by kernel_rfl) (by kernel_rfl) (by kernel_rfl) (by kernel_rfl) kk) ?_
        refine gd_pure 1 [0, 1, 5, 24, 28] (K' := [(0, .slice A0_0 a0.length n0_0), (1, .slice A1_0 a1.length n1_0), (5, .int .i64 s7), (24, .string x26.f0), (28, .pointer (some (p36.add 0)))]) (s' := [(9, true)]) (CC.refl (fun p hp => by cases hp)) (by kernel_rfl) ?_
        refine gd_q (v := .string x34.f0) (by kernel_rfl) (by kernel_rfl) (CC.refl (fun p hp => by cases hp)) (fun I' L' T hC kk => gl_load (T' := 9) (xp := (.tmp 28)) (p := (p36.add 0)) (c := .string x34.f0) (n := 1) (by kernel_rfl) (by kernel_rfl) (by kernel_rfl) (by kernel_rfl) ((hA39.drop 0).mono hC.le) kk) ?_
        refine gd_done ?_
        refine gl_callQ (by kernel_rfl) (tocsinref04_side_walk (r := (tocsinref04_side x26.f0 x34.f0))  rfl _) ?_
        refine gl_pure 1 [0, 1, 5, 6] (K' := [(0, .slice A0_0 a0.length n0_0), (1, .slice A1_0 a1.length n1_0), (5, .int .i64 s7), (6, .int .i64 (tocsinref04_side x26.f0 x34.f0))]) (by kernel_rfl) ?_
        refine gl_atE (by kernel_rfl) ?_
        refine ge_seq ?_
        refine gk_seq (by kernel_rfl) ?_
        refine gk_region (by kernel_rfl) ?_
        refine gl_pure 2 [0, 1, 5, 6, 32] (K' := [(0, .slice A0_0 a0.length n0_0), (1, .slice A1_0 a1.length n1_0), (5, .int .i64 s7), (6, .int .i64 (tocsinref04_side x26.f0 x34.f0)), (32, .bool ((tocsinref04_side x26.f0 x34.f0) != 0))]) (by kernel_rfl) ?_
        refine gl_atE (by kernel_rfl) ?_
        refine ge_seq ?_
        refine gk_cond (b := ((tocsinref04_side x26.f0 x34.f0) != 0)) (by kernel_rfl) (by kernel_rfl) (fun hc42 => ?_) (fun hc42 => ?_)
        · have hb9 := cond_t hc42 hb9
          refine gk_seq (by kernel_rfl) ?_
          refine gk_region (by kernel_rfl) ?_
          refine gl_pure 2 [4] (K' := [(4, .int .i64 (tocsinref04_side x26.f0 x34.f0))]) (by kernel_rfl) ?_
          refine gl_atE (by kernel_rfl) ?_
          refine ge_seq ?_
          refine gk_ret (by kernel_rfl) ?_
          refine ge_seq_ret ?_
          refine ge_block_ret ?_
          refine ge_seq_ret ?_
          obtain rfl := some_inj hb9
          refine ge_round_out (fun hrr => ?_) (by intro h; cases h)
          obtain rfl := hrr
          refine ge_block_ret ?_
          refine ge_seq_ret ?_
          refine ge_seq_ret ?_
          obtain rfl := some_inj hr
          exact ge_result trivial (ResOk.tmp (by kernel_rfl) ResOk.nil) (Imm.trans hI10 hI19) ⟨rfl, rfl⟩
        · have hb9 := cond_f hc42 hb9
          refine gk_skip (by kernel_rfl) ?_
          refine ge_seq ?_
          refine gk_seq (by kernel_rfl) ?_
          refine gk_draw 10 [(0, true), (1, true), (2, true), (3, true), (4, true), (5, true), (6, true), (7, true), (8, true), (9, true)] [] (fun p hp => by cases hp) (by kernel_rfl) (by kernel_rfl) (by kernel_rfl) ?_ (by kernel_rfl)
          refine gd_pure 2 [0, 1, 5, 34, 35] (K' := [(0, .slice A0_0 a0.length n0_0), (1, .slice A1_0 a1.length n1_0), (5, .int .i64 s7), (34, .slice A0_0 a0.length n0_0), (35, .int .i64 s7)]) (s' := [(2, true), (3, true), (4, true), (5, true), (6, true), (7, true), (8, true), (9, true)]) (CC.refl (fun p hp => by cases hp)) (by kernel_rfl) ?_
          obtain ⟨x43, hx44, hb9⟩ := bind_some hb9
          obtain ⟨p45, cs46, hR47, hA48, ha49⟩ := RepS.ixAt hx44 (hf0_0.mono (Imm.trans hI10 hI19))
          have hi50 := ix_some hx44
          obtain rfl := kS53_open hR47
          refine gd_q (v := .pointer (some p45)) (by kernel_rfl) (by kernel_rfl) (CC.refl (fun p hp => by cases hp)) (fun I' L' T hC kk => gl_indexAddrF (c := n0_0) (T' := 25) (e := 54) (xs := (.tmp 34)) (xi := (.tmp 35)) (kd := .i64) ha49 hi50.1 hi50.2.1 (by kernel_rfl) (by kernel_rfl) (by kernel_rfl) (by kernel_rfl) (by kernel_rfl) kk) ?_
          refine gd_pure 1 [0, 1, 5, 37] (K' := [(0, .slice A0_0 a0.length n0_0), (1, .slice A1_0 a1.length n1_0), (5, .int .i64 s7), (37, .pointer (some (p45.add 1)))]) (s' := [(4, true), (5, true), (6, true), (7, true), (8, true), (9, true)]) (CC.refl (fun p hp => by cases hp)) (by kernel_rfl) ?_
          refine gd_q (v := .string x43.f1) (by kernel_rfl) (by kernel_rfl) (CC.refl (fun p hp => by cases hp)) (fun I' L' T hC kk => gl_load (T' := 9) (xp := (.tmp 37)) (p := (p45.add 1)) (c := .string x43.f1) (n := 1) (by kernel_rfl) (by kernel_rfl) (by kernel_rfl) (by kernel_rfl) ((hA48.drop 1).mono hC.le) kk) ?_
          refine gd_pure 2 [0, 1, 5, 38, 39, 40] (K' := [(0, .slice A0_0 a0.length n0_0), (1, .slice A1_0 a1.length n1_0), (5, .int .i64 s7), (38, .string x43.f1), (39, .slice A1_0 a1.length n1_0), (40, .int .i64 s7)]) (s' := [(7, true), (8, true), (9, true)]) (CC.refl (fun p hp => by cases hp)) (by kernel_rfl) ?_
          obtain ⟨x51, hx52, hb9⟩ := bind_some hb9
          obtain ⟨p53, cs54, hR55, hA56, ha57⟩ := RepS.ixAt hx52 (hf1_0.mono (Imm.trans hI10 hI19))
          have hi58 := ix_some hx52
          obtain rfl := kS53_open hR55
          refine gd_q (v := .pointer (some p53)) (by kernel_rfl) (by kernel_rfl) (CC.refl (fun p hp => by cases hp)) (fun I' L' T hC kk => gl_indexAddrF (c := n1_0) (T' := 25) (e := 54) (xs := (.tmp 39)) (xi := (.tmp 40)) (kd := .i64) ha57 hi58.1 hi58.2.1 (by kernel_rfl) (by kernel_rfl) (by kernel_rfl) (by kernel_rfl) (by kernel_rfl) kk) ?_
          refine gd_pure 1 [0, 1, 5, 38, 42] (K' := [(0, .slice A0_0 a0.length n0_0), (1, .slice A1_0 a1.length n1_0), (5, .int .i64 s7), (38, .string x43.f1), (42, .pointer (some (p53.add 1)))]) (s' := [(9, true)]) (CC.refl (fun p hp => by cases hp)) (by kernel_rfl) ?_
          refine gd_q (v := .string x51.f1) (by kernel_rfl) (by kernel_rfl) (CC.refl (fun p hp => by cases hp)) (fun I' L' T hC kk => gl_load (T' := 9) (xp := (.tmp 42)) (p := (p53.add 1)) (c := .string x51.f1) (n := 1) (by kernel_rfl) (by kernel_rfl) (by kernel_rfl) (by kernel_rfl) ((hA56.drop 1).mono hC.le) kk) ?_
          refine gd_done ?_
          refine gl_callQ (by kernel_rfl) (tocsinref04_side_walk (r := (tocsinref04_side x43.f1 x51.f1))  rfl _) ?_
          refine gl_pure 1 [0, 1, 5, 7] (K' := [(0, .slice A0_0 a0.length n0_0), (1, .slice A1_0 a1.length n1_0), (5, .int .i64 s7), (7, .int .i64 (tocsinref04_side x43.f1 x51.f1))]) (by kernel_rfl) ?_
          refine gl_atE (by kernel_rfl) ?_
          refine ge_seq ?_
          refine gk_seq (by kernel_rfl) ?_
          refine gk_region (by kernel_rfl) ?_
          refine gl_pure 2 [0, 1, 5, 7, 46] (K' := [(0, .slice A0_0 a0.length n0_0), (1, .slice A1_0 a1.length n1_0), (5, .int .i64 s7), (7, .int .i64 (tocsinref04_side x43.f1 x51.f1)), (46, .bool ((tocsinref04_side x43.f1 x51.f1) != 0))]) (by kernel_rfl) ?_
          refine gl_atE (by kernel_rfl) ?_
          refine ge_seq ?_
          refine gk_cond (b := ((tocsinref04_side x43.f1 x51.f1) != 0)) (by kernel_rfl) (by kernel_rfl) (fun hc59 => ?_) (fun hc59 => ?_)
          · have hb9 := cond_t hc59 hb9
            refine gk_seq (by kernel_rfl) ?_
            refine gk_region (by kernel_rfl) ?_
            refine gl_pure 2 [4] (K' := [(4, .int .i64 (tocsinref04_side x43.f1 x51.f1))]) (by kernel_rfl) ?_
            refine gl_atE (by kernel_rfl) ?_
            refine ge_seq ?_
            refine gk_ret (by kernel_rfl) ?_
            refine ge_block_ret ?_
            refine ge_seq_ret ?_
            obtain rfl := some_inj hb9
            refine ge_round_out (fun hrr => ?_) (by intro h; cases h)
            obtain rfl := hrr
            refine ge_block_ret ?_
            refine ge_seq_ret ?_
            refine ge_seq_ret ?_
            obtain rfl := some_inj hr
            exact ge_result trivial (ResOk.tmp (by kernel_rfl) ResOk.nil) (Imm.trans hI10 hI19) ⟨rfl, rfl⟩
          · have hb9 := cond_f hc59 hb9
            refine gk_skip (by kernel_rfl) ?_
            refine ge_block_normal ?_
            refine ge_seq ?_
            refine gk_region (by kernel_rfl) ?_
            refine gl_pure 3 [0, 1, 5] (K' := [(0, .slice A0_0 a0.length n0_0), (1, .slice A1_0 a1.length n1_0), (5, .int .i64 (IntKind.wrap .i64 (s7 + 1)))]) (by kernel_rfl) ?_
            refine gl_atE (by kernel_rfl) ?_
            obtain rfl := some_inj hb9
            exact ge_round fun t ht => ⟨(Imm.trans hI10 hI19), rfl, ht.pick (l := [0, 1, 5]) (by kernel_rfl)⟩
      · have hb9 := cond_f hc25 hb9
        refine gk_exit (by kernel_rfl) ?_
        refine ge_seq_exit ?_
        obtain rfl := some_inj hb9
        refine ge_round_out (fun hrr => ?_) (by intro h; cases h)
        obtain rfl := hrr
        refine ge_block_hit (by kernel_rfl) ?_
        exact ge_mid fun t ht => ⟨_, rfl, (Imm.trans hI10 hI19), rfl, ht.pick (l := [0, 1]) (by kernel_rfl)⟩
  · rintro t I16 L' ⟨r13, rfl, hI14, rfl, hK15⟩
    refine ge_at hK15 ?_
    refine ge_seq ?_
    refine gk_seq (by kernel_rfl) ?_
    refine gk_seq (by kernel_rfl) ?_
    refine gk_region (by kernel_rfl) ?_
    refine gl_pure 5 [0, 1, 52] (K' := [(0, .slice A0_0 a0.length n0_0), (1, .slice A1_0 a1.length n1_0), (52, .bool (decide ((a0.length : Int) < (a1.length : Int))))]) (by kernel_rfl) ?_
    refine gl_atE (by kernel_rfl) ?_
    refine ge_seq ?_
    refine gk_cond (b := (decide ((a0.length : Int) < (a1.length : Int)))) (by kernel_rfl) (by kernel_rfl) (fun hc60 => ?_) (fun hc60 => ?_)
    · have hr := cond_t hc60 hr
      refine gk_seq (by kernel_rfl) ?_
      refine gk_region (by kernel_rfl) ?_
      refine gl_pure 1 [4] (K' := [(4, .int .i64 (-1))]) (by kernel_rfl) ?_
      refine gl_atE (by kernel_rfl) ?_
      refine ge_seq ?_
      refine gk_ret (by kernel_rfl) ?_
      refine ge_seq_ret ?_
      obtain rfl := some_inj hr
      exact ge_result trivial (ResOk.tmp (by kernel_rfl) ResOk.nil) hI14 ⟨rfl, rfl⟩
    · have hr := cond_f hc60 hr
      refine gk_skip (by kernel_rfl) ?_
      refine ge_seq ?_
      refine gk_seq (by kernel_rfl) ?_
      refine gk_seq (by kernel_rfl) ?_
      refine gk_region (by kernel_rfl) ?_
      refine gl_pure 5 [57] (K' := [(57, .bool (decide ((a0.length : Int) > (a1.length : Int))))]) (by kernel_rfl) ?_
      refine gl_atE (by kernel_rfl) ?_
      refine ge_seq ?_
      refine gk_cond (b := (decide ((a0.length : Int) > (a1.length : Int)))) (by kernel_rfl) (by kernel_rfl) (fun hc61 => ?_) (fun hc61 => ?_)
      · have hr := cond_t hc61 hr
        refine gk_seq (by kernel_rfl) ?_
        refine gk_region (by kernel_rfl) ?_
        refine gl_pure 1 [4] (K' := [(4, .int .i64 1)]) (by kernel_rfl) ?_
        refine gl_atE (by kernel_rfl) ?_
        refine ge_seq ?_
        refine gk_ret (by kernel_rfl) ?_
        refine ge_seq_ret ?_
        obtain rfl := some_inj hr
        exact ge_result trivial (ResOk.tmp (by kernel_rfl) ResOk.nil) hI14 ⟨rfl, rfl⟩
      · have hr := cond_f hc61 hr
        refine gk_skip (by kernel_rfl) ?_
        refine ge_seq ?_
        refine gk_seq (by kernel_rfl) ?_
        refine gk_region (by kernel_rfl) ?_
        refine gl_pure 1 [4] (K' := [(4, .int .i64 0)]) (by kernel_rfl) ?_
        refine gl_atE (by kernel_rfl) ?_
        refine ge_seq ?_
        refine gk_ret (by kernel_rfl) ?_
        obtain rfl := some_inj hr
        exact ge_result trivial (ResOk.tmp (by kernel_rfl) ResOk.nil) hI14 ⟨rfl, rfl⟩
/-! 58 tocsinref26_rising  -/
noncomputable def tocsinref26_rising_l17 (a0 : List (List S53)) : Int → Option ((Int) ⊕ ((Unit) ⊕ (Bool))) := fun s7 =>
  bif (decide (s7 < (a0.length : Int))) then
  (Option.bind (ix a0 s7) fun (x20 : List S53) =>
    Option.bind (tocsinref04_Right x20) fun (y31 : Int × Int) =>
    Option.bind (bif (y31.1 != 0) then
      (some true)
      else
      (bif (decide (s7 > 0)) then
        (Option.bind (ix a0 (IntKind.wrap .i64 (s7 - 1))) fun (x40 : List S53) =>
          Option.bind (tocsinref04_Compare x40 x20) fun (y51 : Int) =>
          some (decide (y51 ≥ 0)))
        else
        (some false))) fun (j33 : Bool) =>
    bif j33 then
    (some (Sum.inr (Sum.inr false)))
    else
    (some (Sum.inl (IntKind.wrap .i64 (s7 + 1)))))
  else
  (some (Sum.inr (Sum.inl ())))
noncomputable def tocsinref26_rising (a0 : List (List S53)) : Option Bool :=
  Option.bind (loopO (tocsinref26_rising_l17 a0) 0) fun (r5 : (Unit) ⊕ (Bool)) =>
  match r5 with
  | Sum.inl r13 => some true
  | Sum.inr v54 => some v54
theorem tocsinref26_rising_walk {a0 : List (List S53)} {A0_0 : Option Addr} {n0_0 : Nat} {I : Imm} {r : Bool}  (hf0_0 : RepS (Kd.sl kS53) I A0_0 n0_0 a0) (hr : tocsinref26_rising a0 = some r) (L : Own) :
    CallsTo Tryd.prog 58 #[.slice A0_0 a0.length n0_0] I L (fun v I' L' => v = .bool r ∧ L = L') := by
  unfold tocsinref26_rising at hr
  refine callsTo_body (N := 36) Tryd.func58 (by kernel_rfl) (by kernel_rfl) (by kernel_rfl) ?_
  refine gk_pick [0] (K' := [(0, .slice A0_0 a0.length n0_0)]) (by kernel_rfl) ?_
  refine gk_seq (by kernel_rfl) ?_
  refine gk_region (by kernel_rfl) ?_
  refine gl_pure 1 [0] (K' := [(0, .slice A0_0 a0.length n0_0)]) (by kernel_rfl) ?_
  refine gl_atE (by kernel_rfl) ?_
  refine ge_seq ?_
  refine gk_seq (by kernel_rfl) ?_
  refine gk_seq (by kernel_rfl) ?_
  refine gk_region (by kernel_rfl) ?_
  refine gl_pure 3 [0, 7, 8, 9] (K' := [(0, .slice A0_0 a0.length n0_0), (7, .slice A0_0 a0.length n0_0), (8, .int .i64 (a0.length : Int)), (9, .int .i64 0)]) (by kernel_rfl) ?_
  refine gl_atE (by kernel_rfl) ?_
  refine ge_seq ?_
  obtain ⟨r5, hl6, hr⟩ := bind_some hr
  refine gk_join (fun t I' L' => ∃ r13, r5 = Sum.inl r13 ∧ I ≤ I' ∧ L = L' ∧ Knows 36 [] t) ?_ ?_
  · refine gk_block (by kernel_rfl) ?_
    refine gk_pick [0, 7, 8, 9] (K' := [(0, .slice A0_0 a0.length n0_0), (7, .slice A0_0 a0.length n0_0), (8, .int .i64 (a0.length : Int)), (9, .int .i64 0)]) (by kernel_rfl) ?_
    intro t hK
    refine gc_loop (tocsinref26_rising_l17 a0) (fun s7 t I' L' => I ≤ I' ∧ L = L' ∧ Knows 36 [(0, .slice A0_0 a0.length n0_0), (7, .slice A0_0 a0.length n0_0), (8, .int .i64 (a0.length : Int)), (9, .int .i64 s7)] t) (by kernel_rfl) ?_ hl6 ⟨(Imm.refl _), rfl, hK⟩
    rintro s7 o8 t I12 L' hb9 ⟨hI10, rfl, hK11⟩
    unfold tocsinref26_rising_l17 at hb9
    refine gk_at hK11 ?_
    refine gk_seq (by kernel_rfl) ?_
    refine gk_region (by kernel_rfl) ?_
    refine gl_pure 1 [0, 7, 8, 9, 10] (K' := [(0, .slice A0_0 a0.length n0_0), (7, .slice A0_0 a0.length n0_0), (8, .int .i64 (a0.length : Int)), (9, .int .i64 s7), (10, .bool (decide (s7 < (a0.length : Int))))]) (by kernel_rfl) ?_
    refine gl_atE (by kernel_rfl) ?_
    refine ge_seq ?_
    refine gk_seq (by kernel_rfl) ?_
    refine gk_cond (b := (decide (s7 < (a0.length : Int)))) (by kernel_rfl) (by kernel_rfl) (fun hc19 => ?_) (fun hc19 => ?_)
    · have hb9 := cond_t hc19 hb9
      refine gk_skip (by kernel_rfl) ?_
      refine ge_seq ?_
      refine gk_seq (by kernel_rfl) ?_
      refine gk_block (by kernel_rfl) ?_
      refine gk_seq (by kernel_rfl) ?_
      refine gk_region (by kernel_rfl) ?_
      refine gl_pure 1 [0, 7, 8, 9, 11] (K' := [(0, .slice A0_0 a0.length n0_0), (7, .slice A0_0 a0.length n0_0), (8, .int .i64 (a0.length : Int)), (9, .int .i64 s7), (11, .int .i64 s7)]) (by kernel_rfl) ?_
      obtain ⟨x20, hx21, hb9⟩ := bind_some hb9
      obtain ⟨p22, cs23, hR24, hA25, ha26⟩ := RepS.ixAt hx21 (hf0_0.mono hI10)
      have hi27 := ix_some hx21
      obtain ⟨A28, n29, rfl, hf30⟩ := sl_open hR24
      refine gl_indexAddrF (c := n0_0) (T' := 22) (e := 25) (xs := (.tmp 7)) (xi := (.tmp 9)) (kd := .i64) ha26 hi27.1 hi27.2.1 (by kernel_rfl) (by kernel_rfl) (by kernel_rfl) (by kernel_rfl) (by kernel_rfl) ?_
      refine gl_load (T' := 25) (xp := (.tmp 12)) (p := p22) (c := .slice A28 x20.length n29) (n := 1) (by kernel_rfl) (by kernel_rfl) (by kernel_rfl) (by kernel_rfl) hA25 ?_
      refine gl_pure 2 [0, 3, 4, 7, 8, 9] (K' := [(0, .slice A0_0 a0.length n0_0), (3, .int .i64 s7), (4, .slice A28 x20.length n29), (7, .slice A0_0 a0.length n0_0), (8, .int .i64 (a0.length : Int)), (9, .int .i64 s7)]) (by kernel_rfl) ?_
      refine gl_atE (by kernel_rfl) ?_
      refine ge_seq ?_
      refine gk_seq (by kernel_rfl) ?_
      refine gk_region (by kernel_rfl) ?_
      refine gl_pure 1 [0, 3, 4, 7, 8, 9, 15] (K' := [(0, .slice A0_0 a0.length n0_0), (3, .int .i64 s7), (4, .slice A28 x20.length n29), (7, .slice A0_0 a0.length n0_0), (8, .int .i64 (a0.length : Int)), (9, .int .i64 s7), (15, .slice A28 x20.length n29)]) (by kernel_rfl) ?_
      obtain ⟨y31, hx32, hb9⟩ := bind_some hb9
      refine gl_callQ (by kernel_rfl) (tocsinref04_Right_walk (r := y31) hf30 hx32 _) ?_
      refine gl_pure 5 [0, 3, 4, 5, 7, 8, 9] (K' := [(0, .slice A0_0 a0.length n0_0), (3, .int .i64 s7), (4, .slice A28 x20.length n29), (5, .int .i64 y31.1), (7, .slice A0_0 a0.length n0_0), (8, .int .i64 (a0.length : Int)), (9, .int .i64 s7)]) (by kernel_rfl) ?_
      refine gl_atE (by kernel_rfl) ?_
      refine ge_seq ?_
      refine gk_seq (by kernel_rfl) ?_
      obtain ⟨j33, hj34, hb9⟩ := bind_some hb9
      refine gk_join (fun t I' L' => I12 ≤ I' ∧ L = L' ∧ Knows 36 [(0, .slice A0_0 a0.length n0_0), (7, .slice A0_0 a0.length n0_0), (8, .int .i64 (a0.length : Int)), (9, .int .i64 s7), (34, .bool j33)] t) ?_ ?_
      · refine gk_region (by kernel_rfl) ?_
        refine gl_pure 3 [0, 3, 4, 7, 8, 9, 21] (K' := [(0, .slice A0_0 a0.length n0_0), (3, .int .i64 s7), (4, .slice A28 x20.length n29), (7, .slice A0_0 a0.length n0_0), (8, .int .i64 (a0.length : Int)), (9, .int .i64 s7), (21, .bool (y31.1 != 0))]) (by kernel_rfl) ?_
        refine gl_case 21 (b := (y31.1 != 0)) (by kernel_rfl) (fun hc38 => ?_) (fun hc38 => ?_)
        · have hj34 := cond_t hc38 hj34
          refine gl_pure 13 [0, 7, 8, 9, 34] (K' := [(0, .slice A0_0 a0.length n0_0), (7, .slice A0_0 a0.length n0_0), (8, .int .i64 (a0.length : Int)), (9, .int .i64 s7), (34, .bool true)]) (by kernel_rfl) ?_
          refine gl_atE (by kernel_rfl) ?_
          obtain rfl := some_inj hj34
          exact ge_mid fun t ht => ⟨(Imm.refl _), rfl, ht.pick (l := [0, 7, 8, 9, 34]) (by kernel_rfl)⟩
        · have hj34 := cond_f hc38 hj34
          refine gl_pure 3 [0, 3, 4, 7, 8, 9, 21, 24] (K' := [(0, .slice A0_0 a0.length n0_0), (3, .int .i64 s7), (4, .slice A28 x20.length n29), (7, .slice A0_0 a0.length n0_0), (8, .int .i64 (a0.length : Int)), (9, .int .i64 s7), (21, .bool false), (24, .bool (decide (s7 > 0)))]) (by kernel_rfl) ?_
          refine gl_case 24 (b := (decide (s7 > 0))) (by kernel_rfl) (fun hc39 => ?_) (fun hc39 => ?_)
          · have hj34 := cond_t hc39 hj34
            refine gl_pure 3 [0, 4, 7, 8, 9, 21, 24, 25, 27] (K' := [(0, .slice A0_0 a0.length n0_0), (4, .slice A28 x20.length n29), (7, .slice A0_0 a0.length n0_0), (8, .int .i64 (a0.length : Int)), (9, .int .i64 s7), (21, .bool false), (24, .bool true), (25, .slice A0_0 a0.length n0_0), (27, .int .i64 (IntKind.wrap .i64 (s7 - 1)))]) (by kernel_rfl) ?_
            obtain ⟨x40, hx41, hj34⟩ := bind_some hj34
            obtain ⟨p42, cs43, hR44, hA45, ha46⟩ := RepS.ixAt hx41 (hf0_0.mono hI10)
            have hi47 := ix_some hx41
            obtain ⟨A48, n49, rfl, hf50⟩ := sl_open hR44
            refine gl_indexAddrF (c := n0_0) (T' := 22) (e := 25) (xs := (.tmp 25)) (xi := (.tmp 27)) (kd := .i64) ha46 hi47.1 hi47.2.1 (by kernel_rfl) (by kernel_rfl) (by kernel_rfl) (by kernel_rfl) (by kernel_rfl) ?_
            refine gl_load (T' := 25) (xp := (.tmp 28)) (p := p42) (c := .slice A48 x40.length n49) (n := 1) (by kernel_rfl) (by kernel_rfl) (by kernel_rfl) (by kernel_rfl) hA45 ?_
            refine gl_pure 1 [0, 7, 8, 9, 21, 24, 29, 30] (K' := [(0, .slice A0_0 a0.length n0_0), (7, .slice A0_0 a0.length n0_0), (8, .int .i64 (a0.length : Int)), (9, .int .i64 s7), (21, .bool false), (24, .bool true), (29, .slice A48 x40.length n49), (30, .slice A28 x20.length n29)]) (by kernel_rfl) ?_
            obtain ⟨y51, hx52, hj34⟩ := bind_some hj34
            refine gl_callQ (by kernel_rfl) (tocsinref04_Compare_walk (r := y51) hf50 hf30 hx52 _) ?_
            refine gl_pure 3 [0, 7, 8, 9, 34] (K' := [(0, .slice A0_0 a0.length n0_0), (7, .slice A0_0 a0.length n0_0), (8, .int .i64 (a0.length : Int)), (9, .int .i64 s7), (34, .bool (decide (y51 ≥ 0)))]) (by kernel_rfl) ?_
            refine gl_atE (by kernel_rfl) ?_
            obtain rfl := some_inj hj34
            exact ge_mid fun t ht => ⟨(Imm.refl _), rfl, ht.pick (l := [0, 7, 8, 9, 34]) (by kernel_rfl)⟩
          · have hj34 := cond_f hc39 hj34
            refine gl_pure 10 [0, 7, 8, 9, 34] (K' := [(0, .slice A0_0 a0.length n0_0), (7, .slice A0_0 a0.length n0_0), (8, .int .i64 (a0.length : Int)), (9, .int .i64 s7), (34, .bool false)]) (by kernel_rfl) ?_
            refine gl_atE (by kernel_rfl) ?_
            obtain rfl := some_inj hj34
            exact ge_mid fun t ht => ⟨(Imm.refl _), rfl, ht.pick (l := [0, 7, 8, 9, 34]) (by kernel_rfl)⟩
      · rintro t I37 L' ⟨hI35, rfl, hK36⟩
        refine ge_at hK36 ?_
        refine ge_seq ?_
        refine gk_cond (b := j33) (by kernel_rfl) (by kernel_rfl) (fun hc53 => ?_) (fun hc53 => ?_)
        · have hb9 := cond_t hc53 hb9
          refine gk_seq (by kernel_rfl) ?_
          refine gk_region (by kernel_rfl) ?_
          refine gl_pure 1 [2] (K' := [(2, .bool false)]) (by kernel_rfl) ?_
          refine gl_atE (by kernel_rfl) ?_
          refine ge_seq ?_
          refine gk_ret (by kernel_rfl) ?_
          refine ge_block_ret ?_
          refine ge_seq_ret ?_
          obtain rfl := some_inj hb9
          refine ge_round_out (fun hrr => ?_) (by intro h; cases h)
          obtain rfl := hrr
          refine ge_block_ret ?_
          refine ge_seq_ret ?_
          refine ge_seq_ret ?_
          obtain rfl := some_inj hr
          exact ge_result trivial (ResOk.tmp (by kernel_rfl) ResOk.nil) (Imm.trans hI10 hI35) ⟨rfl, rfl⟩
        · have hb9 := cond_f hc53 hb9
          refine gk_skip (by kernel_rfl) ?_
          refine ge_block_normal ?_
          refine ge_seq ?_
          refine gk_region (by kernel_rfl) ?_
          refine gl_pure 2 [0, 7, 8, 9] (K' := [(0, .slice A0_0 a0.length n0_0), (7, .slice A0_0 a0.length n0_0), (8, .int .i64 (a0.length : Int)), (9, .int .i64 (IntKind.wrap .i64 (s7 + 1)))]) (by kernel_rfl) ?_
          refine gl_atE (by kernel_rfl) ?_
          obtain rfl := some_inj hb9
          exact ge_round fun t ht => ⟨(Imm.trans hI10 hI35), rfl, ht.pick (l := [0, 7, 8, 9]) (by kernel_rfl)⟩
    · have hb9 := cond_f hc19 hb9
      refine gk_exit (by kernel_rfl) ?_
      refine ge_seq_exit ?_
      obtain rfl := some_inj hb9
      refine ge_round_out (fun hrr => ?_) (by intro h; cases h)
      obtain rfl := hrr
      refine ge_block_hit (by kernel_rfl) ?_
      exact ge_mid fun t ht => ⟨_, rfl, hI10, rfl, ht.pick (l := []) (by kernel_rfl)⟩
  · rintro t I16 L' ⟨r13, rfl, hI14, rfl, hK15⟩
    refine ge_at hK15 ?_
    refine ge_seq ?_
    refine gk_seq (by kernel_rfl) ?_
    refine gk_region (by kernel_rfl) ?_
    refine gl_pure 1 [2] (K' := [(2, .bool true)]) (by kernel_rfl) ?_
    refine gl_atE (by kernel_rfl) ?_
    refine ge_seq ?_
    refine gk_ret (by kernel_rfl) ?_
    obtain rfl := some_inj hr
    exact ge_result trivial (ResOk.tmp (by kernel_rfl) ResOk.nil) hI14 ⟨rfl, rfl⟩
/-! 38 tocsinref26_Right  -/
noncomputable def tocsinref26_Right (a0 : S23) : Option Int :=
  Option.bind (bif (a0.f0.toList == (⟨#[]⟩ : ByteArray).toList) then
    (some true)
    else
    (bif (decide ((a0.f0.size : Int) > 64)) then
      (some true)
      else
      (Option.bind (tocsinref01_Utf8 a0.f0) fun (y9 : Bool) =>
        some (!y9)))) fun (j2 : Bool) =>
  bif j2 then
  (some 204)
  else
  (Option.bind (bif (a0.f1.toList == (⟨#[]⟩ : ByteArray).toList) then
      (some true)
      else
      (bif (decide ((a0.f1.size : Int) > 65536)) then
        (some true)
        else
        (Option.bind (tocsinref01_Utf8 a0.f1) fun (y19 : Bool) =>
          some (!y19)))) fun (j12 : Bool) =>
    bif j12 then
    (some 40)
    else
    (bif (!(tocsinref26_time a0.f2)) then
      (some 1)
      else
      (bif ((decide ((a0.f3.length : Int) > 500)) || (decide ((a0.f4.length : Int) > 500))) then
        (some 8)
        else
        (Option.bind (Option.bind (tocsinref26_rising a0.f3) fun (y35 : Bool) =>
            bif (!y35) then
            (some true)
            else
            (Option.bind (tocsinref26_rising a0.f4) fun (y38 : Bool) =>
              some (!y38))) fun (j30 : Bool) =>
          bif j30 then
          (some 41)
          else
          (some 0)))))
theorem tocsinref26_Right_walk {a0 : S23} {A0_3 : Option Addr} {n0_3 : Nat} {A0_4 : Option Addr} {n0_4 : Nat} {I : Imm} {r : Int}  (hf0_3 : RepS (Kd.sl kS53) I A0_3 n0_3 a0.f3) (hf0_4 : RepS (Kd.sl kS53) I A0_4 n0_4 a0.f4) (hr : tocsinref26_Right a0 = some r) (L : Own) :
    CallsTo Tryd.prog 38 #[.agg #[.string a0.f0, .string a0.f1, .int .i64 a0.f2, .slice A0_3 a0.f3.length n0_3, .slice A0_4 a0.f4.length n0_4]] I L (fun v I' L' => v = .int .i64 r ∧ L = L') := by
  unfold tocsinref26_Right at hr
  refine callsTo_body (N := 62) Tryd.func38 (by kernel_rfl) (by kernel_rfl) (by kernel_rfl) ?_
  refine gk_pick [0] (K' := [(0, .agg #[.string a0.f0, .string a0.f1, .int .i64 a0.f2, .slice A0_3 a0.f3.length n0_3, .slice A0_4 a0.f4.length n0_4])]) (by kernel_rfl) ?_
  refine gk_seq (by kernel_rfl) ?_
  refine gk_region (by kernel_rfl) ?_
  refine gl_box (T' := 24) (x := (.tmp 0)) (v := .agg #[.string a0.f0, .string a0.f1, .int .i64 a0.f2, .slice A0_3 a0.f3.length n0_3, .slice A0_4 a0.f4.length n0_4]) (cs := #[.string a0.f0, .string a0.f1, .int .i64 a0.f2, .slice A0_3 a0.f3.length n0_3, .slice A0_4 a0.f4.length n0_4]) (by kernel_rfl) (by kernel_rfl) (by kernel_rfl) (by kernel_rfl) (fun g1 => ?_)
  refine gl_pure 1 [1] (K' := [(1, .pointer (some ⟨g1, 0, none⟩))]) (by kernel_rfl) ?_
  refine gl_atE (by kernel_rfl) ?_
  refine ge_seq ?_
  refine gk_seq (by kernel_rfl) ?_
  refine gk_block (by kernel_rfl) ?_
  refine gk_seq (by kernel_rfl) ?_
  obtain ⟨j2, hj3, hr⟩ := bind_some hr
  refine gk_join (fun t I' L' => I ≤ I' ∧ (g1, .cells #[.string a0.f0, .string a0.f1, .int .i64 a0.f2, .slice A0_3 a0.f3.length n0_3, .slice A0_4 a0.f4.length n0_4] 24) :: L = L' ∧ Knows 62 [(1, .pointer (some ⟨g1, 0, none⟩)), (3, .bool j2)] t) ?_ ?_
  · refine gk_region (by kernel_rfl) ?_
    refine gl_pure 1 [1, 4] (K' := [(1, .pointer (some ⟨g1, 0, none⟩)), (4, .pointer (some ⟨g1, 0, none⟩))]) (by kernel_rfl) ?_
    refine gl_loadB (T' := 9) (xp := (.tmp 4)) (v := .string a0.f0) (g := g1) (off := 0) (cs := #[.string a0.f0, .string a0.f1, .int .i64 a0.f2, .slice A0_3 a0.f3.length n0_3, .slice A0_4 a0.f4.length n0_4]) (e := 24) (fz := (0, 0)) (by kernel_rfl) (by kernel_rfl) (by kernel_rfl) List.mem_cons_self (by kernel_rfl) ?_
    refine gl_pure 2 [1, 7] (K' := [(1, .pointer (some ⟨g1, 0, none⟩)), (7, .bool (a0.f0.toList == (⟨#[]⟩ : ByteArray).toList))]) (by kernel_rfl) ?_
    refine gl_case 7 (b := (a0.f0.toList == (⟨#[]⟩ : ByteArray).toList)) (by kernel_rfl) (fun hc7 => ?_) (fun hc7 => ?_)
    · have hj3 := cond_t hc7 hj3
      refine gl_pure 12 [1, 3] (K' := [(1, .pointer (some ⟨g1, 0, none⟩)), (3, .bool true)]) (by kernel_rfl) ?_
      refine gl_atE (by kernel_rfl) ?_
      obtain rfl := some_inj hj3
      exact ge_mid fun t ht => ⟨(Imm.refl _), rfl, ht.pick (l := [1, 3]) (by kernel_rfl)⟩
    · have hj3 := cond_f hc7 hj3
      refine gl_pure 1 [1, 7, 8] (K' := [(1, .pointer (some ⟨g1, 0, none⟩)), (7, .bool false), (8, .pointer (some ⟨g1, 0, none⟩))]) (by kernel_rfl) ?_
      refine gl_loadB (T' := 9) (xp := (.tmp 8)) (v := .string a0.f0) (g := g1) (off := 0) (cs := #[.string a0.f0, .string a0.f1, .int .i64 a0.f2, .slice A0_3 a0.f3.length n0_3, .slice A0_4 a0.f4.length n0_4]) (e := 24) (fz := (0, 0)) (by kernel_rfl) (by kernel_rfl) (by kernel_rfl) List.mem_cons_self (by kernel_rfl) ?_
      refine gl_pure 4 [1, 13] (K' := [(1, .pointer (some ⟨g1, 0, none⟩)), (13, .bool (decide ((a0.f0.size : Int) > 64)))]) (by kernel_rfl) ?_
      refine gl_case 13 (b := (decide ((a0.f0.size : Int) > 64))) (by kernel_rfl) (fun hc8 => ?_) (fun hc8 => ?_)
      · have hj3 := cond_t hc8 hj3
        refine gl_pure 6 [1, 3] (K' := [(1, .pointer (some ⟨g1, 0, none⟩)), (3, .bool true)]) (by kernel_rfl) ?_
        refine gl_atE (by kernel_rfl) ?_
        obtain rfl := some_inj hj3
        exact ge_mid fun t ht => ⟨(Imm.refl _), rfl, ht.pick (l := [1, 3]) (by kernel_rfl)⟩
      · have hj3 := cond_f hc8 hj3
        refine gl_pure 1 [1, 13, 14] (K' := [(1, .pointer (some ⟨g1, 0, none⟩)), (13, .bool false), (14, .pointer (some ⟨g1, 0, none⟩))]) (by kernel_rfl) ?_
        refine gl_loadB (T' := 9) (xp := (.tmp 14)) (v := .string a0.f0) (g := g1) (off := 0) (cs := #[.string a0.f0, .string a0.f1, .int .i64 a0.f2, .slice A0_3 a0.f3.length n0_3, .slice A0_4 a0.f4.length n0_4]) (e := 24) (fz := (0, 0)) (by kernel_rfl) (by kernel_rfl) (by kernel_rfl) List.mem_cons_self (by kernel_rfl) ?_
        obtain ⟨y9, hx10, hj3⟩ := bind_some hj3
        refine gl_callQ (by kernel_rfl) (tocsinref01_Utf8_walk (r := y9)  hx10 _) ?_
        refine gl_pure 3 [1, 3] (K' := [(1, .pointer (some ⟨g1, 0, none⟩)), (3, .bool (!y9))]) (by kernel_rfl) ?_
        refine gl_atE (by kernel_rfl) ?_
        obtain rfl := some_inj hj3
        exact ge_mid fun t ht => ⟨(Imm.refl _), rfl, ht.pick (l := [1, 3]) (by kernel_rfl)⟩
  · rintro t I6 L' ⟨hI4, rfl, hK5⟩
    refine ge_at hK5 ?_
    refine ge_seq ?_
    refine gk_cond (b := j2) (by kernel_rfl) (by kernel_rfl) (fun hc11 => ?_) (fun hc11 => ?_)
    · have hr := cond_t hc11 hr
      refine gk_seq (by kernel_rfl) ?_
      refine gk_region (by kernel_rfl) ?_
      refine gl_pure 1 [2] (K' := [(2, .int .i64 204)]) (by kernel_rfl) ?_
      refine gl_atE (by kernel_rfl) ?_
      refine ge_seq ?_
      refine gk_reord (D := L) (Reord.skip (Reord.refl _)) ?_
      refine gk_ret (by kernel_rfl) ?_
      refine ge_block_ret ?_
      refine ge_seq_ret ?_
      obtain rfl := some_inj hr
      exact ge_result trivial (ResOk.tmp (by kernel_rfl) ResOk.nil) hI4 ⟨rfl, rfl⟩
    · have hr := cond_f hc11 hr
      refine gk_seq (by kernel_rfl) ?_
      obtain ⟨j12, hj13, hr⟩ := bind_some hr
      refine gk_join (fun t I' L' => I6 ≤ I' ∧ (g1, .cells #[.string a0.f0, .string a0.f1, .int .i64 a0.f2, .slice A0_3 a0.f3.length n0_3, .slice A0_4 a0.f4.length n0_4] 24) :: L = L' ∧ Knows 62 [(1, .pointer (some ⟨g1, 0, none⟩)), (19, .bool j12)] t) ?_ ?_
      · refine gk_region (by kernel_rfl) ?_
        refine gl_pure 1 [1, 20] (K' := [(1, .pointer (some ⟨g1, 0, none⟩)), (20, .pointer (some ⟨g1, 1, none⟩))]) (by kernel_rfl) ?_
        refine gl_loadB (T' := 9) (xp := (.tmp 20)) (v := .string a0.f1) (g := g1) (off := 1) (cs := #[.string a0.f0, .string a0.f1, .int .i64 a0.f2, .slice A0_3 a0.f3.length n0_3, .slice A0_4 a0.f4.length n0_4]) (e := 24) (fz := (0, 0)) (by kernel_rfl) (by kernel_rfl) (by kernel_rfl) List.mem_cons_self (by kernel_rfl) ?_
        refine gl_pure 2 [1, 23] (K' := [(1, .pointer (some ⟨g1, 0, none⟩)), (23, .bool (a0.f1.toList == (⟨#[]⟩ : ByteArray).toList))]) (by kernel_rfl) ?_
        refine gl_case 23 (b := (a0.f1.toList == (⟨#[]⟩ : ByteArray).toList)) (by kernel_rfl) (fun hc17 => ?_) (fun hc17 => ?_)
        · have hj13 := cond_t hc17 hj13
          refine gl_pure 12 [1, 19] (K' := [(1, .pointer (some ⟨g1, 0, none⟩)), (19, .bool true)]) (by kernel_rfl) ?_
          refine gl_atE (by kernel_rfl) ?_
          obtain rfl := some_inj hj13
          exact ge_mid fun t ht => ⟨(Imm.refl _), rfl, ht.pick (l := [1, 19]) (by kernel_rfl)⟩
        · have hj13 := cond_f hc17 hj13
          refine gl_pure 1 [1, 23, 24] (K' := [(1, .pointer (some ⟨g1, 0, none⟩)), (23, .bool false), (24, .pointer (some ⟨g1, 1, none⟩))]) (by kernel_rfl) ?_
          refine gl_loadB (T' := 9) (xp := (.tmp 24)) (v := .string a0.f1) (g := g1) (off := 1) (cs := #[.string a0.f0, .string a0.f1, .int .i64 a0.f2, .slice A0_3 a0.f3.length n0_3, .slice A0_4 a0.f4.length n0_4]) (e := 24) (fz := (0, 0)) (by kernel_rfl) (by kernel_rfl) (by kernel_rfl) List.mem_cons_self (by kernel_rfl) ?_
          refine gl_pure 4 [1, 29] (K' := [(1, .pointer (some ⟨g1, 0, none⟩)), (29, .bool (decide ((a0.f1.size : Int) > 65536)))]) (by kernel_rfl) ?_
          refine gl_case 29 (b := (decide ((a0.f1.size : Int) > 65536))) (by kernel_rfl) (fun hc18 => ?_) (fun hc18 => ?_)
          · have hj13 := cond_t hc18 hj13
            refine gl_pure 6 [1, 19] (K' := [(1, .pointer (some ⟨g1, 0, none⟩)), (19, .bool true)]) (by kernel_rfl) ?_
            refine gl_atE (by kernel_rfl) ?_
            obtain rfl := some_inj hj13
            exact ge_mid fun t ht => ⟨(Imm.refl _), rfl, ht.pick (l := [1, 19]) (by kernel_rfl)⟩
          · have hj13 := cond_f hc18 hj13
            refine gl_pure 1 [1, 29, 30] (K' := [(1, .pointer (some ⟨g1, 0, none⟩)), (29, .bool false), (30, .pointer (some ⟨g1, 1, none⟩))]) (by kernel_rfl) ?_
            refine gl_loadB (T' := 9) (xp := (.tmp 30)) (v := .string a0.f1) (g := g1) (off := 1) (cs := #[.string a0.f0, .string a0.f1, .int .i64 a0.f2, .slice A0_3 a0.f3.length n0_3, .slice A0_4 a0.f4.length n0_4]) (e := 24) (fz := (0, 0)) (by kernel_rfl) (by kernel_rfl) (by kernel_rfl) List.mem_cons_self (by kernel_rfl) ?_
            obtain ⟨y19, hx20, hj13⟩ := bind_some hj13
            refine gl_callQ (by kernel_rfl) (tocsinref01_Utf8_walk (r := y19)  hx20 _) ?_
            refine gl_pure 3 [1, 19] (K' := [(1, .pointer (some ⟨g1, 0, none⟩)), (19, .bool (!y19))]) (by kernel_rfl) ?_
            refine gl_atE (by kernel_rfl) ?_
            obtain rfl := some_inj hj13
            exact ge_mid fun t ht => ⟨(Imm.refl _), rfl, ht.pick (l := [1, 19]) (by kernel_rfl)⟩
      · rintro t I16 L' ⟨hI14, rfl, hK15⟩
        refine ge_at hK15 ?_
        refine ge_seq ?_
        refine gk_cond (b := j12) (by kernel_rfl) (by kernel_rfl) (fun hc21 => ?_) (fun hc21 => ?_)
        · have hr := cond_t hc21 hr
          refine gk_seq (by kernel_rfl) ?_
          refine gk_region (by kernel_rfl) ?_
          refine gl_pure 1 [2] (K' := [(2, .int .i64 40)]) (by kernel_rfl) ?_
          refine gl_atE (by kernel_rfl) ?_
          refine ge_seq ?_
          refine gk_reord (D := L) (Reord.skip (Reord.refl _)) ?_
          refine gk_ret (by kernel_rfl) ?_
          refine ge_block_ret ?_
          refine ge_seq_ret ?_
          obtain rfl := some_inj hr
          exact ge_result trivial (ResOk.tmp (by kernel_rfl) ResOk.nil) (Imm.trans hI4 hI14) ⟨rfl, rfl⟩
        · have hr := cond_f hc21 hr
          refine gk_seq (by kernel_rfl) ?_
          refine gk_region (by kernel_rfl) ?_
          refine gl_pure 1 [1, 36] (K' := [(1, .pointer (some ⟨g1, 0, none⟩)), (36, .pointer (some ⟨g1, 2, none⟩))]) (by kernel_rfl) ?_
          refine gl_loadB (T' := 2) (xp := (.tmp 36)) (v := .int .i64 a0.f2) (g := g1) (off := 2) (cs := #[.string a0.f0, .string a0.f1, .int .i64 a0.f2, .slice A0_3 a0.f3.length n0_3, .slice A0_4 a0.f4.length n0_4]) (e := 24) (fz := (0, 0)) (by kernel_rfl) (by kernel_rfl) (by kernel_rfl) List.mem_cons_self (by kernel_rfl) ?_
          refine gl_callQ (by kernel_rfl) (tocsinref26_time_walk (r := (tocsinref26_time a0.f2))  rfl _) ?_
          refine gl_pure 2 [1, 35] (K' := [(1, .pointer (some ⟨g1, 0, none⟩)), (35, .bool (!(tocsinref26_time a0.f2)))]) (by kernel_rfl) ?_
          refine gl_atE (by kernel_rfl) ?_
          refine ge_seq ?_
          refine gk_cond (b := (!(tocsinref26_time a0.f2))) (by kernel_rfl) (by kernel_rfl) (fun hc22 => ?_) (fun hc22 => ?_)
          · have hr := cond_t hc22 hr
            refine gk_seq (by kernel_rfl) ?_
            refine gk_region (by kernel_rfl) ?_
            refine gl_pure 1 [2] (K' := [(2, .int .i64 1)]) (by kernel_rfl) ?_
            refine gl_atE (by kernel_rfl) ?_
            refine ge_seq ?_
            refine gk_reord (D := L) (Reord.skip (Reord.refl _)) ?_
            refine gk_ret (by kernel_rfl) ?_
            refine ge_block_ret ?_
            refine ge_seq_ret ?_
            obtain rfl := some_inj hr
            exact ge_result trivial (ResOk.tmp (by kernel_rfl) ResOk.nil) (Imm.trans hI4 hI14) ⟨rfl, rfl⟩
          · have hr := cond_f hc22 hr
            refine gk_seq (by kernel_rfl) ?_
            obtain ⟨b25, hb26⟩ : ∃ z, z = ((decide ((a0.f3.length : Int) > 500)) || (decide ((a0.f4.length : Int) > 500))) := ⟨_, rfl⟩
            refine gk_join (fun t I' L' => I16 ≤ I' ∧ (g1, .cells #[.string a0.f0, .string a0.f1, .int .i64 a0.f2, .slice A0_3 a0.f3.length n0_3, .slice A0_4 a0.f4.length n0_4] 24) :: L = L' ∧ Knows 62 [(1, .pointer (some ⟨g1, 0, none⟩)), (40, .bool b25)] t) ?_ ?_
            · refine gk_region (by kernel_rfl) ?_
              refine gl_pure 1 [1, 41] (K' := [(1, .pointer (some ⟨g1, 0, none⟩)), (41, .pointer (some ⟨g1, 3, none⟩))]) (by kernel_rfl) ?_
              refine gl_loadB (T' := 22) (xp := (.tmp 41)) (v := .slice A0_3 a0.f3.length n0_3) (g := g1) (off := 3) (cs := #[.string a0.f0, .string a0.f1, .int .i64 a0.f2, .slice A0_3 a0.f3.length n0_3, .slice A0_4 a0.f4.length n0_4]) (e := 24) (fz := (0, 0)) (by kernel_rfl) (by kernel_rfl) (by kernel_rfl) List.mem_cons_self (by kernel_rfl) ?_
              refine gl_pure 3 [1, 45] (K' := [(1, .pointer (some ⟨g1, 0, none⟩)), (45, .bool (decide ((a0.f3.length : Int) > 500)))]) (by kernel_rfl) ?_
              refine gl_case 45 (b := (decide ((a0.f3.length : Int) > 500))) (by kernel_rfl) (fun hc28 => ?_) (fun hc28 => ?_)
              · refine gl_pure 6 [1, 40] (K' := [(1, .pointer (some ⟨g1, 0, none⟩)), (40, .bool true)]) (by kernel_rfl) ?_
                refine gl_atE (by kernel_rfl) ?_
                exact ge_mid fun t ht => ⟨(Imm.refl _), rfl, by rw [(show b25 = true from hb26.trans (by first | (rw [hc28]; done) | (rw [hc28]; rfl) | (simp [hc28]; done) | (simp only [hc28]; rfl) | (simp at *; omega)))]; exact ht.pick (l := [1, 40]) (by kernel_rfl)⟩
              · refine gl_pure 1 [1, 45, 46] (K' := [(1, .pointer (some ⟨g1, 0, none⟩)), (45, .bool false), (46, .pointer (some ⟨g1, 4, none⟩))]) (by kernel_rfl) ?_
                refine gl_loadB (T' := 22) (xp := (.tmp 46)) (v := .slice A0_4 a0.f4.length n0_4) (g := g1) (off := 4) (cs := #[.string a0.f0, .string a0.f1, .int .i64 a0.f2, .slice A0_3 a0.f3.length n0_3, .slice A0_4 a0.f4.length n0_4]) (e := 24) (fz := (0, 0)) (by kernel_rfl) (by kernel_rfl) (by kernel_rfl) List.mem_cons_self (by kernel_rfl) ?_
                refine gl_pure 4 [1, 40] (K' := [(1, .pointer (some ⟨g1, 0, none⟩)), (40, .bool (decide ((a0.f4.length : Int) > 500)))]) (by kernel_rfl) ?_
                refine gl_atE (by kernel_rfl) ?_
                exact ge_mid fun t ht => ⟨(Imm.refl _), rfl, by rw [(show b25 = (decide ((a0.f4.length : Int) > 500)) from hb26.trans (by first | (rw [hc28]; done) | (rw [hc28]; rfl) | (simp [hc28]; done) | (simp only [hc28]; rfl) | (simp at *; omega)))]; exact ht.pick (l := [1, 40]) (by kernel_rfl)⟩
            · rintro t I27 L' ⟨hI23, rfl, hK24⟩
              subst hb26
              refine ge_at hK24 ?_
              refine ge_seq ?_
              refine gk_cond (b := ((decide ((a0.f3.length : Int) > 500)) || (decide ((a0.f4.length : Int) > 500)))) (by kernel_rfl) (by kernel_rfl) (fun hc29 => ?_) (fun hc29 => ?_)
              · have hr := cond_t hc29 hr
                refine gk_seq (by kernel_rfl) ?_
                refine gk_region (by kernel_rfl) ?_
                refine gl_pure 1 [2] (K' := [(2, .int .i64 8)]) (by kernel_rfl) ?_
                refine gl_atE (by kernel_rfl) ?_
                refine ge_seq ?_
                refine gk_reord (D := L) (Reord.skip (Reord.refl _)) ?_
                refine gk_ret (by kernel_rfl) ?_
                refine ge_block_ret ?_
                refine ge_seq_ret ?_
                obtain rfl := some_inj hr
                exact ge_result trivial (ResOk.tmp (by kernel_rfl) ResOk.nil) (Imm.trans (Imm.trans hI4 hI14) hI23) ⟨rfl, rfl⟩
              · have hr := cond_f hc29 hr
                refine gk_seq (by kernel_rfl) ?_
                obtain ⟨j30, hj31, hr⟩ := bind_some hr
                refine gk_join (fun t I' L' => I27 ≤ I' ∧ L = L' ∧ Knows 62 [(51, .bool j30)] t) ?_ ?_
                · refine gk_region (by kernel_rfl) ?_
                  refine gl_pure 1 [1, 52] (K' := [(1, .pointer (some ⟨g1, 0, none⟩)), (52, .pointer (some ⟨g1, 3, none⟩))]) (by kernel_rfl) ?_
                  refine gl_loadB (T' := 22) (xp := (.tmp 52)) (v := .slice A0_3 a0.f3.length n0_3) (g := g1) (off := 3) (cs := #[.string a0.f0, .string a0.f1, .int .i64 a0.f2, .slice A0_3 a0.f3.length n0_3, .slice A0_4 a0.f4.length n0_4]) (e := 24) (fz := (0, 0)) (by kernel_rfl) (by kernel_rfl) (by kernel_rfl) List.mem_cons_self (by kernel_rfl) ?_
                  obtain ⟨y35, hx36, hj31⟩ := bind_some hj31
                  refine gl_callQ (by kernel_rfl) (tocsinref26_rising_walk (r := y35) (hf0_3.mono (Imm.trans (Imm.trans hI4 hI14) hI23)) hx36 _) ?_
                  refine gl_pure 2 [1, 56] (K' := [(1, .pointer (some ⟨g1, 0, none⟩)), (56, .bool (!y35))]) (by kernel_rfl) ?_
                  refine gl_case 56 (b := (!y35)) (by kernel_rfl) (fun hc37 => ?_) (fun hc37 => ?_)
                  · have hj31 := cond_t hc37 hj31
                    refine gl_pure 6 [51] (K' := [(51, .bool true)]) (by kernel_rfl) ?_
                    refine gl_reord (D := L) (Reord.skip (Reord.refl _)) ?_
                    refine gl_atE (by kernel_rfl) ?_
                    obtain rfl := some_inj hj31
                    exact ge_mid fun t ht => ⟨(Imm.refl _), rfl, ht.pick (l := [51]) (by kernel_rfl)⟩
                  · have hj31 := cond_f hc37 hj31
                    refine gl_pure 1 [56, 57] (K' := [(56, .bool false), (57, .pointer (some ⟨g1, 4, none⟩))]) (by kernel_rfl) ?_
                    refine gl_loadB (T' := 22) (xp := (.tmp 57)) (v := .slice A0_4 a0.f4.length n0_4) (g := g1) (off := 4) (cs := #[.string a0.f0, .string a0.f1, .int .i64 a0.f2, .slice A0_3 a0.f3.length n0_3, .slice A0_4 a0.f4.length n0_4]) (e := 24) (fz := (0, 0)) (by kernel_rfl) (by kernel_rfl) (by kernel_rfl) List.mem_cons_self (by kernel_rfl) ?_
                    obtain ⟨y38, hx39, hj31⟩ := bind_some hj31
                    refine gl_callQ (by kernel_rfl) (tocsinref26_rising_walk (r := y38) (hf0_4.mono (Imm.trans (Imm.trans hI4 hI14) hI23)) hx39 _) ?_
                    refine gl_pure 3 [51] (K' := [(51, .bool (!y38))]) (by kernel_rfl) ?_
                    refine gl_reord (D := L) (Reord.skip (Reord.refl _)) ?_
                    refine gl_atE (by kernel_rfl) ?_
                    obtain rfl := some_inj hj31
                    exact ge_mid fun t ht => ⟨(Imm.refl _), rfl, ht.pick (l := [51]) (by kernel_rfl)⟩
                · rintro t I34 L' ⟨hI32, rfl, hK33⟩
                  refine ge_at hK33 ?_
                  refine ge_seq ?_
                  refine gk_cond (b := j30) (by kernel_rfl) (by kernel_rfl) (fun hc40 => ?_) (fun hc40 => ?_)
                  · have hr := cond_t hc40 hr
                    refine gk_seq (by kernel_rfl) ?_
                    refine gk_region (by kernel_rfl) ?_
                    refine gl_pure 1 [2] (K' := [(2, .int .i64 41)]) (by kernel_rfl) ?_
                    refine gl_atE (by kernel_rfl) ?_
                    refine ge_seq ?_
                    refine gk_ret (by kernel_rfl) ?_
                    refine ge_block_ret ?_
                    refine ge_seq_ret ?_
                    obtain rfl := some_inj hr
                    exact ge_result trivial (ResOk.tmp (by kernel_rfl) ResOk.nil) (Imm.trans (Imm.trans (Imm.trans hI4 hI14) hI23) hI32) ⟨rfl, rfl⟩
                  · have hr := cond_f hc40 hr
                    refine gk_skip (by kernel_rfl) ?_
                    refine ge_block_normal ?_
                    refine ge_seq ?_
                    refine gk_seq (by kernel_rfl) ?_
                    refine gk_region (by kernel_rfl) ?_
                    refine gl_pure 1 [2] (K' := [(2, .int .i64 0)]) (by kernel_rfl) ?_
                    refine gl_atE (by kernel_rfl) ?_
                    refine ge_seq ?_
                    refine gk_ret (by kernel_rfl) ?_
                    obtain rfl := some_inj hr
                    exact ge_result trivial (ResOk.tmp (by kernel_rfl) ResOk.nil) (Imm.trans (Imm.trans (Imm.trans hI4 hI14) hI23) hI32) ⟨rfl, rfl⟩
/-! 39 tocsinref26_Log_find ('obj', 'imm', 'imm') -/
noncomputable def tocsinref26_Log_find_l17 (a0 : S30) (a1 : ByteArray) (a2 : ByteArray) : Int → Option ((Int) ⊕ ((Unit) ⊕ (Int))) := fun s7 =>
  bif (decide (s7 < (a0.f0.length : Int))) then
  (Option.bind (ix a0.f0 s7) fun (x20 : S23) =>
    bif ((x20.f0.toList == a1.toList) && (x20.f1.toList == a2.toList)) then
    (some (Sum.inr (Sum.inr s7)))
    else
    (some (Sum.inl (IntKind.wrap .i64 (s7 + 1)))))
  else
  (some (Sum.inr (Sum.inl ())))
noncomputable def tocsinref26_Log_find (a0 : S30) (a1 : ByteArray) (a2 : ByteArray) : Option Int :=
  Option.bind (loopO (tocsinref26_Log_find_l17 a0 a1 a2) 0) fun (r5 : (Unit) ⊕ (Int)) =>
  match r5 with
  | Sum.inl r13 => some (-1)
  | Sum.inr v43 => some v43
theorem tocsinref26_Log_find_walk {a0 : S30} {g0 : Nat} {T0 : TypeId} {A0_0 : Option Addr} {c0_0 : Nat} {C0_0 : Own} {a1 : ByteArray} {a2 : ByteArray} {I : Imm} {r : Int}  (hO0_0 : OwnS kS23 24 I A0_0 c0_0 a0.f0 C0_0) (hr : tocsinref26_Log_find a0 a1 a2 = some r) (L : Own) :
    CallsTo Tryd.prog 39 #[.pointer (some ⟨g0, 0, none⟩), .string a1, .string a2] I ((g0, .cells #[.slice A0_0 a0.f0.length c0_0] T0) :: (C0_0 ++ L)) (fun v I' L' => v = .int .i64 r ∧ (g0, .cells #[.slice A0_0 a0.f0.length c0_0] T0) :: (C0_0 ++ L) = L') := by
  unfold tocsinref26_Log_find at hr
  refine callsTo_body (N := 31) Tryd.func39 (by kernel_rfl) (by kernel_rfl) (by kernel_rfl) ?_
  refine gk_pick [0, 1, 2] (K' := [(0, .pointer (some ⟨g0, 0, none⟩)), (1, .string a1), (2, .string a2)]) (by kernel_rfl) ?_
  refine gk_seq (by kernel_rfl) ?_
  refine gk_region (by kernel_rfl) ?_
  refine gl_pure 1 [0, 1, 2] (K' := [(0, .pointer (some ⟨g0, 0, none⟩)), (1, .string a1), (2, .string a2)]) (by kernel_rfl) ?_
  refine gl_atE (by kernel_rfl) ?_
  refine ge_seq ?_
  refine gk_seq (by kernel_rfl) ?_
  refine gk_seq (by kernel_rfl) ?_
  refine gk_region (by kernel_rfl) ?_
  refine gl_pure 3 [1, 2, 11] (K' := [(1, .string a1), (2, .string a2), (11, .pointer (some ⟨g0, 0, none⟩))]) (by kernel_rfl) ?_
  refine gl_loadB (T' := 29) (xp := (.tmp 11)) (v := .slice A0_0 a0.f0.length c0_0) (g := g0) (off := 0) (cs := #[.slice A0_0 a0.f0.length c0_0]) (e := T0) (fz := (0, 0)) (by kernel_rfl) (by kernel_rfl) (by kernel_rfl) List.mem_cons_self (by kernel_rfl) ?_
  refine gl_pure 2 [1, 2, 12, 13, 14] (K' := [(1, .string a1), (2, .string a2), (12, .slice A0_0 a0.f0.length c0_0), (13, .int .i64 (a0.f0.length : Int)), (14, .int .i64 0)]) (by kernel_rfl) ?_
  refine gl_atE (by kernel_rfl) ?_
  refine ge_seq ?_
  obtain ⟨r5, hl6, hr⟩ := bind_some hr
  refine gk_join (fun t I' L' => ∃ r13, r5 = Sum.inl r13 ∧ I ≤ I' ∧ (g0, .cells #[.slice A0_0 a0.f0.length c0_0] T0) :: (C0_0 ++ L) = L' ∧ Knows 31 [] t) ?_ ?_
  · refine gk_block (by kernel_rfl) ?_
    refine gk_pick [1, 2, 12, 13, 14] (K' := [(1, .string a1), (2, .string a2), (12, .slice A0_0 a0.f0.length c0_0), (13, .int .i64 (a0.f0.length : Int)), (14, .int .i64 0)]) (by kernel_rfl) ?_
    intro t hK
    refine gc_loop (tocsinref26_Log_find_l17 a0 a1 a2) (fun s7 t I' L' => I ≤ I' ∧ (g0, .cells #[.slice A0_0 a0.f0.length c0_0] T0) :: (C0_0 ++ L) = L' ∧ Knows 31 [(1, .string a1), (2, .string a2), (12, .slice A0_0 a0.f0.length c0_0), (13, .int .i64 (a0.f0.length : Int)), (14, .int .i64 s7)] t) (by kernel_rfl) ?_ hl6 ⟨(Imm.refl _), rfl, hK⟩
    rintro s7 o8 t I12 L' hb9 ⟨hI10, rfl, hK11⟩
    unfold tocsinref26_Log_find_l17 at hb9
    refine gk_at hK11 ?_
    refine gk_seq (by kernel_rfl) ?_
    refine gk_region (by kernel_rfl) ?_
    refine gl_pure 1 [1, 2, 12, 13, 14, 15] (K' := [(1, .string a1), (2, .string a2), (12, .slice A0_0 a0.f0.length c0_0), (13, .int .i64 (a0.f0.length : Int)), (14, .int .i64 s7), (15, .bool (decide (s7 < (a0.f0.length : Int))))]) (by kernel_rfl) ?_
    refine gl_atE (by kernel_rfl) ?_
    refine ge_seq ?_
    refine gk_seq (by kernel_rfl) ?_
    refine gk_cond (b := (decide (s7 < (a0.f0.length : Int)))) (by kernel_rfl) (by kernel_rfl) (fun hc19 => ?_) (fun hc19 => ?_)
    · have hb9 := cond_t hc19 hb9
      refine gk_skip (by kernel_rfl) ?_
      refine ge_seq ?_
      refine gk_seq (by kernel_rfl) ?_
      refine gk_block (by kernel_rfl) ?_
      refine gk_seq (by kernel_rfl) ?_
      refine gk_region (by kernel_rfl) ?_
      refine gl_pure 1 [1, 2, 12, 13, 14, 16] (K' := [(1, .string a1), (2, .string a2), (12, .slice A0_0 a0.f0.length c0_0), (13, .int .i64 (a0.f0.length : Int)), (14, .int .i64 s7), (16, .int .i64 s7)]) (by kernel_rfl) ?_
      obtain ⟨x20, hx21, hb9⟩ := bind_some hb9
      refine gl_indexAddrW (d := kS23) (c := c0_0) (T' := 29) (e := 24) (xs := (.tmp 12)) (xi := (.tmp 14)) (kd := .i64) hx21 (hO0_0.mono hI10) (Upd.one _ (Upd.selfC _ _)) (by kernel_rfl) (by kernel_rfl) (by kernel_rfl) (by kernel_rfl) (by kernel_rfl) (fun p22 cs23 hR24 hA25 hp34 => ?_)
      obtain ⟨A28, n29, A31, n32, hf30, hf33, rfl⟩ := kS23_open hR24
      refine gl_loadOA (T' := 24) (xp := (.tmp 17)) (p := p22) (cs := [.string x20.f0, .string x20.f1, .int .i64 x20.f2, .slice A28 x20.f3.length n29, .slice A31 x20.f4.length n32]) (by kernel_rfl) (by kernel_rfl) (by kernel_rfl) (by kernel_rfl) (hA25.take 5) ?_
      refine gl_alloc (T' := 24) (cs := #[.string (⟨#[]⟩ : ByteArray), .string (⟨#[]⟩ : ByteArray), .int .i64 0, .slice none 0 0, .slice none 0 0]) (by kernel_rfl) (by kernel_rfl) (by kernel_rfl) (fun g35 => ?_)
      refine gl_pure 1 [1, 2, 7, 8, 12, 13, 14, 18] (K' := [(1, .string a1), (2, .string a2), (7, .int .i64 s7), (8, .pointer (some ⟨g35, 0, none⟩)), (12, .slice A0_0 a0.f0.length c0_0), (13, .int .i64 (a0.f0.length : Int)), (14, .int .i64 s7), (18, .agg #[.string x20.f0, .string x20.f1, .int .i64 x20.f2, .slice A28 x20.f3.length n29, .slice A31 x20.f4.length n32])]) (by kernel_rfl) ?_
      refine gl_storeB (T' := 24) (xp := (.tmp 8)) (xv := (.tmp 18)) (v := .agg #[.string x20.f0, .string x20.f1, .int .i64 x20.f2, .slice A28 x20.f3.length n29, .slice A31 x20.f4.length n32]) (g := g35) (off := 0) (cs := #[.string (⟨#[]⟩ : ByteArray), .string (⟨#[]⟩ : ByteArray), .int .i64 0, .slice none 0 0, .slice none 0 0]) (cs' := #[.string x20.f0, .string x20.f1, .int .i64 x20.f2, .slice A28 x20.f3.length n29, .slice A31 x20.f4.length n32]) (by kernel_rfl) (by kernel_rfl) (by kernel_rfl) (by kernel_rfl) (by kernel_rfl) (Upd.set _ _ _ _) ?_ (by kernel_rfl)
      refine gl_atE (by kernel_rfl) ?_
      refine ge_seq ?_
      refine gk_seq (by kernel_rfl) ?_
      obtain ⟨b38, hb39⟩ : ∃ z, z = ((x20.f0.toList == a1.toList) && (x20.f1.toList == a2.toList)) := ⟨_, rfl⟩
      refine gk_join (fun t I' L' => I12 ≤ I' ∧ (g35, .cells #[.string x20.f0, .string x20.f1, .int .i64 x20.f2, .slice A28 x20.f3.length n29, .slice A31 x20.f4.length n32] 24) :: ((g0, .cells #[.slice A0_0 a0.f0.length c0_0] T0) :: (C0_0 ++ L)) = L' ∧ Knows 31 [(1, .string a1), (2, .string a2), (7, .int .i64 s7), (12, .slice A0_0 a0.f0.length c0_0), (13, .int .i64 (a0.f0.length : Int)), (14, .int .i64 s7), (28, .bool b38)] t) ?_ ?_
      · refine gk_region (by kernel_rfl) ?_
        refine gl_pure 1 [1, 2, 7, 8, 12, 13, 14, 19] (K' := [(1, .string a1), (2, .string a2), (7, .int .i64 s7), (8, .pointer (some ⟨g35, 0, none⟩)), (12, .slice A0_0 a0.f0.length c0_0), (13, .int .i64 (a0.f0.length : Int)), (14, .int .i64 s7), (19, .pointer (some ⟨g35, 0, none⟩))]) (by kernel_rfl) ?_
        refine gl_loadB (T' := 9) (xp := (.tmp 19)) (v := .string x20.f0) (g := g35) (off := 0) (cs := #[.string x20.f0, .string x20.f1, .int .i64 x20.f2, .slice A28 x20.f3.length n29, .slice A31 x20.f4.length n32]) (e := 24) (fz := (0, 0)) (by kernel_rfl) (by kernel_rfl) (by kernel_rfl) List.mem_cons_self (by kernel_rfl) ?_
        refine gl_pure 3 [1, 2, 7, 8, 12, 13, 14, 23] (K' := [(1, .string a1), (2, .string a2), (7, .int .i64 s7), (8, .pointer (some ⟨g35, 0, none⟩)), (12, .slice A0_0 a0.f0.length c0_0), (13, .int .i64 (a0.f0.length : Int)), (14, .int .i64 s7), (23, .bool (x20.f0.toList == a1.toList))]) (by kernel_rfl) ?_
        refine gl_case 23 (b := (x20.f0.toList == a1.toList)) (by kernel_rfl) (fun hc41 => ?_) (fun hc41 => ?_)
        · refine gl_pure 1 [1, 2, 7, 12, 13, 14, 23, 24] (K' := [(1, .string a1), (2, .string a2), (7, .int .i64 s7), (12, .slice A0_0 a0.f0.length c0_0), (13, .int .i64 (a0.f0.length : Int)), (14, .int .i64 s7), (23, .bool true), (24, .pointer (some ⟨g35, 1, none⟩))]) (by kernel_rfl) ?_
          refine gl_loadB (T' := 9) (xp := (.tmp 24)) (v := .string x20.f1) (g := g35) (off := 1) (cs := #[.string x20.f0, .string x20.f1, .int .i64 x20.f2, .slice A28 x20.f3.length n29, .slice A31 x20.f4.length n32]) (e := 24) (fz := (0, 0)) (by kernel_rfl) (by kernel_rfl) (by kernel_rfl) List.mem_cons_self (by kernel_rfl) ?_
          refine gl_pure 3 [1, 2, 7, 12, 13, 14, 28] (K' := [(1, .string a1), (2, .string a2), (7, .int .i64 s7), (12, .slice A0_0 a0.f0.length c0_0), (13, .int .i64 (a0.f0.length : Int)), (14, .int .i64 s7), (28, .bool (x20.f1.toList == a2.toList))]) (by kernel_rfl) ?_
          refine gl_atE (by kernel_rfl) ?_
          exact ge_mid fun t ht => ⟨(Imm.refl _), rfl, by rw [(show b38 = (x20.f1.toList == a2.toList) from hb39.trans (by first | (rw [hc41]; done) | (rw [hc41]; rfl) | (simp [hc41]; done) | (simp only [hc41]; rfl) | (simp at *; omega)))]; exact ht.pick (l := [1, 2, 7, 12, 13, 14, 28]) (by kernel_rfl)⟩
        · refine gl_pure 5 [1, 2, 7, 12, 13, 14, 28] (K' := [(1, .string a1), (2, .string a2), (7, .int .i64 s7), (12, .slice A0_0 a0.f0.length c0_0), (13, .int .i64 (a0.f0.length : Int)), (14, .int .i64 s7), (28, .bool false)]) (by kernel_rfl) ?_
          refine gl_atE (by kernel_rfl) ?_
          exact ge_mid fun t ht => ⟨(Imm.refl _), rfl, by rw [(show b38 = false from hb39.trans (by first | (rw [hc41]; done) | (rw [hc41]; rfl) | (simp [hc41]; done) | (simp only [hc41]; rfl) | (simp at *; omega)))]; exact ht.pick (l := [1, 2, 7, 12, 13, 14, 28]) (by kernel_rfl)⟩
      · rintro t I40 L' ⟨hI36, rfl, hK37⟩
        subst hb39
        refine ge_at hK37 ?_
        refine ge_seq ?_
        refine gk_cond (b := ((x20.f0.toList == a1.toList) && (x20.f1.toList == a2.toList))) (by kernel_rfl) (by kernel_rfl) (fun hc42 => ?_) (fun hc42 => ?_)
        · have hb9 := cond_t hc42 hb9
          refine gk_seq (by kernel_rfl) ?_
          refine gk_region (by kernel_rfl) ?_
          refine gl_pure 2 [6] (K' := [(6, .int .i64 s7)]) (by kernel_rfl) ?_
          refine gl_atE (by kernel_rfl) ?_
          refine ge_seq ?_
          refine gk_reord (D := (g0, .cells #[.slice A0_0 a0.f0.length c0_0] T0) :: (C0_0 ++ L)) (Reord.step1 (Upd.one _ (Upd.rm1 _ _)) (Reord.step (Upd.one _ (Upd.rmC _ _)) (Reord.skip (Reord.refl _)))) ?_
          refine gk_ret (by kernel_rfl) ?_
          refine ge_block_ret ?_
          refine ge_seq_ret ?_
          obtain rfl := some_inj hb9
          refine ge_round_out (fun hrr => ?_) (by intro h; cases h)
          obtain rfl := hrr
          refine ge_block_ret ?_
          refine ge_seq_ret ?_
          refine ge_seq_ret ?_
          obtain rfl := some_inj hr
          exact ge_result trivial (ResOk.tmp (by kernel_rfl) ResOk.nil) (Imm.trans hI10 hI36) ⟨rfl, rfl⟩
        · have hb9 := cond_f hc42 hb9
          refine gk_skip (by kernel_rfl) ?_
          refine ge_block_normal ?_
          refine ge_seq ?_
          refine gk_region (by kernel_rfl) ?_
          refine gl_pure 2 [1, 2, 12, 13, 14] (K' := [(1, .string a1), (2, .string a2), (12, .slice A0_0 a0.f0.length c0_0), (13, .int .i64 (a0.f0.length : Int)), (14, .int .i64 (IntKind.wrap .i64 (s7 + 1)))]) (by kernel_rfl) ?_
          refine gl_reord (D := (g0, .cells #[.slice A0_0 a0.f0.length c0_0] T0) :: (C0_0 ++ L)) (Reord.step1 (Upd.one _ (Upd.rm1 _ _)) (Reord.step (Upd.one _ (Upd.rmC _ _)) (Reord.skip (Reord.refl _)))) ?_
          refine gl_atE (by kernel_rfl) ?_
          obtain rfl := some_inj hb9
          exact ge_round fun t ht => ⟨(Imm.trans hI10 hI36), rfl, ht.pick (l := [1, 2, 12, 13, 14]) (by kernel_rfl)⟩
    · have hb9 := cond_f hc19 hb9
      refine gk_exit (by kernel_rfl) ?_
      refine ge_seq_exit ?_
      obtain rfl := some_inj hb9
      refine ge_round_out (fun hrr => ?_) (by intro h; cases h)
      obtain rfl := hrr
      refine ge_block_hit (by kernel_rfl) ?_
      exact ge_mid fun t ht => ⟨_, rfl, hI10, rfl, ht.pick (l := []) (by kernel_rfl)⟩
  · rintro t I16 L' ⟨r13, rfl, hI14, rfl, hK15⟩
    refine ge_at hK15 ?_
    refine ge_seq ?_
    refine gk_seq (by kernel_rfl) ?_
    refine gk_region (by kernel_rfl) ?_
    refine gl_pure 1 [6] (K' := [(6, .int .i64 (-1))]) (by kernel_rfl) ?_
    refine gl_atE (by kernel_rfl) ?_
    refine ge_seq ?_
    refine gk_ret (by kernel_rfl) ?_
    obtain rfl := some_inj hr
    exact ge_result trivial (ResOk.tmp (by kernel_rfl) ResOk.nil) hI14 ⟨rfl, rfl⟩
/-! 59 tocsinref26_own  -/
noncomputable def tocsinref26_own_l28 (a0 : List (List S53)) : ((List (List S53)) × Int) → Option (((List (List S53)) × Int) ⊕ ((List (List S53)))) := fun s11 =>
  bif (decide (s11.2 < (a0.length : Int))) then
  (Option.bind (ix a0 s11.2) fun (x31 : List S53) =>
    Option.bind (app ([] : List S53) x31) fun (zs42 : List S53) =>
    Option.bind (app s11.1 [zs42]) fun (zs56 : List (List S53)) =>
    some (Sum.inl (zs56, (IntKind.wrap .i64 (s11.2 + 1)))))
  else
  (some (Sum.inr s11.1))
noncomputable def tocsinref26_own (a0 : List (List S53)) : Option (List (List S53)) :=
  Option.bind (loopO (tocsinref26_own_l28 a0) ([], 0)) fun (r9 : (List (List S53))) =>
  some r9
theorem tocsinref26_own_walk {a0 : List (List S53)} {A0_0 : Option Addr} {n0_0 : Nat} {I : Imm} {r : (List (List S53))}  (hf0_0 : RepS (Kd.sl kS53) I A0_0 n0_0 a0) (hr : tocsinref26_own a0 = some r) (L : Own) :
    CallsTo Tryd.prog 59 #[.slice A0_0 a0.length n0_0] I L (fun v I' L' => ∃ A0 c0 C0, OwnS (Kd.sl kS53) 25 I' A0 c0 r C0 ∧ v = .slice A0 r.length c0 ∧ C0 ++ L = L') := by
  unfold tocsinref26_own at hr
  refine callsTo_body (N := 21) Tryd.func59 (by kernel_rfl) (by kernel_rfl) (by kernel_rfl) ?_
  refine gk_pick [0] (K' := [(0, .slice A0_0 a0.length n0_0)]) (by kernel_rfl) ?_
  refine gk_seq (by kernel_rfl) ?_
  refine gk_region (by kernel_rfl) ?_
  refine gl_pure 1 [0] (K' := [(0, .slice A0_0 a0.length n0_0)]) (by kernel_rfl) ?_
  refine gl_atE (by kernel_rfl) ?_
  refine ge_seq ?_
  refine gk_seq (by kernel_rfl) ?_
  refine gk_region (by kernel_rfl) ?_
  refine gl_pure 1 [0, 3] (K' := [(0, .slice A0_0 a0.length n0_0), (3, .slice none 0 0)]) (by kernel_rfl) ?_
  refine gl_atE (by kernel_rfl) ?_
  refine ge_seq ?_
  refine gk_seq (by kernel_rfl) ?_
  refine gk_seq (by kernel_rfl) ?_
  refine gk_region (by kernel_rfl) ?_
  refine gl_pure 3 [3, 7, 8, 9] (K' := [(3, .slice none 0 0), (7, .slice A0_0 a0.length n0_0), (8, .int .i64 (a0.length : Int)), (9, .int .i64 0)]) (by kernel_rfl) ?_
  refine gl_atE (by kernel_rfl) ?_
  refine ge_seq ?_
  obtain ⟨r9, hl10, hr⟩ := bind_some hr
  refine gk_join (fun t I' L' => ∃ A22 n23 C24, OwnS (Kd.sl kS53) 25 I' A22 n23 r9 C24 ∧ I ≤ I' ∧ C24 ++ L = L' ∧ Knows 21 [(3, .slice A22 r9.length n23)] t) ?_ ?_
  · refine gk_block (by kernel_rfl) ?_
    refine gk_pick [3, 7, 8, 9] (K' := [(3, .slice none 0 0), (7, .slice A0_0 a0.length n0_0), (8, .int .i64 (a0.length : Int)), (9, .int .i64 0)]) (by kernel_rfl) ?_
    intro t hK
    refine gc_loop (tocsinref26_own_l28 a0) (fun s11 t I' L' => ∃ A15 n16 C17, OwnS (Kd.sl kS53) 25 I' A15 n16 s11.1 C17 ∧ I ≤ I' ∧ C17 ++ L = L' ∧ Knows 21 [(3, .slice A15 s11.1.length n16), (7, .slice A0_0 a0.length n0_0), (8, .int .i64 (a0.length : Int)), (9, .int .i64 s11.2)] t) (by kernel_rfl) ?_ hl10 ⟨none, 0, [], OwnS.nil _ _ _ _, (Imm.refl _), rfl, hK⟩
    rintro s11 o12 t I20 L' hb13 ⟨A15, n16, C17, hO18, hI14, rfl, hK19⟩
    unfold tocsinref26_own_l28 at hb13
    refine gk_at hK19 ?_
    refine gk_seq (by kernel_rfl) ?_
    refine gk_region (by kernel_rfl) ?_
    refine gl_pure 1 [3, 7, 8, 9, 10] (K' := [(3, .slice A15 s11.1.length n16), (7, .slice A0_0 a0.length n0_0), (8, .int .i64 (a0.length : Int)), (9, .int .i64 s11.2), (10, .bool (decide (s11.2 < (a0.length : Int))))]) (by kernel_rfl) ?_
    refine gl_atE (by kernel_rfl) ?_
    refine ge_seq ?_
    refine gk_seq (by kernel_rfl) ?_
    refine gk_cond (b := (decide (s11.2 < (a0.length : Int)))) (by kernel_rfl) (by kernel_rfl) (fun hc30 => ?_) (fun hc30 => ?_)
    · have hb13 := cond_t hc30 hb13
      refine gk_skip (by kernel_rfl) ?_
      refine ge_seq ?_
      refine gk_seq (by kernel_rfl) ?_
      refine gk_block (by kernel_rfl) ?_
      refine gk_seq (by kernel_rfl) ?_
      refine gk_region (by kernel_rfl) ?_
      obtain ⟨x31, hx32, hb13⟩ := bind_some hb13
      obtain ⟨p33, cs34, hR35, hA36, ha37⟩ := RepS.ixAt hx32 (hf0_0.mono hI14)
      have hi38 := ix_some hx32
      obtain ⟨A39, n40, rfl, hf41⟩ := sl_open hR35
      refine gl_indexAddrF (c := n0_0) (T' := 22) (e := 25) (xs := (.tmp 7)) (xi := (.tmp 9)) (kd := .i64) ha37 hi38.1 hi38.2.1 (by kernel_rfl) (by kernel_rfl) (by kernel_rfl) (by kernel_rfl) (by kernel_rfl) ?_
      refine gl_load (T' := 25) (xp := (.tmp 11)) (p := p33) (c := .slice A39 x31.length n40) (n := 1) (by kernel_rfl) (by kernel_rfl) (by kernel_rfl) (by kernel_rfl) hA36 ?_
      refine gl_pure 1 [3, 5, 7, 8, 9] (K' := [(3, .slice A15 s11.1.length n16), (5, .slice A39 x31.length n40), (7, .slice A0_0 a0.length n0_0), (8, .int .i64 (a0.length : Int)), (9, .int .i64 s11.2)]) (by kernel_rfl) ?_
      refine gl_atE (by kernel_rfl) ?_
      refine ge_seq ?_
      refine gk_seq (by kernel_rfl) ?_
      refine gk_region (by kernel_rfl) ?_
      refine gl_pure 1 [3, 5, 6, 7, 8, 9] (K' := [(3, .slice A15 s11.1.length n16), (5, .slice A39 x31.length n40), (6, .slice none 0 0), (7, .slice A0_0 a0.length n0_0), (8, .int .i64 (a0.length : Int)), (9, .int .i64 s11.2)]) (by kernel_rfl) ?_
      refine gl_atE (by kernel_rfl) ?_
      refine ge_seq ?_
      refine gk_region (by kernel_rfl) ?_
      refine gl_pure 3 [7, 8, 9, 13, 14, 15] (K' := [(7, .slice A0_0 a0.length n0_0), (8, .int .i64 (a0.length : Int)), (9, .int .i64 s11.2), (13, .slice A15 s11.1.length n16), (14, .slice none 0 0), (15, .slice A39 x31.length n40)]) (by kernel_rfl) ?_
      obtain ⟨zs42, hz43, hb13⟩ := bind_some hb13
      refine gl_append (xv := .slice A39 x31.length n40) (d := kS53) (t := 25) (tx := 25) (e := 54) (s := (.tmp 14)) (x := (.tmp 15)) (xs := []) (A := none) (c := 0) (C := []) (fun X => X ++ (C17 ++ L)) hz43 (by kernel_rfl) (by kernel_rfl) (by kernel_rfl) (by kernel_rfl) (by kernel_rfl) (by kernel_rfl) (fun X => Upd.new X _) (OwnS.nil _ _ _ none) (SrcOk.slice (c := n40) (e := 54) (n := 2) (RepS.rd hf41 _) (by kernel_rfl)) (fun A44 n45 C46 hO47 => ?_)
      refine gl_rest (Tk.step (Upd.rmC _ _) (Tk.nil _)) (fun J48 hJ49 hC50 => ?_)
      have hf51 := (OwnS.rest hO47 hJ49 hC50.left)
      refine gl_buildSlice (T' := 22) (e := 25) (n := 1) (len := 1) (parts := #[(0, (.tmp 16))]) (l := [(0, .slice A44 zs42.length n45)]) (cs := #[.slice A44 zs42.length n45]) (by kernel_rfl) (by kernel_rfl) (by kernel_rfl) (by kernel_rfl) (by kernel_rfl) (fun g52 => ?_)
      have hO53 : OwnS (Kd.sl kS53) 25 J48 (some ⟨g52, 0, none⟩) 1 [zs42] [(g52, .cells #[.slice A44 zs42.length n45] 25)] := OwnS.lit (row_cons (l := [.slice A44 zs42.length n45]) ⟨_, _, rfl, hf51⟩ (row_nil _ _)) rfl rfl rfl
      refine gl_reord (D := [(g52, .cells #[.slice A44 zs42.length n45] 25)] ++ (C17 ++ L)) (Reord.refl _) ?_
      obtain ⟨zs56, hz57, hb13⟩ := bind_some hb13
      refine gl_append (xv := .slice (some ⟨g52, 0, none⟩) [zs42].length 1) (d := (Kd.sl kS53)) (t := 22) (tx := 22) (e := 25) (s := (.tmp 13)) (x := (.tmp 17)) (xs := s11.1) (fun X => [(g52, .cells #[.slice A44 zs42.length n45] 25)] ++ (X ++ L)) hz57 (by kernel_rfl) (by kernel_rfl) (by kernel_rfl) (by kernel_rfl) (by kernel_rfl) (by kernel_rfl) (fun X => (Upd.app _ (Upd.head _ X _))) (hO18.mono hJ49) (SrcOk.slice (c := 1) (e := 25) (n := 1) (OwnS.rd hO53 (Upd.selfC _ _)) (by kernel_rfl)) (fun A58 n59 C60 hO61 => ?_)
      refine gl_pure 1 [3, 7, 8, 9] (K' := [(3, .slice A58 zs56.length n59), (7, .slice A0_0 a0.length n0_0), (8, .int .i64 (a0.length : Int)), (9, .int .i64 s11.2)]) (by kernel_rfl) ?_
      refine gl_atE (by kernel_rfl) ?_
      refine ge_block_normal ?_
      refine ge_seq ?_
      refine gk_region (by kernel_rfl) ?_
      refine gl_pure 2 [3, 7, 8, 9] (K' := [(3, .slice A58 zs56.length n59), (7, .slice A0_0 a0.length n0_0), (8, .int .i64 (a0.length : Int)), (9, .int .i64 (IntKind.wrap .i64 (s11.2 + 1)))]) (by kernel_rfl) ?_
      refine gl_reord (D := C60 ++ L) (Reord.step (Upd.app _ (Upd.rmC _ _)) (Reord.skipC (Reord.refl _))) ?_
      refine gl_atE (by kernel_rfl) ?_
      obtain rfl := some_inj hb13
      exact ge_round fun t ht => ⟨A58, n59, C60, hO61, (Imm.trans hI14 hJ49), rfl, ht.pick (l := [3, 7, 8, 9]) (by kernel_rfl)⟩
    · have hb13 := cond_f hc30 hb13
      refine gk_exit (by kernel_rfl) ?_
      refine ge_seq_exit ?_
      obtain rfl := some_inj hb13
      refine ge_round_out (fun hrr => ?_) (by intro h; cases h)
      obtain rfl := hrr
      refine ge_block_hit (by kernel_rfl) ?_
      exact ge_mid fun t ht => ⟨A15, n16, C17, hO18, hI14, rfl, ht.pick (l := [3]) (by kernel_rfl)⟩
  · rintro t I27 L' ⟨A22, n23, C24, hO25, hI21, rfl, hK26⟩
    refine ge_at hK26 ?_
    refine ge_seq ?_
    refine gk_seq (by kernel_rfl) ?_
    refine gk_region (by kernel_rfl) ?_
    refine gl_pure 2 [2] (K' := [(2, .slice A22 r9.length n23)]) (by kernel_rfl) ?_
    refine gl_atE (by kernel_rfl) ?_
    refine ge_seq ?_
    refine gk_ret (by kernel_rfl) ?_
    obtain rfl := some_inj hr
    exact ge_result trivial (ResOk.tmp (by kernel_rfl) ResOk.nil) hI21 ⟨A22, n23, C24, hO25, rfl, rfl⟩
/-! 40 tocsinref26_Log_put ('obj', 'imm') -/
noncomputable def tocsinref26_Log_put_l93 (a1 : S23) : ((List S23) × Int) → Option (((List S23) × Int) ⊕ (Int × (List S23))) := fun s76 =>
  Option.bind (bif (decide (s76.2 > 0)) then
    (Option.bind (ix s76.1 (IntKind.wrap .i64 (s76.2 - 1))) fun (x101 : S23) =>
      bif (!((Op.bytesLess x101.f0.toList a1.f0.toList) || (x101.f0.toList == a1.f0.toList))) then
      (some true)
      else
      (Option.bind (ix s76.1 (IntKind.wrap .i64 (s76.2 - 1))) fun (x117 : S23) =>
        bif (x117.f0.toList == a1.f0.toList) then
        (Option.bind (ix s76.1 (IntKind.wrap .i64 (s76.2 - 1))) fun (x133 : S23) =>
          some (!((Op.bytesLess x133.f1.toList a1.f1.toList) || (x133.f1.toList == a1.f1.toList))))
        else
        (some false)))
    else
    (some false)) fun (j95 : Bool) =>
  bif j95 then
  (Option.bind (ix s76.1 (IntKind.wrap .i64 (s76.2 - 1))) fun (x149 : S23) =>
    Option.bind (ix s76.1 s76.2) fun (x164 : S23) =>
    some (Sum.inl ((lset s76.1 s76.2 x149), (IntKind.wrap .i64 (s76.2 - 1)))))
  else
  (some (Sum.inr (s76.2, s76.1)))
noncomputable def tocsinref26_Log_put (a0 : S30) (a1 : S23) : Option S30 :=
  Option.bind (tocsinref26_own a1.f3) fun (y2 : (List (List S53))) =>
  Option.bind (tocsinref26_own a1.f4) fun (y11 : (List (List S53))) =>
  Option.bind (tocsinref26_Log_find a0 a1.f0 a1.f1) fun (y20 : Int) =>
  bif (decide (y20 ≥ 0)) then
  (Option.bind (ix a0.f0 y20) fun (x26 : S23) =>
    some (⟨(lset a0.f0 y20 (⟨a1.f0, a1.f1, a1.f2, y2, y11⟩ : S23))⟩ : S30))
  else
  (Option.bind (app a0.f0 [(⟨a1.f0, a1.f1, a1.f2, y2, y11⟩ : S23)]) fun (zs60 : List S23) =>
    Option.bind (loopO (tocsinref26_Log_put_l93 a1) (zs60, (a0.f0.length : Int))) fun (r74 : Int × (List S23)) =>
    Option.bind (ix r74.2 r74.1) fun (x182 : S23) =>
    some (⟨(lset r74.2 r74.1 (⟨a1.f0, a1.f1, a1.f2, y2, y11⟩ : S23))⟩ : S30))
theorem tocsinref26_Log_put_walk {a0 : S30} {g0 : Nat} {T0 : TypeId} {A0_0 : Option Addr} {c0_0 : Nat} {C0_0 : Own} {a1 : S23} {A1_3 : Option Addr} {n1_3 : Nat} {A1_4 : Option Addr} {n1_4 : Nat} {I : Imm} {r : S30}  (hO0_0 : OwnS kS23 24 I A0_0 c0_0 a0.f0 C0_0)  (hf1_3 : RepS (Kd.sl kS53) I A1_3 n1_3 a1.f3) (hf1_4 : RepS (Kd.sl kS53) I A1_4 n1_4 a1.f4) (hr : tocsinref26_Log_put a0 a1 = some r) (L : Own) :
    CallsTo Tryd.prog 40 #[.pointer (some ⟨g0, 0, none⟩), .agg #[.string a1.f0, .string a1.f1, .int .i64 a1.f2, .slice A1_3 a1.f3.length n1_3, .slice A1_4 a1.f4.length n1_4]] I ((g0, .cells #[.slice A0_0 a0.f0.length c0_0] T0) :: (C0_0 ++ L)) (fun v I' L' => ∃ A0_0 c0_0 C0_0, OwnS kS23 24 I' A0_0 c0_0 r.f0 C0_0 ∧ v = .tuple #[] ∧ (g0, .cells #[.slice A0_0 r.f0.length c0_0] T0) :: (C0_0 ++ L) = L') := by
  unfold tocsinref26_Log_put at hr
  refine callsTo_body (N := 110) Tryd.func40 (by kernel_rfl) (by kernel_rfl) (by kernel_rfl) ?_
  refine gk_pick [0, 1] (K' := [(0, .pointer (some ⟨g0, 0, none⟩)), (1, .agg #[.string a1.f0, .string a1.f1, .int .i64 a1.f2, .slice A1_3 a1.f3.length n1_3, .slice A1_4 a1.f4.length n1_4])]) (by kernel_rfl) ?_
  refine gk_seq (by kernel_rfl) ?_
  refine gk_region (by kernel_rfl) ?_
  refine gl_box (T' := 24) (x := (.tmp 1)) (v := .agg #[.string a1.f0, .string a1.f1, .int .i64 a1.f2, .slice A1_3 a1.f3.length n1_3, .slice A1_4 a1.f4.length n1_4]) (cs := #[.string a1.f0, .string a1.f1, .int .i64 a1.f2, .slice A1_3 a1.f3.length n1_3, .slice A1_4 a1.f4.length n1_4]) (by kernel_rfl) (by kernel_rfl) (by kernel_rfl) (by kernel_rfl) (fun gb1 => ?_)
  refine gl_atE (by kernel_rfl) ?_
  refine ge_seq ?_
  refine gk_seq (by kernel_rfl) ?_
  refine gk_region (by kernel_rfl) ?_
  refine gl_pure 1 [0, 3, 5] (K' := [(0, .pointer (some ⟨g0, 0, none⟩)), (3, .pointer (some ⟨gb1, 0, none⟩)), (5, .pointer (some ⟨gb1, 3, none⟩))]) (by kernel_rfl) ?_
  refine gl_loadB (T' := 22) (xp := (.tmp 5)) (v := .slice A1_3 a1.f3.length n1_3) (g := gb1) (off := 3) (cs := #[.string a1.f0, .string a1.f1, .int .i64 a1.f2, .slice A1_3 a1.f3.length n1_3, .slice A1_4 a1.f4.length n1_4]) (e := 24) (fz := (0, 0)) (by kernel_rfl) (by kernel_rfl) (by kernel_rfl) List.mem_cons_self (by kernel_rfl) ?_
  obtain ⟨y2, hx3, hr⟩ := bind_some hr
  refine gl_call (by kernel_rfl) (tocsinref26_own_walk (r := y2) hf1_3 hx3 _) ?_
  rintro v I4 L5 hI6 ⟨A7, c8, C9, hO10, rfl, rfl⟩
  refine gl_pure 1 [0, 3, 7, 8] (K' := [(0, .pointer (some ⟨g0, 0, none⟩)), (3, .pointer (some ⟨gb1, 0, none⟩)), (7, .slice A7 y2.length c8), (8, .pointer (some ⟨gb1, 3, none⟩))]) (by kernel_rfl) ?_
  refine gl_storeB (T' := 22) (xp := (.tmp 8)) (xv := (.tmp 7)) (v := .slice A7 y2.length c8) (g := gb1) (off := 3) (cs := #[.string a1.f0, .string a1.f1, .int .i64 a1.f2, .slice A1_3 a1.f3.length n1_3, .slice A1_4 a1.f4.length n1_4]) (cs' := #[.string a1.f0, .string a1.f1, .int .i64 a1.f2, .slice A7 y2.length c8, .slice A1_4 a1.f4.length n1_4]) (by kernel_rfl) (by kernel_rfl) (by kernel_rfl) (by kernel_rfl) (by kernel_rfl) (Upd.app _ (Upd.set _ _ _ _)) ?_ (by kernel_rfl)
  refine gl_atE (by kernel_rfl) ?_
  refine ge_seq ?_
  refine gk_seq (by kernel_rfl) ?_
  refine gk_region (by kernel_rfl) ?_
  refine gl_pure 1 [0, 3, 9] (K' := [(0, .pointer (some ⟨g0, 0, none⟩)), (3, .pointer (some ⟨gb1, 0, none⟩)), (9, .pointer (some ⟨gb1, 4, none⟩))]) (by kernel_rfl) ?_
  refine gl_loadB (T' := 22) (xp := (.tmp 9)) (v := .slice A1_4 a1.f4.length n1_4) (g := gb1) (off := 4) (cs := #[.string a1.f0, .string a1.f1, .int .i64 a1.f2, .slice A7 y2.length c8, .slice A1_4 a1.f4.length n1_4]) (e := 24) (fz := (0, 0)) (by kernel_rfl) (by kernel_rfl) (by kernel_rfl) (List.mem_append_right _ List.mem_cons_self) (by kernel_rfl) ?_
  obtain ⟨y11, hx12, hr⟩ := bind_some hr
  refine gl_call (by kernel_rfl) (tocsinref26_own_walk (r := y11) (hf1_4.mono hI6) hx12 _) ?_
  rintro v I13 L14 hI15 ⟨A16, c17, C18, hO19, rfl, rfl⟩
  refine gl_pure 1 [0, 3, 11, 12] (K' := [(0, .pointer (some ⟨g0, 0, none⟩)), (3, .pointer (some ⟨gb1, 0, none⟩)), (11, .slice A16 y11.length c17), (12, .pointer (some ⟨gb1, 4, none⟩))]) (by kernel_rfl) ?_
  refine gl_storeB (T' := 22) (xp := (.tmp 12)) (xv := (.tmp 11)) (v := .slice A16 y11.length c17) (g := gb1) (off := 4) (cs := #[.string a1.f0, .string a1.f1, .int .i64 a1.f2, .slice A7 y2.length c8, .slice A1_4 a1.f4.length n1_4]) (cs' := #[.string a1.f0, .string a1.f1, .int .i64 a1.f2, .slice A7 y2.length c8, .slice A16 y11.length c17]) (by kernel_rfl) (by kernel_rfl) (by kernel_rfl) (by kernel_rfl) (by kernel_rfl) (Upd.app _ (Upd.app _ (Upd.set _ _ _ _))) ?_ (by kernel_rfl)
  refine gl_atE (by kernel_rfl) ?_
  refine ge_seq ?_
  refine gk_seq (by kernel_rfl) ?_
  refine gk_region (by kernel_rfl) ?_
  refine gl_pure 2 [0, 3, 13, 14] (K' := [(0, .pointer (some ⟨g0, 0, none⟩)), (3, .pointer (some ⟨gb1, 0, none⟩)), (13, .pointer (some ⟨g0, 0, none⟩)), (14, .pointer (some ⟨gb1, 0, none⟩))]) (by kernel_rfl) ?_
  refine gl_loadB (T' := 9) (xp := (.tmp 14)) (v := .string a1.f0) (g := gb1) (off := 0) (cs := #[.string a1.f0, .string a1.f1, .int .i64 a1.f2, .slice A7 y2.length c8, .slice A16 y11.length c17]) (e := 24) (fz := (0, 0)) (by kernel_rfl) (by kernel_rfl) (by kernel_rfl) (List.mem_append_right _ (List.mem_append_right _ List.mem_cons_self)) (by kernel_rfl) ?_
  refine gl_pure 1 [0, 3, 13, 15, 16] (K' := [(0, .pointer (some ⟨g0, 0, none⟩)), (3, .pointer (some ⟨gb1, 0, none⟩)), (13, .pointer (some ⟨g0, 0, none⟩)), (15, .string a1.f0), (16, .pointer (some ⟨gb1, 1, none⟩))]) (by kernel_rfl) ?_
  refine gl_loadB (T' := 9) (xp := (.tmp 16)) (v := .string a1.f1) (g := gb1) (off := 1) (cs := #[.string a1.f0, .string a1.f1, .int .i64 a1.f2, .slice A7 y2.length c8, .slice A16 y11.length c17]) (e := 24) (fz := (0, 0)) (by kernel_rfl) (by kernel_rfl) (by kernel_rfl) (List.mem_append_right _ (List.mem_append_right _ List.mem_cons_self)) (by kernel_rfl) ?_
  obtain ⟨y20, hx21, hr⟩ := bind_some hr
  refine gl_reord (D := (g0, .cells #[.slice A0_0 a0.f0.length c0_0] T0) :: (C0_0 ++ (C18 ++ (C9 ++ ((gb1, .cells #[.string a1.f0, .string a1.f1, .int .i64 a1.f2, .slice A7 y2.length c8, .slice A16 y11.length c17] 24) :: L))))) (Reord.step1 (Upd.app _ (Upd.app _ (Upd.one _ (Upd.rm1 _ _)))) (Reord.step (Upd.app _ (Upd.app _ (Upd.one _ (Upd.rmC _ _)))) (Reord.step (Upd.rmC _ _) (Reord.step (Upd.rmC _ _) (Reord.step1 (Upd.rm1 _ _) (Reord.refl _)))))) ?_
  refine gl_call (by kernel_rfl) (tocsinref26_Log_find_walk (r := y20) (g0 := g0) (T0 := T0) (A0_0 := A0_0) (c0_0 := c0_0) (C0_0 := C0_0) (a0 := a0) (hO0_0.mono (Imm.trans hI6 hI15)) hx21 _) ?_
  rintro v I22 L23 hI24 ⟨rfl, rfl⟩
  refine gl_pure 1 [0, 3, 4] (K' := [(0, .pointer (some ⟨g0, 0, none⟩)), (3, .pointer (some ⟨gb1, 0, none⟩)), (4, .int .i64 y20)]) (by kernel_rfl) ?_
  refine gl_atE (by kernel_rfl) ?_
  refine ge_seq ?_
  refine gk_seq (by kernel_rfl) ?_
  refine gk_seq (by kernel_rfl) ?_
  refine gk_region (by kernel_rfl) ?_
  refine gl_pure 2 [0, 3, 4, 20] (K' := [(0, .pointer (some ⟨g0, 0, none⟩)), (3, .pointer (some ⟨gb1, 0, none⟩)), (4, .int .i64 y20), (20, .bool (decide (y20 ≥ 0)))]) (by kernel_rfl) ?_
  refine gl_atE (by kernel_rfl) ?_
  refine ge_seq ?_
  refine gk_cond (b := (decide (y20 ≥ 0))) (by kernel_rfl) (by kernel_rfl) (fun hc25 => ?_) (fun hc25 => ?_)
  · have hr := cond_t hc25 hr
    refine gk_seq (by kernel_rfl) ?_
    refine gk_draw 7 [(0, true), (1, true), (2, true), (3, true), (4, true), (5, true), (6, false)] [(g0, .cells #[.slice A0_0 a0.f0.length c0_0] T0), (gb1, .cells #[.string a1.f0, .string a1.f1, .int .i64 a1.f2, .slice A7 y2.length c8, .slice A16 y11.length c17] 24)] (List.forall_mem_cons.2 ⟨List.mem_cons_self, (List.forall_mem_cons.2 ⟨(List.mem_cons_of_mem _ (List.mem_append_right _ (List.mem_append_right _ (List.mem_append_right _ List.mem_cons_self)))), (fun p hp => by cases hp)⟩)⟩) (by kernel_rfl) (by kernel_rfl) (by kernel_rfl) ?_ (by kernel_rfl)
    refine gd_pure 3 [3, 4, 23] (K' := [(3, .pointer (some ⟨gb1, 0, none⟩)), (4, .int .i64 y20), (23, .pointer (some ⟨g0, 0, none⟩))]) (s' := [(3, true), (4, true), (5, true), (6, false)]) (CC.refl (List.forall_mem_cons.2 ⟨List.mem_cons_self, (List.forall_mem_cons.2 ⟨(List.mem_cons_of_mem _ (List.mem_append_right _ (List.mem_append_right _ (List.mem_append_right _ List.mem_cons_self)))), (fun p hp => by cases hp)⟩)⟩)) (by kernel_rfl) ?_
    refine gd_q (v := .slice A0_0 a0.f0.length c0_0) (by kernel_rfl) (by kernel_rfl) (CC.refl (List.forall_mem_cons.2 ⟨List.mem_cons_self, (List.forall_mem_cons.2 ⟨(List.mem_cons_of_mem _ (List.mem_append_right _ (List.mem_append_right _ (List.mem_append_right _ List.mem_cons_self)))), (fun p hp => by cases hp)⟩)⟩)) (fun I' L' T hC kk => gl_loadB (T' := 29) (xp := (.tmp 23)) (v := .slice A0_0 a0.f0.length c0_0) (g := g0) (off := 0) (cs := #[.slice A0_0 a0.f0.length c0_0]) (e := T0) (fz := (0, 0)) (by kernel_rfl) (by kernel_rfl) (by kernel_rfl) (hC.sub _ List.mem_cons_self) (by kernel_rfl) kk) ?_
    refine gd_pure 1 [3, 24, 25] (K' := [(3, .pointer (some ⟨gb1, 0, none⟩)), (24, .slice A0_0 a0.f0.length c0_0), (25, .int .i64 y20)]) (s' := [(5, true), (6, false)]) (CC.refl (List.forall_mem_cons.2 ⟨List.mem_cons_self, (List.forall_mem_cons.2 ⟨(List.mem_cons_of_mem _ (List.mem_append_right _ (List.mem_append_right _ (List.mem_append_right _ List.mem_cons_self)))), (fun p hp => by cases hp)⟩)⟩)) (by kernel_rfl) ?_
    refine gd_q (v := .agg #[.string a1.f0, .string a1.f1, .int .i64 a1.f2, .slice A7 y2.length c8, .slice A16 y11.length c17]) (by kernel_rfl) (by kernel_rfl) (CC.refl (List.forall_mem_cons.2 ⟨List.mem_cons_self, (List.forall_mem_cons.2 ⟨(List.mem_cons_of_mem _ (List.mem_append_right _ (List.mem_append_right _ (List.mem_append_right _ List.mem_cons_self)))), (fun p hp => by cases hp)⟩)⟩)) (fun I' L' T hC kk => gl_loadB (T' := 24) (xp := (.tmp 3)) (v := .agg #[.string a1.f0, .string a1.f1, .int .i64 a1.f2, .slice A7 y2.length c8, .slice A16 y11.length c17]) (g := gb1) (off := 0) (cs := #[.string a1.f0, .string a1.f1, .int .i64 a1.f2, .slice A7 y2.length c8, .slice A16 y11.length c17]) (e := 24) (fz := (0, 0)) (by kernel_rfl) (by kernel_rfl) (by kernel_rfl) (hC.sub _ (List.mem_cons_of_mem _ List.mem_cons_self)) (by kernel_rfl) kk) ?_
    refine gd_one (by kernel_rfl) ?_
    obtain ⟨x26, hx27, hr⟩ := bind_some hr
    refine gl_indexAddrW (d := kS23) (c := c0_0) (T' := 29) (e := 24) (xs := (.tmp 24)) (xi := (.tmp 25)) (kd := .i64) hx27 (hO0_0.mono (Imm.trans (Imm.trans hI6 hI15) hI24)) (Upd.one _ (Upd.selfC _ _)) (by kernel_rfl) (by kernel_rfl) (by kernel_rfl) (by kernel_rfl) (by kernel_rfl) (fun p28 cs29 hR30 hA31 hp40 => ?_)
    obtain ⟨A34, n35, A37, n38, hf36, hf39, rfl⟩ := kS23_open hR30
    refine gl_toD (by kernel_rfl) ⟨(Imm.refl _), (List.forall_mem_cons.2 ⟨List.mem_cons_self, (List.forall_mem_cons.2 ⟨(List.mem_cons_of_mem _ (List.mem_append_right _ (List.mem_append_right _ (List.mem_append_right _ List.mem_cons_self)))), (fun p hp => by cases hp)⟩)⟩)⟩ ?_
    refine gd_done ?_
    refine gl_rest (Tk.step (Upd.one _ (Upd.app _ (Upd.rmC _ _))) (Tk.step (Upd.one _ (Upd.app _ (Upd.rmC _ _))) (Tk.nil _))) (fun J43 hJ44 hC45 => ?_)
    have hf46 := (OwnS.rest (hO19.mono hI24) hJ44 hC45.left)
    have hf47 := (OwnS.rest (hO10.mono (Imm.trans hI15 hI24)) hJ44 hC45.right.left)
    have hl50 : a0.f0.length = (lset a0.f0 y20 (⟨a1.f0, a1.f1, a1.f2, y2, y11⟩ : S23)).length := by simp [lset]
    refine gl_storeE (d := kS23) (T' := 24) (xp := (.tmp 27)) (xv := (.tmp 26)) (v := .agg #[.string a1.f0, .string a1.f1, .int .i64 a1.f2, .slice A7 y2.length c8, .slice A16 y11.length c17]) (off := 0) (y := (⟨a1.f0, a1.f1, a1.f2, y2, y11⟩ : S23)) (fun X => (g0, .cells #[.slice A0_0 a0.f0.length c0_0] T0) :: (X ++ ((gb1, .cells #[.string a1.f0, .string a1.f1, .int .i64 a1.f2, .slice A7 y2.length c8, .slice A16 y11.length c17] 24) :: L))) hx27 (hO0_0.mono (Imm.trans (Imm.trans (Imm.trans hI6 hI15) hI24) hJ44)) (fun X => (Upd.one _ (Upd.head _ X _))) hp40 (by kernel_rfl) (by kernel_rfl) (by kernel_rfl) (by kernel_rfl) (by kernel_rfl) (by kernel_rfl) (fun cs h => by obtain ⟨A_3, c_3, A_4, c_4, h_3, h_4, rfl⟩ := kS23_open h; exact kS23_mk (x := (⟨a1.f0, a1.f1, a1.f2, y2, y11⟩ : S23)) hf47 hf46) (by kernel_rfl) (fun C48 hO49 => ?_)
    try rw [hl50]
    refine gl_atE (by kernel_rfl) ?_
    refine ge_seq ?_
    refine gk_reord (D := (g0, .cells #[.slice A0_0 (lset a0.f0 y20 (⟨a1.f0, a1.f1, a1.f2, y2, y11⟩ : S23)).length c0_0] T0) :: (C48 ++ L)) (Reord.step1 (Upd.rm1 _ _) (Reord.step (Upd.rmC _ _) (Reord.skip (Reord.refl _)))) ?_
    refine gk_ret (by kernel_rfl) ?_
    refine ge_seq_ret ?_
    obtain rfl := some_inj hr
    exact ge_result trivial ResOk.nil (Imm.trans (Imm.trans (Imm.trans hI6 hI15) hI24) hJ44) ⟨A0_0, c0_0, C48, hO49, rfl, rfl⟩
  · have hr := cond_f hc25 hr
    refine gk_skip (by kernel_rfl) ?_
    refine ge_seq ?_
    refine gk_seq (by kernel_rfl) ?_
    refine gk_region (by kernel_rfl) ?_
    refine gl_pure 3 [0, 3, 30] (K' := [(0, .pointer (some ⟨g0, 0, none⟩)), (3, .pointer (some ⟨gb1, 0, none⟩)), (30, .pointer (some ⟨g0, 0, none⟩))]) (by kernel_rfl) ?_
    refine gl_loadB (T' := 29) (xp := (.tmp 30)) (v := .slice A0_0 a0.f0.length c0_0) (g := g0) (off := 0) (cs := #[.slice A0_0 a0.f0.length c0_0]) (e := T0) (fz := (0, 0)) (by kernel_rfl) (by kernel_rfl) (by kernel_rfl) List.mem_cons_self (by kernel_rfl) ?_
    refine gl_pure 2 [0, 3, 4] (K' := [(0, .pointer (some ⟨g0, 0, none⟩)), (3, .pointer (some ⟨gb1, 0, none⟩)), (4, .int .i64 (a0.f0.length : Int))]) (by kernel_rfl) ?_
    refine gl_atE (by kernel_rfl) ?_
    refine ge_seq ?_
    refine gk_seq (by kernel_rfl) ?_
    refine gk_draw 10 [(0, true), (1, true), (2, true), (3, true), (4, true), (5, true), (6, false), (7, false), (8, true), (9, true)] [(g0, .cells #[.slice A0_0 a0.f0.length c0_0] T0), (gb1, .cells #[.string a1.f0, .string a1.f1, .int .i64 a1.f2, .slice A7 y2.length c8, .slice A16 y11.length c17] 24)] (List.forall_mem_cons.2 ⟨List.mem_cons_self, (List.forall_mem_cons.2 ⟨(List.mem_cons_of_mem _ (List.mem_append_right _ (List.mem_append_right _ (List.mem_append_right _ List.mem_cons_self)))), (fun p hp => by cases hp)⟩)⟩) (by kernel_rfl) (by kernel_rfl) (by kernel_rfl) ?_ (by kernel_rfl)
    refine gd_pure 4 [0, 3, 4, 33, 36] (K' := [(0, .pointer (some ⟨g0, 0, none⟩)), (3, .pointer (some ⟨gb1, 0, none⟩)), (4, .int .i64 (a0.f0.length : Int)), (33, .pointer (some ⟨g0, 0, none⟩)), (36, .pointer (some ⟨g0, 0, none⟩))]) (s' := [(4, true), (5, true), (6, false), (7, false), (8, true), (9, true)]) (CC.refl (List.forall_mem_cons.2 ⟨List.mem_cons_self, (List.forall_mem_cons.2 ⟨(List.mem_cons_of_mem _ (List.mem_append_right _ (List.mem_append_right _ (List.mem_append_right _ List.mem_cons_self)))), (fun p hp => by cases hp)⟩)⟩)) (by kernel_rfl) ?_
    refine gd_q (v := .slice A0_0 a0.f0.length c0_0) (by kernel_rfl) (by kernel_rfl) (CC.refl (List.forall_mem_cons.2 ⟨List.mem_cons_self, (List.forall_mem_cons.2 ⟨(List.mem_cons_of_mem _ (List.mem_append_right _ (List.mem_append_right _ (List.mem_append_right _ List.mem_cons_self)))), (fun p hp => by cases hp)⟩)⟩)) (fun I' L' T hC kk => gl_loadB (T' := 29) (xp := (.tmp 36)) (v := .slice A0_0 a0.f0.length c0_0) (g := g0) (off := 0) (cs := #[.slice A0_0 a0.f0.length c0_0]) (e := T0) (fz := (0, 0)) (by kernel_rfl) (by kernel_rfl) (by kernel_rfl) (hC.sub _ List.mem_cons_self) (by kernel_rfl) kk) ?_
    refine gd_q (v := .agg #[.string a1.f0, .string a1.f1, .int .i64 a1.f2, .slice A7 y2.length c8, .slice A16 y11.length c17]) (by kernel_rfl) (by kernel_rfl) (CC.refl (List.forall_mem_cons.2 ⟨List.mem_cons_self, (List.forall_mem_cons.2 ⟨(List.mem_cons_of_mem _ (List.mem_append_right _ (List.mem_append_right _ (List.mem_append_right _ List.mem_cons_self)))), (fun p hp => by cases hp)⟩)⟩)) (fun I' L' T hC kk => gl_loadB (T' := 24) (xp := (.tmp 3)) (v := .agg #[.string a1.f0, .string a1.f1, .int .i64 a1.f2, .slice A7 y2.length c8, .slice A16 y11.length c17]) (g := gb1) (off := 0) (cs := #[.string a1.f0, .string a1.f1, .int .i64 a1.f2, .slice A7 y2.length c8, .slice A16 y11.length c17]) (e := 24) (fz := (0, 0)) (by kernel_rfl) (by kernel_rfl) (by kernel_rfl) (hC.sub _ (List.mem_cons_of_mem _ List.mem_cons_self)) (by kernel_rfl) kk) ?_
    refine gd_one (by kernel_rfl) ?_
    refine gl_rest (Tk.step (Upd.one _ (Upd.app _ (Upd.rmC _ _))) (Tk.step (Upd.one _ (Upd.app _ (Upd.rmC _ _))) (Tk.nil _))) (fun J51 hJ52 hC53 => ?_)
    have hf54 := (OwnS.rest (hO19.mono hI24) hJ52 hC53.left)
    have hf55 := (OwnS.rest (hO10.mono (Imm.trans hI15 hI24)) hJ52 hC53.right.left)
    refine gl_buildSlice (T' := 29) (e := 24) (n := 5) (len := 1) (parts := #[(0, (.tmp 38))]) (l := [(0, .agg #[.string a1.f0, .string a1.f1, .int .i64 a1.f2, .slice A7 y2.length c8, .slice A16 y11.length c17])]) (cs := #[.string a1.f0, .string a1.f1, .int .i64 a1.f2, .slice A7 y2.length c8, .slice A16 y11.length c17]) (by kernel_rfl) (by kernel_rfl) (by kernel_rfl) (by kernel_rfl) (by kernel_rfl) (fun g56 => ?_)
    have hO57 : OwnS kS23 24 J51 (some ⟨g56, 0, none⟩) 1 [(⟨a1.f0, a1.f1, a1.f2, y2, y11⟩ : S23)] [(g56, .cells #[.string a1.f0, .string a1.f1, .int .i64 a1.f2, .slice A7 y2.length c8, .slice A16 y11.length c17] 24)] := OwnS.lit (row_cons (l := [.string a1.f0, .string a1.f1, .int .i64 a1.f2, .slice A7 y2.length c8, .slice A16 y11.length c17]) (kS23_mk (x := (⟨a1.f0, a1.f1, a1.f2, y2, y11⟩ : S23)) hf55 hf54) (row_nil _ _)) rfl rfl rfl
    refine gl_reord (D := [(g56, .cells #[.string a1.f0, .string a1.f1, .int .i64 a1.f2, .slice A7 y2.length c8, .slice A16 y11.length c17] 24)] ++ ((g0, .cells #[.slice A0_0 a0.f0.length c0_0] T0) :: (C0_0 ++ ((gb1, .cells #[.string a1.f0, .string a1.f1, .int .i64 a1.f2, .slice A7 y2.length c8, .slice A16 y11.length c17] 24) :: L)))) (Reord.refl _) ?_
    refine gl_toD (by kernel_rfl) ⟨hJ52, (List.forall_mem_cons.2 ⟨(List.mem_append_right _ List.mem_cons_self), (List.forall_mem_cons.2 ⟨(List.mem_append_right _ (List.mem_cons_of_mem _ (List.mem_append_right _ List.mem_cons_self))), (fun p hp => by cases hp)⟩)⟩)⟩ ?_
    refine gd_one (by kernel_rfl) ?_
    obtain ⟨zs60, hz61, hr⟩ := bind_some hr
    refine gl_append (xv := .slice (some ⟨g56, 0, none⟩) [(⟨a1.f0, a1.f1, a1.f2, y2, y11⟩ : S23)].length 1) (d := kS23) (t := 29) (tx := 29) (e := 24) (s := (.tmp 37)) (x := (.tmp 39)) (xs := a0.f0) (fun X => [(g56, .cells #[.string a1.f0, .string a1.f1, .int .i64 a1.f2, .slice A7 y2.length c8, .slice A16 y11.length c17] 24)] ++ ((g0, .cells #[.slice A0_0 a0.f0.length c0_0] T0) :: (X ++ ((gb1, .cells #[.string a1.f0, .string a1.f1, .int .i64 a1.f2, .slice A7 y2.length c8, .slice A16 y11.length c17] 24) :: L)))) hz61 (by kernel_rfl) (by kernel_rfl) (by kernel_rfl) (by kernel_rfl) (by kernel_rfl) (by kernel_rfl) (fun X => (Upd.app _ (Upd.one _ (Upd.head _ X _)))) (hO0_0.mono (Imm.trans (Imm.trans (Imm.trans hI6 hI15) hI24) hJ52)) (SrcOk.slice (c := 1) (e := 24) (n := 5) (OwnS.rd hO57 (Upd.selfC _ _)) (by kernel_rfl)) (fun A62 n63 C64 hO65 => ?_)
    refine gl_toD (by kernel_rfl) ⟨(Imm.refl _), (List.forall_mem_cons.2 ⟨(List.mem_append_right _ List.mem_cons_self), (List.forall_mem_cons.2 ⟨(List.mem_append_right _ (List.mem_cons_of_mem _ (List.mem_append_right _ List.mem_cons_self))), (fun p hp => by cases hp)⟩)⟩)⟩ ?_
    refine gd_pure 2 [0, 3, 4, 40, 42] (K' := [(0, .pointer (some ⟨g0, 0, none⟩)), (3, .pointer (some ⟨gb1, 0, none⟩)), (4, .int .i64 (a0.f0.length : Int)), (40, .slice A62 zs60.length n63), (42, .pointer (some ⟨g0, 0, none⟩))]) (s' := []) (CC.refl (List.forall_mem_cons.2 ⟨(List.mem_append_right _ List.mem_cons_self), (List.forall_mem_cons.2 ⟨(List.mem_append_right _ (List.mem_cons_of_mem _ (List.mem_append_right _ List.mem_cons_self))), (fun p hp => by cases hp)⟩)⟩)) (by kernel_rfl) ?_
    refine gd_done ?_
    refine gl_storeB (T' := 29) (xp := (.tmp 42)) (xv := (.tmp 40)) (v := .slice A62 zs60.length n63) (g := g0) (off := 0) (cs := #[.slice A0_0 a0.f0.length c0_0]) (cs' := #[.slice A62 zs60.length n63]) (by kernel_rfl) (by kernel_rfl) (by kernel_rfl) (by kernel_rfl) (by kernel_rfl) (Upd.app _ (Upd.set _ _ _ _)) ?_ (by kernel_rfl)
    refine gl_atE (by kernel_rfl) ?_
    refine ge_seq ?_
    refine gk_seq (by kernel_rfl) ?_
    obtain ⟨r74, hl75, hr⟩ := bind_some hr
    refine gk_reord (D := C64 ++ ((g0, .cells #[.slice A62 zs60.length n63] T0) :: ((gb1, .cells #[.string a1.f0, .string a1.f1, .int .i64 a1.f2, .slice A7 y2.length c8, .slice A16 y11.length c17] 24) :: L))) (Reord.step (Upd.app _ (Upd.one _ (Upd.rmC _ _))) (Reord.step1 (Upd.app _ (Upd.rm1 _ _)) (Reord.step1 (Upd.app _ (Upd.rm1 _ _)) (Reord.skipC (Reord.refl _))))) ?_
    refine gk_join (fun t I' L' => ∃ A87 n88 C89, OwnS kS23 24 I' A87 n88 r74.2 C89 ∧ J51 ≤ I' ∧ C89 ++ ((g0, .cells #[.slice A87 r74.2.length n88] T0) :: ((gb1, .cells #[.string a1.f0, .string a1.f1, .int .i64 a1.f2, .slice A7 y2.length c8, .slice A16 y11.length c17] 24) :: L)) = L' ∧ Knows 110 [(0, .pointer (some ⟨g0, 0, none⟩)), (3, .pointer (some ⟨gb1, 0, none⟩)), (4, .int .i64 r74.1)] t) ?_ ?_
    · refine gk_block (by kernel_rfl) ?_
      refine gk_pick [0, 3, 4] (K' := [(0, .pointer (some ⟨g0, 0, none⟩)), (3, .pointer (some ⟨gb1, 0, none⟩)), (4, .int .i64 (a0.f0.length : Int))]) (by kernel_rfl) ?_
      intro t hK
      refine gc_loop (tocsinref26_Log_put_l93 a1) (fun s76 t I' L' => ∃ A80 n81 C82, OwnS kS23 24 I' A80 n81 s76.1 C82 ∧ J51 ≤ I' ∧ C82 ++ ((g0, .cells #[.slice A80 s76.1.length n81] T0) :: ((gb1, .cells #[.string a1.f0, .string a1.f1, .int .i64 a1.f2, .slice A7 y2.length c8, .slice A16 y11.length c17] 24) :: L)) = L' ∧ Knows 110 [(0, .pointer (some ⟨g0, 0, none⟩)), (3, .pointer (some ⟨gb1, 0, none⟩)), (4, .int .i64 s76.2)] t) (by kernel_rfl) ?_ hl75 ⟨A62, n63, C64, hO65, (Imm.refl _), rfl, hK⟩
      rintro s76 o77 t I85 L' hb78 ⟨A80, n81, C82, hO83, hI79, rfl, hK84⟩
      unfold tocsinref26_Log_put_l93 at hb78
      refine gk_at hK84 ?_
      refine gk_seq (by kernel_rfl) ?_
      refine gk_seq (by kernel_rfl) ?_
      obtain ⟨j95, hj96, hb78⟩ := bind_some hb78
      refine gk_join (fun t I' L' => I85 ≤ I' ∧ C82 ++ ((g0, .cells #[.slice A80 s76.1.length n81] T0) :: ((gb1, .cells #[.string a1.f0, .string a1.f1, .int .i64 a1.f2, .slice A7 y2.length c8, .slice A16 y11.length c17] 24) :: L)) = L' ∧ Knows 110 [(0, .pointer (some ⟨g0, 0, none⟩)), (3, .pointer (some ⟨gb1, 0, none⟩)), (4, .int .i64 s76.2), (86, .bool j95)] t) ?_ ?_
      · refine gk_draw 44 [(0, true), (1, true), (2, true), (3, true), (4, true), (5, true), (6, true), (7, true), (8, true), (9, true), (10, true), (11, true), (12, true), (13, true), (14, true), (15, true), (16, true), (17, true), (18, true), (19, true), (20, true), (21, true), (22, true), (23, true), (24, true), (25, true), (26, true), (27, true), (28, true), (29, true), (30, true), (31, true), (32, true), (33, true), (34, true), (35, true), (36, true), (37, true), (38, true), (39, true), (40, true), (41, true), (42, true), (43, true)] (C82 ++ [(g0, .cells #[.slice A80 s76.1.length n81] T0), (gb1, .cells #[.string a1.f0, .string a1.f1, .int .i64 a1.f2, .slice A7 y2.length c8, .slice A16 y11.length c17] 24)]) (List.forall_mem_append.2 ⟨fun q hq => (List.mem_append_left _ hq), (List.forall_mem_cons.2 ⟨(List.mem_append_right _ List.mem_cons_self), (List.forall_mem_cons.2 ⟨(List.mem_append_right _ (List.mem_cons_of_mem _ List.mem_cons_self)), (fun p hp => by cases hp)⟩)⟩)⟩) (by kernel_rfl) (by kernel_rfl) (by kernel_rfl) ?_ (by kernel_rfl)
        refine gd_pure 3 [0, 3, 4, 45] (K' := [(0, .pointer (some ⟨g0, 0, none⟩)), (3, .pointer (some ⟨gb1, 0, none⟩)), (4, .int .i64 s76.2), (45, .bool (decide (s76.2 > 0)))]) (s' := [(3, true), (4, true), (5, true), (6, true), (7, true), (8, true), (9, true), (10, true), (11, true), (12, true), (13, true), (14, true), (15, true), (16, true), (17, true), (18, true), (19, true), (20, true), (21, true), (22, true), (23, true), (24, true), (25, true), (26, true), (27, true), (28, true), (29, true), (30, true), (31, true), (32, true), (33, true), (34, true), (35, true), (36, true), (37, true), (38, true), (39, true), (40, true), (41, true), (42, true), (43, true)]) (CC.refl (List.forall_mem_append.2 ⟨fun q hq => (List.mem_append_left _ hq), (List.forall_mem_cons.2 ⟨(List.mem_append_right _ List.mem_cons_self), (List.forall_mem_cons.2 ⟨(List.mem_append_right _ (List.mem_cons_of_mem _ List.mem_cons_self)), (fun p hp => by cases hp)⟩)⟩)⟩)) (by kernel_rfl) ?_
        refine gd_case 45 (b := (decide (s76.2 > 0))) (by kernel_rfl) (fun hc100 => ?_) (fun hc100 => ?_)
        · have hj96 := cond_t hc100 hj96
          refine gd_pure 3 [0, 3, 4, 45, 48] (K' := [(0, .pointer (some ⟨g0, 0, none⟩)), (3, .pointer (some ⟨gb1, 0, none⟩)), (4, .int .i64 s76.2), (45, .bool true), (48, .pointer (some ⟨g0, 0, none⟩))]) (s' := [(6, true), (7, true), (8, true), (9, true), (10, true), (11, true), (12, true), (13, true), (14, true), (15, true), (16, true), (17, true), (18, true), (19, true), (20, true), (21, true), (22, true), (23, true), (24, true), (25, true), (26, true), (27, true), (28, true), (29, true), (30, true), (31, true), (32, true), (33, true), (34, true), (35, true), (36, true), (37, true), (38, true), (39, true), (40, true), (41, true), (42, true), (43, true)]) (CC.refl (List.forall_mem_append.2 ⟨fun q hq => (List.mem_append_left _ hq), (List.forall_mem_cons.2 ⟨(List.mem_append_right _ List.mem_cons_self), (List.forall_mem_cons.2 ⟨(List.mem_append_right _ (List.mem_cons_of_mem _ List.mem_cons_self)), (fun p hp => by cases hp)⟩)⟩)⟩)) (by kernel_rfl) ?_
          refine gd_q (v := .slice A80 s76.1.length n81) (by kernel_rfl) (by kernel_rfl) (CC.refl (List.forall_mem_append.2 ⟨fun q hq => (List.mem_append_left _ hq), (List.forall_mem_cons.2 ⟨(List.mem_append_right _ List.mem_cons_self), (List.forall_mem_cons.2 ⟨(List.mem_append_right _ (List.mem_cons_of_mem _ List.mem_cons_self)), (fun p hp => by cases hp)⟩)⟩)⟩)) (fun I' L' T hC kk => gl_loadB (T' := 29) (xp := (.tmp 48)) (v := .slice A80 s76.1.length n81) (g := g0) (off := 0) (cs := #[.slice A80 s76.1.length n81]) (e := T0) (fz := (0, 0)) (by kernel_rfl) (by kernel_rfl) (by kernel_rfl) (hC.sub _ (List.mem_append_right _ List.mem_cons_self)) (by kernel_rfl) kk) ?_
          refine gd_pure 2 [0, 3, 4, 45, 49, 51] (K' := [(0, .pointer (some ⟨g0, 0, none⟩)), (3, .pointer (some ⟨gb1, 0, none⟩)), (4, .int .i64 s76.2), (45, .bool true), (49, .slice A80 s76.1.length n81), (51, .int .i64 (IntKind.wrap .i64 (s76.2 - 1)))]) (s' := [(9, true), (10, true), (11, true), (12, true), (13, true), (14, true), (15, true), (16, true), (17, true), (18, true), (19, true), (20, true), (21, true), (22, true), (23, true), (24, true), (25, true), (26, true), (27, true), (28, true), (29, true), (30, true), (31, true), (32, true), (33, true), (34, true), (35, true), (36, true), (37, true), (38, true), (39, true), (40, true), (41, true), (42, true), (43, true)]) (CC.refl (List.forall_mem_append.2 ⟨fun q hq => (List.mem_append_left _ hq), (List.forall_mem_cons.2 ⟨(List.mem_append_right _ List.mem_cons_self), (List.forall_mem_cons.2 ⟨(List.mem_append_right _ (List.mem_cons_of_mem _ List.mem_cons_self)), (fun p hp => by cases hp)⟩)⟩)⟩)) (by kernel_rfl) ?_
          obtain ⟨x101, hx102, hj96⟩ := bind_some hj96
          obtain ⟨p103, cs104, hR105, hA106, ha107, hg115⟩ := OwnS.ixAtG hx102 hO83
          have hi108 := ix_some hx102
          obtain ⟨A109, n110, A112, n113, hf111, hf114, rfl⟩ := kS23_open hR105
          refine gd_q (v := .pointer (some p103)) (by kernel_rfl) (by kernel_rfl) (CC.refl (List.forall_mem_append.2 ⟨fun q hq => (List.mem_append_left _ hq), (List.forall_mem_cons.2 ⟨(List.mem_append_right _ List.mem_cons_self), (List.forall_mem_cons.2 ⟨(List.mem_append_right _ (List.mem_cons_of_mem _ List.mem_cons_self)), (fun p hp => by cases hp)⟩)⟩)⟩)) (fun I' L' T hC kk => gl_indexAddrF (c := n81) (T' := 29) (e := 24) (xs := (.tmp 49)) (xi := (.tmp 51)) (kd := .i64) ha107 hi108.1 hi108.2.1 (by kernel_rfl) (by kernel_rfl) (by kernel_rfl) (by kernel_rfl) (by kernel_rfl) kk) ?_
          refine gd_pure 1 [0, 3, 4, 45, 53] (K' := [(0, .pointer (some ⟨g0, 0, none⟩)), (3, .pointer (some ⟨gb1, 0, none⟩)), (4, .int .i64 s76.2), (45, .bool true), (53, .pointer (some (p103.add 0)))]) (s' := [(11, true), (12, true), (13, true), (14, true), (15, true), (16, true), (17, true), (18, true), (19, true), (20, true), (21, true), (22, true), (23, true), (24, true), (25, true), (26, true), (27, true), (28, true), (29, true), (30, true), (31, true), (32, true), (33, true), (34, true), (35, true), (36, true), (37, true), (38, true), (39, true), (40, true), (41, true), (42, true), (43, true)]) (CC.refl (List.forall_mem_append.2 ⟨fun q hq => (List.mem_append_left _ hq), (List.forall_mem_cons.2 ⟨(List.mem_append_right _ List.mem_cons_self), (List.forall_mem_cons.2 ⟨(List.mem_append_right _ (List.mem_cons_of_mem _ List.mem_cons_self)), (fun p hp => by cases hp)⟩)⟩)⟩)) (by kernel_rfl) ?_
          refine gd_q (v := .string x101.f0) (by kernel_rfl) (by kernel_rfl) (CC.refl (List.forall_mem_append.2 ⟨fun q hq => (List.mem_append_left _ hq), (List.forall_mem_cons.2 ⟨(List.mem_append_right _ List.mem_cons_self), (List.forall_mem_cons.2 ⟨(List.mem_append_right _ (List.mem_cons_of_mem _ List.mem_cons_self)), (fun p hp => by cases hp)⟩)⟩)⟩)) (fun I' L' T hC kk => gl_loadO (T' := 9) (xp := (.tmp 53)) (p := (p103.add 0)) (c := .string x101.f0) (n := 1) (by kernel_rfl) (by kernel_rfl) (by kernel_rfl) (by kernel_rfl) ((fun I' L' h => (hA106 I' L' h).drop 0) _ _ (fun q hq => hC.sub _ (List.mem_append_left _ hq))) kk) ?_
          refine gd_pure 1 [0, 3, 4, 45, 54, 55] (K' := [(0, .pointer (some ⟨g0, 0, none⟩)), (3, .pointer (some ⟨gb1, 0, none⟩)), (4, .int .i64 s76.2), (45, .bool true), (54, .string x101.f0), (55, .pointer (some ⟨gb1, 0, none⟩))]) (s' := [(13, true), (14, true), (15, true), (16, true), (17, true), (18, true), (19, true), (20, true), (21, true), (22, true), (23, true), (24, true), (25, true), (26, true), (27, true), (28, true), (29, true), (30, true), (31, true), (32, true), (33, true), (34, true), (35, true), (36, true), (37, true), (38, true), (39, true), (40, true), (41, true), (42, true), (43, true)]) (CC.refl (List.forall_mem_append.2 ⟨fun q hq => (List.mem_append_left _ hq), (List.forall_mem_cons.2 ⟨(List.mem_append_right _ List.mem_cons_self), (List.forall_mem_cons.2 ⟨(List.mem_append_right _ (List.mem_cons_of_mem _ List.mem_cons_self)), (fun p hp => by cases hp)⟩)⟩)⟩)) (by kernel_rfl) ?_
          refine gd_q (v := .string a1.f0) (by kernel_rfl) (by kernel_rfl) (CC.refl (List.forall_mem_append.2 ⟨fun q hq => (List.mem_append_left _ hq), (List.forall_mem_cons.2 ⟨(List.mem_append_right _ List.mem_cons_self), (List.forall_mem_cons.2 ⟨(List.mem_append_right _ (List.mem_cons_of_mem _ List.mem_cons_self)), (fun p hp => by cases hp)⟩)⟩)⟩)) (fun I' L' T hC kk => gl_loadB (T' := 9) (xp := (.tmp 55)) (v := .string a1.f0) (g := gb1) (off := 0) (cs := #[.string a1.f0, .string a1.f1, .int .i64 a1.f2, .slice A7 y2.length c8, .slice A16 y11.length c17]) (e := 24) (fz := (0, 0)) (by kernel_rfl) (by kernel_rfl) (by kernel_rfl) (hC.sub _ (List.mem_append_right _ (List.mem_cons_of_mem _ List.mem_cons_self))) (by kernel_rfl) kk) ?_
          refine gd_pure 2 [0, 3, 4, 45, 58] (K' := [(0, .pointer (some ⟨g0, 0, none⟩)), (3, .pointer (some ⟨gb1, 0, none⟩)), (4, .int .i64 s76.2), (45, .bool true), (58, .bool (!((Op.bytesLess x101.f0.toList a1.f0.toList) || (x101.f0.toList == a1.f0.toList))))]) (s' := [(16, true), (17, true), (18, true), (19, true), (20, true), (21, true), (22, true), (23, true), (24, true), (25, true), (26, true), (27, true), (28, true), (29, true), (30, true), (31, true), (32, true), (33, true), (34, true), (35, true), (36, true), (37, true), (38, true), (39, true), (40, true), (41, true), (42, true), (43, true)]) (CC.refl (List.forall_mem_append.2 ⟨fun q hq => (List.mem_append_left _ hq), (List.forall_mem_cons.2 ⟨(List.mem_append_right _ List.mem_cons_self), (List.forall_mem_cons.2 ⟨(List.mem_append_right _ (List.mem_cons_of_mem _ List.mem_cons_self)), (fun p hp => by cases hp)⟩)⟩)⟩)) (by kernel_rfl) ?_
          refine gd_case 58 (b := (!((Op.bytesLess x101.f0.toList a1.f0.toList) || (x101.f0.toList == a1.f0.toList)))) (by kernel_rfl) (fun hc116 => ?_) (fun hc116 => ?_)
          · have hj96 := cond_t hc116 hj96
            refine gd_pure 28 [0, 3, 4, 86] (K' := [(0, .pointer (some ⟨g0, 0, none⟩)), (3, .pointer (some ⟨gb1, 0, none⟩)), (4, .int .i64 s76.2), (86, .bool true)]) (s' := []) (CC.refl (List.forall_mem_append.2 ⟨fun q hq => (List.mem_append_left _ hq), (List.forall_mem_cons.2 ⟨(List.mem_append_right _ List.mem_cons_self), (List.forall_mem_cons.2 ⟨(List.mem_append_right _ (List.mem_cons_of_mem _ List.mem_cons_self)), (fun p hp => by cases hp)⟩)⟩)⟩)) (by kernel_rfl) ?_
            refine gd_done ?_
            refine gl_atE (by kernel_rfl) ?_
            obtain rfl := some_inj hj96
            exact ge_mid fun t ht => ⟨(Imm.refl _), rfl, ht.pick (l := [0, 3, 4, 86]) (by kernel_rfl)⟩
          · have hj96 := cond_f hc116 hj96
            refine gd_pure 3 [0, 3, 4, 45, 58, 61] (K' := [(0, .pointer (some ⟨g0, 0, none⟩)), (3, .pointer (some ⟨gb1, 0, none⟩)), (4, .int .i64 s76.2), (45, .bool true), (58, .bool false), (61, .pointer (some ⟨g0, 0, none⟩))]) (s' := [(19, true), (20, true), (21, true), (22, true), (23, true), (24, true), (25, true), (26, true), (27, true), (28, true), (29, true), (30, true), (31, true), (32, true), (33, true), (34, true), (35, true), (36, true), (37, true), (38, true), (39, true), (40, true), (41, true), (42, true), (43, true)]) (CC.refl (List.forall_mem_append.2 ⟨fun q hq => (List.mem_append_left _ hq), (List.forall_mem_cons.2 ⟨(List.mem_append_right _ List.mem_cons_self), (List.forall_mem_cons.2 ⟨(List.mem_append_right _ (List.mem_cons_of_mem _ List.mem_cons_self)), (fun p hp => by cases hp)⟩)⟩)⟩)) (by kernel_rfl) ?_
            refine gd_q (v := .slice A80 s76.1.length n81) (by kernel_rfl) (by kernel_rfl) (CC.refl (List.forall_mem_append.2 ⟨fun q hq => (List.mem_append_left _ hq), (List.forall_mem_cons.2 ⟨(List.mem_append_right _ List.mem_cons_self), (List.forall_mem_cons.2 ⟨(List.mem_append_right _ (List.mem_cons_of_mem _ List.mem_cons_self)), (fun p hp => by cases hp)⟩)⟩)⟩)) (fun I' L' T hC kk => gl_loadB (T' := 29) (xp := (.tmp 61)) (v := .slice A80 s76.1.length n81) (g := g0) (off := 0) (cs := #[.slice A80 s76.1.length n81]) (e := T0) (fz := (0, 0)) (by kernel_rfl) (by kernel_rfl) (by kernel_rfl) (hC.sub _ (List.mem_append_right _ List.mem_cons_self)) (by kernel_rfl) kk) ?_
            refine gd_pure 2 [0, 3, 4, 45, 58, 62, 64] (K' := [(0, .pointer (some ⟨g0, 0, none⟩)), (3, .pointer (some ⟨gb1, 0, none⟩)), (4, .int .i64 s76.2), (45, .bool true), (58, .bool false), (62, .slice A80 s76.1.length n81), (64, .int .i64 (IntKind.wrap .i64 (s76.2 - 1)))]) (s' := [(22, true), (23, true), (24, true), (25, true), (26, true), (27, true), (28, true), (29, true), (30, true), (31, true), (32, true), (33, true), (34, true), (35, true), (36, true), (37, true), (38, true), (39, true), (40, true), (41, true), (42, true), (43, true)]) (CC.refl (List.forall_mem_append.2 ⟨fun q hq => (List.mem_append_left _ hq), (List.forall_mem_cons.2 ⟨(List.mem_append_right _ List.mem_cons_self), (List.forall_mem_cons.2 ⟨(List.mem_append_right _ (List.mem_cons_of_mem _ List.mem_cons_self)), (fun p hp => by cases hp)⟩)⟩)⟩)) (by kernel_rfl) ?_
            obtain ⟨x117, hx118, hj96⟩ := bind_some hj96
            obtain ⟨p119, cs120, hR121, hA122, ha123, hg131⟩ := OwnS.ixAtG hx118 hO83
            have hi124 := ix_some hx118
            obtain ⟨A125, n126, A128, n129, hf127, hf130, rfl⟩ := kS23_open hR121
            refine gd_q (v := .pointer (some p119)) (by kernel_rfl) (by kernel_rfl) (CC.refl (List.forall_mem_append.2 ⟨fun q hq => (List.mem_append_left _ hq), (List.forall_mem_cons.2 ⟨(List.mem_append_right _ List.mem_cons_self), (List.forall_mem_cons.2 ⟨(List.mem_append_right _ (List.mem_cons_of_mem _ List.mem_cons_self)), (fun p hp => by cases hp)⟩)⟩)⟩)) (fun I' L' T hC kk => gl_indexAddrF (c := n81) (T' := 29) (e := 24) (xs := (.tmp 62)) (xi := (.tmp 64)) (kd := .i64) ha123 hi124.1 hi124.2.1 (by kernel_rfl) (by kernel_rfl) (by kernel_rfl) (by kernel_rfl) (by kernel_rfl) kk) ?_
            refine gd_pure 1 [0, 3, 4, 45, 58, 66] (K' := [(0, .pointer (some ⟨g0, 0, none⟩)), (3, .pointer (some ⟨gb1, 0, none⟩)), (4, .int .i64 s76.2), (45, .bool true), (58, .bool false), (66, .pointer (some (p119.add 0)))]) (s' := [(24, true), (25, true), (26, true), (27, true), (28, true), (29, true), (30, true), (31, true), (32, true), (33, true), (34, true), (35, true), (36, true), (37, true), (38, true), (39, true), (40, true), (41, true), (42, true), (43, true)]) (CC.refl (List.forall_mem_append.2 ⟨fun q hq => (List.mem_append_left _ hq), (List.forall_mem_cons.2 ⟨(List.mem_append_right _ List.mem_cons_self), (List.forall_mem_cons.2 ⟨(List.mem_append_right _ (List.mem_cons_of_mem _ List.mem_cons_self)), (fun p hp => by cases hp)⟩)⟩)⟩)) (by kernel_rfl) ?_
            refine gd_q (v := .string x117.f0) (by kernel_rfl) (by kernel_rfl) (CC.refl (List.forall_mem_append.2 ⟨fun q hq => (List.mem_append_left _ hq), (List.forall_mem_cons.2 ⟨(List.mem_append_right _ List.mem_cons_self), (List.forall_mem_cons.2 ⟨(List.mem_append_right _ (List.mem_cons_of_mem _ List.mem_cons_self)), (fun p hp => by cases hp)⟩)⟩)⟩)) (fun I' L' T hC kk => gl_loadO (T' := 9) (xp := (.tmp 66)) (p := (p119.add 0)) (c := .string x117.f0) (n := 1) (by kernel_rfl) (by kernel_rfl) (by kernel_rfl) (by kernel_rfl) ((fun I' L' h => (hA122 I' L' h).drop 0) _ _ (fun q hq => hC.sub _ (List.mem_append_left _ hq))) kk) ?_
            refine gd_pure 1 [0, 3, 4, 45, 58, 67, 68] (K' := [(0, .pointer (some ⟨g0, 0, none⟩)), (3, .pointer (some ⟨gb1, 0, none⟩)), (4, .int .i64 s76.2), (45, .bool true), (58, .bool false), (67, .string x117.f0), (68, .pointer (some ⟨gb1, 0, none⟩))]) (s' := [(26, true), (27, true), (28, true), (29, true), (30, true), (31, true), (32, true), (33, true), (34, true), (35, true), (36, true), (37, true), (38, true), (39, true), (40, true), (41, true), (42, true), (43, true)]) (CC.refl (List.forall_mem_append.2 ⟨fun q hq => (List.mem_append_left _ hq), (List.forall_mem_cons.2 ⟨(List.mem_append_right _ List.mem_cons_self), (List.forall_mem_cons.2 ⟨(List.mem_append_right _ (List.mem_cons_of_mem _ List.mem_cons_self)), (fun p hp => by cases hp)⟩)⟩)⟩)) (by kernel_rfl) ?_
            refine gd_q (v := .string a1.f0) (by kernel_rfl) (by kernel_rfl) (CC.refl (List.forall_mem_append.2 ⟨fun q hq => (List.mem_append_left _ hq), (List.forall_mem_cons.2 ⟨(List.mem_append_right _ List.mem_cons_self), (List.forall_mem_cons.2 ⟨(List.mem_append_right _ (List.mem_cons_of_mem _ List.mem_cons_self)), (fun p hp => by cases hp)⟩)⟩)⟩)) (fun I' L' T hC kk => gl_loadB (T' := 9) (xp := (.tmp 68)) (v := .string a1.f0) (g := gb1) (off := 0) (cs := #[.string a1.f0, .string a1.f1, .int .i64 a1.f2, .slice A7 y2.length c8, .slice A16 y11.length c17]) (e := 24) (fz := (0, 0)) (by kernel_rfl) (by kernel_rfl) (by kernel_rfl) (hC.sub _ (List.mem_append_right _ (List.mem_cons_of_mem _ List.mem_cons_self))) (by kernel_rfl) kk) ?_
            refine gd_pure 2 [0, 3, 4, 45, 58, 71] (K' := [(0, .pointer (some ⟨g0, 0, none⟩)), (3, .pointer (some ⟨gb1, 0, none⟩)), (4, .int .i64 s76.2), (45, .bool true), (58, .bool false), (71, .bool (x117.f0.toList == a1.f0.toList))]) (s' := [(29, true), (30, true), (31, true), (32, true), (33, true), (34, true), (35, true), (36, true), (37, true), (38, true), (39, true), (40, true), (41, true), (42, true), (43, true)]) (CC.refl (List.forall_mem_append.2 ⟨fun q hq => (List.mem_append_left _ hq), (List.forall_mem_cons.2 ⟨(List.mem_append_right _ List.mem_cons_self), (List.forall_mem_cons.2 ⟨(List.mem_append_right _ (List.mem_cons_of_mem _ List.mem_cons_self)), (fun p hp => by cases hp)⟩)⟩)⟩)) (by kernel_rfl) ?_
            refine gd_case 71 (b := (x117.f0.toList == a1.f0.toList)) (by kernel_rfl) (fun hc132 => ?_) (fun hc132 => ?_)
            · have hj96 := cond_t hc132 hj96
              refine gd_pure 3 [0, 3, 4, 45, 58, 71, 74] (K' := [(0, .pointer (some ⟨g0, 0, none⟩)), (3, .pointer (some ⟨gb1, 0, none⟩)), (4, .int .i64 s76.2), (45, .bool true), (58, .bool false), (71, .bool true), (74, .pointer (some ⟨g0, 0, none⟩))]) (s' := [(32, true), (33, true), (34, true), (35, true), (36, true), (37, true), (38, true), (39, true), (40, true), (41, true), (42, true), (43, true)]) (CC.refl (List.forall_mem_append.2 ⟨fun q hq => (List.mem_append_left _ hq), (List.forall_mem_cons.2 ⟨(List.mem_append_right _ List.mem_cons_self), (List.forall_mem_cons.2 ⟨(List.mem_append_right _ (List.mem_cons_of_mem _ List.mem_cons_self)), (fun p hp => by cases hp)⟩)⟩)⟩)) (by kernel_rfl) ?_
              refine gd_q (v := .slice A80 s76.1.length n81) (by kernel_rfl) (by kernel_rfl) (CC.refl (List.forall_mem_append.2 ⟨fun q hq => (List.mem_append_left _ hq), (List.forall_mem_cons.2 ⟨(List.mem_append_right _ List.mem_cons_self), (List.forall_mem_cons.2 ⟨(List.mem_append_right _ (List.mem_cons_of_mem _ List.mem_cons_self)), (fun p hp => by cases hp)⟩)⟩)⟩)) (fun I' L' T hC kk => gl_loadB (T' := 29) (xp := (.tmp 74)) (v := .slice A80 s76.1.length n81) (g := g0) (off := 0) (cs := #[.slice A80 s76.1.length n81]) (e := T0) (fz := (0, 0)) (by kernel_rfl) (by kernel_rfl) (by kernel_rfl) (hC.sub _ (List.mem_append_right _ List.mem_cons_self)) (by kernel_rfl) kk) ?_
              refine gd_pure 2 [0, 3, 4, 45, 58, 71, 75, 77] (K' := [(0, .pointer (some ⟨g0, 0, none⟩)), (3, .pointer (some ⟨gb1, 0, none⟩)), (4, .int .i64 s76.2), (45, .bool true), (58, .bool false), (71, .bool true), (75, .slice A80 s76.1.length n81), (77, .int .i64 (IntKind.wrap .i64 (s76.2 - 1)))]) (s' := [(35, true), (36, true), (37, true), (38, true), (39, true), (40, true), (41, true), (42, true), (43, true)]) (CC.refl (List.forall_mem_append.2 ⟨fun q hq => (List.mem_append_left _ hq), (List.forall_mem_cons.2 ⟨(List.mem_append_right _ List.mem_cons_self), (List.forall_mem_cons.2 ⟨(List.mem_append_right _ (List.mem_cons_of_mem _ List.mem_cons_self)), (fun p hp => by cases hp)⟩)⟩)⟩)) (by kernel_rfl) ?_
              obtain ⟨x133, hx134, hj96⟩ := bind_some hj96
              obtain ⟨p135, cs136, hR137, hA138, ha139, hg147⟩ := OwnS.ixAtG hx134 hO83
              have hi140 := ix_some hx134
              obtain ⟨A141, n142, A144, n145, hf143, hf146, rfl⟩ := kS23_open hR137
              refine gd_q (v := .pointer (some p135)) (by kernel_rfl) (by kernel_rfl) (CC.refl (List.forall_mem_append.2 ⟨fun q hq => (List.mem_append_left _ hq), (List.forall_mem_cons.2 ⟨(List.mem_append_right _ List.mem_cons_self), (List.forall_mem_cons.2 ⟨(List.mem_append_right _ (List.mem_cons_of_mem _ List.mem_cons_self)), (fun p hp => by cases hp)⟩)⟩)⟩)) (fun I' L' T hC kk => gl_indexAddrF (c := n81) (T' := 29) (e := 24) (xs := (.tmp 75)) (xi := (.tmp 77)) (kd := .i64) ha139 hi140.1 hi140.2.1 (by kernel_rfl) (by kernel_rfl) (by kernel_rfl) (by kernel_rfl) (by kernel_rfl) kk) ?_
              refine gd_pure 1 [0, 3, 4, 45, 58, 71, 79] (K' := [(0, .pointer (some ⟨g0, 0, none⟩)), (3, .pointer (some ⟨gb1, 0, none⟩)), (4, .int .i64 s76.2), (45, .bool true), (58, .bool false), (71, .bool true), (79, .pointer (some (p135.add 1)))]) (s' := [(37, true), (38, true), (39, true), (40, true), (41, true), (42, true), (43, true)]) (CC.refl (List.forall_mem_append.2 ⟨fun q hq => (List.mem_append_left _ hq), (List.forall_mem_cons.2 ⟨(List.mem_append_right _ List.mem_cons_self), (List.forall_mem_cons.2 ⟨(List.mem_append_right _ (List.mem_cons_of_mem _ List.mem_cons_self)), (fun p hp => by cases hp)⟩)⟩)⟩)) (by kernel_rfl) ?_
              refine gd_q (v := .string x133.f1) (by kernel_rfl) (by kernel_rfl) (CC.refl (List.forall_mem_append.2 ⟨fun q hq => (List.mem_append_left _ hq), (List.forall_mem_cons.2 ⟨(List.mem_append_right _ List.mem_cons_self), (List.forall_mem_cons.2 ⟨(List.mem_append_right _ (List.mem_cons_of_mem _ List.mem_cons_self)), (fun p hp => by cases hp)⟩)⟩)⟩)) (fun I' L' T hC kk => gl_loadO (T' := 9) (xp := (.tmp 79)) (p := (p135.add 1)) (c := .string x133.f1) (n := 1) (by kernel_rfl) (by kernel_rfl) (by kernel_rfl) (by kernel_rfl) ((fun I' L' h => (hA138 I' L' h).drop 1) _ _ (fun q hq => hC.sub _ (List.mem_append_left _ hq))) kk) ?_
              refine gd_pure 1 [0, 3, 4, 45, 58, 71, 80, 81] (K' := [(0, .pointer (some ⟨g0, 0, none⟩)), (3, .pointer (some ⟨gb1, 0, none⟩)), (4, .int .i64 s76.2), (45, .bool true), (58, .bool false), (71, .bool true), (80, .string x133.f1), (81, .pointer (some ⟨gb1, 1, none⟩))]) (s' := [(39, true), (40, true), (41, true), (42, true), (43, true)]) (CC.refl (List.forall_mem_append.2 ⟨fun q hq => (List.mem_append_left _ hq), (List.forall_mem_cons.2 ⟨(List.mem_append_right _ List.mem_cons_self), (List.forall_mem_cons.2 ⟨(List.mem_append_right _ (List.mem_cons_of_mem _ List.mem_cons_self)), (fun p hp => by cases hp)⟩)⟩)⟩)) (by kernel_rfl) ?_
              refine gd_q (v := .string a1.f1) (by kernel_rfl) (by kernel_rfl) (CC.refl (List.forall_mem_append.2 ⟨fun q hq => (List.mem_append_left _ hq), (List.forall_mem_cons.2 ⟨(List.mem_append_right _ List.mem_cons_self), (List.forall_mem_cons.2 ⟨(List.mem_append_right _ (List.mem_cons_of_mem _ List.mem_cons_self)), (fun p hp => by cases hp)⟩)⟩)⟩)) (fun I' L' T hC kk => gl_loadB (T' := 9) (xp := (.tmp 81)) (v := .string a1.f1) (g := gb1) (off := 1) (cs := #[.string a1.f0, .string a1.f1, .int .i64 a1.f2, .slice A7 y2.length c8, .slice A16 y11.length c17]) (e := 24) (fz := (0, 0)) (by kernel_rfl) (by kernel_rfl) (by kernel_rfl) (hC.sub _ (List.mem_append_right _ (List.mem_cons_of_mem _ List.mem_cons_self))) (by kernel_rfl) kk) ?_
              refine gd_pure 4 [0, 3, 4, 86] (K' := [(0, .pointer (some ⟨g0, 0, none⟩)), (3, .pointer (some ⟨gb1, 0, none⟩)), (4, .int .i64 s76.2), (86, .bool (!((Op.bytesLess x133.f1.toList a1.f1.toList) || (x133.f1.toList == a1.f1.toList))))]) (s' := []) (CC.refl (List.forall_mem_append.2 ⟨fun q hq => (List.mem_append_left _ hq), (List.forall_mem_cons.2 ⟨(List.mem_append_right _ List.mem_cons_self), (List.forall_mem_cons.2 ⟨(List.mem_append_right _ (List.mem_cons_of_mem _ List.mem_cons_self)), (fun p hp => by cases hp)⟩)⟩)⟩)) (by kernel_rfl) ?_
              refine gd_done ?_
              refine gl_atE (by kernel_rfl) ?_
              obtain rfl := some_inj hj96
              exact ge_mid fun t ht => ⟨(Imm.refl _), rfl, ht.pick (l := [0, 3, 4, 86]) (by kernel_rfl)⟩
            · have hj96 := cond_f hc132 hj96
              refine gd_pure 15 [0, 3, 4, 86] (K' := [(0, .pointer (some ⟨g0, 0, none⟩)), (3, .pointer (some ⟨gb1, 0, none⟩)), (4, .int .i64 s76.2), (86, .bool false)]) (s' := []) (CC.refl (List.forall_mem_append.2 ⟨fun q hq => (List.mem_append_left _ hq), (List.forall_mem_cons.2 ⟨(List.mem_append_right _ List.mem_cons_self), (List.forall_mem_cons.2 ⟨(List.mem_append_right _ (List.mem_cons_of_mem _ List.mem_cons_self)), (fun p hp => by cases hp)⟩)⟩)⟩)) (by kernel_rfl) ?_
              refine gd_done ?_
              refine gl_atE (by kernel_rfl) ?_
              obtain rfl := some_inj hj96
              exact ge_mid fun t ht => ⟨(Imm.refl _), rfl, ht.pick (l := [0, 3, 4, 86]) (by kernel_rfl)⟩
        · have hj96 := cond_f hc100 hj96
          refine gd_pure 41 [0, 3, 4, 86] (K' := [(0, .pointer (some ⟨g0, 0, none⟩)), (3, .pointer (some ⟨gb1, 0, none⟩)), (4, .int .i64 s76.2), (86, .bool false)]) (s' := []) (CC.refl (List.forall_mem_append.2 ⟨fun q hq => (List.mem_append_left _ hq), (List.forall_mem_cons.2 ⟨(List.mem_append_right _ List.mem_cons_self), (List.forall_mem_cons.2 ⟨(List.mem_append_right _ (List.mem_cons_of_mem _ List.mem_cons_self)), (fun p hp => by cases hp)⟩)⟩)⟩)) (by kernel_rfl) ?_
          refine gd_done ?_
          refine gl_atE (by kernel_rfl) ?_
          obtain rfl := some_inj hj96
          exact ge_mid fun t ht => ⟨(Imm.refl _), rfl, ht.pick (l := [0, 3, 4, 86]) (by kernel_rfl)⟩
      · rintro t I99 L' ⟨hI97, rfl, hK98⟩
        refine ge_at hK98 ?_
        refine ge_seq ?_
        refine gk_cond (b := j95) (by kernel_rfl) (by kernel_rfl) (fun hc148 => ?_) (fun hc148 => ?_)
        · have hb78 := cond_t hc148 hb78
          refine gk_skip (by kernel_rfl) ?_
          refine ge_seq ?_
          refine gk_block (by kernel_rfl) ?_
          refine gk_seq (by kernel_rfl) ?_
          refine gk_draw 14 [(0, true), (1, true), (2, true), (3, true), (4, true), (5, true), (6, true), (7, true), (8, true), (9, true), (10, true), (11, true), (12, true), (13, false)] (C82 ++ [(g0, .cells #[.slice A80 s76.1.length n81] T0), (gb1, .cells #[.string a1.f0, .string a1.f1, .int .i64 a1.f2, .slice A7 y2.length c8, .slice A16 y11.length c17] 24)]) (List.forall_mem_append.2 ⟨fun q hq => (List.mem_append_left _ hq), (List.forall_mem_cons.2 ⟨(List.mem_append_right _ List.mem_cons_self), (List.forall_mem_cons.2 ⟨(List.mem_append_right _ (List.mem_cons_of_mem _ List.mem_cons_self)), (fun p hp => by cases hp)⟩)⟩)⟩) (by kernel_rfl) (by kernel_rfl) (by kernel_rfl) ?_ (by kernel_rfl)
          refine gd_pure 3 [0, 3, 4, 89] (K' := [(0, .pointer (some ⟨g0, 0, none⟩)), (3, .pointer (some ⟨gb1, 0, none⟩)), (4, .int .i64 s76.2), (89, .pointer (some ⟨g0, 0, none⟩))]) (s' := [(3, true), (4, true), (5, true), (6, true), (7, true), (8, true), (9, true), (10, true), (11, true), (12, true), (13, false)]) (CC.refl (List.forall_mem_append.2 ⟨fun q hq => (List.mem_append_left _ hq), (List.forall_mem_cons.2 ⟨(List.mem_append_right _ List.mem_cons_self), (List.forall_mem_cons.2 ⟨(List.mem_append_right _ (List.mem_cons_of_mem _ List.mem_cons_self)), (fun p hp => by cases hp)⟩)⟩)⟩)) (by kernel_rfl) ?_
          refine gd_q (v := .slice A80 s76.1.length n81) (by kernel_rfl) (by kernel_rfl) (CC.refl (List.forall_mem_append.2 ⟨fun q hq => (List.mem_append_left _ hq), (List.forall_mem_cons.2 ⟨(List.mem_append_right _ List.mem_cons_self), (List.forall_mem_cons.2 ⟨(List.mem_append_right _ (List.mem_cons_of_mem _ List.mem_cons_self)), (fun p hp => by cases hp)⟩)⟩)⟩)) (fun I' L' T hC kk => gl_loadB (T' := 29) (xp := (.tmp 89)) (v := .slice A80 s76.1.length n81) (g := g0) (off := 0) (cs := #[.slice A80 s76.1.length n81]) (e := T0) (fz := (0, 0)) (by kernel_rfl) (by kernel_rfl) (by kernel_rfl) (hC.sub _ (List.mem_append_right _ List.mem_cons_self)) (by kernel_rfl) kk) ?_
          refine gd_pure 4 [0, 3, 4, 90, 91, 94] (K' := [(0, .pointer (some ⟨g0, 0, none⟩)), (3, .pointer (some ⟨gb1, 0, none⟩)), (4, .int .i64 s76.2), (90, .slice A80 s76.1.length n81), (91, .int .i64 s76.2), (94, .pointer (some ⟨g0, 0, none⟩))]) (s' := [(8, true), (9, true), (10, true), (11, true), (12, true), (13, false)]) (CC.refl (List.forall_mem_append.2 ⟨fun q hq => (List.mem_append_left _ hq), (List.forall_mem_cons.2 ⟨(List.mem_append_right _ List.mem_cons_self), (List.forall_mem_cons.2 ⟨(List.mem_append_right _ (List.mem_cons_of_mem _ List.mem_cons_self)), (fun p hp => by cases hp)⟩)⟩)⟩)) (by kernel_rfl) ?_
          refine gd_q (v := .slice A80 s76.1.length n81) (by kernel_rfl) (by kernel_rfl) (CC.refl (List.forall_mem_append.2 ⟨fun q hq => (List.mem_append_left _ hq), (List.forall_mem_cons.2 ⟨(List.mem_append_right _ List.mem_cons_self), (List.forall_mem_cons.2 ⟨(List.mem_append_right _ (List.mem_cons_of_mem _ List.mem_cons_self)), (fun p hp => by cases hp)⟩)⟩)⟩)) (fun I' L' T hC kk => gl_loadB (T' := 29) (xp := (.tmp 94)) (v := .slice A80 s76.1.length n81) (g := g0) (off := 0) (cs := #[.slice A80 s76.1.length n81]) (e := T0) (fz := (0, 0)) (by kernel_rfl) (by kernel_rfl) (by kernel_rfl) (hC.sub _ (List.mem_append_right _ List.mem_cons_self)) (by kernel_rfl) kk) ?_
          refine gd_pure 2 [0, 3, 4, 90, 91, 95, 97] (K' := [(0, .pointer (some ⟨g0, 0, none⟩)), (3, .pointer (some ⟨gb1, 0, none⟩)), (4, .int .i64 s76.2), (90, .slice A80 s76.1.length n81), (91, .int .i64 s76.2), (95, .slice A80 s76.1.length n81), (97, .int .i64 (IntKind.wrap .i64 (s76.2 - 1)))]) (s' := [(11, true), (12, true), (13, false)]) (CC.refl (List.forall_mem_append.2 ⟨fun q hq => (List.mem_append_left _ hq), (List.forall_mem_cons.2 ⟨(List.mem_append_right _ List.mem_cons_self), (List.forall_mem_cons.2 ⟨(List.mem_append_right _ (List.mem_cons_of_mem _ List.mem_cons_self)), (fun p hp => by cases hp)⟩)⟩)⟩)) (by kernel_rfl) ?_
          obtain ⟨x149, hx150, hb78⟩ := bind_some hb78
          obtain ⟨p151, cs152, hR153, hA154, ha155, hg163⟩ := OwnS.ixAtG hx150 (hO83.mono hI97)
          have hi156 := ix_some hx150
          obtain ⟨A157, n158, A160, n161, hf159, hf162, rfl⟩ := kS23_open hR153
          refine gd_q (v := .pointer (some p151)) (by kernel_rfl) (by kernel_rfl) (CC.refl (List.forall_mem_append.2 ⟨fun q hq => (List.mem_append_left _ hq), (List.forall_mem_cons.2 ⟨(List.mem_append_right _ List.mem_cons_self), (List.forall_mem_cons.2 ⟨(List.mem_append_right _ (List.mem_cons_of_mem _ List.mem_cons_self)), (fun p hp => by cases hp)⟩)⟩)⟩)) (fun I' L' T hC kk => gl_indexAddrF (c := n81) (T' := 29) (e := 24) (xs := (.tmp 95)) (xi := (.tmp 97)) (kd := .i64) ha155 hi156.1 hi156.2.1 (by kernel_rfl) (by kernel_rfl) (by kernel_rfl) (by kernel_rfl) (by kernel_rfl) kk) ?_
          refine gd_q (v := .agg #[.string x149.f0, .string x149.f1, .int .i64 x149.f2, .slice A157 x149.f3.length n158, .slice A160 x149.f4.length n161]) (by kernel_rfl) (by kernel_rfl) (CC.refl (List.forall_mem_append.2 ⟨fun q hq => (List.mem_append_left _ hq), (List.forall_mem_cons.2 ⟨(List.mem_append_right _ List.mem_cons_self), (List.forall_mem_cons.2 ⟨(List.mem_append_right _ (List.mem_cons_of_mem _ List.mem_cons_self)), (fun p hp => by cases hp)⟩)⟩)⟩)) (fun I' L' T hC kk => gl_loadOA (T' := 24) (xp := (.tmp 98)) (p := p151) (cs := [.string x149.f0, .string x149.f1, .int .i64 x149.f2, .slice A157 x149.f3.length n158, .slice A160 x149.f4.length n161]) (by kernel_rfl) (by kernel_rfl) (by kernel_rfl) (by kernel_rfl) ((hA154 _ _ (fun q hq => hC.sub _ (List.mem_append_left _ hq))).take 5) kk) ?_
          refine gd_one (by kernel_rfl) ?_
          obtain ⟨x164, hx165, hb78⟩ := bind_some hb78
          refine gl_indexAddrW (d := kS23) (c := n81) (T' := 29) (e := 24) (xs := (.tmp 90)) (xi := (.tmp 91)) (kd := .i64) hx165 (hO83.mono hI97) (Upd.selfC _ _) (by kernel_rfl) (by kernel_rfl) (by kernel_rfl) (by kernel_rfl) (by kernel_rfl) (fun p166 cs167 hR168 hA169 hp178 => ?_)
          obtain ⟨A172, n173, A175, n176, hf174, hf177, rfl⟩ := kS23_open hR168
          refine gl_toD (by kernel_rfl) ⟨(Imm.refl _), (List.forall_mem_append.2 ⟨fun q hq => (List.mem_append_left _ hq), (List.forall_mem_cons.2 ⟨(List.mem_append_right _ List.mem_cons_self), (List.forall_mem_cons.2 ⟨(List.mem_append_right _ (List.mem_cons_of_mem _ List.mem_cons_self)), (fun p hp => by cases hp)⟩)⟩)⟩)⟩ ?_
          refine gd_done ?_
          have hl181 : s76.1.length = (lset s76.1 s76.2 x149).length := by simp [lset]
          refine gl_storeE (d := kS23) (T' := 24) (xp := (.tmp 100)) (xv := (.tmp 99)) (v := .agg #[.string x149.f0, .string x149.f1, .int .i64 x149.f2, .slice A157 x149.f3.length n158, .slice A160 x149.f4.length n161]) (off := 0) (y := x149) (fun X => X ++ ((g0, .cells #[.slice A80 s76.1.length n81] T0) :: ((gb1, .cells #[.string a1.f0, .string a1.f1, .int .i64 a1.f2, .slice A7 y2.length c8, .slice A16 y11.length c17] 24) :: L))) hx165 (hO83.mono hI97) (fun X => (Upd.head _ X _)) hp178 (by kernel_rfl) (by kernel_rfl) (by kernel_rfl) (by kernel_rfl) (by kernel_rfl) (by kernel_rfl) (fun cs h => by obtain ⟨A_3, c_3, A_4, c_4, h_3, h_4, rfl⟩ := kS23_open h; exact kS23_mk (x := x149) hf159 hf162) (by kernel_rfl) (fun C179 hO180 => ?_)
          try rw [hl181]
          refine gl_atE (by kernel_rfl) ?_
          refine ge_seq ?_
          refine gk_region (by kernel_rfl) ?_
          refine gl_pure 3 [0, 3, 4] (K' := [(0, .pointer (some ⟨g0, 0, none⟩)), (3, .pointer (some ⟨gb1, 0, none⟩)), (4, .int .i64 (IntKind.wrap .i64 (s76.2 - 1)))]) (by kernel_rfl) ?_
          refine gl_atE (by kernel_rfl) ?_
          refine ge_block_normal ?_
          obtain rfl := some_inj hb78
          exact ge_round fun t ht => ⟨A80, n81, C179, hO180, (Imm.trans hI79 hI97), rfl, ht.pick (l := [0, 3, 4]) (by kernel_rfl)⟩
        · have hb78 := cond_f hc148 hb78
          refine gk_exit (by kernel_rfl) ?_
          refine ge_seq_exit ?_
          obtain rfl := some_inj hb78
          refine ge_round_out (fun hrr => ?_) (by intro h; cases h)
          obtain rfl := hrr
          refine ge_block_hit (by kernel_rfl) ?_
          exact ge_mid fun t ht => ⟨A80, n81, C82, (hO83.mono hI97), (Imm.trans hI79 hI97), rfl, ht.pick (l := [0, 3, 4]) (by kernel_rfl)⟩
    · rintro t I92 L' ⟨A87, n88, C89, hO90, hI86, rfl, hK91⟩
      refine ge_at hK91 ?_
      refine ge_seq ?_
      refine gk_draw 7 [(0, true), (1, true), (2, true), (3, true), (4, true), (5, true), (6, false)] [(g0, .cells #[.slice A87 r74.2.length n88] T0), (gb1, .cells #[.string a1.f0, .string a1.f1, .int .i64 a1.f2, .slice A7 y2.length c8, .slice A16 y11.length c17] 24)] (List.forall_mem_cons.2 ⟨(List.mem_append_right _ List.mem_cons_self), (List.forall_mem_cons.2 ⟨(List.mem_append_right _ (List.mem_cons_of_mem _ List.mem_cons_self)), (fun p hp => by cases hp)⟩)⟩) (by kernel_rfl) (by kernel_rfl) (by kernel_rfl) ?_ (by kernel_rfl)
      refine gd_pure 3 [3, 4, 105] (K' := [(3, .pointer (some ⟨gb1, 0, none⟩)), (4, .int .i64 r74.1), (105, .pointer (some ⟨g0, 0, none⟩))]) (s' := [(3, true), (4, true), (5, true), (6, false)]) (CC.refl (List.forall_mem_cons.2 ⟨(List.mem_append_right _ List.mem_cons_self), (List.forall_mem_cons.2 ⟨(List.mem_append_right _ (List.mem_cons_of_mem _ List.mem_cons_self)), (fun p hp => by cases hp)⟩)⟩)) (by kernel_rfl) ?_
      refine gd_q (v := .slice A87 r74.2.length n88) (by kernel_rfl) (by kernel_rfl) (CC.refl (List.forall_mem_cons.2 ⟨(List.mem_append_right _ List.mem_cons_self), (List.forall_mem_cons.2 ⟨(List.mem_append_right _ (List.mem_cons_of_mem _ List.mem_cons_self)), (fun p hp => by cases hp)⟩)⟩)) (fun I' L' T hC kk => gl_loadB (T' := 29) (xp := (.tmp 105)) (v := .slice A87 r74.2.length n88) (g := g0) (off := 0) (cs := #[.slice A87 r74.2.length n88]) (e := T0) (fz := (0, 0)) (by kernel_rfl) (by kernel_rfl) (by kernel_rfl) (hC.sub _ List.mem_cons_self) (by kernel_rfl) kk) ?_
      refine gd_pure 1 [3, 106, 107] (K' := [(3, .pointer (some ⟨gb1, 0, none⟩)), (106, .slice A87 r74.2.length n88), (107, .int .i64 r74.1)]) (s' := [(5, true), (6, false)]) (CC.refl (List.forall_mem_cons.2 ⟨(List.mem_append_right _ List.mem_cons_self), (List.forall_mem_cons.2 ⟨(List.mem_append_right _ (List.mem_cons_of_mem _ List.mem_cons_self)), (fun p hp => by cases hp)⟩)⟩)) (by kernel_rfl) ?_
      refine gd_q (v := .agg #[.string a1.f0, .string a1.f1, .int .i64 a1.f2, .slice A7 y2.length c8, .slice A16 y11.length c17]) (by kernel_rfl) (by kernel_rfl) (CC.refl (List.forall_mem_cons.2 ⟨(List.mem_append_right _ List.mem_cons_self), (List.forall_mem_cons.2 ⟨(List.mem_append_right _ (List.mem_cons_of_mem _ List.mem_cons_self)), (fun p hp => by cases hp)⟩)⟩)) (fun I' L' T hC kk => gl_loadB (T' := 24) (xp := (.tmp 3)) (v := .agg #[.string a1.f0, .string a1.f1, .int .i64 a1.f2, .slice A7 y2.length c8, .slice A16 y11.length c17]) (g := gb1) (off := 0) (cs := #[.string a1.f0, .string a1.f1, .int .i64 a1.f2, .slice A7 y2.length c8, .slice A16 y11.length c17]) (e := 24) (fz := (0, 0)) (by kernel_rfl) (by kernel_rfl) (by kernel_rfl) (hC.sub _ (List.mem_cons_of_mem _ List.mem_cons_self)) (by kernel_rfl) kk) ?_
      refine gd_one (by kernel_rfl) ?_
      obtain ⟨x182, hx183, hr⟩ := bind_some hr
      refine gl_indexAddrW (d := kS23) (c := n88) (T' := 29) (e := 24) (xs := (.tmp 106)) (xi := (.tmp 107)) (kd := .i64) hx183 hO90 (Upd.selfC _ _) (by kernel_rfl) (by kernel_rfl) (by kernel_rfl) (by kernel_rfl) (by kernel_rfl) (fun p184 cs185 hR186 hA187 hp196 => ?_)
      obtain ⟨A190, n191, A193, n194, hf192, hf195, rfl⟩ := kS23_open hR186
      refine gl_toD (by kernel_rfl) ⟨(Imm.refl _), (List.forall_mem_cons.2 ⟨(List.mem_append_right _ List.mem_cons_self), (List.forall_mem_cons.2 ⟨(List.mem_append_right _ (List.mem_cons_of_mem _ List.mem_cons_self)), (fun p hp => by cases hp)⟩)⟩)⟩ ?_
      refine gd_done ?_
      have hl199 : r74.2.length = (lset r74.2 r74.1 (⟨a1.f0, a1.f1, a1.f2, y2, y11⟩ : S23)).length := by simp [lset]
      refine gl_storeE (d := kS23) (T' := 24) (xp := (.tmp 109)) (xv := (.tmp 108)) (v := .agg #[.string a1.f0, .string a1.f1, .int .i64 a1.f2, .slice A7 y2.length c8, .slice A16 y11.length c17]) (off := 0) (y := (⟨a1.f0, a1.f1, a1.f2, y2, y11⟩ : S23)) (fun X => X ++ ((g0, .cells #[.slice A87 r74.2.length n88] T0) :: ((gb1, .cells #[.string a1.f0, .string a1.f1, .int .i64 a1.f2, .slice A7 y2.length c8, .slice A16 y11.length c17] 24) :: L))) hx183 hO90 (fun X => (Upd.head _ X _)) hp196 (by kernel_rfl) (by kernel_rfl) (by kernel_rfl) (by kernel_rfl) (by kernel_rfl) (by kernel_rfl) (fun cs h => by obtain ⟨A_3, c_3, A_4, c_4, h_3, h_4, rfl⟩ := kS23_open h; exact kS23_mk (x := (⟨a1.f0, a1.f1, a1.f2, y2, y11⟩ : S23)) (hf55.mono hI86) (hf54.mono hI86)) (by kernel_rfl) (fun C197 hO198 => ?_)
      try rw [hl199]
      refine gl_reord (D := (g0, .cells #[.slice A87 (lset r74.2 r74.1 (⟨a1.f0, a1.f1, a1.f2, y2, y11⟩ : S23)).length n88] T0) :: (C197 ++ L)) (Reord.step1 (Upd.app _ (Upd.rm1 _ _)) (Reord.step (Upd.rmC _ _) (Reord.skip (Reord.refl _)))) ?_
      refine gl_atE (by kernel_rfl) ?_
      obtain rfl := some_inj hr
      exact ge_result trivial ResOk.nil (Imm.trans (Imm.trans (Imm.trans (Imm.trans hI6 hI15) hI24) hJ52) hI86) ⟨A87, n88, C197, hO198, rfl, rfl⟩
/-! 20 tocsinref26_Log_Put ('obj', 'imm') -/
noncomputable def tocsinref26_Log_Put (a0 : S30) (a1 : S23) : Option (Int × S30) :=
  Option.bind (tocsinref26_Right a1) fun (y2 : Int) =>
  bif (y2 != 0) then
  (some (y2, a0))
  else
  (Option.bind (tocsinref26_Log_find a0 a1.f0 a1.f1) fun (y5 : Int) =>
    Option.bind (bif (decide (y5 ≥ 0)) then
      (Option.bind (ix a0.f0 y5) fun (x16 : S23) =>
        some (decide (x16.f2 > a1.f2)))
      else
      (some false)) fun (j10 : Bool) =>
    bif j10 then
    (some (90, a0))
    else
    (bif ((decide (y5 < 0)) && (decide ((a0.f0.length : Int) ≥ 500))) then
      (some (8, a0))
      else
      (Option.bind (tocsinref26_Log_put a0 a1) fun (y39 : S30) =>
        some (0, y39))))
theorem tocsinref26_Log_Put_walk {a0 : S30} {g0 : Nat} {T0 : TypeId} {A0_0 : Option Addr} {c0_0 : Nat} {C0_0 : Own} {a1 : S23} {A1_3 : Option Addr} {n1_3 : Nat} {A1_4 : Option Addr} {n1_4 : Nat} {I : Imm} {r : Int × S30}  (hO0_0 : OwnS kS23 24 I A0_0 c0_0 a0.f0 C0_0)  (hf1_3 : RepS (Kd.sl kS53) I A1_3 n1_3 a1.f3) (hf1_4 : RepS (Kd.sl kS53) I A1_4 n1_4 a1.f4) (hr : tocsinref26_Log_Put a0 a1 = some r) (L : Own) :
    CallsTo Tryd.prog 20 #[.pointer (some ⟨g0, 0, none⟩), .agg #[.string a1.f0, .string a1.f1, .int .i64 a1.f2, .slice A1_3 a1.f3.length n1_3, .slice A1_4 a1.f4.length n1_4]] I ((g0, .cells #[.slice A0_0 a0.f0.length c0_0] T0) :: (C0_0 ++ L)) (fun v I' L' => ∃ A1_0 c1_0 C1_0, OwnS kS23 24 I' A1_0 c1_0 r.2.f0 C1_0 ∧ v = .int .i64 r.1 ∧ (g0, .cells #[.slice A1_0 r.2.f0.length c1_0] T0) :: (C1_0 ++ L) = L') := by
  unfold tocsinref26_Log_Put at hr
  refine callsTo_body (N := 46) Tryd.func20 (by kernel_rfl) (by kernel_rfl) (by kernel_rfl) ?_
  refine gk_pick [0, 1] (K' := [(0, .pointer (some ⟨g0, 0, none⟩)), (1, .agg #[.string a1.f0, .string a1.f1, .int .i64 a1.f2, .slice A1_3 a1.f3.length n1_3, .slice A1_4 a1.f4.length n1_4])]) (by kernel_rfl) ?_
  refine gk_seq (by kernel_rfl) ?_
  refine gk_region (by kernel_rfl) ?_
  refine gl_box (T' := 24) (x := (.tmp 1)) (v := .agg #[.string a1.f0, .string a1.f1, .int .i64 a1.f2, .slice A1_3 a1.f3.length n1_3, .slice A1_4 a1.f4.length n1_4]) (cs := #[.string a1.f0, .string a1.f1, .int .i64 a1.f2, .slice A1_3 a1.f3.length n1_3, .slice A1_4 a1.f4.length n1_4]) (by kernel_rfl) (by kernel_rfl) (by kernel_rfl) (by kernel_rfl) (fun gb1 => ?_)
  refine gl_pure 1 [0, 3] (K' := [(0, .pointer (some ⟨g0, 0, none⟩)), (3, .pointer (some ⟨gb1, 0, none⟩))]) (by kernel_rfl) ?_
  refine gl_atE (by kernel_rfl) ?_
  refine ge_seq ?_
  refine gk_seq (by kernel_rfl) ?_
  refine gk_seq (by kernel_rfl) ?_
  refine gk_region (by kernel_rfl) ?_
  refine gl_loadB (T' := 24) (xp := (.tmp 3)) (v := .agg #[.string a1.f0, .string a1.f1, .int .i64 a1.f2, .slice A1_3 a1.f3.length n1_3, .slice A1_4 a1.f4.length n1_4]) (g := gb1) (off := 0) (cs := #[.string a1.f0, .string a1.f1, .int .i64 a1.f2, .slice A1_3 a1.f3.length n1_3, .slice A1_4 a1.f4.length n1_4]) (e := 24) (fz := (0, 0)) (by kernel_rfl) (by kernel_rfl) (by kernel_rfl) List.mem_cons_self (by kernel_rfl) ?_
  obtain ⟨y2, hx3, hr⟩ := bind_some hr
  refine gl_callQ (by kernel_rfl) (tocsinref26_Right_walk (r := y2) hf1_3 hf1_4 hx3 _) ?_
  refine gl_pure 1 [0, 3, 5] (K' := [(0, .pointer (some ⟨g0, 0, none⟩)), (3, .pointer (some ⟨gb1, 0, none⟩)), (5, .int .i64 y2)]) (by kernel_rfl) ?_
  refine gl_atE (by kernel_rfl) ?_
  refine ge_seq ?_
  refine gk_seq (by kernel_rfl) ?_
  refine gk_region (by kernel_rfl) ?_
  refine gl_pure 2 [0, 3, 5, 10] (K' := [(0, .pointer (some ⟨g0, 0, none⟩)), (3, .pointer (some ⟨gb1, 0, none⟩)), (5, .int .i64 y2), (10, .bool (y2 != 0))]) (by kernel_rfl) ?_
  refine gl_atE (by kernel_rfl) ?_
  refine ge_seq ?_
  refine gk_cond (b := (y2 != 0)) (by kernel_rfl) (by kernel_rfl) (fun hc4 => ?_) (fun hc4 => ?_)
  · have hr := cond_t hc4 hr
    refine gk_seq (by kernel_rfl) ?_
    refine gk_region (by kernel_rfl) ?_
    refine gl_pure 2 [4] (K' := [(4, .int .i64 y2)]) (by kernel_rfl) ?_
    refine gl_atE (by kernel_rfl) ?_
    refine ge_seq ?_
    refine gk_reord (D := (g0, .cells #[.slice A0_0 a0.f0.length c0_0] T0) :: (C0_0 ++ L)) (Reord.step1 (Upd.one _ (Upd.rm1 _ _)) (Reord.step (Upd.one _ (Upd.rmC _ _)) (Reord.skip (Reord.refl _)))) ?_
    refine gk_ret (by kernel_rfl) ?_
    refine ge_seq_ret ?_
    obtain rfl := some_inj hr
    exact ge_result trivial (ResOk.tmp (by kernel_rfl) ResOk.nil) (Imm.refl _) ⟨A0_0, c0_0, C0_0, hO0_0, rfl, rfl⟩
  · have hr := cond_f hc4 hr
    refine gk_skip (by kernel_rfl) ?_
    refine ge_seq ?_
    refine gk_seq (by kernel_rfl) ?_
    refine gk_region (by kernel_rfl) ?_
    refine gl_pure 2 [0, 3, 12, 13] (K' := [(0, .pointer (some ⟨g0, 0, none⟩)), (3, .pointer (some ⟨gb1, 0, none⟩)), (12, .pointer (some ⟨g0, 0, none⟩)), (13, .pointer (some ⟨gb1, 0, none⟩))]) (by kernel_rfl) ?_
    refine gl_loadB (T' := 9) (xp := (.tmp 13)) (v := .string a1.f0) (g := gb1) (off := 0) (cs := #[.string a1.f0, .string a1.f1, .int .i64 a1.f2, .slice A1_3 a1.f3.length n1_3, .slice A1_4 a1.f4.length n1_4]) (e := 24) (fz := (0, 0)) (by kernel_rfl) (by kernel_rfl) (by kernel_rfl) List.mem_cons_self (by kernel_rfl) ?_
    refine gl_pure 1 [0, 3, 12, 14, 15] (K' := [(0, .pointer (some ⟨g0, 0, none⟩)), (3, .pointer (some ⟨gb1, 0, none⟩)), (12, .pointer (some ⟨g0, 0, none⟩)), (14, .string a1.f0), (15, .pointer (some ⟨gb1, 1, none⟩))]) (by kernel_rfl) ?_
    refine gl_loadB (T' := 9) (xp := (.tmp 15)) (v := .string a1.f1) (g := gb1) (off := 1) (cs := #[.string a1.f0, .string a1.f1, .int .i64 a1.f2, .slice A1_3 a1.f3.length n1_3, .slice A1_4 a1.f4.length n1_4]) (e := 24) (fz := (0, 0)) (by kernel_rfl) (by kernel_rfl) (by kernel_rfl) List.mem_cons_self (by kernel_rfl) ?_
    obtain ⟨y5, hx6, hr⟩ := bind_some hr
    refine gl_reord (D := (g0, .cells #[.slice A0_0 a0.f0.length c0_0] T0) :: (C0_0 ++ ((gb1, .cells #[.string a1.f0, .string a1.f1, .int .i64 a1.f2, .slice A1_3 a1.f3.length n1_3, .slice A1_4 a1.f4.length n1_4] 24) :: L))) (Reord.step1 (Upd.one _ (Upd.rm1 _ _)) (Reord.step (Upd.one _ (Upd.rmC _ _)) (Reord.step1 (Upd.rm1 _ _) (Reord.refl _)))) ?_
    refine gl_call (by kernel_rfl) (tocsinref26_Log_find_walk (r := y5) (g0 := g0) (T0 := T0) (A0_0 := A0_0) (c0_0 := c0_0) (C0_0 := C0_0) (a0 := a0) hO0_0 hx6 _) ?_
    rintro v I7 L8 hI9 ⟨rfl, rfl⟩
    refine gl_pure 1 [0, 3, 6] (K' := [(0, .pointer (some ⟨g0, 0, none⟩)), (3, .pointer (some ⟨gb1, 0, none⟩)), (6, .int .i64 y5)]) (by kernel_rfl) ?_
    refine gl_atE (by kernel_rfl) ?_
    refine ge_seq ?_
    refine gk_seq (by kernel_rfl) ?_
    refine gk_seq (by kernel_rfl) ?_
    obtain ⟨j10, hj11, hr⟩ := bind_some hr
    refine gk_join (fun t I' L' => I7 ≤ I' ∧ (g0, .cells #[.slice A0_0 a0.f0.length c0_0] T0) :: (C0_0 ++ ((gb1, .cells #[.string a1.f0, .string a1.f1, .int .i64 a1.f2, .slice A1_3 a1.f3.length n1_3, .slice A1_4 a1.f4.length n1_4] 24) :: L)) = L' ∧ Knows 46 [(0, .pointer (some ⟨g0, 0, none⟩)), (3, .pointer (some ⟨gb1, 0, none⟩)), (6, .int .i64 y5), (32, .bool j10)] t) ?_ ?_
    · refine gk_draw 15 [(0, true), (1, true), (2, true), (3, true), (4, true), (5, true), (6, true), (7, true), (8, true), (9, true), (10, true), (11, true), (12, true), (13, true), (14, true)] (C0_0 ++ [(g0, .cells #[.slice A0_0 a0.f0.length c0_0] T0), (gb1, .cells #[.string a1.f0, .string a1.f1, .int .i64 a1.f2, .slice A1_3 a1.f3.length n1_3, .slice A1_4 a1.f4.length n1_4] 24)]) (List.forall_mem_append.2 ⟨fun q hq => (List.mem_cons_of_mem _ (List.mem_append_left _ hq)), (List.forall_mem_cons.2 ⟨List.mem_cons_self, (List.forall_mem_cons.2 ⟨(List.mem_cons_of_mem _ (List.mem_append_right _ List.mem_cons_self)), (fun p hp => by cases hp)⟩)⟩)⟩) (by kernel_rfl) (by kernel_rfl) (by kernel_rfl) ?_ (by kernel_rfl)
      refine gd_pure 3 [0, 3, 6, 20] (K' := [(0, .pointer (some ⟨g0, 0, none⟩)), (3, .pointer (some ⟨gb1, 0, none⟩)), (6, .int .i64 y5), (20, .bool (decide (y5 ≥ 0)))]) (s' := [(3, true), (4, true), (5, true), (6, true), (7, true), (8, true), (9, true), (10, true), (11, true), (12, true), (13, true), (14, true)]) (CC.refl (List.forall_mem_append.2 ⟨fun q hq => (List.mem_cons_of_mem _ (List.mem_append_left _ hq)), (List.forall_mem_cons.2 ⟨List.mem_cons_self, (List.forall_mem_cons.2 ⟨(List.mem_cons_of_mem _ (List.mem_append_right _ List.mem_cons_self)), (fun p hp => by cases hp)⟩)⟩)⟩)) (by kernel_rfl) ?_
      refine gd_case 20 (b := (decide (y5 ≥ 0))) (by kernel_rfl) (fun hc15 => ?_) (fun hc15 => ?_)
      · have hj11 := cond_t hc15 hj11
        refine gd_pure 3 [0, 3, 6, 20, 23] (K' := [(0, .pointer (some ⟨g0, 0, none⟩)), (3, .pointer (some ⟨gb1, 0, none⟩)), (6, .int .i64 y5), (20, .bool true), (23, .pointer (some ⟨g0, 0, none⟩))]) (s' := [(6, true), (7, true), (8, true), (9, true), (10, true), (11, true), (12, true), (13, true), (14, true)]) (CC.refl (List.forall_mem_append.2 ⟨fun q hq => (List.mem_cons_of_mem _ (List.mem_append_left _ hq)), (List.forall_mem_cons.2 ⟨List.mem_cons_self, (List.forall_mem_cons.2 ⟨(List.mem_cons_of_mem _ (List.mem_append_right _ List.mem_cons_self)), (fun p hp => by cases hp)⟩)⟩)⟩)) (by kernel_rfl) ?_
        refine gd_q (v := .slice A0_0 a0.f0.length c0_0) (by kernel_rfl) (by kernel_rfl) (CC.refl (List.forall_mem_append.2 ⟨fun q hq => (List.mem_cons_of_mem _ (List.mem_append_left _ hq)), (List.forall_mem_cons.2 ⟨List.mem_cons_self, (List.forall_mem_cons.2 ⟨(List.mem_cons_of_mem _ (List.mem_append_right _ List.mem_cons_self)), (fun p hp => by cases hp)⟩)⟩)⟩)) (fun I' L' T hC kk => gl_loadB (T' := 29) (xp := (.tmp 23)) (v := .slice A0_0 a0.f0.length c0_0) (g := g0) (off := 0) (cs := #[.slice A0_0 a0.f0.length c0_0]) (e := T0) (fz := (0, 0)) (by kernel_rfl) (by kernel_rfl) (by kernel_rfl) (hC.sub _ (List.mem_append_right _ List.mem_cons_self)) (by kernel_rfl) kk) ?_
        refine gd_pure 1 [0, 3, 6, 20, 24, 25] (K' := [(0, .pointer (some ⟨g0, 0, none⟩)), (3, .pointer (some ⟨gb1, 0, none⟩)), (6, .int .i64 y5), (20, .bool true), (24, .slice A0_0 a0.f0.length c0_0), (25, .int .i64 y5)]) (s' := [(8, true), (9, true), (10, true), (11, true), (12, true), (13, true), (14, true)]) (CC.refl (List.forall_mem_append.2 ⟨fun q hq => (List.mem_cons_of_mem _ (List.mem_append_left _ hq)), (List.forall_mem_cons.2 ⟨List.mem_cons_self, (List.forall_mem_cons.2 ⟨(List.mem_cons_of_mem _ (List.mem_append_right _ List.mem_cons_self)), (fun p hp => by cases hp)⟩)⟩)⟩)) (by kernel_rfl) ?_
        obtain ⟨x16, hx17, hj11⟩ := bind_some hj11
        obtain ⟨p18, cs19, hR20, hA21, ha22, hg30⟩ := OwnS.ixAtG hx17 (hO0_0.mono hI9)
        have hi23 := ix_some hx17
        obtain ⟨A24, n25, A27, n28, hf26, hf29, rfl⟩ := kS23_open hR20
        refine gd_q (v := .pointer (some p18)) (by kernel_rfl) (by kernel_rfl) (CC.refl (List.forall_mem_append.2 ⟨fun q hq => (List.mem_cons_of_mem _ (List.mem_append_left _ hq)), (List.forall_mem_cons.2 ⟨List.mem_cons_self, (List.forall_mem_cons.2 ⟨(List.mem_cons_of_mem _ (List.mem_append_right _ List.mem_cons_self)), (fun p hp => by cases hp)⟩)⟩)⟩)) (fun I' L' T hC kk => gl_indexAddrF (c := c0_0) (T' := 29) (e := 24) (xs := (.tmp 24)) (xi := (.tmp 25)) (kd := .i64) ha22 hi23.1 hi23.2.1 (by kernel_rfl) (by kernel_rfl) (by kernel_rfl) (by kernel_rfl) (by kernel_rfl) kk) ?_
        refine gd_pure 1 [0, 3, 6, 20, 27] (K' := [(0, .pointer (some ⟨g0, 0, none⟩)), (3, .pointer (some ⟨gb1, 0, none⟩)), (6, .int .i64 y5), (20, .bool true), (27, .pointer (some (p18.add 2)))]) (s' := [(10, true), (11, true), (12, true), (13, true), (14, true)]) (CC.refl (List.forall_mem_append.2 ⟨fun q hq => (List.mem_cons_of_mem _ (List.mem_append_left _ hq)), (List.forall_mem_cons.2 ⟨List.mem_cons_self, (List.forall_mem_cons.2 ⟨(List.mem_cons_of_mem _ (List.mem_append_right _ List.mem_cons_self)), (fun p hp => by cases hp)⟩)⟩)⟩)) (by kernel_rfl) ?_
        refine gd_q (v := .int .i64 x16.f2) (by kernel_rfl) (by kernel_rfl) (CC.refl (List.forall_mem_append.2 ⟨fun q hq => (List.mem_cons_of_mem _ (List.mem_append_left _ hq)), (List.forall_mem_cons.2 ⟨List.mem_cons_self, (List.forall_mem_cons.2 ⟨(List.mem_cons_of_mem _ (List.mem_append_right _ List.mem_cons_self)), (fun p hp => by cases hp)⟩)⟩)⟩)) (fun I' L' T hC kk => gl_loadO (T' := 2) (xp := (.tmp 27)) (p := (p18.add 2)) (c := .int .i64 x16.f2) (n := 1) (by kernel_rfl) (by kernel_rfl) (by kernel_rfl) (by kernel_rfl) ((fun I' L' h => (hA21 I' L' h).drop 2) _ _ (fun q hq => hC.sub _ (List.mem_append_left _ hq))) kk) ?_
        refine gd_pure 1 [0, 3, 6, 20, 28, 29] (K' := [(0, .pointer (some ⟨g0, 0, none⟩)), (3, .pointer (some ⟨gb1, 0, none⟩)), (6, .int .i64 y5), (20, .bool true), (28, .int .i64 x16.f2), (29, .pointer (some ⟨gb1, 2, none⟩))]) (s' := [(12, true), (13, true), (14, true)]) (CC.refl (List.forall_mem_append.2 ⟨fun q hq => (List.mem_cons_of_mem _ (List.mem_append_left _ hq)), (List.forall_mem_cons.2 ⟨List.mem_cons_self, (List.forall_mem_cons.2 ⟨(List.mem_cons_of_mem _ (List.mem_append_right _ List.mem_cons_self)), (fun p hp => by cases hp)⟩)⟩)⟩)) (by kernel_rfl) ?_
        refine gd_q (v := .int .i64 a1.f2) (by kernel_rfl) (by kernel_rfl) (CC.refl (List.forall_mem_append.2 ⟨fun q hq => (List.mem_cons_of_mem _ (List.mem_append_left _ hq)), (List.forall_mem_cons.2 ⟨List.mem_cons_self, (List.forall_mem_cons.2 ⟨(List.mem_cons_of_mem _ (List.mem_append_right _ List.mem_cons_self)), (fun p hp => by cases hp)⟩)⟩)⟩)) (fun I' L' T hC kk => gl_loadB (T' := 2) (xp := (.tmp 29)) (v := .int .i64 a1.f2) (g := gb1) (off := 2) (cs := #[.string a1.f0, .string a1.f1, .int .i64 a1.f2, .slice A1_3 a1.f3.length n1_3, .slice A1_4 a1.f4.length n1_4]) (e := 24) (fz := (0, 0)) (by kernel_rfl) (by kernel_rfl) (by kernel_rfl) (hC.sub _ (List.mem_append_right _ (List.mem_cons_of_mem _ List.mem_cons_self))) (by kernel_rfl) kk) ?_
        refine gd_pure 2 [0, 3, 6, 32] (K' := [(0, .pointer (some ⟨g0, 0, none⟩)), (3, .pointer (some ⟨gb1, 0, none⟩)), (6, .int .i64 y5), (32, .bool (decide (x16.f2 > a1.f2)))]) (s' := []) (CC.refl (List.forall_mem_append.2 ⟨fun q hq => (List.mem_cons_of_mem _ (List.mem_append_left _ hq)), (List.forall_mem_cons.2 ⟨List.mem_cons_self, (List.forall_mem_cons.2 ⟨(List.mem_cons_of_mem _ (List.mem_append_right _ List.mem_cons_self)), (fun p hp => by cases hp)⟩)⟩)⟩)) (by kernel_rfl) ?_
        refine gd_done ?_
        refine gl_atE (by kernel_rfl) ?_
        obtain rfl := some_inj hj11
        exact ge_mid fun t ht => ⟨(Imm.refl _), rfl, ht.pick (l := [0, 3, 6, 32]) (by kernel_rfl)⟩
      · have hj11 := cond_f hc15 hj11
        refine gd_pure 12 [0, 3, 6, 32] (K' := [(0, .pointer (some ⟨g0, 0, none⟩)), (3, .pointer (some ⟨gb1, 0, none⟩)), (6, .int .i64 y5), (32, .bool false)]) (s' := []) (CC.refl (List.forall_mem_append.2 ⟨fun q hq => (List.mem_cons_of_mem _ (List.mem_append_left _ hq)), (List.forall_mem_cons.2 ⟨List.mem_cons_self, (List.forall_mem_cons.2 ⟨(List.mem_cons_of_mem _ (List.mem_append_right _ List.mem_cons_self)), (fun p hp => by cases hp)⟩)⟩)⟩)) (by kernel_rfl) ?_
        refine gd_done ?_
        refine gl_atE (by kernel_rfl) ?_
        obtain rfl := some_inj hj11
        exact ge_mid fun t ht => ⟨(Imm.refl _), rfl, ht.pick (l := [0, 3, 6, 32]) (by kernel_rfl)⟩
    · rintro t I14 L' ⟨hI12, rfl, hK13⟩
      refine ge_at hK13 ?_
      refine ge_seq ?_
      refine gk_cond (b := j10) (by kernel_rfl) (by kernel_rfl) (fun hc31 => ?_) (fun hc31 => ?_)
      · have hr := cond_t hc31 hr
        refine gk_seq (by kernel_rfl) ?_
        refine gk_region (by kernel_rfl) ?_
        refine gl_pure 1 [4] (K' := [(4, .int .i64 90)]) (by kernel_rfl) ?_
        refine gl_atE (by kernel_rfl) ?_
        refine ge_seq ?_
        refine gk_reord (D := (g0, .cells #[.slice A0_0 a0.f0.length c0_0] T0) :: (C0_0 ++ L)) (Reord.step1 (Upd.rm1 _ _) (Reord.step (Upd.rmC _ _) (Reord.skip (Reord.refl _)))) ?_
        refine gk_ret (by kernel_rfl) ?_
        refine ge_seq_ret ?_
        obtain rfl := some_inj hr
        exact ge_result trivial (ResOk.tmp (by kernel_rfl) ResOk.nil) (Imm.trans hI9 hI12) ⟨A0_0, c0_0, C0_0, (hO0_0.mono (Imm.trans hI9 hI12)), rfl, rfl⟩
      · have hr := cond_f hc31 hr
        refine gk_skip (by kernel_rfl) ?_
        refine ge_seq ?_
        refine gk_seq (by kernel_rfl) ?_
        refine gk_seq (by kernel_rfl) ?_
        obtain ⟨b34, hb35⟩ : ∃ z, z = ((decide (y5 < 0)) && (decide ((a0.f0.length : Int) ≥ 500))) := ⟨_, rfl⟩
        refine gk_join (fun t I' L' => I14 ≤ I' ∧ (g0, .cells #[.slice A0_0 a0.f0.length c0_0] T0) :: (C0_0 ++ ((gb1, .cells #[.string a1.f0, .string a1.f1, .int .i64 a1.f2, .slice A1_3 a1.f3.length n1_3, .slice A1_4 a1.f4.length n1_4] 24) :: L)) = L' ∧ Knows 46 [(0, .pointer (some ⟨g0, 0, none⟩)), (3, .pointer (some ⟨gb1, 0, none⟩)), (42, .bool b34)] t) ?_ ?_
        · refine gk_region (by kernel_rfl) ?_
          refine gl_pure 3 [0, 3, 35] (K' := [(0, .pointer (some ⟨g0, 0, none⟩)), (3, .pointer (some ⟨gb1, 0, none⟩)), (35, .bool (decide (y5 < 0)))]) (by kernel_rfl) ?_
          refine gl_case 35 (b := (decide (y5 < 0))) (by kernel_rfl) (fun hc37 => ?_) (fun hc37 => ?_)
          · refine gl_pure 3 [0, 3, 35, 38] (K' := [(0, .pointer (some ⟨g0, 0, none⟩)), (3, .pointer (some ⟨gb1, 0, none⟩)), (35, .bool true), (38, .pointer (some ⟨g0, 0, none⟩))]) (by kernel_rfl) ?_
            refine gl_loadB (T' := 29) (xp := (.tmp 38)) (v := .slice A0_0 a0.f0.length c0_0) (g := g0) (off := 0) (cs := #[.slice A0_0 a0.f0.length c0_0]) (e := T0) (fz := (0, 0)) (by kernel_rfl) (by kernel_rfl) (by kernel_rfl) List.mem_cons_self (by kernel_rfl) ?_
            refine gl_pure 3 [0, 3, 42] (K' := [(0, .pointer (some ⟨g0, 0, none⟩)), (3, .pointer (some ⟨gb1, 0, none⟩)), (42, .bool (decide ((a0.f0.length : Int) ≥ 500)))]) (by kernel_rfl) ?_
            refine gl_atE (by kernel_rfl) ?_
            exact ge_mid fun t ht => ⟨(Imm.refl _), rfl, by rw [(show b34 = (decide ((a0.f0.length : Int) ≥ 500)) from hb35.trans (by first | (rw [hc37]; done) | (rw [hc37]; rfl) | (simp [hc37]; done) | (simp only [hc37]; rfl) | (simp at *; omega)))]; exact ht.pick (l := [0, 3, 42]) (by kernel_rfl)⟩
          · refine gl_pure 7 [0, 3, 42] (K' := [(0, .pointer (some ⟨g0, 0, none⟩)), (3, .pointer (some ⟨gb1, 0, none⟩)), (42, .bool false)]) (by kernel_rfl) ?_
            refine gl_atE (by kernel_rfl) ?_
            exact ge_mid fun t ht => ⟨(Imm.refl _), rfl, by rw [(show b34 = false from hb35.trans (by first | (rw [hc37]; done) | (rw [hc37]; rfl) | (simp [hc37]; done) | (simp only [hc37]; rfl) | (simp at *; omega)))]; exact ht.pick (l := [0, 3, 42]) (by kernel_rfl)⟩
        · rintro t I36 L' ⟨hI32, rfl, hK33⟩
          subst hb35
          refine ge_at hK33 ?_
          refine ge_seq ?_
          refine gk_cond (b := ((decide (y5 < 0)) && (decide ((a0.f0.length : Int) ≥ 500)))) (by kernel_rfl) (by kernel_rfl) (fun hc38 => ?_) (fun hc38 => ?_)
          · have hr := cond_t hc38 hr
            refine gk_seq (by kernel_rfl) ?_
            refine gk_region (by kernel_rfl) ?_
            refine gl_pure 1 [4] (K' := [(4, .int .i64 8)]) (by kernel_rfl) ?_
            refine gl_atE (by kernel_rfl) ?_
            refine ge_seq ?_
            refine gk_reord (D := (g0, .cells #[.slice A0_0 a0.f0.length c0_0] T0) :: (C0_0 ++ L)) (Reord.step1 (Upd.rm1 _ _) (Reord.step (Upd.rmC _ _) (Reord.skip (Reord.refl _)))) ?_
            refine gk_ret (by kernel_rfl) ?_
            refine ge_seq_ret ?_
            obtain rfl := some_inj hr
            exact ge_result trivial (ResOk.tmp (by kernel_rfl) ResOk.nil) (Imm.trans (Imm.trans hI9 hI12) hI32) ⟨A0_0, c0_0, C0_0, (hO0_0.mono (Imm.trans (Imm.trans hI9 hI12) hI32)), rfl, rfl⟩
          · have hr := cond_f hc38 hr
            refine gk_skip (by kernel_rfl) ?_
            refine ge_seq ?_
            refine gk_seq (by kernel_rfl) ?_
            refine gk_region (by kernel_rfl) ?_
            refine gl_pure 1 [3, 43] (K' := [(3, .pointer (some ⟨gb1, 0, none⟩)), (43, .pointer (some ⟨g0, 0, none⟩))]) (by kernel_rfl) ?_
            refine gl_loadB (T' := 24) (xp := (.tmp 3)) (v := .agg #[.string a1.f0, .string a1.f1, .int .i64 a1.f2, .slice A1_3 a1.f3.length n1_3, .slice A1_4 a1.f4.length n1_4]) (g := gb1) (off := 0) (cs := #[.string a1.f0, .string a1.f1, .int .i64 a1.f2, .slice A1_3 a1.f3.length n1_3, .slice A1_4 a1.f4.length n1_4]) (e := 24) (fz := (0, 0)) (by kernel_rfl) (by kernel_rfl) (by kernel_rfl) (List.mem_cons_of_mem _ (List.mem_append_right _ List.mem_cons_self)) (by kernel_rfl) ?_
            obtain ⟨y39, hx40, hr⟩ := bind_some hr
            refine gl_call (by kernel_rfl) (tocsinref26_Log_put_walk (r := y39) (g0 := g0) (T0 := T0) (A0_0 := A0_0) (c0_0 := c0_0) (C0_0 := C0_0) (a0 := a0) (hO0_0.mono (Imm.trans (Imm.trans hI9 hI12) hI32)) (hf1_3.mono (Imm.trans (Imm.trans hI9 hI12) hI32)) (hf1_4.mono (Imm.trans (Imm.trans hI9 hI12) hI32)) hx40 _) ?_
            rintro v I41 L42 hI43 ⟨A44, c45, C46, hO47, rfl, rfl⟩
            refine gl_atE (by kernel_rfl) ?_
            refine ge_seq ?_
            refine gk_seq (by kernel_rfl) ?_
            refine gk_region (by kernel_rfl) ?_
            refine gl_pure 1 [4] (K' := [(4, .int .i64 0)]) (by kernel_rfl) ?_
            refine gl_atE (by kernel_rfl) ?_
            refine ge_seq ?_
            refine gk_reord (D := (g0, .cells #[.slice A44 y39.f0.length c45] T0) :: (C46 ++ L)) (Reord.step1 (Upd.rm1 _ _) (Reord.step (Upd.rmC _ _) (Reord.skip (Reord.refl _)))) ?_
            refine gk_ret (by kernel_rfl) ?_
            obtain rfl := some_inj hr
            exact ge_result trivial (ResOk.tmp (by kernel_rfl) ResOk.nil) (Imm.trans (Imm.trans (Imm.trans hI9 hI12) hI32) hI43) ⟨A44, c45, C46, hO47, rfl, rfl⟩
/-! 60 tocsinref04_Same  -/
noncomputable def tocsinref04_Same (a0 : List S53) (a1 : List S53) : Option Bool :=
  Option.bind (tocsinref04_Compare a0 a1) fun (y1 : Int) =>
  some (y1 == 0)
theorem tocsinref04_Same_walk {a0 : List S53} {A0_0 : Option Addr} {n0_0 : Nat} {a1 : List S53} {A1_0 : Option Addr} {n1_0 : Nat} {I : Imm} {r : Bool}  (hf0_0 : RepS kS53 I A0_0 n0_0 a0)  (hf1_0 : RepS kS53 I A1_0 n1_0 a1) (hr : tocsinref04_Same a0 a1 = some r) (L : Own) :
    CallsTo Tryd.prog 60 #[.slice A0_0 a0.length n0_0, .slice A1_0 a1.length n1_0] I L (fun v I' L' => v = .bool r ∧ L = L') := by
  unfold tocsinref04_Same at hr
  refine callsTo_body (N := 9) Tryd.func60 (by kernel_rfl) (by kernel_rfl) (by kernel_rfl) ?_
  refine gk_pick [0, 1] (K' := [(0, .slice A0_0 a0.length n0_0), (1, .slice A1_0 a1.length n1_0)]) (by kernel_rfl) ?_
  refine gk_seq (by kernel_rfl) ?_
  refine gk_region (by kernel_rfl) ?_
  refine gl_pure 1 [0, 1] (K' := [(0, .slice A0_0 a0.length n0_0), (1, .slice A1_0 a1.length n1_0)]) (by kernel_rfl) ?_
  refine gl_atE (by kernel_rfl) ?_
  refine ge_seq ?_
  refine gk_seq (by kernel_rfl) ?_
  refine gk_region (by kernel_rfl) ?_
  refine gl_pure 2 [5, 6] (K' := [(5, .slice A0_0 a0.length n0_0), (6, .slice A1_0 a1.length n1_0)]) (by kernel_rfl) ?_
  obtain ⟨y1, hx2, hr⟩ := bind_some hr
  refine gl_callQ (by kernel_rfl) (tocsinref04_Compare_walk (r := y1) hf0_0 hf1_0 hx2 _) ?_
  refine gl_pure 2 [4] (K' := [(4, .bool (y1 == 0))]) (by kernel_rfl) ?_
  refine gl_atE (by kernel_rfl) ?_
  refine ge_seq ?_
  refine gk_ret (by kernel_rfl) ?_
  obtain rfl := some_inj hr
  exact ge_result trivial (ResOk.tmp (by kernel_rfl) ResOk.nil) (Imm.refl _) ⟨rfl, rfl⟩
/-! 41 tocsinref26_SameSets  -/
noncomputable def tocsinref26_SameSets_l18 (a0 : List (List S53)) (a1 : List (List S53)) : Int → Option ((Int) ⊕ ((Unit) ⊕ (Bool))) := fun s8 =>
  bif (decide (s8 < (a0.length : Int))) then
  (Option.bind (ix a0 s8) fun (x21 : List S53) =>
    Option.bind (ix a1 s8) fun (x32 : List S53) =>
    Option.bind (tocsinref04_Same x21 x32) fun (y43 : Bool) =>
    bif (!y43) then
    (some (Sum.inr (Sum.inr false)))
    else
    (some (Sum.inl (IntKind.wrap .i64 (s8 + 1)))))
  else
  (some (Sum.inr (Sum.inl ())))
noncomputable def tocsinref26_SameSets (a0 : List (List S53)) (a1 : List (List S53)) : Option Bool :=
  bif ((a0.length : Int) != (a1.length : Int)) then
  (some false)
  else
  (Option.bind (loopO (tocsinref26_SameSets_l18 a0 a1) 0) fun (r6 : (Unit) ⊕ (Bool)) =>
    match r6 with
    | Sum.inl r14 => some true
    | Sum.inr v46 => some v46)
theorem tocsinref26_SameSets_walk {a0 : List (List S53)} {A0_0 : Option Addr} {n0_0 : Nat} {a1 : List (List S53)} {A1_0 : Option Addr} {n1_0 : Nat} {I : Imm} {r : Bool}  (hf0_0 : RepS (Kd.sl kS53) I A0_0 n0_0 a0)  (hf1_0 : RepS (Kd.sl kS53) I A1_0 n1_0 a1) (hr : tocsinref26_SameSets a0 a1 = some r) (L : Own) :
    CallsTo Tryd.prog 41 #[.slice A0_0 a0.length n0_0, .slice A1_0 a1.length n1_0] I L (fun v I' L' => v = .bool r ∧ L = L') := by
  unfold tocsinref26_SameSets at hr
  refine callsTo_body (N := 27) Tryd.func41 (by kernel_rfl) (by kernel_rfl) (by kernel_rfl) ?_
  refine gk_pick [0, 1] (K' := [(0, .slice A0_0 a0.length n0_0), (1, .slice A1_0 a1.length n1_0)]) (by kernel_rfl) ?_
  refine gk_seq (by kernel_rfl) ?_
  refine gk_region (by kernel_rfl) ?_
  refine gl_pure 1 [0, 1] (K' := [(0, .slice A0_0 a0.length n0_0), (1, .slice A1_0 a1.length n1_0)]) (by kernel_rfl) ?_
  refine gl_atE (by kernel_rfl) ?_
  refine ge_seq ?_
  refine gk_seq (by kernel_rfl) ?_
  refine gk_seq (by kernel_rfl) ?_
  refine gk_region (by kernel_rfl) ?_
  refine gl_pure 5 [0, 1, 10] (K' := [(0, .slice A0_0 a0.length n0_0), (1, .slice A1_0 a1.length n1_0), (10, .bool ((a0.length : Int) != (a1.length : Int)))]) (by kernel_rfl) ?_
  refine gl_atE (by kernel_rfl) ?_
  refine ge_seq ?_
  refine gk_cond (b := ((a0.length : Int) != (a1.length : Int))) (by kernel_rfl) (by kernel_rfl) (fun hc1 => ?_) (fun hc1 => ?_)
  · have hr := cond_t hc1 hr
    refine gk_seq (by kernel_rfl) ?_
    refine gk_region (by kernel_rfl) ?_
    refine gl_pure 1 [4] (K' := [(4, .bool false)]) (by kernel_rfl) ?_
    refine gl_atE (by kernel_rfl) ?_
    refine ge_seq ?_
    refine gk_ret (by kernel_rfl) ?_
    refine ge_seq_ret ?_
    obtain rfl := some_inj hr
    exact ge_result trivial (ResOk.tmp (by kernel_rfl) ResOk.nil) (Imm.refl _) ⟨rfl, rfl⟩
  · have hr := cond_f hc1 hr
    refine gk_skip (by kernel_rfl) ?_
    refine ge_seq ?_
    refine gk_seq (by kernel_rfl) ?_
    refine gk_seq (by kernel_rfl) ?_
    refine gk_region (by kernel_rfl) ?_
    refine gl_pure 3 [0, 1, 12, 13] (K' := [(0, .slice A0_0 a0.length n0_0), (1, .slice A1_0 a1.length n1_0), (12, .int .i64 (a0.length : Int)), (13, .int .i64 0)]) (by kernel_rfl) ?_
    refine gl_atE (by kernel_rfl) ?_
    refine ge_seq ?_
    obtain ⟨r6, hl7, hr⟩ := bind_some hr
    refine gk_join (fun t I' L' => ∃ r14, r6 = Sum.inl r14 ∧ I ≤ I' ∧ L = L' ∧ Knows 27 [] t) ?_ ?_
    · refine gk_block (by kernel_rfl) ?_
      refine gk_pick [0, 1, 12, 13] (K' := [(0, .slice A0_0 a0.length n0_0), (1, .slice A1_0 a1.length n1_0), (12, .int .i64 (a0.length : Int)), (13, .int .i64 0)]) (by kernel_rfl) ?_
      intro t hK
      refine gc_loop (tocsinref26_SameSets_l18 a0 a1) (fun s8 t I' L' => I ≤ I' ∧ L = L' ∧ Knows 27 [(0, .slice A0_0 a0.length n0_0), (1, .slice A1_0 a1.length n1_0), (12, .int .i64 (a0.length : Int)), (13, .int .i64 s8)] t) (by kernel_rfl) ?_ hl7 ⟨(Imm.refl _), rfl, hK⟩
      rintro s8 o9 t I13 L' hb10 ⟨hI11, rfl, hK12⟩
      unfold tocsinref26_SameSets_l18 at hb10
      refine gk_at hK12 ?_
      refine gk_seq (by kernel_rfl) ?_
      refine gk_region (by kernel_rfl) ?_
      refine gl_pure 1 [0, 1, 12, 13, 14] (K' := [(0, .slice A0_0 a0.length n0_0), (1, .slice A1_0 a1.length n1_0), (12, .int .i64 (a0.length : Int)), (13, .int .i64 s8), (14, .bool (decide (s8 < (a0.length : Int))))]) (by kernel_rfl) ?_
      refine gl_atE (by kernel_rfl) ?_
      refine ge_seq ?_
      refine gk_seq (by kernel_rfl) ?_
      refine gk_cond (b := (decide (s8 < (a0.length : Int)))) (by kernel_rfl) (by kernel_rfl) (fun hc20 => ?_) (fun hc20 => ?_)
      · have hb10 := cond_t hc20 hb10
        refine gk_skip (by kernel_rfl) ?_
        refine ge_seq ?_
        refine gk_seq (by kernel_rfl) ?_
        refine gk_block (by kernel_rfl) ?_
        refine gk_seq (by kernel_rfl) ?_
        refine gk_region (by kernel_rfl) ?_
        refine gl_pure 2 [0, 1, 5, 12, 13] (K' := [(0, .slice A0_0 a0.length n0_0), (1, .slice A1_0 a1.length n1_0), (5, .int .i64 s8), (12, .int .i64 (a0.length : Int)), (13, .int .i64 s8)]) (by kernel_rfl) ?_
        refine gl_atE (by kernel_rfl) ?_
        refine ge_seq ?_
        refine gk_seq (by kernel_rfl) ?_
        refine gk_draw 8 [(0, true), (1, true), (2, true), (3, true), (4, true), (5, true), (6, true), (7, true)] [] (fun p hp => by cases hp) (by kernel_rfl) (by kernel_rfl) (by kernel_rfl) ?_ (by kernel_rfl)
        refine gd_pure 2 [0, 1, 5, 12, 13, 16, 17] (K' := [(0, .slice A0_0 a0.length n0_0), (1, .slice A1_0 a1.length n1_0), (5, .int .i64 s8), (12, .int .i64 (a0.length : Int)), (13, .int .i64 s8), (16, .slice A0_0 a0.length n0_0), (17, .int .i64 s8)]) (s' := [(2, true), (3, true), (4, true), (5, true), (6, true), (7, true)]) (CC.refl (fun p hp => by cases hp)) (by kernel_rfl) ?_
        obtain ⟨x21, hx22, hb10⟩ := bind_some hb10
        obtain ⟨p23, cs24, hR25, hA26, ha27⟩ := RepS.ixAt hx22 (hf0_0.mono hI11)
        have hi28 := ix_some hx22
        obtain ⟨A29, n30, rfl, hf31⟩ := sl_open hR25
        refine gd_q (v := .pointer (some p23)) (by kernel_rfl) (by kernel_rfl) (CC.refl (fun p hp => by cases hp)) (fun I' L' T hC kk => gl_indexAddrF (c := n0_0) (T' := 22) (e := 25) (xs := (.tmp 16)) (xi := (.tmp 17)) (kd := .i64) ha27 hi28.1 hi28.2.1 (by kernel_rfl) (by kernel_rfl) (by kernel_rfl) (by kernel_rfl) (by kernel_rfl) kk) ?_
        refine gd_q (v := .slice A29 x21.length n30) (by kernel_rfl) (by kernel_rfl) (CC.refl (fun p hp => by cases hp)) (fun I' L' T hC kk => gl_load (T' := 25) (xp := (.tmp 18)) (p := p23) (c := .slice A29 x21.length n30) (n := 1) (by kernel_rfl) (by kernel_rfl) (by kernel_rfl) (by kernel_rfl) (hA26.mono hC.le) kk) ?_
        refine gd_pure 2 [0, 1, 12, 13, 19, 20, 21] (K' := [(0, .slice A0_0 a0.length n0_0), (1, .slice A1_0 a1.length n1_0), (12, .int .i64 (a0.length : Int)), (13, .int .i64 s8), (19, .slice A29 x21.length n30), (20, .slice A1_0 a1.length n1_0), (21, .int .i64 s8)]) (s' := [(6, true), (7, true)]) (CC.refl (fun p hp => by cases hp)) (by kernel_rfl) ?_
        obtain ⟨x32, hx33, hb10⟩ := bind_some hb10
        obtain ⟨p34, cs35, hR36, hA37, ha38⟩ := RepS.ixAt hx33 (hf1_0.mono hI11)
        have hi39 := ix_some hx33
        obtain ⟨A40, n41, rfl, hf42⟩ := sl_open hR36
        refine gd_q (v := .pointer (some p34)) (by kernel_rfl) (by kernel_rfl) (CC.refl (fun p hp => by cases hp)) (fun I' L' T hC kk => gl_indexAddrF (c := n1_0) (T' := 22) (e := 25) (xs := (.tmp 20)) (xi := (.tmp 21)) (kd := .i64) ha38 hi39.1 hi39.2.1 (by kernel_rfl) (by kernel_rfl) (by kernel_rfl) (by kernel_rfl) (by kernel_rfl) kk) ?_
        refine gd_q (v := .slice A40 x32.length n41) (by kernel_rfl) (by kernel_rfl) (CC.refl (fun p hp => by cases hp)) (fun I' L' T hC kk => gl_load (T' := 25) (xp := (.tmp 22)) (p := p34) (c := .slice A40 x32.length n41) (n := 1) (by kernel_rfl) (by kernel_rfl) (by kernel_rfl) (by kernel_rfl) (hA37.mono hC.le) kk) ?_
        refine gd_done ?_
        obtain ⟨y43, hx44, hb10⟩ := bind_some hb10
        refine gl_callQ (by kernel_rfl) (tocsinref04_Same_walk (r := y43) hf31 hf42 hx44 _) ?_
        refine gl_pure 1 [0, 1, 12, 13, 25] (K' := [(0, .slice A0_0 a0.length n0_0), (1, .slice A1_0 a1.length n1_0), (12, .int .i64 (a0.length : Int)), (13, .int .i64 s8), (25, .bool (!y43))]) (by kernel_rfl) ?_
        refine gl_atE (by kernel_rfl) ?_
        refine ge_seq ?_
        refine gk_cond (b := (!y43)) (by kernel_rfl) (by kernel_rfl) (fun hc45 => ?_) (fun hc45 => ?_)
        · have hb10 := cond_t hc45 hb10
          refine gk_seq (by kernel_rfl) ?_
          refine gk_region (by kernel_rfl) ?_
          refine gl_pure 1 [4] (K' := [(4, .bool false)]) (by kernel_rfl) ?_
          refine gl_atE (by kernel_rfl) ?_
          refine ge_seq ?_
          refine gk_ret (by kernel_rfl) ?_
          refine ge_block_ret ?_
          refine ge_seq_ret ?_
          obtain rfl := some_inj hb10
          refine ge_round_out (fun hrr => ?_) (by intro h; cases h)
          obtain rfl := hrr
          refine ge_block_ret ?_
          refine ge_seq_ret ?_
          refine ge_seq_ret ?_
          obtain rfl := some_inj hr
          exact ge_result trivial (ResOk.tmp (by kernel_rfl) ResOk.nil) hI11 ⟨rfl, rfl⟩
        · have hb10 := cond_f hc45 hb10
          refine gk_skip (by kernel_rfl) ?_
          refine ge_block_normal ?_
          refine ge_seq ?_
          refine gk_region (by kernel_rfl) ?_
          refine gl_pure 2 [0, 1, 12, 13] (K' := [(0, .slice A0_0 a0.length n0_0), (1, .slice A1_0 a1.length n1_0), (12, .int .i64 (a0.length : Int)), (13, .int .i64 (IntKind.wrap .i64 (s8 + 1)))]) (by kernel_rfl) ?_
          refine gl_atE (by kernel_rfl) ?_
          obtain rfl := some_inj hb10
          exact ge_round fun t ht => ⟨hI11, rfl, ht.pick (l := [0, 1, 12, 13]) (by kernel_rfl)⟩
      · have hb10 := cond_f hc20 hb10
        refine gk_exit (by kernel_rfl) ?_
        refine ge_seq_exit ?_
        obtain rfl := some_inj hb10
        refine ge_round_out (fun hrr => ?_) (by intro h; cases h)
        obtain rfl := hrr
        refine ge_block_hit (by kernel_rfl) ?_
        exact ge_mid fun t ht => ⟨_, rfl, hI11, rfl, ht.pick (l := []) (by kernel_rfl)⟩
    · rintro t I17 L' ⟨r14, rfl, hI15, rfl, hK16⟩
      refine ge_at hK16 ?_
      refine ge_seq ?_
      refine gk_seq (by kernel_rfl) ?_
      refine gk_region (by kernel_rfl) ?_
      refine gl_pure 1 [4] (K' := [(4, .bool true)]) (by kernel_rfl) ?_
      refine gl_atE (by kernel_rfl) ?_
      refine ge_seq ?_
      refine gk_ret (by kernel_rfl) ?_
      obtain rfl := some_inj hr
      exact ge_result trivial (ResOk.tmp (by kernel_rfl) ResOk.nil) hI15 ⟨rfl, rfl⟩
/-! 21 tocsinref26_Same  -/
noncomputable def tocsinref26_Same (a0 : S23) (a1 : S23) : Option Bool :=
  Option.bind (bif (a0.f0.toList == a1.f0.toList) then
    (bif (a0.f1.toList == a1.f1.toList) then
      (bif (a0.f2 == a1.f2) then
        (Option.bind (tocsinref26_SameSets a0.f3 a1.f3) fun (y11 : Bool) =>
          bif y11 then
          (Option.bind (tocsinref26_SameSets a0.f4 a1.f4) fun (y14 : Bool) =>
            some y14)
          else
          (some false))
        else
        (some false))
      else
      (some false))
    else
    (some false)) fun (j3 : Bool) =>
  some j3
theorem tocsinref26_Same_walk {a0 : S23} {A0_3 : Option Addr} {n0_3 : Nat} {A0_4 : Option Addr} {n0_4 : Nat} {a1 : S23} {A1_3 : Option Addr} {n1_3 : Nat} {A1_4 : Option Addr} {n1_4 : Nat} {I : Imm} {r : Bool}  (hf0_3 : RepS (Kd.sl kS53) I A0_3 n0_3 a0.f3) (hf0_4 : RepS (Kd.sl kS53) I A0_4 n0_4 a0.f4)  (hf1_3 : RepS (Kd.sl kS53) I A1_3 n1_3 a1.f3) (hf1_4 : RepS (Kd.sl kS53) I A1_4 n1_4 a1.f4) (hr : tocsinref26_Same a0 a1 = some r) (L : Own) :
    CallsTo Tryd.prog 21 #[.agg #[.string a0.f0, .string a0.f1, .int .i64 a0.f2, .slice A0_3 a0.f3.length n0_3, .slice A0_4 a0.f4.length n0_4], .agg #[.string a1.f0, .string a1.f1, .int .i64 a1.f2, .slice A1_3 a1.f3.length n1_3, .slice A1_4 a1.f4.length n1_4]] I L (fun v I' L' => v = .bool r ∧ L = L') := by
  unfold tocsinref26_Same at hr
  refine callsTo_body (N := 38) Tryd.func21 (by kernel_rfl) (by kernel_rfl) (by kernel_rfl) ?_
  refine gk_pick [0, 1] (K' := [(0, .agg #[.string a0.f0, .string a0.f1, .int .i64 a0.f2, .slice A0_3 a0.f3.length n0_3, .slice A0_4 a0.f4.length n0_4]), (1, .agg #[.string a1.f0, .string a1.f1, .int .i64 a1.f2, .slice A1_3 a1.f3.length n1_3, .slice A1_4 a1.f4.length n1_4])]) (by kernel_rfl) ?_
  refine gk_seq (by kernel_rfl) ?_
  refine gk_region (by kernel_rfl) ?_
  refine gl_box (T' := 24) (x := (.tmp 0)) (v := .agg #[.string a0.f0, .string a0.f1, .int .i64 a0.f2, .slice A0_3 a0.f3.length n0_3, .slice A0_4 a0.f4.length n0_4]) (cs := #[.string a0.f0, .string a0.f1, .int .i64 a0.f2, .slice A0_3 a0.f3.length n0_3, .slice A0_4 a0.f4.length n0_4]) (by kernel_rfl) (by kernel_rfl) (by kernel_rfl) (by kernel_rfl) (fun gb1 => ?_)
  refine gl_box (T' := 24) (x := (.tmp 1)) (v := .agg #[.string a1.f0, .string a1.f1, .int .i64 a1.f2, .slice A1_3 a1.f3.length n1_3, .slice A1_4 a1.f4.length n1_4]) (cs := #[.string a1.f0, .string a1.f1, .int .i64 a1.f2, .slice A1_3 a1.f3.length n1_3, .slice A1_4 a1.f4.length n1_4]) (by kernel_rfl) (by kernel_rfl) (by kernel_rfl) (by kernel_rfl) (fun g2 => ?_)
  refine gl_pure 1 [2, 3] (K' := [(2, .pointer (some ⟨gb1, 0, none⟩)), (3, .pointer (some ⟨g2, 0, none⟩))]) (by kernel_rfl) ?_
  refine gl_atE (by kernel_rfl) ?_
  refine ge_seq ?_
  refine gk_seq (by kernel_rfl) ?_
  obtain ⟨j3, hj4, hr⟩ := bind_some hr
  refine gk_join (fun t I' L' => I ≤ I' ∧ L = L' ∧ Knows 38 [(4, .bool j3)] t) ?_ ?_
  · refine gk_region (by kernel_rfl) ?_
    refine gl_pure 1 [2, 3, 5] (K' := [(2, .pointer (some ⟨gb1, 0, none⟩)), (3, .pointer (some ⟨g2, 0, none⟩)), (5, .pointer (some ⟨gb1, 0, none⟩))]) (by kernel_rfl) ?_
    refine gl_loadB (T' := 9) (xp := (.tmp 5)) (v := .string a0.f0) (g := gb1) (off := 0) (cs := #[.string a0.f0, .string a0.f1, .int .i64 a0.f2, .slice A0_3 a0.f3.length n0_3, .slice A0_4 a0.f4.length n0_4]) (e := 24) (fz := (0, 0)) (by kernel_rfl) (by kernel_rfl) (by kernel_rfl) (List.mem_cons_of_mem _ List.mem_cons_self) (by kernel_rfl) ?_
    refine gl_pure 1 [2, 3, 6, 7] (K' := [(2, .pointer (some ⟨gb1, 0, none⟩)), (3, .pointer (some ⟨g2, 0, none⟩)), (6, .string a0.f0), (7, .pointer (some ⟨g2, 0, none⟩))]) (by kernel_rfl) ?_
    refine gl_loadB (T' := 9) (xp := (.tmp 7)) (v := .string a1.f0) (g := g2) (off := 0) (cs := #[.string a1.f0, .string a1.f1, .int .i64 a1.f2, .slice A1_3 a1.f3.length n1_3, .slice A1_4 a1.f4.length n1_4]) (e := 24) (fz := (0, 0)) (by kernel_rfl) (by kernel_rfl) (by kernel_rfl) List.mem_cons_self (by kernel_rfl) ?_
    refine gl_pure 2 [2, 3, 10] (K' := [(2, .pointer (some ⟨gb1, 0, none⟩)), (3, .pointer (some ⟨g2, 0, none⟩)), (10, .bool (a0.f0.toList == a1.f0.toList))]) (by kernel_rfl) ?_
    refine gl_case 10 (b := (a0.f0.toList == a1.f0.toList)) (by kernel_rfl) (fun hc8 => ?_) (fun hc8 => ?_)
    · have hj4 := cond_t hc8 hj4
      refine gl_pure 1 [2, 3, 10, 11] (K' := [(2, .pointer (some ⟨gb1, 0, none⟩)), (3, .pointer (some ⟨g2, 0, none⟩)), (10, .bool true), (11, .pointer (some ⟨gb1, 1, none⟩))]) (by kernel_rfl) ?_
      refine gl_loadB (T' := 9) (xp := (.tmp 11)) (v := .string a0.f1) (g := gb1) (off := 1) (cs := #[.string a0.f0, .string a0.f1, .int .i64 a0.f2, .slice A0_3 a0.f3.length n0_3, .slice A0_4 a0.f4.length n0_4]) (e := 24) (fz := (0, 0)) (by kernel_rfl) (by kernel_rfl) (by kernel_rfl) (List.mem_cons_of_mem _ List.mem_cons_self) (by kernel_rfl) ?_
      refine gl_pure 1 [2, 3, 10, 12, 13] (K' := [(2, .pointer (some ⟨gb1, 0, none⟩)), (3, .pointer (some ⟨g2, 0, none⟩)), (10, .bool true), (12, .string a0.f1), (13, .pointer (some ⟨g2, 1, none⟩))]) (by kernel_rfl) ?_
      refine gl_loadB (T' := 9) (xp := (.tmp 13)) (v := .string a1.f1) (g := g2) (off := 1) (cs := #[.string a1.f0, .string a1.f1, .int .i64 a1.f2, .slice A1_3 a1.f3.length n1_3, .slice A1_4 a1.f4.length n1_4]) (e := 24) (fz := (0, 0)) (by kernel_rfl) (by kernel_rfl) (by kernel_rfl) List.mem_cons_self (by kernel_rfl) ?_
      refine gl_pure 3 [2, 3, 17] (K' := [(2, .pointer (some ⟨gb1, 0, none⟩)), (3, .pointer (some ⟨g2, 0, none⟩)), (17, .bool (a0.f1.toList == a1.f1.toList))]) (by kernel_rfl) ?_
      refine gl_case 17 (b := (a0.f1.toList == a1.f1.toList)) (by kernel_rfl) (fun hc9 => ?_) (fun hc9 => ?_)
      · have hj4 := cond_t hc9 hj4
        refine gl_pure 1 [2, 3, 17, 18] (K' := [(2, .pointer (some ⟨gb1, 0, none⟩)), (3, .pointer (some ⟨g2, 0, none⟩)), (17, .bool true), (18, .pointer (some ⟨gb1, 2, none⟩))]) (by kernel_rfl) ?_
        refine gl_loadB (T' := 2) (xp := (.tmp 18)) (v := .int .i64 a0.f2) (g := gb1) (off := 2) (cs := #[.string a0.f0, .string a0.f1, .int .i64 a0.f2, .slice A0_3 a0.f3.length n0_3, .slice A0_4 a0.f4.length n0_4]) (e := 24) (fz := (0, 0)) (by kernel_rfl) (by kernel_rfl) (by kernel_rfl) (List.mem_cons_of_mem _ List.mem_cons_self) (by kernel_rfl) ?_
        refine gl_pure 1 [2, 3, 17, 19, 20] (K' := [(2, .pointer (some ⟨gb1, 0, none⟩)), (3, .pointer (some ⟨g2, 0, none⟩)), (17, .bool true), (19, .int .i64 a0.f2), (20, .pointer (some ⟨g2, 2, none⟩))]) (by kernel_rfl) ?_
        refine gl_loadB (T' := 2) (xp := (.tmp 20)) (v := .int .i64 a1.f2) (g := g2) (off := 2) (cs := #[.string a1.f0, .string a1.f1, .int .i64 a1.f2, .slice A1_3 a1.f3.length n1_3, .slice A1_4 a1.f4.length n1_4]) (e := 24) (fz := (0, 0)) (by kernel_rfl) (by kernel_rfl) (by kernel_rfl) List.mem_cons_self (by kernel_rfl) ?_
        refine gl_pure 3 [2, 3, 24] (K' := [(2, .pointer (some ⟨gb1, 0, none⟩)), (3, .pointer (some ⟨g2, 0, none⟩)), (24, .bool (a0.f2 == a1.f2))]) (by kernel_rfl) ?_
        refine gl_case 24 (b := (a0.f2 == a1.f2)) (by kernel_rfl) (fun hc10 => ?_) (fun hc10 => ?_)
        · have hj4 := cond_t hc10 hj4
          refine gl_pure 1 [2, 3, 24, 25] (K' := [(2, .pointer (some ⟨gb1, 0, none⟩)), (3, .pointer (some ⟨g2, 0, none⟩)), (24, .bool true), (25, .pointer (some ⟨gb1, 3, none⟩))]) (by kernel_rfl) ?_
          refine gl_loadB (T' := 22) (xp := (.tmp 25)) (v := .slice A0_3 a0.f3.length n0_3) (g := gb1) (off := 3) (cs := #[.string a0.f0, .string a0.f1, .int .i64 a0.f2, .slice A0_3 a0.f3.length n0_3, .slice A0_4 a0.f4.length n0_4]) (e := 24) (fz := (0, 0)) (by kernel_rfl) (by kernel_rfl) (by kernel_rfl) (List.mem_cons_of_mem _ List.mem_cons_self) (by kernel_rfl) ?_
          refine gl_pure 1 [2, 3, 24, 26, 27] (K' := [(2, .pointer (some ⟨gb1, 0, none⟩)), (3, .pointer (some ⟨g2, 0, none⟩)), (24, .bool true), (26, .slice A0_3 a0.f3.length n0_3), (27, .pointer (some ⟨g2, 3, none⟩))]) (by kernel_rfl) ?_
          refine gl_loadB (T' := 22) (xp := (.tmp 27)) (v := .slice A1_3 a1.f3.length n1_3) (g := g2) (off := 3) (cs := #[.string a1.f0, .string a1.f1, .int .i64 a1.f2, .slice A1_3 a1.f3.length n1_3, .slice A1_4 a1.f4.length n1_4]) (e := 24) (fz := (0, 0)) (by kernel_rfl) (by kernel_rfl) (by kernel_rfl) List.mem_cons_self (by kernel_rfl) ?_
          obtain ⟨y11, hx12, hj4⟩ := bind_some hj4
          refine gl_callQ (by kernel_rfl) (tocsinref26_SameSets_walk (r := y11) hf0_3 hf1_3 hx12 _) ?_
          refine gl_pure 2 [2, 3, 31] (K' := [(2, .pointer (some ⟨gb1, 0, none⟩)), (3, .pointer (some ⟨g2, 0, none⟩)), (31, .bool y11)]) (by kernel_rfl) ?_
          refine gl_case 31 (b := y11) (by kernel_rfl) (fun hc13 => ?_) (fun hc13 => ?_)
          · have hj4 := cond_t hc13 hj4
            refine gl_pure 1 [3, 31, 32] (K' := [(3, .pointer (some ⟨g2, 0, none⟩)), (31, .bool true), (32, .pointer (some ⟨gb1, 4, none⟩))]) (by kernel_rfl) ?_
            refine gl_loadB (T' := 22) (xp := (.tmp 32)) (v := .slice A0_4 a0.f4.length n0_4) (g := gb1) (off := 4) (cs := #[.string a0.f0, .string a0.f1, .int .i64 a0.f2, .slice A0_3 a0.f3.length n0_3, .slice A0_4 a0.f4.length n0_4]) (e := 24) (fz := (0, 0)) (by kernel_rfl) (by kernel_rfl) (by kernel_rfl) (List.mem_cons_of_mem _ List.mem_cons_self) (by kernel_rfl) ?_
            refine gl_pure 1 [31, 33, 34] (K' := [(31, .bool true), (33, .slice A0_4 a0.f4.length n0_4), (34, .pointer (some ⟨g2, 4, none⟩))]) (by kernel_rfl) ?_
            refine gl_loadB (T' := 22) (xp := (.tmp 34)) (v := .slice A1_4 a1.f4.length n1_4) (g := g2) (off := 4) (cs := #[.string a1.f0, .string a1.f1, .int .i64 a1.f2, .slice A1_3 a1.f3.length n1_3, .slice A1_4 a1.f4.length n1_4]) (e := 24) (fz := (0, 0)) (by kernel_rfl) (by kernel_rfl) (by kernel_rfl) List.mem_cons_self (by kernel_rfl) ?_
            obtain ⟨y14, hx15, hj4⟩ := bind_some hj4
            refine gl_callQ (by kernel_rfl) (tocsinref26_SameSets_walk (r := y14) hf0_4 hf1_4 hx15 _) ?_
            refine gl_pure 2 [4] (K' := [(4, .bool y14)]) (by kernel_rfl) ?_
            refine gl_reord (D := L) (Reord.skip (Reord.skip (Reord.refl _))) ?_
            refine gl_atE (by kernel_rfl) ?_
            obtain rfl := some_inj hj4
            exact ge_mid fun t ht => ⟨(Imm.refl _), rfl, ht.pick (l := [4]) (by kernel_rfl)⟩
          · have hj4 := cond_f hc13 hj4
            refine gl_pure 7 [4] (K' := [(4, .bool false)]) (by kernel_rfl) ?_
            refine gl_reord (D := L) (Reord.skip (Reord.skip (Reord.refl _))) ?_
            refine gl_atE (by kernel_rfl) ?_
            obtain rfl := some_inj hj4
            exact ge_mid fun t ht => ⟨(Imm.refl _), rfl, ht.pick (l := [4]) (by kernel_rfl)⟩
        · have hj4 := cond_f hc10 hj4
          refine gl_pure 14 [4] (K' := [(4, .bool false)]) (by kernel_rfl) ?_
          refine gl_reord (D := L) (Reord.skip (Reord.skip (Reord.refl _))) ?_
          refine gl_atE (by kernel_rfl) ?_
          obtain rfl := some_inj hj4
          exact ge_mid fun t ht => ⟨(Imm.refl _), rfl, ht.pick (l := [4]) (by kernel_rfl)⟩
      · have hj4 := cond_f hc9 hj4
        refine gl_pure 21 [4] (K' := [(4, .bool false)]) (by kernel_rfl) ?_
        refine gl_reord (D := L) (Reord.skip (Reord.skip (Reord.refl _))) ?_
        refine gl_atE (by kernel_rfl) ?_
        obtain rfl := some_inj hj4
        exact ge_mid fun t ht => ⟨(Imm.refl _), rfl, ht.pick (l := [4]) (by kernel_rfl)⟩
    · have hj4 := cond_f hc8 hj4
      refine gl_pure 28 [4] (K' := [(4, .bool false)]) (by kernel_rfl) ?_
      refine gl_reord (D := L) (Reord.skip (Reord.skip (Reord.refl _))) ?_
      refine gl_atE (by kernel_rfl) ?_
      obtain rfl := some_inj hj4
      exact ge_mid fun t ht => ⟨(Imm.refl _), rfl, ht.pick (l := [4]) (by kernel_rfl)⟩
  · rintro t I7 L' ⟨hI5, rfl, hK6⟩
    refine ge_at hK6 ?_
    refine ge_seq ?_
    refine gk_ret (by kernel_rfl) ?_
    obtain rfl := some_inj hr
    exact ge_result trivial (ResOk.tmp (by kernel_rfl) ResOk.nil) hI5 ⟨rfl, rfl⟩
/-! 23 tocsinref26_Log_Find ('obj', 'imm', 'imm') -/
noncomputable def tocsinref26_Log_Find (a0 : S30) (a1 : ByteArray) (a2 : ByteArray) : Option (S23 × Bool) :=
  Option.bind (tocsinref26_Log_find a0 a1 a2) fun (y2 : Int) =>
  bif (decide (y2 < 0)) then
  (some ((⟨(⟨#[]⟩ : ByteArray), (⟨#[]⟩ : ByteArray), 0, [], []⟩ : S23), false))
  else
  (Option.bind (ix a0.f0 y2) fun (x12 : S23) =>
    some (x12, true))
theorem tocsinref26_Log_Find_walk {a0 : S30} {g0 : Nat} {T0 : TypeId} {A0_0 : Option Addr} {c0_0 : Nat} {C0_0 : Own} {a1 : ByteArray} {a2 : ByteArray} {I : Imm} {r : S23 × Bool}  (hO0_0 : OwnS kS23 24 I A0_0 c0_0 a0.f0 C0_0) (hr : tocsinref26_Log_Find a0 a1 a2 = some r) (L : Own) :
    CallsTo Tryd.prog 23 #[.pointer (some ⟨g0, 0, none⟩), .string a1, .string a2] I ((g0, .cells #[.slice A0_0 a0.f0.length c0_0] T0) :: (C0_0 ++ L)) (fun v I' L' => ∃ A0_3 c0_3 A0_4 c0_4, RepS (Kd.sl kS53) I' A0_3 c0_3 r.1.f3 ∧ RepS (Kd.sl kS53) I' A0_4 c0_4 r.1.f4 ∧ v = .tuple #[.agg #[.string r.1.f0, .string r.1.f1, .int .i64 r.1.f2, .slice A0_3 r.1.f3.length c0_3, .slice A0_4 r.1.f4.length c0_4], .bool r.2] ∧ (g0, .cells #[.slice A0_0 a0.f0.length c0_0] T0) :: (C0_0 ++ L) = L') := by
  unfold tocsinref26_Log_Find at hr
  refine callsTo_body (N := 23) Tryd.func23 (by kernel_rfl) (by kernel_rfl) (by kernel_rfl) ?_
  refine gk_pick [0, 1, 2] (K' := [(0, .pointer (some ⟨g0, 0, none⟩)), (1, .string a1), (2, .string a2)]) (by kernel_rfl) ?_
  refine gk_seq (by kernel_rfl) ?_
  refine gk_region (by kernel_rfl) ?_
  refine gl_alloc (T' := 24) (cs := #[.string (⟨#[]⟩ : ByteArray), .string (⟨#[]⟩ : ByteArray), .int .i64 0, .slice none 0 0, .slice none 0 0]) (by kernel_rfl) (by kernel_rfl) (by kernel_rfl) (fun gb1 => ?_)
  refine gl_pure 1 [0, 1, 2, 6] (K' := [(0, .pointer (some ⟨g0, 0, none⟩)), (1, .string a1), (2, .string a2), (6, .pointer (some ⟨gb1, 0, none⟩))]) (by kernel_rfl) ?_
  refine gl_atE (by kernel_rfl) ?_
  refine ge_seq ?_
  refine gk_seq (by kernel_rfl) ?_
  refine gk_region (by kernel_rfl) ?_
  refine gl_pure 3 [0, 6, 9, 10, 11] (K' := [(0, .pointer (some ⟨g0, 0, none⟩)), (6, .pointer (some ⟨gb1, 0, none⟩)), (9, .pointer (some ⟨g0, 0, none⟩)), (10, .string a1), (11, .string a2)]) (by kernel_rfl) ?_
  obtain ⟨y2, hx3, hr⟩ := bind_some hr
  refine gl_reord (D := (g0, .cells #[.slice A0_0 a0.f0.length c0_0] T0) :: (C0_0 ++ ((gb1, .cells #[.string (⟨#[]⟩ : ByteArray), .string (⟨#[]⟩ : ByteArray), .int .i64 0, .slice none 0 0, .slice none 0 0] 24) :: L))) (Reord.step1 (Upd.one _ (Upd.rm1 _ _)) (Reord.step (Upd.one _ (Upd.rmC _ _)) (Reord.step1 (Upd.rm1 _ _) (Reord.refl _)))) ?_
  refine gl_call (by kernel_rfl) (tocsinref26_Log_find_walk (r := y2) (g0 := g0) (T0 := T0) (A0_0 := A0_0) (c0_0 := c0_0) (C0_0 := C0_0) (a0 := a0) hO0_0 hx3 _) ?_
  rintro v I4 L5 hI6 ⟨rfl, rfl⟩
  refine gl_pure 1 [0, 6, 8] (K' := [(0, .pointer (some ⟨g0, 0, none⟩)), (6, .pointer (some ⟨gb1, 0, none⟩)), (8, .int .i64 y2)]) (by kernel_rfl) ?_
  refine gl_atE (by kernel_rfl) ?_
  refine ge_seq ?_
  refine gk_seq (by kernel_rfl) ?_
  refine gk_seq (by kernel_rfl) ?_
  refine gk_region (by kernel_rfl) ?_
  refine gl_pure 2 [0, 6, 8, 14] (K' := [(0, .pointer (some ⟨g0, 0, none⟩)), (6, .pointer (some ⟨gb1, 0, none⟩)), (8, .int .i64 y2), (14, .bool (decide (y2 < 0)))]) (by kernel_rfl) ?_
  refine gl_atE (by kernel_rfl) ?_
  refine ge_seq ?_
  refine gk_cond (b := (decide (y2 < 0))) (by kernel_rfl) (by kernel_rfl) (fun hc7 => ?_) (fun hc7 => ?_)
  · have hr := cond_t hc7 hr
    refine gk_seq (by kernel_rfl) ?_
    refine gk_region (by kernel_rfl) ?_
    refine gl_pure 1 [6, 15] (K' := [(6, .pointer (some ⟨gb1, 0, none⟩)), (15, .agg #[.string (⟨#[]⟩ : ByteArray), .string (⟨#[]⟩ : ByteArray), .int .i64 0, .slice none 0 0, .slice none 0 0])]) (by kernel_rfl) ?_
    refine gl_storeB (T' := 24) (xp := (.tmp 6)) (xv := (.tmp 15)) (v := .agg #[.string (⟨#[]⟩ : ByteArray), .string (⟨#[]⟩ : ByteArray), .int .i64 0, .slice none 0 0, .slice none 0 0]) (g := gb1) (off := 0) (cs := #[.string (⟨#[]⟩ : ByteArray), .string (⟨#[]⟩ : ByteArray), .int .i64 0, .slice none 0 0, .slice none 0 0]) (cs' := #[.string (⟨#[]⟩ : ByteArray), .string (⟨#[]⟩ : ByteArray), .int .i64 0, .slice none 0 0, .slice none 0 0]) (by kernel_rfl) (by kernel_rfl) (by kernel_rfl) (by kernel_rfl) (by kernel_rfl) (Upd.one _ (Upd.app _ (Upd.set _ _ _ _))) ?_ (by kernel_rfl)
    refine gl_pure 1 [6, 7] (K' := [(6, .pointer (some ⟨gb1, 0, none⟩)), (7, .bool false)]) (by kernel_rfl) ?_
    refine gl_atE (by kernel_rfl) ?_
    refine ge_seq ?_
    refine gk_rest (Tk.step (Upd.one _ (Upd.app _ (Upd.rm1 _ _))) (Tk.nil _)) (fun J8 hJ9 hC10 => ?_)
    have hf11 := hC10.left.blk
    refine gk_ret (by kernel_rfl) ?_
    refine ge_seq_ret ?_
    obtain rfl := some_inj hr
    exact ge_result trivial (ResOk.cell (v := .agg #[.string (⟨#[]⟩ : ByteArray), .string (⟨#[]⟩ : ByteArray), .int .i64 0, .slice none 0 0, .slice none 0 0]) (by kernel_rfl) (loadR_agg (cs := [.string (⟨#[]⟩ : ByteArray), .string (⟨#[]⟩ : ByteArray), .int .i64 0, .slice none 0 0, .slice none 0 0]) (by kernel_rfl) (RunAt.take hf11 5)) (ResOk.tmp (by kernel_rfl) ResOk.nil)) (Imm.trans hI6 hJ9) ⟨none, 0, none, 0, RepS.nil _ _, RepS.nil _ _, rfl, rfl⟩
  · have hr := cond_f hc7 hr
    refine gk_skip (by kernel_rfl) ?_
    refine ge_seq ?_
    refine gk_seq (by kernel_rfl) ?_
    refine gk_region (by kernel_rfl) ?_
    refine gl_pure 3 [6, 8, 18] (K' := [(6, .pointer (some ⟨gb1, 0, none⟩)), (8, .int .i64 y2), (18, .pointer (some ⟨g0, 0, none⟩))]) (by kernel_rfl) ?_
    refine gl_loadB (T' := 29) (xp := (.tmp 18)) (v := .slice A0_0 a0.f0.length c0_0) (g := g0) (off := 0) (cs := #[.slice A0_0 a0.f0.length c0_0]) (e := T0) (fz := (0, 0)) (by kernel_rfl) (by kernel_rfl) (by kernel_rfl) List.mem_cons_self (by kernel_rfl) ?_
    refine gl_pure 1 [6, 19, 20] (K' := [(6, .pointer (some ⟨gb1, 0, none⟩)), (19, .slice A0_0 a0.f0.length c0_0), (20, .int .i64 y2)]) (by kernel_rfl) ?_
    obtain ⟨x12, hx13, hr⟩ := bind_some hr
    refine gl_indexAddrW (d := kS23) (c := c0_0) (T' := 29) (e := 24) (xs := (.tmp 19)) (xi := (.tmp 20)) (kd := .i64) hx13 (hO0_0.mono hI6) (Upd.one _ (Upd.selfC _ _)) (by kernel_rfl) (by kernel_rfl) (by kernel_rfl) (by kernel_rfl) (by kernel_rfl) (fun p14 cs15 hR16 hA17 hp26 => ?_)
    obtain ⟨A20, n21, A23, n24, hf22, hf25, rfl⟩ := kS23_open hR16
    refine gl_loadOA (T' := 24) (xp := (.tmp 21)) (p := p14) (cs := [.string x12.f0, .string x12.f1, .int .i64 x12.f2, .slice A20 x12.f3.length n21, .slice A23 x12.f4.length n24]) (by kernel_rfl) (by kernel_rfl) (by kernel_rfl) (by kernel_rfl) (hA17.take 5) ?_
    refine gl_storeB (T' := 24) (xp := (.tmp 6)) (xv := (.tmp 22)) (v := .agg #[.string x12.f0, .string x12.f1, .int .i64 x12.f2, .slice A20 x12.f3.length n21, .slice A23 x12.f4.length n24]) (g := gb1) (off := 0) (cs := #[.string (⟨#[]⟩ : ByteArray), .string (⟨#[]⟩ : ByteArray), .int .i64 0, .slice none 0 0, .slice none 0 0]) (cs' := #[.string x12.f0, .string x12.f1, .int .i64 x12.f2, .slice A20 x12.f3.length n21, .slice A23 x12.f4.length n24]) (by kernel_rfl) (by kernel_rfl) (by kernel_rfl) (by kernel_rfl) (by kernel_rfl) (Upd.one _ (Upd.app _ (Upd.set _ _ _ _))) ?_ (by kernel_rfl)
    refine gl_pure 1 [6, 7] (K' := [(6, .pointer (some ⟨gb1, 0, none⟩)), (7, .bool true)]) (by kernel_rfl) ?_
    refine gl_atE (by kernel_rfl) ?_
    refine ge_seq ?_
    refine gk_rest (Tk.step (Upd.one _ (Upd.app _ (Upd.rm1 _ _))) (Tk.nil _)) (fun J27 hJ28 hC29 => ?_)
    have hf30 := hC29.left.blk
    refine gk_ret (by kernel_rfl) ?_
    obtain rfl := some_inj hr
    exact ge_result trivial (ResOk.cell (v := .agg #[.string x12.f0, .string x12.f1, .int .i64 x12.f2, .slice A20 x12.f3.length n21, .slice A23 x12.f4.length n24]) (by kernel_rfl) (loadR_agg (cs := [.string x12.f0, .string x12.f1, .int .i64 x12.f2, .slice A20 x12.f3.length n21, .slice A23 x12.f4.length n24]) (by kernel_rfl) (RunAt.take hf30 5)) (ResOk.tmp (by kernel_rfl) ResOk.nil)) (Imm.trans hI6 hJ28) ⟨A20, n21, A23, n24, (hf22.mono hJ28), (hf25.mono hJ28), rfl, rfl⟩
structure Fn105 (I : Imm) (fv : Value) (f : (List S53) → Option Bool) : Prop where
  out : ∀ I', I ≤ I' → ∀ (x0 : List S53) (r : Bool), f x0 = some r → ∀ A0_0 c0_0, RepS kS53 I' A0_0 c0_0 x0 → ∀ L, CallsV Tryd.prog fv [.slice A0_0 x0.length c0_0] I' L (fun v I' L' => v = .bool r ∧ L = L')
theorem Fn105.mono {I J : Imm} {fv : Value} {f : (List S53) → Option Bool} (h : Fn105 I fv f) (hI : I ≤ J) : Fn105 J fv f := ⟨fun I' hI' => h.out I' (Imm.trans hI hI')⟩
end Go.Proofs.YtjkkmbjkndageaaDoor
