/- Parts: L1d, L1. -/
import Derived.Test.YtnlkfajnaelnnaaGreatDoorL1cu
set_option linter.unusedVariables false
set_option linter.unusedSimpArgs false
set_option maxRecDepth 100000
namespace Go.Proofs.YtnlkfajnaelnnaaGreatDoor
open Go.GB
/-! 16 tocsinref04_Right  -/
noncomputable def tocsinref04_Right_l18 (a0 : List S49) : Int → Option ((Int) ⊕ ((Unit) ⊕ (Int × Int))) := fun s8 =>
  bif (decide (s8 < (a0.length : Int))) then
  (Option.bind (ix a0 s8) fun (x21 : S49) =>
    Option.bind (tocsinref04_one x21) fun (y30 : Int) =>
    bif (y30 != 0) then
    (some (Sum.inr (Sum.inr (y30, s8))))
    else
    (Option.bind (bif (decide (s8 > 0)) then
        (Option.bind (ix a0 (IntKind.wrap .i64 (s8 - 1))) fun (x39 : S49) =>
          some (!(Op.bytesLess x39.f0.toList x21.f0.toList)))
        else
        (some false)) fun (j33 : Bool) =>
      bif j33 then
      (some (Sum.inr (Sum.inr (3, s8))))
      else
      (some (Sum.inl (IntKind.wrap .i64 (s8 + 1))))))
  else
  (some (Sum.inr (Sum.inl ())))
noncomputable def tocsinref04_Right (a0 : List S49) : Option (Int × Int) :=
  bif (decide ((a0.length : Int) > 16)) then
  (some (8, 0))
  else
  (Option.bind (loopO (tocsinref04_Right_l18 a0) 0) fun (r6 : (Unit) ⊕ (Int × Int)) =>
    match r6 with
    | Sum.inl r14 => some (0, 0)
    | Sum.inr v48 => some v48)
theorem tocsinref04_Right_walk {a0 : List S49} {A0_0 : Option Addr} {n0_0 : Nat} {I : Imm} {r : Int × Int}  (hf0_0 : RepS kS49 I A0_0 n0_0 a0) (hr : tocsinref04_Right a0 = some r) (L : Own) :
    CallsTo Tryz.prog 16 #[.slice A0_0 a0.length n0_0] I L (fun v I' L' => v = .tuple #[.int .i64 r.1, .int .i64 r.2] ∧ L = L') := by
  unfold tocsinref04_Right at hr
  refine callsTo_body (N := 38) Tryz.func16 (by kernel_rfl) (by kernel_rfl) (by kernel_rfl) ?_
  refine gk_pick [0] (K' := [(0, .slice A0_0 a0.length n0_0)]) (by kernel_rfl) ?_
  refine gk_seq (by kernel_rfl) ?_
  refine gk_region (by kernel_rfl) ?_
  refine gl_pure 2 [0] (K' := [(0, .slice A0_0 a0.length n0_0)]) (by kernel_rfl) ?_
  refine gl_atE (by kernel_rfl) ?_
  refine ge_seq ?_
  refine gk_seq (by kernel_rfl) ?_
  refine gk_seq (by kernel_rfl) ?_
  refine gk_region (by kernel_rfl) ?_
  refine gl_pure 3 [0, 9] (K' := [(0, .slice A0_0 a0.length n0_0), (9, .bool (decide ((a0.length : Int) > 16)))]) (by kernel_rfl) ?_
  refine gl_atE (by kernel_rfl) ?_
  refine ge_seq ?_
  refine gk_cond (b := (decide ((a0.length : Int) > 16))) (by kernel_rfl) (by kernel_rfl) (fun hc1 => ?_) (fun hc1 => ?_)
  · have hr := cond_t hc1 hr
    refine gk_seq (by kernel_rfl) ?_
    refine gk_region (by kernel_rfl) ?_
    refine gl_pure 2 [2, 3] (K' := [(2, .int .i64 8), (3, .int .i64 0)]) (by kernel_rfl) ?_
    refine gl_atE (by kernel_rfl) ?_
    refine ge_seq ?_
    refine gk_ret (by kernel_rfl) ?_
    refine ge_seq_ret ?_
    obtain rfl := some_inj hr
    exact ge_result trivial (ResOk.tmp (by kernel_rfl) (ResOk.tmp (by kernel_rfl) ResOk.nil)) (Imm.refl _) ⟨rfl, rfl⟩
  · have hr := cond_f hc1 hr
    refine gk_skip (by kernel_rfl) ?_
    refine ge_seq ?_
    refine gk_seq (by kernel_rfl) ?_
    refine gk_seq (by kernel_rfl) ?_
    refine gk_region (by kernel_rfl) ?_
    refine gl_pure 3 [0, 10, 11, 12] (K' := [(0, .slice A0_0 a0.length n0_0), (10, .slice A0_0 a0.length n0_0), (11, .int .i64 (a0.length : Int)), (12, .int .i64 0)]) (by kernel_rfl) ?_
    refine gl_atE (by kernel_rfl) ?_
    refine ge_seq ?_
    obtain ⟨r6, hl7, hr⟩ := bind_some hr
    refine gk_join (fun t I' L' => ∃ r14, r6 = Sum.inl r14 ∧ I ≤ I' ∧ L = L' ∧ Knows 38 [] t) ?_ ?_
    · refine gk_block (by kernel_rfl) ?_
      refine gk_pick [0, 10, 11, 12] (K' := [(0, .slice A0_0 a0.length n0_0), (10, .slice A0_0 a0.length n0_0), (11, .int .i64 (a0.length : Int)), (12, .int .i64 0)]) (by kernel_rfl) ?_
      intro t hK
      refine gc_loop (tocsinref04_Right_l18 a0) (fun s8 t I' L' => I ≤ I' ∧ L = L' ∧ Knows 38 [(0, .slice A0_0 a0.length n0_0), (10, .slice A0_0 a0.length n0_0), (11, .int .i64 (a0.length : Int)), (12, .int .i64 s8)] t) (by kernel_rfl) ?_ hl7 ⟨(Imm.refl _), rfl, hK⟩
      rintro s8 o9 t I13 L' hb10 ⟨hI11, rfl, hK12⟩
      unfold tocsinref04_Right_l18 at hb10
      refine gk_at hK12 ?_
      refine gk_seq (by kernel_rfl) ?_
      refine gk_region (by kernel_rfl) ?_
      refine gl_pure 1 [0, 10, 11, 12, 13] (K' := [(0, .slice A0_0 a0.length n0_0), (10, .slice A0_0 a0.length n0_0), (11, .int .i64 (a0.length : Int)), (12, .int .i64 s8), (13, .bool (decide (s8 < (a0.length : Int))))]) (by kernel_rfl) ?_
      refine gl_atE (by kernel_rfl) ?_
      refine ge_seq ?_
      refine gk_seq (by kernel_rfl) ?_
      refine gk_cond (b := (decide (s8 < (a0.length : Int)))) (by kernel_rfl) (by kernel_rfl) (fun hc20 => ?_) (fun hc20 => ?_)
      · have hb10 := cond_t hc20 hb10
        refine gk_skip (by kernel_rfl) ?_
        refine ge_seq ?_
        refine gk_seq (by kernel_rfl) ?_
        refine gk_block (by kernel_rfl) ?_
        refine gk_seq (by kernel_rfl) ?_
        refine gk_region (by kernel_rfl) ?_
        refine gl_pure 1 [0, 10, 11, 12, 14] (K' := [(0, .slice A0_0 a0.length n0_0), (10, .slice A0_0 a0.length n0_0), (11, .int .i64 (a0.length : Int)), (12, .int .i64 s8), (14, .int .i64 s8)]) (by kernel_rfl) ?_
        obtain ⟨x21, hx22, hb10⟩ := bind_some hb10
        obtain ⟨p23, cs24, hR25, hA26, ha27⟩ := RepS.ixAt hx22 (hf0_0.mono hI11)
        have hi28 := ix_some hx22
        obtain rfl := kS49_open hR25
        refine gl_indexAddrF (c := n0_0) (T' := 22) (e := 50) (xs := (.tmp 10)) (xi := (.tmp 12)) (kd := .i64) ha27 hi28.1 hi28.2.1 (by kernel_rfl) (by kernel_rfl) (by kernel_rfl) (by kernel_rfl) (by kernel_rfl) ?_
        refine gl_loadA (T' := 50) (xp := (.tmp 15)) (p := p23) (cs := [.string x21.f0, .string x21.f1]) (by kernel_rfl) (by kernel_rfl) (by kernel_rfl) (by kernel_rfl) (hA26.take 2) ?_
        refine gl_alloc (T' := 50) (cs := #[.string (⟨#[]⟩ : ByteArray), .string (⟨#[]⟩ : ByteArray)]) (by kernel_rfl) (by kernel_rfl) (by kernel_rfl) (fun g29 => ?_)
        refine gl_pure 1 [0, 4, 5, 10, 11, 12, 16] (K' := [(0, .slice A0_0 a0.length n0_0), (4, .int .i64 s8), (5, .pointer (some ⟨g29, 0, none⟩)), (10, .slice A0_0 a0.length n0_0), (11, .int .i64 (a0.length : Int)), (12, .int .i64 s8), (16, .agg #[.string x21.f0, .string x21.f1])]) (by kernel_rfl) ?_
        refine gl_storeB (T' := 50) (xp := (.tmp 5)) (xv := (.tmp 16)) (v := .agg #[.string x21.f0, .string x21.f1]) (g := g29) (off := 0) (cs := #[.string (⟨#[]⟩ : ByteArray), .string (⟨#[]⟩ : ByteArray)]) (cs' := #[.string x21.f0, .string x21.f1]) (by kernel_rfl) (by kernel_rfl) (by kernel_rfl) (by kernel_rfl) (by kernel_rfl) (Upd.set _ _ _ _) ?_ (by kernel_rfl)
        refine gl_atE (by kernel_rfl) ?_
        refine ge_seq ?_
        refine gk_seq (by kernel_rfl) ?_
        refine gk_seq (by kernel_rfl) ?_
        refine gk_region (by kernel_rfl) ?_
        refine gl_loadB (T' := 50) (xp := (.tmp 5)) (v := .agg #[.string x21.f0, .string x21.f1]) (g := g29) (off := 0) (cs := #[.string x21.f0, .string x21.f1]) (e := 50) (fz := (0, 0)) (by kernel_rfl) (by kernel_rfl) (by kernel_rfl) List.mem_cons_self (by kernel_rfl) ?_
        obtain ⟨y30, hx31, hb10⟩ := bind_some hb10
        refine gl_callQ (by kernel_rfl) (tocsinref04_one_walk (r := y30)  hx31 _) ?_
        refine gl_pure 1 [0, 4, 5, 6, 10, 11, 12] (K' := [(0, .slice A0_0 a0.length n0_0), (4, .int .i64 s8), (5, .pointer (some ⟨g29, 0, none⟩)), (6, .int .i64 y30), (10, .slice A0_0 a0.length n0_0), (11, .int .i64 (a0.length : Int)), (12, .int .i64 s8)]) (by kernel_rfl) ?_
        refine gl_atE (by kernel_rfl) ?_
        refine ge_seq ?_
        refine gk_seq (by kernel_rfl) ?_
        refine gk_region (by kernel_rfl) ?_
        refine gl_pure 2 [0, 4, 5, 6, 10, 11, 12, 20] (K' := [(0, .slice A0_0 a0.length n0_0), (4, .int .i64 s8), (5, .pointer (some ⟨g29, 0, none⟩)), (6, .int .i64 y30), (10, .slice A0_0 a0.length n0_0), (11, .int .i64 (a0.length : Int)), (12, .int .i64 s8), (20, .bool (y30 != 0))]) (by kernel_rfl) ?_
        refine gl_atE (by kernel_rfl) ?_
        refine ge_seq ?_
        refine gk_cond (b := (y30 != 0)) (by kernel_rfl) (by kernel_rfl) (fun hc32 => ?_) (fun hc32 => ?_)
        · have hb10 := cond_t hc32 hb10
          refine gk_seq (by kernel_rfl) ?_
          refine gk_region (by kernel_rfl) ?_
          refine gl_pure 4 [2, 3] (K' := [(2, .int .i64 y30), (3, .int .i64 s8)]) (by kernel_rfl) ?_
          refine gl_atE (by kernel_rfl) ?_
          refine ge_seq ?_
          refine gk_reord (D := L) (Reord.skip (Reord.refl _)) ?_
          refine gk_ret (by kernel_rfl) ?_
          refine ge_seq_ret ?_
          refine ge_block_ret ?_
          refine ge_seq_ret ?_
          obtain rfl := some_inj hb10
          refine ge_round_out (fun hrr => ?_) (by intro h; cases h)
          obtain rfl := hrr
          refine ge_block_ret ?_
          refine ge_seq_ret ?_
          refine ge_seq_ret ?_
          obtain rfl := some_inj hr
          exact ge_result trivial (ResOk.tmp (by kernel_rfl) (ResOk.tmp (by kernel_rfl) ResOk.nil)) hI11 ⟨rfl, rfl⟩
        · have hb10 := cond_f hc32 hb10
          refine gk_skip (by kernel_rfl) ?_
          refine ge_seq ?_
          refine gk_seq (by kernel_rfl) ?_
          obtain ⟨j33, hj34, hb10⟩ := bind_some hb10
          refine gk_join (fun t I' L' => I13 ≤ I' ∧ L = L' ∧ Knows 38 [(0, .slice A0_0 a0.length n0_0), (4, .int .i64 s8), (10, .slice A0_0 a0.length n0_0), (11, .int .i64 (a0.length : Int)), (12, .int .i64 s8), (35, .bool j33)] t) ?_ ?_
          · refine gk_draw 13 [(0, true), (1, true), (2, true), (3, true), (4, true), (5, true), (6, true), (7, true), (8, true), (9, true), (10, true), (11, true), (12, true)] [(g29, .cells #[.string x21.f0, .string x21.f1] 50)] (List.forall_mem_cons.2 ⟨List.mem_cons_self, (fun p hp => by cases hp)⟩) (by kernel_rfl) (by kernel_rfl) (by kernel_rfl) ?_ (by kernel_rfl)
            refine gd_pure 3 [0, 4, 5, 10, 11, 12, 25] (K' := [(0, .slice A0_0 a0.length n0_0), (4, .int .i64 s8), (5, .pointer (some ⟨g29, 0, none⟩)), (10, .slice A0_0 a0.length n0_0), (11, .int .i64 (a0.length : Int)), (12, .int .i64 s8), (25, .bool (decide (s8 > 0)))]) (s' := [(3, true), (4, true), (5, true), (6, true), (7, true), (8, true), (9, true), (10, true), (11, true), (12, true)]) (CC.refl (List.forall_mem_cons.2 ⟨List.mem_cons_self, (fun p hp => by cases hp)⟩)) (by kernel_rfl) ?_
            refine gd_case 25 (b := (decide (s8 > 0))) (by kernel_rfl) (fun hc38 => ?_) (fun hc38 => ?_)
            · have hj34 := cond_t hc38 hj34
              refine gd_pure 3 [0, 4, 5, 10, 11, 12, 25, 26, 28] (K' := [(0, .slice A0_0 a0.length n0_0), (4, .int .i64 s8), (5, .pointer (some ⟨g29, 0, none⟩)), (10, .slice A0_0 a0.length n0_0), (11, .int .i64 (a0.length : Int)), (12, .int .i64 s8), (25, .bool true), (26, .slice A0_0 a0.length n0_0), (28, .int .i64 (IntKind.wrap .i64 (s8 - 1)))]) (s' := [(6, true), (7, true), (8, true), (9, true), (10, true), (11, true), (12, true)]) (CC.refl (List.forall_mem_cons.2 ⟨List.mem_cons_self, (fun p hp => by cases hp)⟩)) (by kernel_rfl) ?_
              obtain ⟨x39, hx40, hj34⟩ := bind_some hj34
              obtain ⟨p41, cs42, hR43, hA44, ha45⟩ := RepS.ixAt hx40 (hf0_0.mono hI11)
              have hi46 := ix_some hx40
              obtain rfl := kS49_open hR43
              refine gd_q (v := .pointer (some p41)) (by kernel_rfl) (by kernel_rfl) (CC.refl (List.forall_mem_cons.2 ⟨List.mem_cons_self, (fun p hp => by cases hp)⟩)) (fun I' L' T hC kk => gl_indexAddrF (c := n0_0) (T' := 22) (e := 50) (xs := (.tmp 26)) (xi := (.tmp 28)) (kd := .i64) ha45 hi46.1 hi46.2.1 (by kernel_rfl) (by kernel_rfl) (by kernel_rfl) (by kernel_rfl) (by kernel_rfl) kk) ?_
              refine gd_pure 1 [0, 4, 5, 10, 11, 12, 25, 30] (K' := [(0, .slice A0_0 a0.length n0_0), (4, .int .i64 s8), (5, .pointer (some ⟨g29, 0, none⟩)), (10, .slice A0_0 a0.length n0_0), (11, .int .i64 (a0.length : Int)), (12, .int .i64 s8), (25, .bool true), (30, .pointer (some (p41.add 0)))]) (s' := [(8, true), (9, true), (10, true), (11, true), (12, true)]) (CC.refl (List.forall_mem_cons.2 ⟨List.mem_cons_self, (fun p hp => by cases hp)⟩)) (by kernel_rfl) ?_
              refine gd_q (v := .string x39.f0) (by kernel_rfl) (by kernel_rfl) (CC.refl (List.forall_mem_cons.2 ⟨List.mem_cons_self, (fun p hp => by cases hp)⟩)) (fun I' L' T hC kk => gl_load (T' := 9) (xp := (.tmp 30)) (p := (p41.add 0)) (c := .string x39.f0) (n := 1) (by kernel_rfl) (by kernel_rfl) (by kernel_rfl) (by kernel_rfl) ((hA44.drop 0).mono hC.le) kk) ?_
              refine gd_pure 1 [0, 4, 10, 11, 12, 25, 31, 32] (K' := [(0, .slice A0_0 a0.length n0_0), (4, .int .i64 s8), (10, .slice A0_0 a0.length n0_0), (11, .int .i64 (a0.length : Int)), (12, .int .i64 s8), (25, .bool true), (31, .string x39.f0), (32, .pointer (some ⟨g29, 0, none⟩))]) (s' := [(10, true), (11, true), (12, true)]) (CC.refl (List.forall_mem_cons.2 ⟨List.mem_cons_self, (fun p hp => by cases hp)⟩)) (by kernel_rfl) ?_
              refine gd_q (v := .string x21.f0) (by kernel_rfl) (by kernel_rfl) (CC.refl (List.forall_mem_cons.2 ⟨List.mem_cons_self, (fun p hp => by cases hp)⟩)) (fun I' L' T hC kk => gl_loadB (T' := 9) (xp := (.tmp 32)) (v := .string x21.f0) (g := g29) (off := 0) (cs := #[.string x21.f0, .string x21.f1]) (e := 50) (fz := (0, 0)) (by kernel_rfl) (by kernel_rfl) (by kernel_rfl) (hC.sub _ List.mem_cons_self) (by kernel_rfl) kk) ?_
              refine gd_pure 2 [0, 4, 10, 11, 12, 35] (K' := [(0, .slice A0_0 a0.length n0_0), (4, .int .i64 s8), (10, .slice A0_0 a0.length n0_0), (11, .int .i64 (a0.length : Int)), (12, .int .i64 s8), (35, .bool (!(Op.bytesLess x39.f0.toList x21.f0.toList)))]) (s' := []) (CC.refl (List.forall_mem_cons.2 ⟨List.mem_cons_self, (fun p hp => by cases hp)⟩)) (by kernel_rfl) ?_
              refine gd_done ?_
              refine gl_reord (D := L) (Reord.skip (Reord.refl _)) ?_
              refine gl_atE (by kernel_rfl) ?_
              obtain rfl := some_inj hj34
              exact ge_mid fun t ht => ⟨(Imm.refl _), rfl, ht.pick (l := [0, 4, 10, 11, 12, 35]) (by kernel_rfl)⟩
            · have hj34 := cond_f hc38 hj34
              refine gd_pure 10 [0, 4, 10, 11, 12, 35] (K' := [(0, .slice A0_0 a0.length n0_0), (4, .int .i64 s8), (10, .slice A0_0 a0.length n0_0), (11, .int .i64 (a0.length : Int)), (12, .int .i64 s8), (35, .bool false)]) (s' := []) (CC.refl (List.forall_mem_cons.2 ⟨List.mem_cons_self, (fun p hp => by cases hp)⟩)) (by kernel_rfl) ?_
              refine gd_done ?_
              refine gl_reord (D := L) (Reord.skip (Reord.refl _)) ?_
              refine gl_atE (by kernel_rfl) ?_
              obtain rfl := some_inj hj34
              exact ge_mid fun t ht => ⟨(Imm.refl _), rfl, ht.pick (l := [0, 4, 10, 11, 12, 35]) (by kernel_rfl)⟩
          · rintro t I37 L' ⟨hI35, rfl, hK36⟩
            refine ge_at hK36 ?_
            refine ge_seq ?_
            refine gk_cond (b := j33) (by kernel_rfl) (by kernel_rfl) (fun hc47 => ?_) (fun hc47 => ?_)
            · have hb10 := cond_t hc47 hb10
              refine gk_seq (by kernel_rfl) ?_
              refine gk_region (by kernel_rfl) ?_
              refine gl_pure 3 [2, 3] (K' := [(2, .int .i64 3), (3, .int .i64 s8)]) (by kernel_rfl) ?_
              refine gl_atE (by kernel_rfl) ?_
              refine ge_seq ?_
              refine gk_ret (by kernel_rfl) ?_
              refine ge_block_ret ?_
              refine ge_seq_ret ?_
              obtain rfl := some_inj hb10
              refine ge_round_out (fun hrr => ?_) (by intro h; cases h)
              obtain rfl := hrr
              refine ge_block_ret ?_
              refine ge_seq_ret ?_
              refine ge_seq_ret ?_
              obtain rfl := some_inj hr
              exact ge_result trivial (ResOk.tmp (by kernel_rfl) (ResOk.tmp (by kernel_rfl) ResOk.nil)) (Imm.trans hI11 hI35) ⟨rfl, rfl⟩
            · have hb10 := cond_f hc47 hb10
              refine gk_skip (by kernel_rfl) ?_
              refine ge_block_normal ?_
              refine ge_seq ?_
              refine gk_region (by kernel_rfl) ?_
              refine gl_pure 2 [0, 10, 11, 12] (K' := [(0, .slice A0_0 a0.length n0_0), (10, .slice A0_0 a0.length n0_0), (11, .int .i64 (a0.length : Int)), (12, .int .i64 (IntKind.wrap .i64 (s8 + 1)))]) (by kernel_rfl) ?_
              refine gl_atE (by kernel_rfl) ?_
              obtain rfl := some_inj hb10
              exact ge_round fun t ht => ⟨(Imm.trans hI11 hI35), rfl, ht.pick (l := [0, 10, 11, 12]) (by kernel_rfl)⟩
      · have hb10 := cond_f hc20 hb10
        refine gk_exit (by kernel_rfl) ?_
        refine ge_seq_exit ?_
        obtain rfl := some_inj hb10
        refine ge_round_out (fun hrr => ?_) (by intro h; cases h)
        obtain rfl := hrr
        refine ge_block_hit (by kernel_rfl) ?_
        exact ge_mid fun t ht => ⟨_, rfl, hI11, rfl, ht.pick (l := []) (by kernel_rfl)⟩
    · rintro t I17 L' ⟨r14, rfl, hI15, rfl, hK16⟩
      refine ge_at hK16 ?_
      refine ge_seq ?_
      refine gk_seq (by kernel_rfl) ?_
      refine gk_region (by kernel_rfl) ?_
      refine gl_pure 2 [2, 3] (K' := [(2, .int .i64 0), (3, .int .i64 0)]) (by kernel_rfl) ?_
      refine gl_atE (by kernel_rfl) ?_
      refine ge_seq ?_
      refine gk_ret (by kernel_rfl) ?_
      obtain rfl := some_inj hr
      exact ge_result trivial (ResOk.tmp (by kernel_rfl) (ResOk.tmp (by kernel_rfl) ResOk.nil)) hI15 ⟨rfl, rfl⟩
/-! 20 tocsinref04_Metric  -/
/-! 21 tocsinlaw04_Kept ('vis', 'imm') -/
noncomputable def tocsinlaw04_Kept (a0 : List S49 × List S49) (a1 : List S49) : Option Bool :=
  Option.bind (Option.bind (tocsinlaw04_same a0.1 a1) fun (y6 : Bool) =>
    bif y6 then
    (Option.bind (lx a0.2 0 (IntKind.wrap .i64 ((a1.length : Int) + 1))) fun (l10 : List S49) =>
      Option.bind (ix l10 (a1.length : Int)) fun (x14 : S49) =>
      some (x14.f0.toList == (⟨#[98, 101, 104, 105, 110, 100]⟩ : ByteArray).toList))
    else
    (some false)) fun (j1 : Bool) =>
  some j1
theorem tocsinlaw04_Kept_walk {a0 : List S49 × List S49} {A0_0 : Option Addr} {n0_0 : Nat} {a1 : List S49} {A1_0 : Option Addr} {n1_0 : Nat} {I : Imm} {r : Bool} (hf0_0 : RepS kS49 I A0_0 n0_0 a0.1) (hF0_0 : RepS kS49 I A0_0 n0_0 a0.2)  (hf1_0 : RepS kS49 I A1_0 n1_0 a1) (hr : tocsinlaw04_Kept a0 a1 = some r) (L : Own) :
    CallsTo Tryz.prog 21 #[.slice A0_0 a0.1.length n0_0, .slice A1_0 a1.length n1_0] I L (fun v I' L' => v = .bool r ∧ L = L') := by
  unfold tocsinlaw04_Kept at hr
  refine callsTo_body (N := 21) Tryz.func21 (by kernel_rfl) (by kernel_rfl) (by kernel_rfl) ?_
  refine gk_pick [0, 1] (K' := [(0, .slice A0_0 a0.1.length n0_0), (1, .slice A1_0 a1.length n1_0)]) (by kernel_rfl) ?_
  refine gk_seq (by kernel_rfl) ?_
  refine gk_region (by kernel_rfl) ?_
  refine gl_pure 1 [0, 1] (K' := [(0, .slice A0_0 a0.1.length n0_0), (1, .slice A1_0 a1.length n1_0)]) (by kernel_rfl) ?_
  refine gl_atE (by kernel_rfl) ?_
  refine ge_seq ?_
  refine gk_seq (by kernel_rfl) ?_
  obtain ⟨j1, hj2, hr⟩ := bind_some hr
  refine gk_join (fun t I' L' => I ≤ I' ∧ L = L' ∧ Knows 21 [(4, .bool j1)] t) ?_ ?_
  · refine gk_region (by kernel_rfl) ?_
    refine gl_pure 2 [0, 1, 5, 6] (K' := [(0, .slice A0_0 a0.1.length n0_0), (1, .slice A1_0 a1.length n1_0), (5, .slice A0_0 a0.1.length n0_0), (6, .slice A1_0 a1.length n1_0)]) (by kernel_rfl) ?_
    obtain ⟨y6, hx7, hj2⟩ := bind_some hj2
    refine gl_callQ (by kernel_rfl) (tocsinlaw04_same_walk (r := y6) hf0_0 hf1_0 hx7 _) ?_
    refine gl_pure 1 [0, 1, 8] (K' := [(0, .slice A0_0 a0.1.length n0_0), (1, .slice A1_0 a1.length n1_0), (8, .bool y6)]) (by kernel_rfl) ?_
    refine gl_case 8 (b := y6) (by kernel_rfl) (fun hc8 => ?_) (fun hc8 => ?_)
    · have hj2 := cond_t hc8 hj2
      refine gl_pure 4 [1, 8, 9, 12] (K' := [(1, .slice A1_0 a1.length n1_0), (8, .bool true), (9, .slice A0_0 a0.1.length n0_0), (12, .int .i64 (IntKind.wrap .i64 ((a1.length : Int) + 1)))]) (by kernel_rfl) ?_
      obtain ⟨l10, hx9, hj2⟩ := bind_some hj2
      refine gl_sliceRF (d := kS49) (T' := 22) (e := 50) (m := a0.1.length) (xs := (.tmp 9)) (lo := none) (hi := (some (.tmp 12))) hx9 hF0_0 (by kernel_rfl) (by kernel_rfl) (by kernel_rfl) (by kernel_rfl) (by kernel_rfl) (by kernel_rfl) (fun A11 n12 hf13 => ?_)
      refine gl_pure 2 [8, 13, 15] (K' := [(8, .bool true), (13, .slice A11 l10.length n12), (15, .int .i64 (a1.length : Int))]) (by kernel_rfl) ?_
      obtain ⟨x14, hx15, hj2⟩ := bind_some hj2
      obtain ⟨p16, cs17, hR18, hA19, ha20⟩ := RepS.ixAt hx15 hf13
      have hi21 := ix_some hx15
      obtain rfl := kS49_open hR18
      refine gl_indexAddrF (c := n12) (T' := 22) (e := 50) (xs := (.tmp 13)) (xi := (.tmp 15)) (kd := .i64) ha20 hi21.1 hi21.2.1 (by kernel_rfl) (by kernel_rfl) (by kernel_rfl) (by kernel_rfl) (by kernel_rfl) ?_
      refine gl_pure 1 [8, 17] (K' := [(8, .bool true), (17, .pointer (some (p16.add 0)))]) (by kernel_rfl) ?_
      refine gl_load (T' := 9) (xp := (.tmp 17)) (p := (p16.add 0)) (c := .string x14.f0) (n := 1) (by kernel_rfl) (by kernel_rfl) (by kernel_rfl) (by kernel_rfl) (hA19.drop 0) ?_
      refine gl_pure 3 [4] (K' := [(4, .bool (x14.f0.toList == (⟨#[98, 101, 104, 105, 110, 100]⟩ : ByteArray).toList))]) (by kernel_rfl) ?_
      refine gl_atE (by kernel_rfl) ?_
      obtain rfl := some_inj hj2
      exact ge_mid fun t ht => ⟨(Imm.refl _), rfl, ht.pick (l := [4]) (by kernel_rfl)⟩
    · have hj2 := cond_f hc8 hj2
      refine gl_pure 13 [4] (K' := [(4, .bool false)]) (by kernel_rfl) ?_
      refine gl_atE (by kernel_rfl) ?_
      obtain rfl := some_inj hj2
      exact ge_mid fun t ht => ⟨(Imm.refl _), rfl, ht.pick (l := [4]) (by kernel_rfl)⟩
  · rintro t I5 L' ⟨hI3, rfl, hK4⟩
    refine ge_at hK4 ?_
    refine ge_seq ?_
    refine gk_ret (by kernel_rfl) ?_
    obtain rfl := some_inj hr
    exact ge_result trivial (ResOk.tmp (by kernel_rfl) ResOk.nil) hI3 ⟨rfl, rfl⟩
/-! 3 tocsinlaw04_LabelsRights  -/
/-! 29 labels_Make  -/
/-! 78 tocsinref04_twice  -/
/-! 80 tocsinref04_full  -/
/-! 79 tocsinref04_sorted  -/
noncomputable def tocsinref04_sorted_l74 (x31 : S49) : ((List S49) × Int) → Option (((List S49) × Int) ⊕ ((List S49) × Int)) := fun s59 =>
  Option.bind (bif (decide (s59.2 > 0)) then
    (Option.bind (ix s59.1 (IntKind.wrap .i64 (s59.2 - 1))) fun (x82 : S49) =>
      some (!((Op.bytesLess x82.f0.toList x31.f0.toList) || (x82.f0.toList == x31.f0.toList))))
    else
    (some false)) fun (j76 : Bool) =>
  bif j76 then
  (Option.bind (ix s59.1 (IntKind.wrap .i64 (s59.2 - 1))) fun (x92 : S49) =>
    Option.bind (ix s59.1 s59.2) fun (x101 : S49) =>
    some (Sum.inl ((lset s59.1 s59.2 x92), (IntKind.wrap .i64 (s59.2 - 1)))))
  else
  (some (Sum.inr (s59.1, s59.2)))
noncomputable def tocsinref04_sorted_l28 (a0 : List S49) : ((List S49) × Int) → Option (((List S49) × Int) ⊕ ((List S49))) := fun s11 =>
  bif (decide (s11.2 < (a0.length : Int))) then
  (Option.bind (ix a0 s11.2) fun (x31 : S49) =>
    Option.bind (app s11.1 [x31]) fun (zs44 : List S49) =>
    Option.bind (loopO (tocsinref04_sorted_l74 x31) (zs44, (s11.1.length : Int))) fun (r57 : (List S49) × Int) =>
    Option.bind (ix r57.1 r57.2) fun (x113 : S49) =>
    some (Sum.inl ((lset r57.1 r57.2 x31), (IntKind.wrap .i64 (s11.2 + 1)))))
  else
  (some (Sum.inr s11.1))
noncomputable def tocsinref04_sorted (a0 : List S49) : Option (List S49) :=
  Option.bind (loopO (tocsinref04_sorted_l28 a0) ([], 0)) fun (r9 : (List S49)) =>
  some r9
theorem tocsinref04_sorted_walk {a0 : List S49} {A0_0 : Option Addr} {n0_0 : Nat} {I : Imm} {r : (List S49)}  (hf0_0 : RepS kS49 I A0_0 n0_0 a0) (hr : tocsinref04_sorted a0 = some r) (L : Own) :
    CallsTo Tryz.prog 79 #[.slice A0_0 a0.length n0_0] I L (fun v I' L' => ∃ A0 c0 C0, OwnS kS49 50 I' A0 c0 r C0 ∧ v = .slice A0 r.length c0 ∧ C0 ++ L = L') := by
  unfold tocsinref04_sorted at hr
  refine callsTo_body (N := 48) Tryz.func79 (by kernel_rfl) (by kernel_rfl) (by kernel_rfl) ?_
  refine gk_pick [0] (K' := [(0, .slice A0_0 a0.length n0_0)]) (by kernel_rfl) ?_
  refine gk_seq (by kernel_rfl) ?_
  refine gk_region (by kernel_rfl) ?_
  refine gl_pure 1 [0] (K' := [(0, .slice A0_0 a0.length n0_0)]) (by kernel_rfl) ?_
  refine gl_atE (by kernel_rfl) ?_
  refine ge_seq ?_
  refine gk_seq (by kernel_rfl) ?_
  refine gk_region (by kernel_rfl) ?_
  refine gl_pure 1 [0, 3] (K' := [(0, .slice A0_0 a0.length n0_0), (3, .slice none 0 0)]) (by kernel_rfl) ?_
  refine gl_atE (by kernel_rfl) ?_
  refine ge_seq ?_
  refine gk_seq (by kernel_rfl) ?_
  refine gk_seq (by kernel_rfl) ?_
  refine gk_region (by kernel_rfl) ?_
  refine gl_pure 3 [3, 7, 8, 9] (K' := [(3, .slice none 0 0), (7, .slice A0_0 a0.length n0_0), (8, .int .i64 (a0.length : Int)), (9, .int .i64 0)]) (by kernel_rfl) ?_
  refine gl_atE (by kernel_rfl) ?_
  refine ge_seq ?_
  obtain ⟨r9, hl10, hr⟩ := bind_some hr
  refine gk_join (fun t I' L' => ∃ A22 n23 C24, OwnS kS49 50 I' A22 n23 r9 C24 ∧ I ≤ I' ∧ C24 ++ L = L' ∧ Knows 48 [(3, .slice A22 r9.length n23)] t) ?_ ?_
  · refine gk_block (by kernel_rfl) ?_
    refine gk_pick [3, 7, 8, 9] (K' := [(3, .slice none 0 0), (7, .slice A0_0 a0.length n0_0), (8, .int .i64 (a0.length : Int)), (9, .int .i64 0)]) (by kernel_rfl) ?_
    intro t hK
    refine gc_loop (tocsinref04_sorted_l28 a0) (fun s11 t I' L' => ∃ A15 n16 C17, OwnS kS49 50 I' A15 n16 s11.1 C17 ∧ I ≤ I' ∧ C17 ++ L = L' ∧ Knows 48 [(3, .slice A15 s11.1.length n16), (7, .slice A0_0 a0.length n0_0), (8, .int .i64 (a0.length : Int)), (9, .int .i64 s11.2)] t) (by kernel_rfl) ?_ hl10 ⟨none, 0, [], OwnS.nil _ _ _ _, (Imm.refl _), rfl, hK⟩
    rintro s11 o12 t I20 L' hb13 ⟨A15, n16, C17, hO18, hI14, rfl, hK19⟩
    unfold tocsinref04_sorted_l28 at hb13
    refine gk_at hK19 ?_
    refine gk_seq (by kernel_rfl) ?_
    refine gk_region (by kernel_rfl) ?_
    refine gl_pure 1 [3, 7, 8, 9, 10] (K' := [(3, .slice A15 s11.1.length n16), (7, .slice A0_0 a0.length n0_0), (8, .int .i64 (a0.length : Int)), (9, .int .i64 s11.2), (10, .bool (decide (s11.2 < (a0.length : Int))))]) (by kernel_rfl) ?_
    refine gl_atE (by kernel_rfl) ?_
    refine ge_seq ?_
    refine gk_seq (by kernel_rfl) ?_
    refine gk_cond (b := (decide (s11.2 < (a0.length : Int)))) (by kernel_rfl) (by kernel_rfl) (fun hc30 => ?_) (fun hc30 => ?_)
    · have hb13 := cond_t hc30 hb13
      refine gk_skip (by kernel_rfl) ?_
      refine ge_seq ?_
      refine gk_seq (by kernel_rfl) ?_
      refine gk_block (by kernel_rfl) ?_
      refine gk_seq (by kernel_rfl) ?_
      refine gk_region (by kernel_rfl) ?_
      obtain ⟨x31, hx32, hb13⟩ := bind_some hb13
      obtain ⟨p33, cs34, hR35, hA36, ha37⟩ := RepS.ixAt hx32 (hf0_0.mono hI14)
      have hi38 := ix_some hx32
      obtain rfl := kS49_open hR35
      refine gl_indexAddrF (c := n0_0) (T' := 22) (e := 50) (xs := (.tmp 7)) (xi := (.tmp 9)) (kd := .i64) ha37 hi38.1 hi38.2.1 (by kernel_rfl) (by kernel_rfl) (by kernel_rfl) (by kernel_rfl) (by kernel_rfl) ?_
      refine gl_loadA (T' := 50) (xp := (.tmp 11)) (p := p33) (cs := [.string x31.f0, .string x31.f1]) (by kernel_rfl) (by kernel_rfl) (by kernel_rfl) (by kernel_rfl) (hA36.take 2) ?_
      refine gl_alloc (T' := 50) (cs := #[.string (⟨#[]⟩ : ByteArray), .string (⟨#[]⟩ : ByteArray)]) (by kernel_rfl) (by kernel_rfl) (by kernel_rfl) (fun g39 => ?_)
      refine gl_storeB (T' := 50) (xp := (.tmp 5)) (xv := (.tmp 12)) (v := .agg #[.string x31.f0, .string x31.f1]) (g := g39) (off := 0) (cs := #[.string (⟨#[]⟩ : ByteArray), .string (⟨#[]⟩ : ByteArray)]) (cs' := #[.string x31.f0, .string x31.f1]) (by kernel_rfl) (by kernel_rfl) (by kernel_rfl) (by kernel_rfl) (by kernel_rfl) (Upd.set _ _ _ _) ?_ (by kernel_rfl)
      refine gl_atE (by kernel_rfl) ?_
      refine ge_seq ?_
      refine gk_seq (by kernel_rfl) ?_
      refine gk_region (by kernel_rfl) ?_
      refine gl_pure 3 [3, 5, 6, 7, 8, 9] (K' := [(3, .slice A15 s11.1.length n16), (5, .pointer (some ⟨g39, 0, none⟩)), (6, .int .i64 (s11.1.length : Int)), (7, .slice A0_0 a0.length n0_0), (8, .int .i64 (a0.length : Int)), (9, .int .i64 s11.2)]) (by kernel_rfl) ?_
      refine gl_atE (by kernel_rfl) ?_
      refine ge_seq ?_
      refine gk_seq (by kernel_rfl) ?_
      refine gk_region (by kernel_rfl) ?_
      refine gl_pure 1 [5, 6, 7, 8, 9, 15] (K' := [(5, .pointer (some ⟨g39, 0, none⟩)), (6, .int .i64 (s11.1.length : Int)), (7, .slice A0_0 a0.length n0_0), (8, .int .i64 (a0.length : Int)), (9, .int .i64 s11.2), (15, .slice A15 s11.1.length n16)]) (by kernel_rfl) ?_
      refine gl_loadB (T' := 50) (xp := (.tmp 5)) (v := .agg #[.string x31.f0, .string x31.f1]) (g := g39) (off := 0) (cs := #[.string x31.f0, .string x31.f1]) (e := 50) (fz := (0, 0)) (by kernel_rfl) (by kernel_rfl) (by kernel_rfl) List.mem_cons_self (by kernel_rfl) ?_
      refine gl_buildSlice (T' := 22) (e := 50) (n := 2) (len := 1) (parts := #[(0, (.tmp 16))]) (l := [(0, .agg #[.string x31.f0, .string x31.f1])]) (cs := #[.string x31.f0, .string x31.f1]) (by kernel_rfl) (by kernel_rfl) (by kernel_rfl) (by kernel_rfl) (by kernel_rfl) (fun g40 => ?_)
      have hO41 : OwnS kS49 50 I20 (some ⟨g40, 0, none⟩) 1 [x31] [(g40, .cells #[.string x31.f0, .string x31.f1] 50)] := OwnS.lit (row_cons (l := [.string x31.f0, .string x31.f1]) (kS49_mk (x := x31) ) (row_nil _ _)) rfl rfl rfl
      refine gl_reord (D := [(g40, .cells #[.string x31.f0, .string x31.f1] 50)] ++ ((g39, .cells #[.string x31.f0, .string x31.f1] 50) :: (C17 ++ L))) (Reord.refl _) ?_
      obtain ⟨zs44, hz45, hb13⟩ := bind_some hb13
      refine gl_append (xv := .slice (some ⟨g40, 0, none⟩) [x31].length 1) (d := kS49) (t := 22) (tx := 22) (e := 50) (s := (.tmp 15)) (x := (.tmp 17)) (xs := s11.1) (fun X => [(g40, .cells #[.string x31.f0, .string x31.f1] 50)] ++ ((g39, .cells #[.string x31.f0, .string x31.f1] 50) :: (X ++ L))) hz45 (by kernel_rfl) (by kernel_rfl) (by kernel_rfl) (by kernel_rfl) (by kernel_rfl) (by kernel_rfl) (fun X => (Upd.app _ (Upd.one _ (Upd.head _ X _)))) hO18 (SrcOk.slice (c := 1) (e := 50) (n := 2) (OwnS.rd hO41 (Upd.selfC _ _)) (by kernel_rfl)) (fun A46 n47 C48 hO49 => ?_)
      refine gl_pure 1 [3, 5, 6, 7, 8, 9] (K' := [(3, .slice A46 zs44.length n47), (5, .pointer (some ⟨g39, 0, none⟩)), (6, .int .i64 (s11.1.length : Int)), (7, .slice A0_0 a0.length n0_0), (8, .int .i64 (a0.length : Int)), (9, .int .i64 s11.2)]) (by kernel_rfl) ?_
      refine gl_atE (by kernel_rfl) ?_
      refine ge_seq ?_
      refine gk_seq (by kernel_rfl) ?_
      obtain ⟨r57, hl58, hb13⟩ := bind_some hb13
      refine gk_reord (D := C48 ++ ((g39, .cells #[.string x31.f0, .string x31.f1] 50) :: L)) (Reord.step (Upd.app _ (Upd.one _ (Upd.rmC _ _))) (Reord.step1 (Upd.app _ (Upd.rm1 _ _)) (Reord.skipC (Reord.refl _)))) ?_
      refine gk_join (fun t I' L' => ∃ C69, OwnS kS49 50 I' A46 n47 r57.1 C69 ∧ I20 ≤ I' ∧ C69 ++ ((g39, .cells #[.string x31.f0, .string x31.f1] 50) :: L) = L' ∧ Knows 48 [(3, .slice A46 r57.1.length n47), (5, .pointer (some ⟨g39, 0, none⟩)), (6, .int .i64 r57.2), (7, .slice A0_0 a0.length n0_0), (8, .int .i64 (a0.length : Int)), (9, .int .i64 s11.2)] t) ?_ ?_
      · refine gk_block (by kernel_rfl) ?_
        refine gk_pick [3, 5, 6, 7, 8, 9] (K' := [(3, .slice A46 zs44.length n47), (5, .pointer (some ⟨g39, 0, none⟩)), (6, .int .i64 (s11.1.length : Int)), (7, .slice A0_0 a0.length n0_0), (8, .int .i64 (a0.length : Int)), (9, .int .i64 s11.2)]) (by kernel_rfl) ?_
        intro t hK
        refine gc_loop (tocsinref04_sorted_l74 x31) (fun s59 t I' L' => ∃ C63, OwnS kS49 50 I' A46 n47 s59.1 C63 ∧ I20 ≤ I' ∧ C63 ++ ((g39, .cells #[.string x31.f0, .string x31.f1] 50) :: L) = L' ∧ Knows 48 [(3, .slice A46 s59.1.length n47), (5, .pointer (some ⟨g39, 0, none⟩)), (6, .int .i64 s59.2), (7, .slice A0_0 a0.length n0_0), (8, .int .i64 (a0.length : Int)), (9, .int .i64 s11.2)] t) (by kernel_rfl) ?_ hl58 ⟨C48, hO49, (Imm.refl _), rfl, hK⟩
        rintro s59 o60 t I67 L' hb61 ⟨C63, hO64, hI62, rfl, hK66⟩
        unfold tocsinref04_sorted_l74 at hb61
        refine gk_at hK66 ?_
        refine gk_seq (by kernel_rfl) ?_
        refine gk_seq (by kernel_rfl) ?_
        obtain ⟨j76, hj77, hb61⟩ := bind_some hb61
        refine gk_join (fun t I' L' => I67 ≤ I' ∧ C63 ++ ((g39, .cells #[.string x31.f0, .string x31.f1] 50) :: L) = L' ∧ Knows 48 [(3, .slice A46 s59.1.length n47), (5, .pointer (some ⟨g39, 0, none⟩)), (6, .int .i64 s59.2), (7, .slice A0_0 a0.length n0_0), (8, .int .i64 (a0.length : Int)), (9, .int .i64 s11.2), (31, .bool j76)] t) ?_ ?_
        · refine gk_draw 13 [(0, true), (1, true), (2, true), (3, true), (4, true), (5, true), (6, true), (7, true), (8, true), (9, true), (10, true), (11, true), (12, true)] (C63 ++ [(g39, .cells #[.string x31.f0, .string x31.f1] 50)]) (List.forall_mem_append.2 ⟨fun q hq => (List.mem_append_left _ hq), (List.forall_mem_cons.2 ⟨(List.mem_append_right _ List.mem_cons_self), (fun p hp => by cases hp)⟩)⟩) (by kernel_rfl) (by kernel_rfl) (by kernel_rfl) ?_ (by kernel_rfl)
          refine gd_pure 3 [3, 5, 6, 7, 8, 9, 21] (K' := [(3, .slice A46 s59.1.length n47), (5, .pointer (some ⟨g39, 0, none⟩)), (6, .int .i64 s59.2), (7, .slice A0_0 a0.length n0_0), (8, .int .i64 (a0.length : Int)), (9, .int .i64 s11.2), (21, .bool (decide (s59.2 > 0)))]) (s' := [(3, true), (4, true), (5, true), (6, true), (7, true), (8, true), (9, true), (10, true), (11, true), (12, true)]) (CC.refl (List.forall_mem_append.2 ⟨fun q hq => (List.mem_append_left _ hq), (List.forall_mem_cons.2 ⟨(List.mem_append_right _ List.mem_cons_self), (fun p hp => by cases hp)⟩)⟩)) (by kernel_rfl) ?_
          refine gd_case 21 (b := (decide (s59.2 > 0))) (by kernel_rfl) (fun hc81 => ?_) (fun hc81 => ?_)
          · have hj77 := cond_t hc81 hj77
            refine gd_pure 3 [3, 5, 6, 7, 8, 9, 21, 22, 24] (K' := [(3, .slice A46 s59.1.length n47), (5, .pointer (some ⟨g39, 0, none⟩)), (6, .int .i64 s59.2), (7, .slice A0_0 a0.length n0_0), (8, .int .i64 (a0.length : Int)), (9, .int .i64 s11.2), (21, .bool true), (22, .slice A46 s59.1.length n47), (24, .int .i64 (IntKind.wrap .i64 (s59.2 - 1)))]) (s' := [(6, true), (7, true), (8, true), (9, true), (10, true), (11, true), (12, true)]) (CC.refl (List.forall_mem_append.2 ⟨fun q hq => (List.mem_append_left _ hq), (List.forall_mem_cons.2 ⟨(List.mem_append_right _ List.mem_cons_self), (fun p hp => by cases hp)⟩)⟩)) (by kernel_rfl) ?_
            obtain ⟨x82, hx83, hj77⟩ := bind_some hj77
            obtain ⟨p84, cs85, hR86, hA87, ha88, hg90⟩ := OwnS.ixAtG hx83 hO64
            have hi89 := ix_some hx83
            obtain rfl := kS49_open hR86
            refine gd_q (v := .pointer (some p84)) (by kernel_rfl) (by kernel_rfl) (CC.refl (List.forall_mem_append.2 ⟨fun q hq => (List.mem_append_left _ hq), (List.forall_mem_cons.2 ⟨(List.mem_append_right _ List.mem_cons_self), (fun p hp => by cases hp)⟩)⟩)) (fun I' L' T hC kk => gl_indexAddrF (c := n47) (T' := 22) (e := 50) (xs := (.tmp 22)) (xi := (.tmp 24)) (kd := .i64) ha88 hi89.1 hi89.2.1 (by kernel_rfl) (by kernel_rfl) (by kernel_rfl) (by kernel_rfl) (by kernel_rfl) kk) ?_
            refine gd_pure 1 [3, 5, 6, 7, 8, 9, 21, 26] (K' := [(3, .slice A46 s59.1.length n47), (5, .pointer (some ⟨g39, 0, none⟩)), (6, .int .i64 s59.2), (7, .slice A0_0 a0.length n0_0), (8, .int .i64 (a0.length : Int)), (9, .int .i64 s11.2), (21, .bool true), (26, .pointer (some (p84.add 0)))]) (s' := [(8, true), (9, true), (10, true), (11, true), (12, true)]) (CC.refl (List.forall_mem_append.2 ⟨fun q hq => (List.mem_append_left _ hq), (List.forall_mem_cons.2 ⟨(List.mem_append_right _ List.mem_cons_self), (fun p hp => by cases hp)⟩)⟩)) (by kernel_rfl) ?_
            refine gd_q (v := .string x82.f0) (by kernel_rfl) (by kernel_rfl) (CC.refl (List.forall_mem_append.2 ⟨fun q hq => (List.mem_append_left _ hq), (List.forall_mem_cons.2 ⟨(List.mem_append_right _ List.mem_cons_self), (fun p hp => by cases hp)⟩)⟩)) (fun I' L' T hC kk => gl_loadO (T' := 9) (xp := (.tmp 26)) (p := (p84.add 0)) (c := .string x82.f0) (n := 1) (by kernel_rfl) (by kernel_rfl) (by kernel_rfl) (by kernel_rfl) ((fun I' L' h => (hA87 I' L' h).drop 0) _ _ (fun q hq => hC.sub _ (List.mem_append_left _ hq))) kk) ?_
            refine gd_pure 1 [3, 5, 6, 7, 8, 9, 21, 27, 28] (K' := [(3, .slice A46 s59.1.length n47), (5, .pointer (some ⟨g39, 0, none⟩)), (6, .int .i64 s59.2), (7, .slice A0_0 a0.length n0_0), (8, .int .i64 (a0.length : Int)), (9, .int .i64 s11.2), (21, .bool true), (27, .string x82.f0), (28, .pointer (some ⟨g39, 0, none⟩))]) (s' := [(10, true), (11, true), (12, true)]) (CC.refl (List.forall_mem_append.2 ⟨fun q hq => (List.mem_append_left _ hq), (List.forall_mem_cons.2 ⟨(List.mem_append_right _ List.mem_cons_self), (fun p hp => by cases hp)⟩)⟩)) (by kernel_rfl) ?_
            refine gd_q (v := .string x31.f0) (by kernel_rfl) (by kernel_rfl) (CC.refl (List.forall_mem_append.2 ⟨fun q hq => (List.mem_append_left _ hq), (List.forall_mem_cons.2 ⟨(List.mem_append_right _ List.mem_cons_self), (fun p hp => by cases hp)⟩)⟩)) (fun I' L' T hC kk => gl_loadB (T' := 9) (xp := (.tmp 28)) (v := .string x31.f0) (g := g39) (off := 0) (cs := #[.string x31.f0, .string x31.f1]) (e := 50) (fz := (0, 0)) (by kernel_rfl) (by kernel_rfl) (by kernel_rfl) (hC.sub _ (List.mem_append_right _ List.mem_cons_self)) (by kernel_rfl) kk) ?_
            refine gd_pure 2 [3, 5, 6, 7, 8, 9, 31] (K' := [(3, .slice A46 s59.1.length n47), (5, .pointer (some ⟨g39, 0, none⟩)), (6, .int .i64 s59.2), (7, .slice A0_0 a0.length n0_0), (8, .int .i64 (a0.length : Int)), (9, .int .i64 s11.2), (31, .bool (!((Op.bytesLess x82.f0.toList x31.f0.toList) || (x82.f0.toList == x31.f0.toList))))]) (s' := []) (CC.refl (List.forall_mem_append.2 ⟨fun q hq => (List.mem_append_left _ hq), (List.forall_mem_cons.2 ⟨(List.mem_append_right _ List.mem_cons_self), (fun p hp => by cases hp)⟩)⟩)) (by kernel_rfl) ?_
            refine gd_done ?_
            refine gl_atE (by kernel_rfl) ?_
            obtain rfl := some_inj hj77
            exact ge_mid fun t ht => ⟨(Imm.refl _), rfl, ht.pick (l := [3, 5, 6, 7, 8, 9, 31]) (by kernel_rfl)⟩
          · have hj77 := cond_f hc81 hj77
            refine gd_pure 10 [3, 5, 6, 7, 8, 9, 31] (K' := [(3, .slice A46 s59.1.length n47), (5, .pointer (some ⟨g39, 0, none⟩)), (6, .int .i64 s59.2), (7, .slice A0_0 a0.length n0_0), (8, .int .i64 (a0.length : Int)), (9, .int .i64 s11.2), (31, .bool false)]) (s' := []) (CC.refl (List.forall_mem_append.2 ⟨fun q hq => (List.mem_append_left _ hq), (List.forall_mem_cons.2 ⟨(List.mem_append_right _ List.mem_cons_self), (fun p hp => by cases hp)⟩)⟩)) (by kernel_rfl) ?_
            refine gd_done ?_
            refine gl_atE (by kernel_rfl) ?_
            obtain rfl := some_inj hj77
            exact ge_mid fun t ht => ⟨(Imm.refl _), rfl, ht.pick (l := [3, 5, 6, 7, 8, 9, 31]) (by kernel_rfl)⟩
        · rintro t I80 L' ⟨hI78, rfl, hK79⟩
          refine ge_at hK79 ?_
          refine ge_seq ?_
          refine gk_cond (b := j76) (by kernel_rfl) (by kernel_rfl) (fun hc91 => ?_) (fun hc91 => ?_)
          · have hb61 := cond_t hc91 hb61
            refine gk_skip (by kernel_rfl) ?_
            refine ge_seq ?_
            refine gk_block (by kernel_rfl) ?_
            refine gk_seq (by kernel_rfl) ?_
            refine gk_region (by kernel_rfl) ?_
            refine gl_pure 5 [3, 5, 6, 7, 8, 9, 32, 33, 34, 36] (K' := [(3, .slice A46 s59.1.length n47), (5, .pointer (some ⟨g39, 0, none⟩)), (6, .int .i64 s59.2), (7, .slice A0_0 a0.length n0_0), (8, .int .i64 (a0.length : Int)), (9, .int .i64 s11.2), (32, .slice A46 s59.1.length n47), (33, .int .i64 s59.2), (34, .slice A46 s59.1.length n47), (36, .int .i64 (IntKind.wrap .i64 (s59.2 - 1)))]) (by kernel_rfl) ?_
            obtain ⟨x92, hx93, hb61⟩ := bind_some hb61
            refine gl_indexAddrW (d := kS49) (c := n47) (T' := 22) (e := 50) (xs := (.tmp 34)) (xi := (.tmp 36)) (kd := .i64) hx93 (hO64.mono hI78) (Upd.selfC _ _) (by kernel_rfl) (by kernel_rfl) (by kernel_rfl) (by kernel_rfl) (by kernel_rfl) (fun p94 cs95 hR96 hA97 hp100 => ?_)
            obtain rfl := kS49_open hR96
            refine gl_loadOA (T' := 50) (xp := (.tmp 37)) (p := p94) (cs := [.string x92.f0, .string x92.f1]) (by kernel_rfl) (by kernel_rfl) (by kernel_rfl) (by kernel_rfl) (hA97.take 2) ?_
            obtain ⟨x101, hx102, hb61⟩ := bind_some hb61
            refine gl_indexAddrW (d := kS49) (c := n47) (T' := 22) (e := 50) (xs := (.tmp 32)) (xi := (.tmp 33)) (kd := .i64) hx102 (hO64.mono hI78) (Upd.selfC _ _) (by kernel_rfl) (by kernel_rfl) (by kernel_rfl) (by kernel_rfl) (by kernel_rfl) (fun p103 cs104 hR105 hA106 hp109 => ?_)
            obtain rfl := kS49_open hR105
            have hl112 : s59.1.length = (lset s59.1 s59.2 x92).length := by simp [lset]
            refine gl_storeE (d := kS49) (T' := 50) (xp := (.tmp 39)) (xv := (.tmp 38)) (v := .agg #[.string x92.f0, .string x92.f1]) (off := 0) (y := x92) (fun X => X ++ ((g39, .cells #[.string x31.f0, .string x31.f1] 50) :: L)) hx102 (hO64.mono hI78) (fun X => (Upd.head _ X _)) hp109 (by kernel_rfl) (by kernel_rfl) (by kernel_rfl) (by kernel_rfl) (by kernel_rfl) (by kernel_rfl) (fun cs h => by obtain rfl := kS49_open h; exact kS49_mk (x := x92) ) (by kernel_rfl) (fun C110 hO111 => ?_)
            try rw [hl112]
            refine gl_atE (by kernel_rfl) ?_
            refine ge_seq ?_
            refine gk_region (by kernel_rfl) ?_
            refine gl_pure 3 [3, 5, 6, 7, 8, 9] (K' := [(3, .slice A46 (lset s59.1 s59.2 x92).length n47), (5, .pointer (some ⟨g39, 0, none⟩)), (6, .int .i64 (IntKind.wrap .i64 (s59.2 - 1))), (7, .slice A0_0 a0.length n0_0), (8, .int .i64 (a0.length : Int)), (9, .int .i64 s11.2)]) (by kernel_rfl) ?_
            refine gl_atE (by kernel_rfl) ?_
            refine ge_block_normal ?_
            obtain rfl := some_inj hb61
            exact ge_round fun t ht => ⟨C110, hO111, (Imm.trans hI62 hI78), rfl, ht.pick (l := [3, 5, 6, 7, 8, 9]) (by kernel_rfl)⟩
          · have hb61 := cond_f hc91 hb61
            refine gk_exit (by kernel_rfl) ?_
            refine ge_seq_exit ?_
            obtain rfl := some_inj hb61
            refine ge_round_out (fun hrr => ?_) (by intro h; cases h)
            obtain rfl := hrr
            refine ge_block_hit (by kernel_rfl) ?_
            exact ge_mid fun t ht => ⟨C63, (hO64.mono hI78), (Imm.trans hI62 hI78), rfl, ht.pick (l := [3, 5, 6, 7, 8, 9]) (by kernel_rfl)⟩
      · rintro t I73 L' ⟨C69, hO70, hI68, rfl, hK72⟩
        refine ge_at hK72 ?_
        refine ge_seq ?_
        refine gk_region (by kernel_rfl) ?_
        refine gl_pure 2 [3, 5, 7, 8, 9, 42, 43] (K' := [(3, .slice A46 r57.1.length n47), (5, .pointer (some ⟨g39, 0, none⟩)), (7, .slice A0_0 a0.length n0_0), (8, .int .i64 (a0.length : Int)), (9, .int .i64 s11.2), (42, .slice A46 r57.1.length n47), (43, .int .i64 r57.2)]) (by kernel_rfl) ?_
        refine gl_loadB (T' := 50) (xp := (.tmp 5)) (v := .agg #[.string x31.f0, .string x31.f1]) (g := g39) (off := 0) (cs := #[.string x31.f0, .string x31.f1]) (e := 50) (fz := (0, 0)) (by kernel_rfl) (by kernel_rfl) (by kernel_rfl) (List.mem_append_right _ List.mem_cons_self) (by kernel_rfl) ?_
        obtain ⟨x113, hx114, hb13⟩ := bind_some hb13
        refine gl_indexAddrW (d := kS49) (c := n47) (T' := 22) (e := 50) (xs := (.tmp 42)) (xi := (.tmp 43)) (kd := .i64) hx114 hO70 (Upd.selfC _ _) (by kernel_rfl) (by kernel_rfl) (by kernel_rfl) (by kernel_rfl) (by kernel_rfl) (fun p115 cs116 hR117 hA118 hp121 => ?_)
        obtain rfl := kS49_open hR117
        have hl124 : r57.1.length = (lset r57.1 r57.2 x31).length := by simp [lset]
        refine gl_storeE (d := kS49) (T' := 50) (xp := (.tmp 45)) (xv := (.tmp 44)) (v := .agg #[.string x31.f0, .string x31.f1]) (off := 0) (y := x31) (fun X => X ++ ((g39, .cells #[.string x31.f0, .string x31.f1] 50) :: L)) hx114 hO70 (fun X => (Upd.head _ X _)) hp121 (by kernel_rfl) (by kernel_rfl) (by kernel_rfl) (by kernel_rfl) (by kernel_rfl) (by kernel_rfl) (fun cs h => by obtain rfl := kS49_open h; exact kS49_mk (x := x31) ) (by kernel_rfl) (fun C122 hO123 => ?_)
        try rw [hl124]
        refine gl_atE (by kernel_rfl) ?_
        refine ge_block_normal ?_
        refine ge_seq ?_
        refine gk_region (by kernel_rfl) ?_
        refine gl_pure 2 [3, 7, 8, 9] (K' := [(3, .slice A46 (lset r57.1 r57.2 x31).length n47), (7, .slice A0_0 a0.length n0_0), (8, .int .i64 (a0.length : Int)), (9, .int .i64 (IntKind.wrap .i64 (s11.2 + 1)))]) (by kernel_rfl) ?_
        refine gl_reord (D := C122 ++ L) (Reord.step (Upd.rmC _ _) (Reord.skip (Reord.refl _))) ?_
        refine gl_atE (by kernel_rfl) ?_
        obtain rfl := some_inj hb13
        exact ge_round fun t ht => ⟨A46, n47, C122, hO123, (Imm.trans hI14 hI68), rfl, ht.pick (l := [3, 7, 8, 9]) (by kernel_rfl)⟩
    · have hb13 := cond_f hc30 hb13
      refine gk_exit (by kernel_rfl) ?_
      refine ge_seq_exit ?_
      obtain rfl := some_inj hb13
      refine ge_round_out (fun hrr => ?_) (by intro h; cases h)
      obtain rfl := hrr
      refine ge_block_hit (by kernel_rfl) ?_
      exact ge_mid fun t ht => ⟨A15, n16, C17, hO18, hI14, rfl, ht.pick (l := [3]) (by kernel_rfl)⟩
  · rintro t I27 L' ⟨A22, n23, C24, hO25, hI21, rfl, hK26⟩
    refine ge_at hK26 ?_
    refine ge_seq ?_
    refine gk_seq (by kernel_rfl) ?_
    refine gk_region (by kernel_rfl) ?_
    refine gl_pure 2 [2] (K' := [(2, .slice A22 r9.length n23)]) (by kernel_rfl) ?_
    refine gl_atE (by kernel_rfl) ?_
    refine ge_seq ?_
    refine gk_ret (by kernel_rfl) ?_
    obtain rfl := some_inj hr
    exact ge_result trivial (ResOk.tmp (by kernel_rfl) ResOk.nil) hI21 ⟨A22, n23, C24, hO25, rfl, rfl⟩
/-! 30 tocsinref04_Make  -/
/-! 32 tocsinref04_Get  -/
/-! 28 tocsinlaw04_Spoil_f28 ('own',) -/
noncomputable def tocsinlaw04_Spoil_f28_l25 (a0 : List S49) : ((List S49) × Int) → Option (((List S49) × Int) ⊕ ((List S49))) := fun s10 =>
  bif (decide (s10.2 < (a0.length : Int))) then
  (Option.bind (ix s10.1 s10.2) fun (x28 : S49) =>
    some (Sum.inl ((lset s10.1 s10.2 (⟨(⟨#[115, 112, 111, 105, 108, 116]⟩ : ByteArray), (⟨#[]⟩ : ByteArray)⟩ : S49)), (IntKind.wrap .i64 (s10.2 + 1)))))
  else
  (some (Sum.inr s10.1))
noncomputable def tocsinlaw04_Spoil_f28 (a0 : List S49) : Option Unit :=
  Option.bind (loopO (tocsinlaw04_Spoil_f28_l25 a0) (a0, 0)) fun (r8 : (List S49)) =>
  Option.bind (app r8 [(⟨(⟨#[115, 112, 111, 105, 108, 116]⟩ : ByteArray), (⟨#[]⟩ : ByteArray)⟩ : S49)]) fun (zs44 : List S49) =>
  Option.bind (ix zs44 (IntKind.wrap .i64 ((zs44.length : Int) - 1))) fun (x50 : S49) =>
  some ()
theorem tocsinlaw04_Spoil_f28_walk {a0 : List S49} {A0 : Option Addr} {c0 : Nat} {C0 : Own} {I : Imm} {r : Unit} (hO0 : OwnS kS49 50 I A0 c0 a0 C0) (hr : tocsinlaw04_Spoil_f28 a0 = some r) (L : Own) :
    CallsTo Tryz.prog 28 #[.slice A0 a0.length c0] I (C0 ++ L) (fun v I' L' => v = .tuple #[] ∧ L = L') := by
  unfold tocsinlaw04_Spoil_f28 at hr
  refine callsTo_body (N := 23) Tryz.func28 (by kernel_rfl) (by kernel_rfl) (by kernel_rfl) ?_
  refine gk_pick [0] (K' := [(0, .slice A0 a0.length c0)]) (by kernel_rfl) ?_
  refine gk_seq (by kernel_rfl) ?_
  refine gk_seq (by kernel_rfl) ?_
  refine gk_region (by kernel_rfl) ?_
  refine gl_pure 3 [0, 4, 5] (K' := [(0, .slice A0 a0.length c0), (4, .int .i64 (a0.length : Int)), (5, .int .i64 0)]) (by kernel_rfl) ?_
  refine gl_atE (by kernel_rfl) ?_
  refine ge_seq ?_
  obtain ⟨r8, hl9, hr⟩ := bind_some hr
  refine gk_join (fun t I' L' => ∃ C20, OwnS kS49 50 I' A0 c0 r8 C20 ∧ I ≤ I' ∧ C20 ++ L = L' ∧ Knows 23 [(0, .slice A0 r8.length c0)] t) ?_ ?_
  · refine gk_block (by kernel_rfl) ?_
    refine gk_pick [0, 4, 5] (K' := [(0, .slice A0 a0.length c0), (4, .int .i64 (a0.length : Int)), (5, .int .i64 0)]) (by kernel_rfl) ?_
    intro t hK
    refine gc_loop (tocsinlaw04_Spoil_f28_l25 a0) (fun s10 t I' L' => ∃ C14, OwnS kS49 50 I' A0 c0 s10.1 C14 ∧ I ≤ I' ∧ C14 ++ L = L' ∧ Knows 23 [(0, .slice A0 s10.1.length c0), (4, .int .i64 (a0.length : Int)), (5, .int .i64 s10.2)] t) (by kernel_rfl) ?_ hl9 ⟨C0, hO0, (Imm.refl _), rfl, hK⟩
    rintro s10 o11 t I18 L' hb12 ⟨C14, hO15, hI13, rfl, hK17⟩
    unfold tocsinlaw04_Spoil_f28_l25 at hb12
    refine gk_at hK17 ?_
    refine gk_seq (by kernel_rfl) ?_
    refine gk_region (by kernel_rfl) ?_
    refine gl_pure 1 [0, 4, 5, 6] (K' := [(0, .slice A0 s10.1.length c0), (4, .int .i64 (a0.length : Int)), (5, .int .i64 s10.2), (6, .bool (decide (s10.2 < (a0.length : Int))))]) (by kernel_rfl) ?_
    refine gl_atE (by kernel_rfl) ?_
    refine ge_seq ?_
    refine gk_seq (by kernel_rfl) ?_
    refine gk_cond (b := (decide (s10.2 < (a0.length : Int)))) (by kernel_rfl) (by kernel_rfl) (fun hc27 => ?_) (fun hc27 => ?_)
    · have hb12 := cond_t hc27 hb12
      refine gk_skip (by kernel_rfl) ?_
      refine ge_seq ?_
      refine gk_seq (by kernel_rfl) ?_
      refine gk_block (by kernel_rfl) ?_
      refine gk_seq (by kernel_rfl) ?_
      refine gk_region (by kernel_rfl) ?_
      refine gl_pure 2 [0, 2, 4, 5] (K' := [(0, .slice A0 s10.1.length c0), (2, .int .i64 s10.2), (4, .int .i64 (a0.length : Int)), (5, .int .i64 s10.2)]) (by kernel_rfl) ?_
      refine gl_atE (by kernel_rfl) ?_
      refine ge_seq ?_
      refine gk_region (by kernel_rfl) ?_
      refine gl_pure 3 [0, 4, 5, 8, 9, 10] (K' := [(0, .slice A0 s10.1.length c0), (4, .int .i64 (a0.length : Int)), (5, .int .i64 s10.2), (8, .slice A0 s10.1.length c0), (9, .int .i64 s10.2), (10, .agg #[.string (⟨#[115, 112, 111, 105, 108, 116]⟩ : ByteArray), .string (⟨#[]⟩ : ByteArray)])]) (by kernel_rfl) ?_
      obtain ⟨x28, hx29, hb12⟩ := bind_some hb12
      refine gl_indexAddrW (d := kS49) (c := c0) (T' := 22) (e := 50) (xs := (.tmp 8)) (xi := (.tmp 9)) (kd := .i64) hx29 hO15 (Upd.selfC _ _) (by kernel_rfl) (by kernel_rfl) (by kernel_rfl) (by kernel_rfl) (by kernel_rfl) (fun p30 cs31 hR32 hA33 hp36 => ?_)
      obtain rfl := kS49_open hR32
      have hl39 : s10.1.length = (lset s10.1 s10.2 (⟨(⟨#[115, 112, 111, 105, 108, 116]⟩ : ByteArray), (⟨#[]⟩ : ByteArray)⟩ : S49)).length := by simp [lset]
      refine gl_storeE (d := kS49) (T' := 50) (xp := (.tmp 11)) (xv := (.tmp 10)) (v := .agg #[.string (⟨#[115, 112, 111, 105, 108, 116]⟩ : ByteArray), .string (⟨#[]⟩ : ByteArray)]) (off := 0) (y := (⟨(⟨#[115, 112, 111, 105, 108, 116]⟩ : ByteArray), (⟨#[]⟩ : ByteArray)⟩ : S49)) (fun X => X ++ L) hx29 hO15 (fun X => (Upd.head _ X _)) hp36 (by kernel_rfl) (by kernel_rfl) (by kernel_rfl) (by kernel_rfl) (by kernel_rfl) (by kernel_rfl) (fun cs h => by obtain rfl := kS49_open h; exact kS49_mk (x := (⟨(⟨#[115, 112, 111, 105, 108, 116]⟩ : ByteArray), (⟨#[]⟩ : ByteArray)⟩ : S49)) ) (by kernel_rfl) (fun C37 hO38 => ?_)
      try rw [hl39]
      refine gl_atE (by kernel_rfl) ?_
      refine ge_block_normal ?_
      refine ge_seq ?_
      refine gk_region (by kernel_rfl) ?_
      refine gl_pure 2 [0, 4, 5] (K' := [(0, .slice A0 (lset s10.1 s10.2 (⟨(⟨#[115, 112, 111, 105, 108, 116]⟩ : ByteArray), (⟨#[]⟩ : ByteArray)⟩ : S49)).length c0), (4, .int .i64 (a0.length : Int)), (5, .int .i64 (IntKind.wrap .i64 (s10.2 + 1)))]) (by kernel_rfl) ?_
      refine gl_atE (by kernel_rfl) ?_
      obtain rfl := some_inj hb12
      exact ge_round fun t ht => ⟨C37, hO38, hI13, rfl, ht.pick (l := [0, 4, 5]) (by kernel_rfl)⟩
    · have hb12 := cond_f hc27 hb12
      refine gk_exit (by kernel_rfl) ?_
      refine ge_seq_exit ?_
      obtain rfl := some_inj hb12
      refine ge_round_out (fun hrr => ?_) (by intro h; cases h)
      obtain rfl := hrr
      refine ge_block_hit (by kernel_rfl) ?_
      exact ge_mid fun t ht => ⟨C14, hO15, hI13, rfl, ht.pick (l := [0]) (by kernel_rfl)⟩
  · rintro t I24 L' ⟨C20, hO21, hI19, rfl, hK23⟩
    refine ge_at hK23 ?_
    refine ge_seq ?_
    refine gk_seq (by kernel_rfl) ?_
    refine gk_region (by kernel_rfl) ?_
    refine gl_pure 2 [13, 14] (K' := [(13, .slice A0 r8.length c0), (14, .agg #[.string (⟨#[115, 112, 111, 105, 108, 116]⟩ : ByteArray), .string (⟨#[]⟩ : ByteArray)])]) (by kernel_rfl) ?_
    refine gl_buildSlice (T' := 22) (e := 50) (n := 2) (len := 1) (parts := #[(0, (.tmp 14))]) (l := [(0, .agg #[.string (⟨#[115, 112, 111, 105, 108, 116]⟩ : ByteArray), .string (⟨#[]⟩ : ByteArray)])]) (cs := #[.string (⟨#[115, 112, 111, 105, 108, 116]⟩ : ByteArray), .string (⟨#[]⟩ : ByteArray)]) (by kernel_rfl) (by kernel_rfl) (by kernel_rfl) (by kernel_rfl) (by kernel_rfl) (fun g40 => ?_)
    have hO41 : OwnS kS49 50 I24 (some ⟨g40, 0, none⟩) 1 [(⟨(⟨#[115, 112, 111, 105, 108, 116]⟩ : ByteArray), (⟨#[]⟩ : ByteArray)⟩ : S49)] [(g40, .cells #[.string (⟨#[115, 112, 111, 105, 108, 116]⟩ : ByteArray), .string (⟨#[]⟩ : ByteArray)] 50)] := OwnS.lit (row_cons (l := [.string (⟨#[115, 112, 111, 105, 108, 116]⟩ : ByteArray), .string (⟨#[]⟩ : ByteArray)]) (kS49_mk (x := (⟨(⟨#[115, 112, 111, 105, 108, 116]⟩ : ByteArray), (⟨#[]⟩ : ByteArray)⟩ : S49)) ) (row_nil _ _)) rfl rfl rfl
    refine gl_reord (D := [(g40, .cells #[.string (⟨#[115, 112, 111, 105, 108, 116]⟩ : ByteArray), .string (⟨#[]⟩ : ByteArray)] 50)] ++ (C20 ++ L)) (Reord.refl _) ?_
    obtain ⟨zs44, hz45, hr⟩ := bind_some hr
    refine gl_append (xv := .slice (some ⟨g40, 0, none⟩) [(⟨(⟨#[115, 112, 111, 105, 108, 116]⟩ : ByteArray), (⟨#[]⟩ : ByteArray)⟩ : S49)].length 1) (d := kS49) (t := 22) (tx := 22) (e := 50) (s := (.tmp 13)) (x := (.tmp 15)) (xs := r8) (fun X => [(g40, .cells #[.string (⟨#[115, 112, 111, 105, 108, 116]⟩ : ByteArray), .string (⟨#[]⟩ : ByteArray)] 50)] ++ (X ++ L)) hz45 (by kernel_rfl) (by kernel_rfl) (by kernel_rfl) (by kernel_rfl) (by kernel_rfl) (by kernel_rfl) (fun X => (Upd.app _ (Upd.head _ X _))) hO21 (SrcOk.slice (c := 1) (e := 50) (n := 2) (OwnS.rd hO41 (Upd.selfC _ _)) (by kernel_rfl)) (fun A46 n47 C48 hO49 => ?_)
    refine gl_pure 1 [0] (K' := [(0, .slice A46 zs44.length n47)]) (by kernel_rfl) ?_
    refine gl_atE (by kernel_rfl) ?_
    refine ge_seq ?_
    refine gk_region (by kernel_rfl) ?_
    refine gl_pure 4 [17, 20] (K' := [(17, .slice A46 zs44.length n47), (20, .int .i64 (IntKind.wrap .i64 ((zs44.length : Int) - 1)))]) (by kernel_rfl) ?_
    obtain ⟨x50, hx51, hr⟩ := bind_some hr
    refine gl_indexAddrW (d := kS49) (c := n47) (T' := 22) (e := 50) (xs := (.tmp 17)) (xi := (.tmp 20)) (kd := .i64) hx51 hO49 (Upd.app _ (Upd.selfC _ _)) (by kernel_rfl) (by kernel_rfl) (by kernel_rfl) (by kernel_rfl) (by kernel_rfl) (fun p52 cs53 hR54 hA55 hp58 => ?_)
    obtain rfl := kS49_open hR54
    refine gl_pure 1 [22] (K' := [(22, .pointer (some (p52.add 1)))]) (by kernel_rfl) ?_
    have hl61 : zs44.length = (lset zs44 (IntKind.wrap .i64 ((zs44.length : Int) - 1)) (⟨x50.f0, (⟨#[116, 111, 111]⟩ : ByteArray)⟩ : S49)).length := by simp [lset]
    refine gl_storeE (d := kS49) (T' := 9) (xp := (.tmp 22)) (xv := (.const (.string (⟨#[116, 111, 111]⟩ : ByteArray)))) (v := .string (⟨#[116, 111, 111]⟩ : ByteArray)) (off := 1) (y := (⟨x50.f0, (⟨#[116, 111, 111]⟩ : ByteArray)⟩ : S49)) (fun X => [(g40, .cells #[.string (⟨#[115, 112, 111, 105, 108, 116]⟩ : ByteArray), .string (⟨#[]⟩ : ByteArray)] 50)] ++ (X ++ L)) hx51 hO49 (fun X => (Upd.app _ (Upd.head _ X _))) hp58 (by kernel_rfl) (by kernel_rfl) (by kernel_rfl) (by kernel_rfl) (by kernel_rfl) (by kernel_rfl) (fun cs h => by obtain rfl := kS49_open h; exact kS49_mk (x := (⟨x50.f0, (⟨#[116, 111, 111]⟩ : ByteArray)⟩ : S49)) ) (by kernel_rfl) (fun C59 hO60 => ?_)
    try rw [hl61]
    refine gl_reord (D := L) (Reord.skipC (Reord.skipC (Reord.refl _))) ?_
    refine gl_atE (by kernel_rfl) ?_
    obtain rfl := some_inj hr
    exact ge_result trivial ResOk.nil hI19 ⟨rfl, rfl⟩
/-! 21 tocsinlaw04_Kept_f21  -/
/-! 5 tocsinlaw04_LabelsMakes  -/
/-! 37 labels_With  -/
noncomputable def labels_With (a0 : List S49) (a1 : ByteArray) (a2 : ByteArray) : Option ((List S49) × Int) :=
  Option.bind (labels_right a0) fun (y1 : Int) =>
  bif (y1 != 0) then
  (some ([], y1))
  else
  (Option.bind (labels_Name a1) fun (y4 : Bool) =>
    bif (!y4) then
    (some ([], 40))
    else
    (Option.bind (labels_pick a0 false [a1]) fun (y15 : (List S49)) =>
      bif (a2.toList == (⟨#[]⟩ : ByteArray).toList) then
      (some (y15, 0))
      else
      (Option.bind (labels_value a2) fun (y25 : Int) =>
        bif (y25 != 0) then
        (some ([], y25))
        else
        (Option.bind (app y15 [(⟨a1, a2⟩ : S49)]) fun (zs32 : List S49) =>
          Option.bind (labels_sorted zs32) fun (y42 : (List S49) × Bool) =>
          bif (decide ((y42.1.length : Int) > 16)) then
          (some ([], 8))
          else
          (some (y42.1, 0))))))
theorem labels_With_walk {a0 : List S49} {A0_0 : Option Addr} {n0_0 : Nat} {a1 : ByteArray} {a2 : ByteArray} {I : Imm} {r : (List S49) × Int} (hG : Gl I)  (hf0_0 : RepS kS49 I A0_0 n0_0 a0) (hr : labels_With a0 a1 a2 = some r) (L : Own) :
    CallsTo Tryz.prog 37 #[.slice A0_0 a0.length n0_0, .string a1, .string a2] I L (fun v I' L' => ∃ A0 c0 C0, OwnS kS49 50 I' A0 c0 r.1 C0 ∧ v = .tuple #[.slice A0 r.1.length c0, .int .i64 r.2] ∧ C0 ++ L = L') := by
  unfold labels_With at hr
  refine callsTo_body (N := 45) Tryz.func37 (by kernel_rfl) (by kernel_rfl) (by kernel_rfl) ?_
  refine gk_pick [0, 1, 2] (K' := [(0, .slice A0_0 a0.length n0_0), (1, .string a1), (2, .string a2)]) (by kernel_rfl) ?_
  refine gk_seq (by kernel_rfl) ?_
  refine gk_region (by kernel_rfl) ?_
  refine gl_pure 2 [0, 1, 2] (K' := [(0, .slice A0_0 a0.length n0_0), (1, .string a1), (2, .string a2)]) (by kernel_rfl) ?_
  refine gl_atE (by kernel_rfl) ?_
  refine ge_seq ?_
  refine gk_seq (by kernel_rfl) ?_
  refine gk_seq (by kernel_rfl) ?_
  refine gk_region (by kernel_rfl) ?_
  refine gl_pure 1 [0, 1, 2, 11] (K' := [(0, .slice A0_0 a0.length n0_0), (1, .string a1), (2, .string a2), (11, .slice A0_0 a0.length n0_0)]) (by kernel_rfl) ?_
  obtain ⟨y1, hx2, hr⟩ := bind_some hr
  refine gl_callQ (by kernel_rfl) (labels_right_walk (r := y1) hG hf0_0 hx2 _) ?_
  refine gl_pure 1 [0, 1, 2, 8] (K' := [(0, .slice A0_0 a0.length n0_0), (1, .string a1), (2, .string a2), (8, .int .i64 y1)]) (by kernel_rfl) ?_
  refine gl_atE (by kernel_rfl) ?_
  refine ge_seq ?_
  refine gk_seq (by kernel_rfl) ?_
  refine gk_region (by kernel_rfl) ?_
  refine gl_pure 2 [0, 1, 2, 8, 14] (K' := [(0, .slice A0_0 a0.length n0_0), (1, .string a1), (2, .string a2), (8, .int .i64 y1), (14, .bool (y1 != 0))]) (by kernel_rfl) ?_
  refine gl_atE (by kernel_rfl) ?_
  refine ge_seq ?_
  refine gk_cond (b := (y1 != 0)) (by kernel_rfl) (by kernel_rfl) (fun hc3 => ?_) (fun hc3 => ?_)
  · have hr := cond_t hc3 hr
    refine gk_seq (by kernel_rfl) ?_
    refine gk_region (by kernel_rfl) ?_
    refine gl_pure 3 [6, 7] (K' := [(6, .slice none 0 0), (7, .int .i64 y1)]) (by kernel_rfl) ?_
    refine gl_atE (by kernel_rfl) ?_
    refine ge_seq ?_
    refine gk_ret (by kernel_rfl) ?_
    refine ge_seq_ret ?_
    obtain rfl := some_inj hr
    exact ge_result trivial (ResOk.tmp (by kernel_rfl) (ResOk.tmp (by kernel_rfl) ResOk.nil)) (Imm.refl _) ⟨none, 0, [], OwnS.nil _ _ _ _, rfl, rfl⟩
  · have hr := cond_f hc3 hr
    refine gk_skip (by kernel_rfl) ?_
    refine ge_seq ?_
    refine gk_seq (by kernel_rfl) ?_
    refine gk_seq (by kernel_rfl) ?_
    refine gk_region (by kernel_rfl) ?_
    refine gl_pure 1 [0, 1, 2, 16] (K' := [(0, .slice A0_0 a0.length n0_0), (1, .string a1), (2, .string a2), (16, .string a1)]) (by kernel_rfl) ?_
    obtain ⟨y4, hx5, hr⟩ := bind_some hr
    refine gl_callQ (by kernel_rfl) (labels_Name_walk (r := y4)  hx5 _) ?_
    refine gl_pure 1 [0, 1, 2, 18] (K' := [(0, .slice A0_0 a0.length n0_0), (1, .string a1), (2, .string a2), (18, .bool (!y4))]) (by kernel_rfl) ?_
    refine gl_atE (by kernel_rfl) ?_
    refine ge_seq ?_
    refine gk_cond (b := (!y4)) (by kernel_rfl) (by kernel_rfl) (fun hc6 => ?_) (fun hc6 => ?_)
    · have hr := cond_t hc6 hr
      refine gk_seq (by kernel_rfl) ?_
      refine gk_region (by kernel_rfl) ?_
      refine gl_pure 2 [6, 7] (K' := [(6, .slice none 0 0), (7, .int .i64 40)]) (by kernel_rfl) ?_
      refine gl_atE (by kernel_rfl) ?_
      refine ge_seq ?_
      refine gk_ret (by kernel_rfl) ?_
      refine ge_seq_ret ?_
      obtain rfl := some_inj hr
      exact ge_result trivial (ResOk.tmp (by kernel_rfl) (ResOk.tmp (by kernel_rfl) ResOk.nil)) (Imm.refl _) ⟨none, 0, [], OwnS.nil _ _ _ _, rfl, rfl⟩
    · have hr := cond_f hc6 hr
      refine gk_skip (by kernel_rfl) ?_
      refine ge_seq ?_
      refine gk_seq (by kernel_rfl) ?_
      refine gk_region (by kernel_rfl) ?_
      refine gl_pure 2 [1, 2, 19, 20] (K' := [(1, .string a1), (2, .string a2), (19, .slice A0_0 a0.length n0_0), (20, .string a1)]) (by kernel_rfl) ?_
      refine gl_buildSlice (T' := 44) (e := 9) (n := 1) (len := 1) (parts := #[(0, (.tmp 20))]) (l := [(0, .string a1)]) (cs := #[.string a1]) (by kernel_rfl) (by kernel_rfl) (by kernel_rfl) (by kernel_rfl) (by kernel_rfl) (fun g7 => ?_)
      have hO8 : OwnS Kd.str 9 I (some ⟨g7, 0, none⟩) 1 [a1] [(g7, .cells #[.string a1] 9)] := OwnS.lit (row_cons (l := [.string a1]) rfl (row_nil _ _)) rfl rfl rfl
      refine gl_reord (D := [(g7, .cells #[.string a1] 9)] ++ L) (Reord.refl _) ?_
      refine gl_rest (Tk.step (Upd.rmC _ _) (Tk.nil _)) (fun J11 hJ12 hC13 => ?_)
      have hf14 := (OwnS.rest hO8 hJ12 hC13.left)
      obtain ⟨y15, hx16, hr⟩ := bind_some hr
      refine gl_call (by kernel_rfl) (labels_pick_walk (r := y15) (hf0_0.mono hJ12) hf14 hx16 _) ?_
      rintro v I17 L18 hI19 ⟨A20, c21, C22, hO23, rfl, rfl⟩
      refine gl_pure 1 [1, 2, 9] (K' := [(1, .string a1), (2, .string a2), (9, .slice A20 y15.length c21)]) (by kernel_rfl) ?_
      refine gl_atE (by kernel_rfl) ?_
      refine ge_seq ?_
      refine gk_seq (by kernel_rfl) ?_
      refine gk_seq (by kernel_rfl) ?_
      refine gk_region (by kernel_rfl) ?_
      refine gl_pure 2 [1, 2, 9, 24] (K' := [(1, .string a1), (2, .string a2), (9, .slice A20 y15.length c21), (24, .bool (a2.toList == (⟨#[]⟩ : ByteArray).toList))]) (by kernel_rfl) ?_
      refine gl_atE (by kernel_rfl) ?_
      refine ge_seq ?_
      refine gk_cond (b := (a2.toList == (⟨#[]⟩ : ByteArray).toList)) (by kernel_rfl) (by kernel_rfl) (fun hc24 => ?_) (fun hc24 => ?_)
      · have hr := cond_t hc24 hr
        refine gk_seq (by kernel_rfl) ?_
        refine gk_region (by kernel_rfl) ?_
        refine gl_pure 3 [6, 7] (K' := [(6, .slice A20 y15.length c21), (7, .int .i64 0)]) (by kernel_rfl) ?_
        refine gl_atE (by kernel_rfl) ?_
        refine ge_seq ?_
        refine gk_ret (by kernel_rfl) ?_
        refine ge_seq_ret ?_
        obtain rfl := some_inj hr
        exact ge_result trivial (ResOk.tmp (by kernel_rfl) (ResOk.tmp (by kernel_rfl) ResOk.nil)) (Imm.trans hJ12 hI19) ⟨A20, c21, C22, hO23, rfl, rfl⟩
      · have hr := cond_f hc24 hr
        refine gk_skip (by kernel_rfl) ?_
        refine ge_seq ?_
        refine gk_seq (by kernel_rfl) ?_
        refine gk_seq (by kernel_rfl) ?_
        refine gk_region (by kernel_rfl) ?_
        refine gl_pure 1 [1, 2, 9, 26] (K' := [(1, .string a1), (2, .string a2), (9, .slice A20 y15.length c21), (26, .string a2)]) (by kernel_rfl) ?_
        obtain ⟨y25, hx26, hr⟩ := bind_some hr
        refine gl_callQ (by kernel_rfl) (labels_value_walk (r := y25) (hG.mono (Imm.trans hJ12 hI19)) hx26 _) ?_
        refine gl_pure 1 [1, 2, 9, 10] (K' := [(1, .string a1), (2, .string a2), (9, .slice A20 y15.length c21), (10, .int .i64 y25)]) (by kernel_rfl) ?_
        refine gl_atE (by kernel_rfl) ?_
        refine ge_seq ?_
        refine gk_seq (by kernel_rfl) ?_
        refine gk_region (by kernel_rfl) ?_
        refine gl_pure 2 [1, 2, 9, 10, 29] (K' := [(1, .string a1), (2, .string a2), (9, .slice A20 y15.length c21), (10, .int .i64 y25), (29, .bool (y25 != 0))]) (by kernel_rfl) ?_
        refine gl_atE (by kernel_rfl) ?_
        refine ge_seq ?_
        refine gk_cond (b := (y25 != 0)) (by kernel_rfl) (by kernel_rfl) (fun hc27 => ?_) (fun hc27 => ?_)
        · have hr := cond_t hc27 hr
          refine gk_seq (by kernel_rfl) ?_
          refine gk_region (by kernel_rfl) ?_
          refine gl_pure 3 [6, 7] (K' := [(6, .slice none 0 0), (7, .int .i64 y25)]) (by kernel_rfl) ?_
          refine gl_atE (by kernel_rfl) ?_
          refine ge_seq ?_
          refine gk_reord (D := L) (Reord.skipC (Reord.refl _)) ?_
          refine gk_ret (by kernel_rfl) ?_
          refine ge_seq_ret ?_
          obtain rfl := some_inj hr
          exact ge_result trivial (ResOk.tmp (by kernel_rfl) (ResOk.tmp (by kernel_rfl) ResOk.nil)) (Imm.trans hJ12 hI19) ⟨none, 0, [], OwnS.nil _ _ _ _, rfl, rfl⟩
        · have hr := cond_f hc27 hr
          refine gk_skip (by kernel_rfl) ?_
          refine ge_seq ?_
          refine gk_seq (by kernel_rfl) ?_
          refine gk_region (by kernel_rfl) ?_
          refine gl_pure 4 [32, 35] (K' := [(32, .slice A20 y15.length c21), (35, .agg #[.string a1, .string a2])]) (by kernel_rfl) ?_
          refine gl_buildSlice (T' := 22) (e := 50) (n := 2) (len := 1) (parts := #[(0, (.tmp 35))]) (l := [(0, .agg #[.string a1, .string a2])]) (cs := #[.string a1, .string a2]) (by kernel_rfl) (by kernel_rfl) (by kernel_rfl) (by kernel_rfl) (by kernel_rfl) (fun g28 => ?_)
          have hO29 : OwnS kS49 50 I17 (some ⟨g28, 0, none⟩) 1 [(⟨a1, a2⟩ : S49)] [(g28, .cells #[.string a1, .string a2] 50)] := OwnS.lit (row_cons (l := [.string a1, .string a2]) (kS49_mk (x := (⟨a1, a2⟩ : S49)) ) (row_nil _ _)) rfl rfl rfl
          refine gl_reord (D := [(g28, .cells #[.string a1, .string a2] 50)] ++ (C22 ++ L)) (Reord.refl _) ?_
          obtain ⟨zs32, hz33, hr⟩ := bind_some hr
          refine gl_append (xv := .slice (some ⟨g28, 0, none⟩) [(⟨a1, a2⟩ : S49)].length 1) (d := kS49) (t := 22) (tx := 22) (e := 50) (s := (.tmp 32)) (x := (.tmp 36)) (xs := y15) (fun X => [(g28, .cells #[.string a1, .string a2] 50)] ++ (X ++ L)) hz33 (by kernel_rfl) (by kernel_rfl) (by kernel_rfl) (by kernel_rfl) (by kernel_rfl) (by kernel_rfl) (fun X => (Upd.app _ (Upd.head _ X _))) hO23 (SrcOk.slice (c := 1) (e := 50) (n := 2) (OwnS.rd hO29 (Upd.selfC _ _)) (by kernel_rfl)) (fun A34 n35 C36 hO37 => ?_)
          refine gl_rest (Tk.step (Upd.app _ (Upd.rmC _ _)) (Tk.nil _)) (fun J38 hJ39 hC40 => ?_)
          have hf41 := (OwnS.rest hO37 hJ39 hC40.left)
          obtain ⟨y42, hx43, hr⟩ := bind_some hr
          refine gl_call (by kernel_rfl) (labels_sorted_walk (r := y42) hf41 hx43 _) ?_
          rintro v I44 L45 hI46 ⟨A47, c48, C49, hO50, rfl, rfl⟩
          refine gl_pure 4 [9] (K' := [(9, .slice A47 y42.1.length c48)]) (by kernel_rfl) ?_
          refine gl_atE (by kernel_rfl) ?_
          refine ge_seq ?_
          refine gk_seq (by kernel_rfl) ?_
          refine gk_seq (by kernel_rfl) ?_
          refine gk_region (by kernel_rfl) ?_
          refine gl_pure 3 [9, 43] (K' := [(9, .slice A47 y42.1.length c48), (43, .bool (decide ((y42.1.length : Int) > 16)))]) (by kernel_rfl) ?_
          refine gl_atE (by kernel_rfl) ?_
          refine ge_seq ?_
          refine gk_cond (b := (decide ((y42.1.length : Int) > 16))) (by kernel_rfl) (by kernel_rfl) (fun hc51 => ?_) (fun hc51 => ?_)
          · have hr := cond_t hc51 hr
            refine gk_seq (by kernel_rfl) ?_
            refine gk_region (by kernel_rfl) ?_
            refine gl_pure 2 [6, 7] (K' := [(6, .slice none 0 0), (7, .int .i64 8)]) (by kernel_rfl) ?_
            refine gl_atE (by kernel_rfl) ?_
            refine ge_seq ?_
            refine gk_reord (D := L) (Reord.skipC (Reord.skipC (Reord.refl _))) ?_
            refine gk_ret (by kernel_rfl) ?_
            refine ge_seq_ret ?_
            obtain rfl := some_inj hr
            exact ge_result trivial (ResOk.tmp (by kernel_rfl) (ResOk.tmp (by kernel_rfl) ResOk.nil)) (Imm.trans (Imm.trans (Imm.trans hJ12 hI19) hJ39) hI46) ⟨none, 0, [], OwnS.nil _ _ _ _, rfl, rfl⟩
          · have hr := cond_f hc51 hr
            refine gk_skip (by kernel_rfl) ?_
            refine ge_seq ?_
            refine gk_seq (by kernel_rfl) ?_
            refine gk_region (by kernel_rfl) ?_
            refine gl_pure 3 [6, 7] (K' := [(6, .slice A47 y42.1.length c48), (7, .int .i64 0)]) (by kernel_rfl) ?_
            refine gl_atE (by kernel_rfl) ?_
            refine ge_seq ?_
            refine gk_reord (D := C49 ++ L) (Reord.step (Upd.rmC _ _) (Reord.skipC (Reord.refl _))) ?_
            refine gk_ret (by kernel_rfl) ?_
            obtain rfl := some_inj hr
            exact ge_result trivial (ResOk.tmp (by kernel_rfl) (ResOk.tmp (by kernel_rfl) ResOk.nil)) (Imm.trans (Imm.trans (Imm.trans hJ12 hI19) hJ39) hI46) ⟨A47, c48, C49, hO50, rfl, rfl⟩
/-! 112 tocsinref04_has  -/
noncomputable def tocsinref04_has_l17 (a0 : List ByteArray) (a1 : ByteArray) : Int → Option ((Int) ⊕ ((Unit) ⊕ (Bool))) := fun s7 =>
  bif (decide (s7 < (a0.length : Int))) then
  (Option.bind (ix a0 s7) fun (x20 : ByteArray) =>
    bif (x20.toList == a1.toList) then
    (some (Sum.inr (Sum.inr true)))
    else
    (some (Sum.inl (IntKind.wrap .i64 (s7 + 1)))))
  else
  (some (Sum.inr (Sum.inl ())))
noncomputable def tocsinref04_has (a0 : List ByteArray) (a1 : ByteArray) : Option Bool :=
  Option.bind (loopO (tocsinref04_has_l17 a0 a1) 0) fun (r5 : (Unit) ⊕ (Bool)) =>
  match r5 with
  | Sum.inl r13 => some false
  | Sum.inr v29 => some v29
theorem tocsinref04_has_walk {a0 : List ByteArray} {A0_0 : Option Addr} {n0_0 : Nat} {a1 : ByteArray} {I : Imm} {r : Bool}  (hf0_0 : RepS Kd.str I A0_0 n0_0 a0) (hr : tocsinref04_has a0 a1 = some r) (L : Own) :
    CallsTo Tryz.prog 112 #[.slice A0_0 a0.length n0_0, .string a1] I L (fun v I' L' => v = .bool r ∧ L = L') := by
  unfold tocsinref04_has at hr
  refine callsTo_body (N := 17) Tryz.func112 (by kernel_rfl) (by kernel_rfl) (by kernel_rfl) ?_
  refine gk_pick [0, 1] (K' := [(0, .slice A0_0 a0.length n0_0), (1, .string a1)]) (by kernel_rfl) ?_
  refine gk_seq (by kernel_rfl) ?_
  refine gk_region (by kernel_rfl) ?_
  refine gl_pure 1 [0, 1] (K' := [(0, .slice A0_0 a0.length n0_0), (1, .string a1)]) (by kernel_rfl) ?_
  refine gl_atE (by kernel_rfl) ?_
  refine ge_seq ?_
  refine gk_seq (by kernel_rfl) ?_
  refine gk_seq (by kernel_rfl) ?_
  refine gk_region (by kernel_rfl) ?_
  refine gl_pure 3 [1, 7, 8, 9] (K' := [(1, .string a1), (7, .slice A0_0 a0.length n0_0), (8, .int .i64 (a0.length : Int)), (9, .int .i64 0)]) (by kernel_rfl) ?_
  refine gl_atE (by kernel_rfl) ?_
  refine ge_seq ?_
  obtain ⟨r5, hl6, hr⟩ := bind_some hr
  refine gk_join (fun t I' L' => ∃ r13, r5 = Sum.inl r13 ∧ I ≤ I' ∧ L = L' ∧ Knows 17 [] t) ?_ ?_
  · refine gk_block (by kernel_rfl) ?_
    refine gk_pick [1, 7, 8, 9] (K' := [(1, .string a1), (7, .slice A0_0 a0.length n0_0), (8, .int .i64 (a0.length : Int)), (9, .int .i64 0)]) (by kernel_rfl) ?_
    intro t hK
    refine gc_loop (tocsinref04_has_l17 a0 a1) (fun s7 t I' L' => I ≤ I' ∧ L = L' ∧ Knows 17 [(1, .string a1), (7, .slice A0_0 a0.length n0_0), (8, .int .i64 (a0.length : Int)), (9, .int .i64 s7)] t) (by kernel_rfl) ?_ hl6 ⟨(Imm.refl _), rfl, hK⟩
    rintro s7 o8 t I12 L' hb9 ⟨hI10, rfl, hK11⟩
    unfold tocsinref04_has_l17 at hb9
    refine gk_at hK11 ?_
    refine gk_seq (by kernel_rfl) ?_
    refine gk_region (by kernel_rfl) ?_
    refine gl_pure 1 [1, 7, 8, 9, 10] (K' := [(1, .string a1), (7, .slice A0_0 a0.length n0_0), (8, .int .i64 (a0.length : Int)), (9, .int .i64 s7), (10, .bool (decide (s7 < (a0.length : Int))))]) (by kernel_rfl) ?_
    refine gl_atE (by kernel_rfl) ?_
    refine ge_seq ?_
    refine gk_seq (by kernel_rfl) ?_
    refine gk_cond (b := (decide (s7 < (a0.length : Int)))) (by kernel_rfl) (by kernel_rfl) (fun hc19 => ?_) (fun hc19 => ?_)
    · have hb9 := cond_t hc19 hb9
      refine gk_skip (by kernel_rfl) ?_
      refine ge_seq ?_
      refine gk_seq (by kernel_rfl) ?_
      refine gk_block (by kernel_rfl) ?_
      refine gk_seq (by kernel_rfl) ?_
      refine gk_region (by kernel_rfl) ?_
      obtain ⟨x20, hx21, hb9⟩ := bind_some hb9
      obtain ⟨p22, cs23, hR24, hA25, ha26⟩ := RepS.ixAt hx21 (hf0_0.mono hI10)
      have hi27 := ix_some hx21
      obtain rfl := hR24
      refine gl_indexAddrF (c := n0_0) (T' := 44) (e := 9) (xs := (.tmp 7)) (xi := (.tmp 9)) (kd := .i64) ha26 hi27.1 hi27.2.1 (by kernel_rfl) (by kernel_rfl) (by kernel_rfl) (by kernel_rfl) (by kernel_rfl) ?_
      refine gl_load (T' := 9) (xp := (.tmp 11)) (p := p22) (c := .string x20) (n := 1) (by kernel_rfl) (by kernel_rfl) (by kernel_rfl) (by kernel_rfl) hA25 ?_
      refine gl_pure 1 [1, 6, 7, 8, 9] (K' := [(1, .string a1), (6, .string x20), (7, .slice A0_0 a0.length n0_0), (8, .int .i64 (a0.length : Int)), (9, .int .i64 s7)]) (by kernel_rfl) ?_
      refine gl_atE (by kernel_rfl) ?_
      refine ge_seq ?_
      refine gk_seq (by kernel_rfl) ?_
      refine gk_region (by kernel_rfl) ?_
      refine gl_pure 3 [1, 7, 8, 9, 15] (K' := [(1, .string a1), (7, .slice A0_0 a0.length n0_0), (8, .int .i64 (a0.length : Int)), (9, .int .i64 s7), (15, .bool (x20.toList == a1.toList))]) (by kernel_rfl) ?_
      refine gl_atE (by kernel_rfl) ?_
      refine ge_seq ?_
      refine gk_cond (b := (x20.toList == a1.toList)) (by kernel_rfl) (by kernel_rfl) (fun hc28 => ?_) (fun hc28 => ?_)
      · have hb9 := cond_t hc28 hb9
        refine gk_seq (by kernel_rfl) ?_
        refine gk_region (by kernel_rfl) ?_
        refine gl_pure 1 [4] (K' := [(4, .bool true)]) (by kernel_rfl) ?_
        refine gl_atE (by kernel_rfl) ?_
        refine ge_seq ?_
        refine gk_ret (by kernel_rfl) ?_
        refine ge_block_ret ?_
        refine ge_seq_ret ?_
        obtain rfl := some_inj hb9
        refine ge_round_out (fun hrr => ?_) (by intro h; cases h)
        obtain rfl := hrr
        refine ge_block_ret ?_
        refine ge_seq_ret ?_
        refine ge_seq_ret ?_
        obtain rfl := some_inj hr
        exact ge_result trivial (ResOk.tmp (by kernel_rfl) ResOk.nil) hI10 ⟨rfl, rfl⟩
      · have hb9 := cond_f hc28 hb9
        refine gk_skip (by kernel_rfl) ?_
        refine ge_block_normal ?_
        refine ge_seq ?_
        refine gk_region (by kernel_rfl) ?_
        refine gl_pure 2 [1, 7, 8, 9] (K' := [(1, .string a1), (7, .slice A0_0 a0.length n0_0), (8, .int .i64 (a0.length : Int)), (9, .int .i64 (IntKind.wrap .i64 (s7 + 1)))]) (by kernel_rfl) ?_
        refine gl_atE (by kernel_rfl) ?_
        obtain rfl := some_inj hb9
        exact ge_round fun t ht => ⟨hI10, rfl, ht.pick (l := [1, 7, 8, 9]) (by kernel_rfl)⟩
    · have hb9 := cond_f hc19 hb9
      refine gk_exit (by kernel_rfl) ?_
      refine ge_seq_exit ?_
      obtain rfl := some_inj hb9
      refine ge_round_out (fun hrr => ?_) (by intro h; cases h)
      obtain rfl := hrr
      refine ge_block_hit (by kernel_rfl) ?_
      exact ge_mid fun t ht => ⟨_, rfl, hI10, rfl, ht.pick (l := []) (by kernel_rfl)⟩
  · rintro t I16 L' ⟨r13, rfl, hI14, rfl, hK15⟩
    refine ge_at hK15 ?_
    refine ge_seq ?_
    refine gk_seq (by kernel_rfl) ?_
    refine gk_region (by kernel_rfl) ?_
    refine gl_pure 1 [4] (K' := [(4, .bool false)]) (by kernel_rfl) ?_
    refine gl_atE (by kernel_rfl) ?_
    refine ge_seq ?_
    refine gk_ret (by kernel_rfl) ?_
    obtain rfl := some_inj hr
    exact ge_result trivial (ResOk.tmp (by kernel_rfl) ResOk.nil) hI14 ⟨rfl, rfl⟩
/-! 65 tocsinref04_Pick  -/
noncomputable def tocsinref04_Pick_l28 (a0 : List S49) (a1 : List ByteArray) (a2 : Bool) : ((List S49) × Int) → Option (((List S49) × Int) ⊕ ((List S49))) := fun s11 =>
  bif (decide (s11.2 < (a0.length : Int))) then
  (Option.bind (ix a0 s11.2) fun (x31 : S49) =>
    Option.bind (tocsinref04_has a1 x31.f0) fun (y40 : Bool) =>
    Option.bind (bif (y40 == a2) then
      (Option.bind (app s11.1 [x31]) fun (zs56 : List S49) =>
        some zs56)
      else
      (some s11.1)) fun (j42 : (List S49)) =>
    some (Sum.inl (j42, (IntKind.wrap .i64 (s11.2 + 1)))))
  else
  (some (Sum.inr s11.1))
noncomputable def tocsinref04_Pick (a0 : List S49) (a1 : List ByteArray) (a2 : Bool) : Option (List S49) :=
  Option.bind (loopO (tocsinref04_Pick_l28 a0 a1 a2) ([], 0)) fun (r9 : (List S49)) =>
  some r9
theorem tocsinref04_Pick_walk {a0 : List S49} {A0_0 : Option Addr} {n0_0 : Nat} {a1 : List ByteArray} {A1_0 : Option Addr} {n1_0 : Nat} {a2 : Bool} {I : Imm} {r : (List S49)}  (hf0_0 : RepS kS49 I A0_0 n0_0 a0)  (hf1_0 : RepS Kd.str I A1_0 n1_0 a1) (hr : tocsinref04_Pick a0 a1 a2 = some r) (L : Own) :
    CallsTo Tryz.prog 65 #[.slice A0_0 a0.length n0_0, .slice A1_0 a1.length n1_0, .bool a2] I L (fun v I' L' => ∃ A0 c0 C0, OwnS kS49 50 I' A0 c0 r C0 ∧ v = .slice A0 r.length c0 ∧ C0 ++ L = L') := by
  unfold tocsinref04_Pick at hr
  refine callsTo_body (N := 28) Tryz.func65 (by kernel_rfl) (by kernel_rfl) (by kernel_rfl) ?_
  refine gk_pick [0, 1, 2] (K' := [(0, .slice A0_0 a0.length n0_0), (1, .slice A1_0 a1.length n1_0), (2, .bool a2)]) (by kernel_rfl) ?_
  refine gk_seq (by kernel_rfl) ?_
  refine gk_region (by kernel_rfl) ?_
  refine gl_pure 1 [0, 1, 2] (K' := [(0, .slice A0_0 a0.length n0_0), (1, .slice A1_0 a1.length n1_0), (2, .bool a2)]) (by kernel_rfl) ?_
  refine gl_atE (by kernel_rfl) ?_
  refine ge_seq ?_
  refine gk_seq (by kernel_rfl) ?_
  refine gk_region (by kernel_rfl) ?_
  refine gl_pure 1 [0, 1, 2, 7] (K' := [(0, .slice A0_0 a0.length n0_0), (1, .slice A1_0 a1.length n1_0), (2, .bool a2), (7, .slice none 0 0)]) (by kernel_rfl) ?_
  refine gl_atE (by kernel_rfl) ?_
  refine ge_seq ?_
  refine gk_seq (by kernel_rfl) ?_
  refine gk_seq (by kernel_rfl) ?_
  refine gk_region (by kernel_rfl) ?_
  refine gl_pure 3 [1, 2, 7, 10, 11, 12] (K' := [(1, .slice A1_0 a1.length n1_0), (2, .bool a2), (7, .slice none 0 0), (10, .slice A0_0 a0.length n0_0), (11, .int .i64 (a0.length : Int)), (12, .int .i64 0)]) (by kernel_rfl) ?_
  refine gl_atE (by kernel_rfl) ?_
  refine ge_seq ?_
  obtain ⟨r9, hl10, hr⟩ := bind_some hr
  refine gk_join (fun t I' L' => ∃ A22 n23 C24, OwnS kS49 50 I' A22 n23 r9 C24 ∧ I ≤ I' ∧ C24 ++ L = L' ∧ Knows 28 [(7, .slice A22 r9.length n23)] t) ?_ ?_
  · refine gk_block (by kernel_rfl) ?_
    refine gk_pick [1, 2, 7, 10, 11, 12] (K' := [(1, .slice A1_0 a1.length n1_0), (2, .bool a2), (7, .slice none 0 0), (10, .slice A0_0 a0.length n0_0), (11, .int .i64 (a0.length : Int)), (12, .int .i64 0)]) (by kernel_rfl) ?_
    intro t hK
    refine gc_loop (tocsinref04_Pick_l28 a0 a1 a2) (fun s11 t I' L' => ∃ A15 n16 C17, OwnS kS49 50 I' A15 n16 s11.1 C17 ∧ I ≤ I' ∧ C17 ++ L = L' ∧ Knows 28 [(1, .slice A1_0 a1.length n1_0), (2, .bool a2), (7, .slice A15 s11.1.length n16), (10, .slice A0_0 a0.length n0_0), (11, .int .i64 (a0.length : Int)), (12, .int .i64 s11.2)] t) (by kernel_rfl) ?_ hl10 ⟨none, 0, [], OwnS.nil _ _ _ _, (Imm.refl _), rfl, hK⟩
    rintro s11 o12 t I20 L' hb13 ⟨A15, n16, C17, hO18, hI14, rfl, hK19⟩
    unfold tocsinref04_Pick_l28 at hb13
    refine gk_at hK19 ?_
    refine gk_seq (by kernel_rfl) ?_
    refine gk_region (by kernel_rfl) ?_
    refine gl_pure 1 [1, 2, 7, 10, 11, 12, 13] (K' := [(1, .slice A1_0 a1.length n1_0), (2, .bool a2), (7, .slice A15 s11.1.length n16), (10, .slice A0_0 a0.length n0_0), (11, .int .i64 (a0.length : Int)), (12, .int .i64 s11.2), (13, .bool (decide (s11.2 < (a0.length : Int))))]) (by kernel_rfl) ?_
    refine gl_atE (by kernel_rfl) ?_
    refine ge_seq ?_
    refine gk_seq (by kernel_rfl) ?_
    refine gk_cond (b := (decide (s11.2 < (a0.length : Int)))) (by kernel_rfl) (by kernel_rfl) (fun hc30 => ?_) (fun hc30 => ?_)
    · have hb13 := cond_t hc30 hb13
      refine gk_skip (by kernel_rfl) ?_
      refine ge_seq ?_
      refine gk_seq (by kernel_rfl) ?_
      refine gk_block (by kernel_rfl) ?_
      refine gk_seq (by kernel_rfl) ?_
      refine gk_region (by kernel_rfl) ?_
      obtain ⟨x31, hx32, hb13⟩ := bind_some hb13
      obtain ⟨p33, cs34, hR35, hA36, ha37⟩ := RepS.ixAt hx32 (hf0_0.mono hI14)
      have hi38 := ix_some hx32
      obtain rfl := kS49_open hR35
      refine gl_indexAddrF (c := n0_0) (T' := 22) (e := 50) (xs := (.tmp 10)) (xi := (.tmp 12)) (kd := .i64) ha37 hi38.1 hi38.2.1 (by kernel_rfl) (by kernel_rfl) (by kernel_rfl) (by kernel_rfl) (by kernel_rfl) ?_
      refine gl_loadA (T' := 50) (xp := (.tmp 14)) (p := p33) (cs := [.string x31.f0, .string x31.f1]) (by kernel_rfl) (by kernel_rfl) (by kernel_rfl) (by kernel_rfl) (hA36.take 2) ?_
      refine gl_alloc (T' := 50) (cs := #[.string (⟨#[]⟩ : ByteArray), .string (⟨#[]⟩ : ByteArray)]) (by kernel_rfl) (by kernel_rfl) (by kernel_rfl) (fun g39 => ?_)
      refine gl_storeB (T' := 50) (xp := (.tmp 9)) (xv := (.tmp 15)) (v := .agg #[.string x31.f0, .string x31.f1]) (g := g39) (off := 0) (cs := #[.string (⟨#[]⟩ : ByteArray), .string (⟨#[]⟩ : ByteArray)]) (cs' := #[.string x31.f0, .string x31.f1]) (by kernel_rfl) (by kernel_rfl) (by kernel_rfl) (by kernel_rfl) (by kernel_rfl) (Upd.set _ _ _ _) ?_ (by kernel_rfl)
      refine gl_atE (by kernel_rfl) ?_
      refine ge_seq ?_
      refine gk_seq (by kernel_rfl) ?_
      refine gk_region (by kernel_rfl) ?_
      refine gl_pure 2 [1, 2, 7, 9, 10, 11, 12, 16, 17] (K' := [(1, .slice A1_0 a1.length n1_0), (2, .bool a2), (7, .slice A15 s11.1.length n16), (9, .pointer (some ⟨g39, 0, none⟩)), (10, .slice A0_0 a0.length n0_0), (11, .int .i64 (a0.length : Int)), (12, .int .i64 s11.2), (16, .slice A1_0 a1.length n1_0), (17, .pointer (some ⟨g39, 0, none⟩))]) (by kernel_rfl) ?_
      refine gl_loadB (T' := 9) (xp := (.tmp 17)) (v := .string x31.f0) (g := g39) (off := 0) (cs := #[.string x31.f0, .string x31.f1]) (e := 50) (fz := (0, 0)) (by kernel_rfl) (by kernel_rfl) (by kernel_rfl) List.mem_cons_self (by kernel_rfl) ?_
      obtain ⟨y40, hx41, hb13⟩ := bind_some hb13
      refine gl_callQ (by kernel_rfl) (tocsinref04_has_walk (r := y40) (hf1_0.mono hI14) hx41 _) ?_
      refine gl_pure 2 [1, 2, 7, 9, 10, 11, 12, 21] (K' := [(1, .slice A1_0 a1.length n1_0), (2, .bool a2), (7, .slice A15 s11.1.length n16), (9, .pointer (some ⟨g39, 0, none⟩)), (10, .slice A0_0 a0.length n0_0), (11, .int .i64 (a0.length : Int)), (12, .int .i64 s11.2), (21, .bool (y40 == a2))]) (by kernel_rfl) ?_
      refine gl_atE (by kernel_rfl) ?_
      refine ge_seq ?_
      obtain ⟨j42, hj43, hb13⟩ := bind_some hb13
      refine gk_join (fun t I' L' => ∃ A45 n46 C47, OwnS kS49 50 I' A45 n46 j42 C47 ∧ I20 ≤ I' ∧ C47 ++ L = L' ∧ Knows 28 [(1, .slice A1_0 a1.length n1_0), (2, .bool a2), (7, .slice A45 j42.length n46), (10, .slice A0_0 a0.length n0_0), (11, .int .i64 (a0.length : Int)), (12, .int .i64 s11.2)] t) ?_ ?_
      · refine gk_cond (b := (y40 == a2)) (by kernel_rfl) (by kernel_rfl) (fun hc51 => ?_) (fun hc51 => ?_)
        · have hj43 := cond_t hc51 hj43
          refine gk_region (by kernel_rfl) ?_
          refine gl_pure 1 [1, 2, 9, 10, 11, 12, 22] (K' := [(1, .slice A1_0 a1.length n1_0), (2, .bool a2), (9, .pointer (some ⟨g39, 0, none⟩)), (10, .slice A0_0 a0.length n0_0), (11, .int .i64 (a0.length : Int)), (12, .int .i64 s11.2), (22, .slice A15 s11.1.length n16)]) (by kernel_rfl) ?_
          refine gl_loadB (T' := 50) (xp := (.tmp 9)) (v := .agg #[.string x31.f0, .string x31.f1]) (g := g39) (off := 0) (cs := #[.string x31.f0, .string x31.f1]) (e := 50) (fz := (0, 0)) (by kernel_rfl) (by kernel_rfl) (by kernel_rfl) List.mem_cons_self (by kernel_rfl) ?_
          refine gl_buildSlice (T' := 22) (e := 50) (n := 2) (len := 1) (parts := #[(0, (.tmp 23))]) (l := [(0, .agg #[.string x31.f0, .string x31.f1])]) (cs := #[.string x31.f0, .string x31.f1]) (by kernel_rfl) (by kernel_rfl) (by kernel_rfl) (by kernel_rfl) (by kernel_rfl) (fun g52 => ?_)
          have hO53 : OwnS kS49 50 I20 (some ⟨g52, 0, none⟩) 1 [x31] [(g52, .cells #[.string x31.f0, .string x31.f1] 50)] := OwnS.lit (row_cons (l := [.string x31.f0, .string x31.f1]) (kS49_mk (x := x31) ) (row_nil _ _)) rfl rfl rfl
          refine gl_reord (D := [(g52, .cells #[.string x31.f0, .string x31.f1] 50)] ++ ((g39, .cells #[.string x31.f0, .string x31.f1] 50) :: (C17 ++ L))) (Reord.refl _) ?_
          obtain ⟨zs56, hz57, hj43⟩ := bind_some hj43
          refine gl_append (xv := .slice (some ⟨g52, 0, none⟩) [x31].length 1) (d := kS49) (t := 22) (tx := 22) (e := 50) (s := (.tmp 22)) (x := (.tmp 24)) (xs := s11.1) (fun X => [(g52, .cells #[.string x31.f0, .string x31.f1] 50)] ++ ((g39, .cells #[.string x31.f0, .string x31.f1] 50) :: (X ++ L))) hz57 (by kernel_rfl) (by kernel_rfl) (by kernel_rfl) (by kernel_rfl) (by kernel_rfl) (by kernel_rfl) (fun X => (Upd.app _ (Upd.one _ (Upd.head _ X _)))) hO18 (SrcOk.slice (c := 1) (e := 50) (n := 2) (OwnS.rd hO53 (Upd.selfC _ _)) (by kernel_rfl)) (fun A58 n59 C60 hO61 => ?_)
          refine gl_pure 1 [1, 2, 7, 10, 11, 12] (K' := [(1, .slice A1_0 a1.length n1_0), (2, .bool a2), (7, .slice A58 zs56.length n59), (10, .slice A0_0 a0.length n0_0), (11, .int .i64 (a0.length : Int)), (12, .int .i64 s11.2)]) (by kernel_rfl) ?_
          refine gl_reord (D := C60 ++ L) (Reord.step (Upd.app _ (Upd.one _ (Upd.rmC _ _))) (Reord.skipC (Reord.skip (Reord.refl _)))) ?_
          refine gl_atE (by kernel_rfl) ?_
          obtain rfl := some_inj hj43
          exact ge_mid fun t ht => ⟨A58, n59, C60, hO61, (Imm.refl _), rfl, ht.pick (l := [1, 2, 7, 10, 11, 12]) (by kernel_rfl)⟩
        · have hj43 := cond_f hc51 hj43
          refine gk_reord (D := C17 ++ L) (Reord.step (Upd.one _ (Upd.rmC _ _)) (Reord.skip (Reord.refl _))) ?_
          refine gk_skip (by kernel_rfl) ?_
          obtain rfl := some_inj hj43
          exact ge_mid fun t ht => ⟨A15, n16, C17, hO18, (Imm.refl _), rfl, ht.pick (l := [1, 2, 7, 10, 11, 12]) (by kernel_rfl)⟩
      · rintro t I50 L' ⟨A45, n46, C47, hO48, hI44, rfl, hK49⟩
        refine ge_at hK49 ?_
        refine ge_block_normal ?_
        refine ge_seq ?_
        refine gk_region (by kernel_rfl) ?_
        refine gl_pure 2 [1, 2, 7, 10, 11, 12] (K' := [(1, .slice A1_0 a1.length n1_0), (2, .bool a2), (7, .slice A45 j42.length n46), (10, .slice A0_0 a0.length n0_0), (11, .int .i64 (a0.length : Int)), (12, .int .i64 (IntKind.wrap .i64 (s11.2 + 1)))]) (by kernel_rfl) ?_
        refine gl_atE (by kernel_rfl) ?_
        obtain rfl := some_inj hb13
        exact ge_round fun t ht => ⟨A45, n46, C47, hO48, (Imm.trans hI14 hI44), rfl, ht.pick (l := [1, 2, 7, 10, 11, 12]) (by kernel_rfl)⟩
    · have hb13 := cond_f hc30 hb13
      refine gk_exit (by kernel_rfl) ?_
      refine ge_seq_exit ?_
      obtain rfl := some_inj hb13
      refine ge_round_out (fun hrr => ?_) (by intro h; cases h)
      obtain rfl := hrr
      refine ge_block_hit (by kernel_rfl) ?_
      exact ge_mid fun t ht => ⟨A15, n16, C17, hO18, hI14, rfl, ht.pick (l := [7]) (by kernel_rfl)⟩
  · rintro t I27 L' ⟨A22, n23, C24, hO25, hI21, rfl, hK26⟩
    refine ge_at hK26 ?_
    refine ge_seq ?_
    refine gk_seq (by kernel_rfl) ?_
    refine gk_region (by kernel_rfl) ?_
    refine gl_pure 2 [6] (K' := [(6, .slice A22 r9.length n23)]) (by kernel_rfl) ?_
    refine gl_atE (by kernel_rfl) ?_
    refine ge_seq ?_
    refine gk_ret (by kernel_rfl) ?_
    obtain rfl := some_inj hr
    exact ge_result trivial (ResOk.tmp (by kernel_rfl) ResOk.nil) hI21 ⟨A22, n23, C24, hO25, rfl, rfl⟩
/-! 38 tocsinref04_With  -/
noncomputable def tocsinref04_With (a0 : List S49) (a1 : ByteArray) (a2 : ByteArray) : Option ((List S49) × Int) :=
  Option.bind (tocsinref04_Right a0) fun (y1 : Int × Int) =>
  bif (y1.1 != 0) then
  (some ([], y1.1))
  else
  (Option.bind (tocsinref04_Name a1) fun (y4 : Bool) =>
    bif (!y4) then
    (some ([], 40))
    else
    (Option.bind (tocsinref04_Pick a0 [a1] false) fun (y15 : (List S49)) =>
      bif (a2.toList == (⟨#[]⟩ : ByteArray).toList) then
      (some (y15, 0))
      else
      (Option.bind (tocsinref04_one (⟨a1, a2⟩ : S49)) fun (y26 : Int) =>
        bif (y26 != 0) then
        (some ([], y26))
        else
        (Option.bind (app y15 [(⟨a1, a2⟩ : S49)]) fun (zs33 : List S49) =>
          Option.bind (tocsinref04_sorted zs33) fun (y43 : (List S49)) =>
          bif (decide ((y43.length : Int) > 16)) then
          (some ([], 8))
          else
          (some (y43, 0))))))
theorem tocsinref04_With_walk {a0 : List S49} {A0_0 : Option Addr} {n0_0 : Nat} {a1 : ByteArray} {a2 : ByteArray} {I : Imm} {r : (List S49) × Int}  (hf0_0 : RepS kS49 I A0_0 n0_0 a0) (hr : tocsinref04_With a0 a1 a2 = some r) (L : Own) :
    CallsTo Tryz.prog 38 #[.slice A0_0 a0.length n0_0, .string a1, .string a2] I L (fun v I' L' => ∃ A0 c0 C0, OwnS kS49 50 I' A0 c0 r.1 C0 ∧ v = .tuple #[.slice A0 r.1.length c0, .int .i64 r.2] ∧ C0 ++ L = L') := by
  unfold tocsinref04_With at hr
  refine callsTo_body (N := 49) Tryz.func38 (by kernel_rfl) (by kernel_rfl) (by kernel_rfl) ?_
  refine gk_pick [0, 1, 2] (K' := [(0, .slice A0_0 a0.length n0_0), (1, .string a1), (2, .string a2)]) (by kernel_rfl) ?_
  refine gk_seq (by kernel_rfl) ?_
  refine gk_region (by kernel_rfl) ?_
  refine gl_pure 2 [0, 1, 2] (K' := [(0, .slice A0_0 a0.length n0_0), (1, .string a1), (2, .string a2)]) (by kernel_rfl) ?_
  refine gl_atE (by kernel_rfl) ?_
  refine ge_seq ?_
  refine gk_seq (by kernel_rfl) ?_
  refine gk_seq (by kernel_rfl) ?_
  refine gk_region (by kernel_rfl) ?_
  refine gl_pure 1 [0, 1, 2, 14] (K' := [(0, .slice A0_0 a0.length n0_0), (1, .string a1), (2, .string a2), (14, .slice A0_0 a0.length n0_0)]) (by kernel_rfl) ?_
  obtain ⟨y1, hx2, hr⟩ := bind_some hr
  refine gl_callQ (by kernel_rfl) (tocsinref04_Right_walk (r := y1) hf0_0 hx2 _) ?_
  refine gl_pure 5 [0, 1, 2, 8] (K' := [(0, .slice A0_0 a0.length n0_0), (1, .string a1), (2, .string a2), (8, .int .i64 y1.1)]) (by kernel_rfl) ?_
  refine gl_atE (by kernel_rfl) ?_
  refine ge_seq ?_
  refine gk_seq (by kernel_rfl) ?_
  refine gk_region (by kernel_rfl) ?_
  refine gl_pure 2 [0, 1, 2, 8, 19] (K' := [(0, .slice A0_0 a0.length n0_0), (1, .string a1), (2, .string a2), (8, .int .i64 y1.1), (19, .bool (y1.1 != 0))]) (by kernel_rfl) ?_
  refine gl_atE (by kernel_rfl) ?_
  refine ge_seq ?_
  refine gk_cond (b := (y1.1 != 0)) (by kernel_rfl) (by kernel_rfl) (fun hc3 => ?_) (fun hc3 => ?_)
  · have hr := cond_t hc3 hr
    refine gk_seq (by kernel_rfl) ?_
    refine gk_region (by kernel_rfl) ?_
    refine gl_pure 3 [6, 7] (K' := [(6, .slice none 0 0), (7, .int .i64 y1.1)]) (by kernel_rfl) ?_
    refine gl_atE (by kernel_rfl) ?_
    refine ge_seq ?_
    refine gk_ret (by kernel_rfl) ?_
    refine ge_seq_ret ?_
    obtain rfl := some_inj hr
    exact ge_result trivial (ResOk.tmp (by kernel_rfl) (ResOk.tmp (by kernel_rfl) ResOk.nil)) (Imm.refl _) ⟨none, 0, [], OwnS.nil _ _ _ _, rfl, rfl⟩
  · have hr := cond_f hc3 hr
    refine gk_skip (by kernel_rfl) ?_
    refine ge_seq ?_
    refine gk_seq (by kernel_rfl) ?_
    refine gk_seq (by kernel_rfl) ?_
    refine gk_region (by kernel_rfl) ?_
    refine gl_pure 1 [0, 1, 2, 21] (K' := [(0, .slice A0_0 a0.length n0_0), (1, .string a1), (2, .string a2), (21, .string a1)]) (by kernel_rfl) ?_
    obtain ⟨y4, hx5, hr⟩ := bind_some hr
    refine gl_callQ (by kernel_rfl) (tocsinref04_Name_walk (r := y4)  hx5 _) ?_
    refine gl_pure 1 [0, 1, 2, 23] (K' := [(0, .slice A0_0 a0.length n0_0), (1, .string a1), (2, .string a2), (23, .bool (!y4))]) (by kernel_rfl) ?_
    refine gl_atE (by kernel_rfl) ?_
    refine ge_seq ?_
    refine gk_cond (b := (!y4)) (by kernel_rfl) (by kernel_rfl) (fun hc6 => ?_) (fun hc6 => ?_)
    · have hr := cond_t hc6 hr
      refine gk_seq (by kernel_rfl) ?_
      refine gk_region (by kernel_rfl) ?_
      refine gl_pure 2 [6, 7] (K' := [(6, .slice none 0 0), (7, .int .i64 40)]) (by kernel_rfl) ?_
      refine gl_atE (by kernel_rfl) ?_
      refine ge_seq ?_
      refine gk_ret (by kernel_rfl) ?_
      refine ge_seq_ret ?_
      obtain rfl := some_inj hr
      exact ge_result trivial (ResOk.tmp (by kernel_rfl) (ResOk.tmp (by kernel_rfl) ResOk.nil)) (Imm.refl _) ⟨none, 0, [], OwnS.nil _ _ _ _, rfl, rfl⟩
    · have hr := cond_f hc6 hr
      refine gk_skip (by kernel_rfl) ?_
      refine ge_seq ?_
      refine gk_seq (by kernel_rfl) ?_
      refine gk_region (by kernel_rfl) ?_
      refine gl_pure 2 [1, 2, 24, 25] (K' := [(1, .string a1), (2, .string a2), (24, .slice A0_0 a0.length n0_0), (25, .string a1)]) (by kernel_rfl) ?_
      refine gl_buildSlice (T' := 44) (e := 9) (n := 1) (len := 1) (parts := #[(0, (.tmp 25))]) (l := [(0, .string a1)]) (cs := #[.string a1]) (by kernel_rfl) (by kernel_rfl) (by kernel_rfl) (by kernel_rfl) (by kernel_rfl) (fun g7 => ?_)
      have hO8 : OwnS Kd.str 9 I (some ⟨g7, 0, none⟩) 1 [a1] [(g7, .cells #[.string a1] 9)] := OwnS.lit (row_cons (l := [.string a1]) rfl (row_nil _ _)) rfl rfl rfl
      refine gl_reord (D := [(g7, .cells #[.string a1] 9)] ++ L) (Reord.refl _) ?_
      refine gl_rest (Tk.step (Upd.rmC _ _) (Tk.nil _)) (fun J11 hJ12 hC13 => ?_)
      have hf14 := (OwnS.rest hO8 hJ12 hC13.left)
      obtain ⟨y15, hx16, hr⟩ := bind_some hr
      refine gl_call (by kernel_rfl) (tocsinref04_Pick_walk (r := y15) (hf0_0.mono hJ12) hf14 hx16 _) ?_
      rintro v I17 L18 hI19 ⟨A20, c21, C22, hO23, rfl, rfl⟩
      refine gl_pure 1 [1, 2, 10] (K' := [(1, .string a1), (2, .string a2), (10, .slice A20 y15.length c21)]) (by kernel_rfl) ?_
      refine gl_atE (by kernel_rfl) ?_
      refine ge_seq ?_
      refine gk_seq (by kernel_rfl) ?_
      refine gk_seq (by kernel_rfl) ?_
      refine gk_region (by kernel_rfl) ?_
      refine gl_pure 2 [1, 2, 10, 29] (K' := [(1, .string a1), (2, .string a2), (10, .slice A20 y15.length c21), (29, .bool (a2.toList == (⟨#[]⟩ : ByteArray).toList))]) (by kernel_rfl) ?_
      refine gl_atE (by kernel_rfl) ?_
      refine ge_seq ?_
      refine gk_cond (b := (a2.toList == (⟨#[]⟩ : ByteArray).toList)) (by kernel_rfl) (by kernel_rfl) (fun hc24 => ?_) (fun hc24 => ?_)
      · have hr := cond_t hc24 hr
        refine gk_seq (by kernel_rfl) ?_
        refine gk_region (by kernel_rfl) ?_
        refine gl_pure 3 [6, 7] (K' := [(6, .slice A20 y15.length c21), (7, .int .i64 0)]) (by kernel_rfl) ?_
        refine gl_atE (by kernel_rfl) ?_
        refine ge_seq ?_
        refine gk_ret (by kernel_rfl) ?_
        refine ge_seq_ret ?_
        obtain rfl := some_inj hr
        exact ge_result trivial (ResOk.tmp (by kernel_rfl) (ResOk.tmp (by kernel_rfl) ResOk.nil)) (Imm.trans hJ12 hI19) ⟨A20, c21, C22, hO23, rfl, rfl⟩
      · have hr := cond_f hc24 hr
        refine gk_skip (by kernel_rfl) ?_
        refine ge_seq ?_
        refine gk_seq (by kernel_rfl) ?_
        refine gk_region (by kernel_rfl) ?_
        refine gl_pure 3 [10, 33] (K' := [(10, .slice A20 y15.length c21), (33, .agg #[.string a1, .string a2])]) (by kernel_rfl) ?_
        refine gl_alloc (T' := 50) (cs := #[.string (⟨#[]⟩ : ByteArray), .string (⟨#[]⟩ : ByteArray)]) (by kernel_rfl) (by kernel_rfl) (by kernel_rfl) (fun g25 => ?_)
        refine gl_storeB (T' := 50) (xp := (.tmp 11)) (xv := (.tmp 33)) (v := .agg #[.string a1, .string a2]) (g := g25) (off := 0) (cs := #[.string (⟨#[]⟩ : ByteArray), .string (⟨#[]⟩ : ByteArray)]) (cs' := #[.string a1, .string a2]) (by kernel_rfl) (by kernel_rfl) (by kernel_rfl) (by kernel_rfl) (by kernel_rfl) (Upd.set _ _ _ _) ?_ (by kernel_rfl)
        refine gl_atE (by kernel_rfl) ?_
        refine ge_seq ?_
        refine gk_seq (by kernel_rfl) ?_
        refine gk_seq (by kernel_rfl) ?_
        refine gk_region (by kernel_rfl) ?_
        refine gl_loadB (T' := 50) (xp := (.tmp 11)) (v := .agg #[.string a1, .string a2]) (g := g25) (off := 0) (cs := #[.string a1, .string a2]) (e := 50) (fz := (0, 0)) (by kernel_rfl) (by kernel_rfl) (by kernel_rfl) List.mem_cons_self (by kernel_rfl) ?_
        obtain ⟨y26, hx27, hr⟩ := bind_some hr
        refine gl_callQ (by kernel_rfl) (tocsinref04_one_walk (r := y26)  hx27 _) ?_
        refine gl_pure 1 [10, 11, 12] (K' := [(10, .slice A20 y15.length c21), (11, .pointer (some ⟨g25, 0, none⟩)), (12, .int .i64 y26)]) (by kernel_rfl) ?_
        refine gl_atE (by kernel_rfl) ?_
        refine ge_seq ?_
        refine gk_seq (by kernel_rfl) ?_
        refine gk_region (by kernel_rfl) ?_
        refine gl_pure 2 [10, 11, 12, 37] (K' := [(10, .slice A20 y15.length c21), (11, .pointer (some ⟨g25, 0, none⟩)), (12, .int .i64 y26), (37, .bool (y26 != 0))]) (by kernel_rfl) ?_
        refine gl_atE (by kernel_rfl) ?_
        refine ge_seq ?_
        refine gk_cond (b := (y26 != 0)) (by kernel_rfl) (by kernel_rfl) (fun hc28 => ?_) (fun hc28 => ?_)
        · have hr := cond_t hc28 hr
          refine gk_seq (by kernel_rfl) ?_
          refine gk_region (by kernel_rfl) ?_
          refine gl_pure 3 [6, 7] (K' := [(6, .slice none 0 0), (7, .int .i64 y26)]) (by kernel_rfl) ?_
          refine gl_atE (by kernel_rfl) ?_
          refine ge_seq ?_
          refine gk_reord (D := L) (Reord.skip (Reord.skipC (Reord.refl _))) ?_
          refine gk_ret (by kernel_rfl) ?_
          refine ge_seq_ret ?_
          obtain rfl := some_inj hr
          exact ge_result trivial (ResOk.tmp (by kernel_rfl) (ResOk.tmp (by kernel_rfl) ResOk.nil)) (Imm.trans hJ12 hI19) ⟨none, 0, [], OwnS.nil _ _ _ _, rfl, rfl⟩
        · have hr := cond_f hc28 hr
          refine gk_skip (by kernel_rfl) ?_
          refine ge_seq ?_
          refine gk_seq (by kernel_rfl) ?_
          refine gk_region (by kernel_rfl) ?_
          refine gl_pure 1 [11, 39] (K' := [(11, .pointer (some ⟨g25, 0, none⟩)), (39, .slice A20 y15.length c21)]) (by kernel_rfl) ?_
          refine gl_loadB (T' := 50) (xp := (.tmp 11)) (v := .agg #[.string a1, .string a2]) (g := g25) (off := 0) (cs := #[.string a1, .string a2]) (e := 50) (fz := (0, 0)) (by kernel_rfl) (by kernel_rfl) (by kernel_rfl) List.mem_cons_self (by kernel_rfl) ?_
          refine gl_buildSlice (T' := 22) (e := 50) (n := 2) (len := 1) (parts := #[(0, (.tmp 40))]) (l := [(0, .agg #[.string a1, .string a2])]) (cs := #[.string a1, .string a2]) (by kernel_rfl) (by kernel_rfl) (by kernel_rfl) (by kernel_rfl) (by kernel_rfl) (fun g29 => ?_)
          have hO30 : OwnS kS49 50 I17 (some ⟨g29, 0, none⟩) 1 [(⟨a1, a2⟩ : S49)] [(g29, .cells #[.string a1, .string a2] 50)] := OwnS.lit (row_cons (l := [.string a1, .string a2]) (kS49_mk (x := (⟨a1, a2⟩ : S49)) ) (row_nil _ _)) rfl rfl rfl
          refine gl_reord (D := [(g29, .cells #[.string a1, .string a2] 50)] ++ ((g25, .cells #[.string a1, .string a2] 50) :: (C22 ++ L))) (Reord.refl _) ?_
          obtain ⟨zs33, hz34, hr⟩ := bind_some hr
          refine gl_append (xv := .slice (some ⟨g29, 0, none⟩) [(⟨a1, a2⟩ : S49)].length 1) (d := kS49) (t := 22) (tx := 22) (e := 50) (s := (.tmp 39)) (x := (.tmp 41)) (xs := y15) (fun X => [(g29, .cells #[.string a1, .string a2] 50)] ++ ((g25, .cells #[.string a1, .string a2] 50) :: (X ++ L))) hz34 (by kernel_rfl) (by kernel_rfl) (by kernel_rfl) (by kernel_rfl) (by kernel_rfl) (by kernel_rfl) (fun X => (Upd.app _ (Upd.one _ (Upd.head _ X _)))) hO23 (SrcOk.slice (c := 1) (e := 50) (n := 2) (OwnS.rd hO30 (Upd.selfC _ _)) (by kernel_rfl)) (fun A35 n36 C37 hO38 => ?_)
          refine gl_pure 1 [10] (K' := [(10, .slice A35 zs33.length n36)]) (by kernel_rfl) ?_
          refine gl_atE (by kernel_rfl) ?_
          refine ge_seq ?_
          refine gk_seq (by kernel_rfl) ?_
          refine gk_region (by kernel_rfl) ?_
          refine gl_pure 1 [43] (K' := [(43, .slice A35 zs33.length n36)]) (by kernel_rfl) ?_
          refine gl_rest (Tk.step (Upd.app _ (Upd.one _ (Upd.rmC _ _))) (Tk.nil _)) (fun J39 hJ40 hC41 => ?_)
          have hf42 := (OwnS.rest hO38 hJ40 hC41.left)
          obtain ⟨y43, hx44, hr⟩ := bind_some hr
          refine gl_call (by kernel_rfl) (tocsinref04_sorted_walk (r := y43) hf42 hx44 _) ?_
          rintro v I45 L46 hI47 ⟨A48, c49, C50, hO51, rfl, rfl⟩
          refine gl_pure 1 [10] (K' := [(10, .slice A48 y43.length c49)]) (by kernel_rfl) ?_
          refine gl_atE (by kernel_rfl) ?_
          refine ge_seq ?_
          refine gk_seq (by kernel_rfl) ?_
          refine gk_seq (by kernel_rfl) ?_
          refine gk_region (by kernel_rfl) ?_
          refine gl_pure 3 [10, 47] (K' := [(10, .slice A48 y43.length c49), (47, .bool (decide ((y43.length : Int) > 16)))]) (by kernel_rfl) ?_
          refine gl_atE (by kernel_rfl) ?_
          refine ge_seq ?_
          refine gk_cond (b := (decide ((y43.length : Int) > 16))) (by kernel_rfl) (by kernel_rfl) (fun hc52 => ?_) (fun hc52 => ?_)
          · have hr := cond_t hc52 hr
            refine gk_seq (by kernel_rfl) ?_
            refine gk_region (by kernel_rfl) ?_
            refine gl_pure 2 [6, 7] (K' := [(6, .slice none 0 0), (7, .int .i64 8)]) (by kernel_rfl) ?_
            refine gl_atE (by kernel_rfl) ?_
            refine ge_seq ?_
            refine gk_reord (D := L) (Reord.skipC (Reord.skipC (Reord.skip (Reord.refl _)))) ?_
            refine gk_ret (by kernel_rfl) ?_
            refine ge_seq_ret ?_
            obtain rfl := some_inj hr
            exact ge_result trivial (ResOk.tmp (by kernel_rfl) (ResOk.tmp (by kernel_rfl) ResOk.nil)) (Imm.trans (Imm.trans (Imm.trans hJ12 hI19) hJ40) hI47) ⟨none, 0, [], OwnS.nil _ _ _ _, rfl, rfl⟩
          · have hr := cond_f hc52 hr
            refine gk_skip (by kernel_rfl) ?_
            refine ge_seq ?_
            refine gk_seq (by kernel_rfl) ?_
            refine gk_region (by kernel_rfl) ?_
            refine gl_pure 3 [6, 7] (K' := [(6, .slice A48 y43.length c49), (7, .int .i64 0)]) (by kernel_rfl) ?_
            refine gl_atE (by kernel_rfl) ?_
            refine ge_seq ?_
            refine gk_reord (D := C50 ++ L) (Reord.step (Upd.rmC _ _) (Reord.skipC (Reord.skip (Reord.refl _)))) ?_
            refine gk_ret (by kernel_rfl) ?_
            obtain rfl := some_inj hr
            exact ge_result trivial (ResOk.tmp (by kernel_rfl) (ResOk.tmp (by kernel_rfl) ResOk.nil)) (Imm.trans (Imm.trans (Imm.trans hJ12 hI19) hJ40) hI47) ⟨A48, c49, C50, hO51, rfl, rfl⟩
/-! 39 labels_Without  -/
noncomputable def labels_Without (a0 : List S49) (a1 : List ByteArray) : Option ((List S49) × Int) :=
  Option.bind (labels_right a0) fun (y1 : Int) =>
  bif (y1 != 0) then
  (some ([], y1))
  else
  (Option.bind (labels_pick a0 false a1) fun (y4 : (List S49)) =>
    some (y4, 0))
theorem labels_Without_walk {a0 : List S49} {A0_0 : Option Addr} {n0_0 : Nat} {a1 : List ByteArray} {A1_0 : Option Addr} {n1_0 : Nat} {I : Imm} {r : (List S49) × Int} (hG : Gl I)  (hf0_0 : RepS kS49 I A0_0 n0_0 a0)  (hf1_0 : RepS Kd.str I A1_0 n1_0 a1) (hr : labels_Without a0 a1 = some r) (L : Own) :
    CallsTo Tryz.prog 39 #[.slice A0_0 a0.length n0_0, .slice A1_0 a1.length n1_0] I L (fun v I' L' => ∃ A0 c0 C0, OwnS kS49 50 I' A0 c0 r.1 C0 ∧ v = .tuple #[.slice A0 r.1.length c0, .int .i64 r.2] ∧ C0 ++ L = L') := by
  unfold labels_Without at hr
  refine callsTo_body (N := 15) Tryz.func39 (by kernel_rfl) (by kernel_rfl) (by kernel_rfl) ?_
  refine gk_pick [0, 1] (K' := [(0, .slice A0_0 a0.length n0_0), (1, .slice A1_0 a1.length n1_0)]) (by kernel_rfl) ?_
  refine gk_seq (by kernel_rfl) ?_
  refine gk_region (by kernel_rfl) ?_
  refine gl_pure 2 [0, 1] (K' := [(0, .slice A0_0 a0.length n0_0), (1, .slice A1_0 a1.length n1_0)]) (by kernel_rfl) ?_
  refine gl_atE (by kernel_rfl) ?_
  refine ge_seq ?_
  refine gk_seq (by kernel_rfl) ?_
  refine gk_seq (by kernel_rfl) ?_
  refine gk_region (by kernel_rfl) ?_
  refine gl_pure 1 [0, 1, 7] (K' := [(0, .slice A0_0 a0.length n0_0), (1, .slice A1_0 a1.length n1_0), (7, .slice A0_0 a0.length n0_0)]) (by kernel_rfl) ?_
  obtain ⟨y1, hx2, hr⟩ := bind_some hr
  refine gl_callQ (by kernel_rfl) (labels_right_walk (r := y1) hG hf0_0 hx2 _) ?_
  refine gl_pure 1 [0, 1, 6] (K' := [(0, .slice A0_0 a0.length n0_0), (1, .slice A1_0 a1.length n1_0), (6, .int .i64 y1)]) (by kernel_rfl) ?_
  refine gl_atE (by kernel_rfl) ?_
  refine ge_seq ?_
  refine gk_seq (by kernel_rfl) ?_
  refine gk_region (by kernel_rfl) ?_
  refine gl_pure 2 [0, 1, 6, 10] (K' := [(0, .slice A0_0 a0.length n0_0), (1, .slice A1_0 a1.length n1_0), (6, .int .i64 y1), (10, .bool (y1 != 0))]) (by kernel_rfl) ?_
  refine gl_atE (by kernel_rfl) ?_
  refine ge_seq ?_
  refine gk_cond (b := (y1 != 0)) (by kernel_rfl) (by kernel_rfl) (fun hc3 => ?_) (fun hc3 => ?_)
  · have hr := cond_t hc3 hr
    refine gk_seq (by kernel_rfl) ?_
    refine gk_region (by kernel_rfl) ?_
    refine gl_pure 3 [4, 5] (K' := [(4, .slice none 0 0), (5, .int .i64 y1)]) (by kernel_rfl) ?_
    refine gl_atE (by kernel_rfl) ?_
    refine ge_seq ?_
    refine gk_ret (by kernel_rfl) ?_
    refine ge_seq_ret ?_
    obtain rfl := some_inj hr
    exact ge_result trivial (ResOk.tmp (by kernel_rfl) (ResOk.tmp (by kernel_rfl) ResOk.nil)) (Imm.refl _) ⟨none, 0, [], OwnS.nil _ _ _ _, rfl, rfl⟩
  · have hr := cond_f hc3 hr
    refine gk_skip (by kernel_rfl) ?_
    refine ge_seq ?_
    refine gk_seq (by kernel_rfl) ?_
    refine gk_region (by kernel_rfl) ?_
    refine gl_pure 2 [12, 13] (K' := [(12, .slice A0_0 a0.length n0_0), (13, .slice A1_0 a1.length n1_0)]) (by kernel_rfl) ?_
    obtain ⟨y4, hx5, hr⟩ := bind_some hr
    refine gl_call (by kernel_rfl) (labels_pick_walk (r := y4) hf0_0 hf1_0 hx5 _) ?_
    rintro v I6 L7 hI8 ⟨A9, c10, C11, hO12, rfl, rfl⟩
    refine gl_pure 2 [4, 5] (K' := [(4, .slice A9 y4.length c10), (5, .int .i64 0)]) (by kernel_rfl) ?_
    refine gl_atE (by kernel_rfl) ?_
    refine ge_seq ?_
    refine gk_ret (by kernel_rfl) ?_
    obtain rfl := some_inj hr
    exact ge_result trivial (ResOk.tmp (by kernel_rfl) (ResOk.tmp (by kernel_rfl) ResOk.nil)) hI8 ⟨A9, c10, C11, hO12, rfl, rfl⟩
/-! 40 tocsinref04_Keep  -/
noncomputable def tocsinref04_Keep (a0 : List S49) (a1 : List ByteArray) (a2 : Bool) : Option ((List S49) × Int) :=
  Option.bind (tocsinref04_Right a0) fun (y1 : Int × Int) =>
  bif (y1.1 != 0) then
  (some ([], y1.1))
  else
  (Option.bind (tocsinref04_Pick a0 a1 a2) fun (y4 : (List S49)) =>
    some (y4, 0))
theorem tocsinref04_Keep_walk {a0 : List S49} {A0_0 : Option Addr} {n0_0 : Nat} {a1 : List ByteArray} {A1_0 : Option Addr} {n1_0 : Nat} {a2 : Bool} {I : Imm} {r : (List S49) × Int}  (hf0_0 : RepS kS49 I A0_0 n0_0 a0)  (hf1_0 : RepS Kd.str I A1_0 n1_0 a1) (hr : tocsinref04_Keep a0 a1 a2 = some r) (L : Own) :
    CallsTo Tryz.prog 40 #[.slice A0_0 a0.length n0_0, .slice A1_0 a1.length n1_0, .bool a2] I L (fun v I' L' => ∃ A0 c0 C0, OwnS kS49 50 I' A0 c0 r.1 C0 ∧ v = .tuple #[.slice A0 r.1.length c0, .int .i64 r.2] ∧ C0 ++ L = L') := by
  unfold tocsinref04_Keep at hr
  refine callsTo_body (N := 22) Tryz.func40 (by kernel_rfl) (by kernel_rfl) (by kernel_rfl) ?_
  refine gk_pick [0, 1, 2] (K' := [(0, .slice A0_0 a0.length n0_0), (1, .slice A1_0 a1.length n1_0), (2, .bool a2)]) (by kernel_rfl) ?_
  refine gk_seq (by kernel_rfl) ?_
  refine gk_region (by kernel_rfl) ?_
  refine gl_pure 2 [0, 1, 2] (K' := [(0, .slice A0_0 a0.length n0_0), (1, .slice A1_0 a1.length n1_0), (2, .bool a2)]) (by kernel_rfl) ?_
  refine gl_atE (by kernel_rfl) ?_
  refine ge_seq ?_
  refine gk_seq (by kernel_rfl) ?_
  refine gk_seq (by kernel_rfl) ?_
  refine gk_region (by kernel_rfl) ?_
  refine gl_pure 1 [0, 1, 2, 11] (K' := [(0, .slice A0_0 a0.length n0_0), (1, .slice A1_0 a1.length n1_0), (2, .bool a2), (11, .slice A0_0 a0.length n0_0)]) (by kernel_rfl) ?_
  obtain ⟨y1, hx2, hr⟩ := bind_some hr
  refine gl_callQ (by kernel_rfl) (tocsinref04_Right_walk (r := y1) hf0_0 hx2 _) ?_
  refine gl_pure 5 [0, 1, 2, 8] (K' := [(0, .slice A0_0 a0.length n0_0), (1, .slice A1_0 a1.length n1_0), (2, .bool a2), (8, .int .i64 y1.1)]) (by kernel_rfl) ?_
  refine gl_atE (by kernel_rfl) ?_
  refine ge_seq ?_
  refine gk_seq (by kernel_rfl) ?_
  refine gk_region (by kernel_rfl) ?_
  refine gl_pure 2 [0, 1, 2, 8, 16] (K' := [(0, .slice A0_0 a0.length n0_0), (1, .slice A1_0 a1.length n1_0), (2, .bool a2), (8, .int .i64 y1.1), (16, .bool (y1.1 != 0))]) (by kernel_rfl) ?_
  refine gl_atE (by kernel_rfl) ?_
  refine ge_seq ?_
  refine gk_cond (b := (y1.1 != 0)) (by kernel_rfl) (by kernel_rfl) (fun hc3 => ?_) (fun hc3 => ?_)
  · have hr := cond_t hc3 hr
    refine gk_seq (by kernel_rfl) ?_
    refine gk_region (by kernel_rfl) ?_
    refine gl_pure 3 [6, 7] (K' := [(6, .slice none 0 0), (7, .int .i64 y1.1)]) (by kernel_rfl) ?_
    refine gl_atE (by kernel_rfl) ?_
    refine ge_seq ?_
    refine gk_ret (by kernel_rfl) ?_
    refine ge_seq_ret ?_
    obtain rfl := some_inj hr
    exact ge_result trivial (ResOk.tmp (by kernel_rfl) (ResOk.tmp (by kernel_rfl) ResOk.nil)) (Imm.refl _) ⟨none, 0, [], OwnS.nil _ _ _ _, rfl, rfl⟩
  · have hr := cond_f hc3 hr
    refine gk_skip (by kernel_rfl) ?_
    refine ge_seq ?_
    refine gk_seq (by kernel_rfl) ?_
    refine gk_region (by kernel_rfl) ?_
    refine gl_pure 3 [18, 19, 20] (K' := [(18, .slice A0_0 a0.length n0_0), (19, .slice A1_0 a1.length n1_0), (20, .bool a2)]) (by kernel_rfl) ?_
    obtain ⟨y4, hx5, hr⟩ := bind_some hr
    refine gl_call (by kernel_rfl) (tocsinref04_Pick_walk (r := y4) hf0_0 hf1_0 hx5 _) ?_
    rintro v I6 L7 hI8 ⟨A9, c10, C11, hO12, rfl, rfl⟩
    refine gl_pure 2 [6, 7] (K' := [(6, .slice A9 y4.length c10), (7, .int .i64 0)]) (by kernel_rfl) ?_
    refine gl_atE (by kernel_rfl) ?_
    refine ge_seq ?_
    refine gk_ret (by kernel_rfl) ?_
    obtain rfl := some_inj hr
    exact ge_result trivial (ResOk.tmp (by kernel_rfl) (ResOk.tmp (by kernel_rfl) ResOk.nil)) hI8 ⟨A9, c10, C11, hO12, rfl, rfl⟩
/-! 41 labels_Keep  -/
noncomputable def labels_Keep (a0 : List S49) (a1 : List ByteArray) : Option ((List S49) × Int) :=
  Option.bind (labels_right a0) fun (y1 : Int) =>
  bif (y1 != 0) then
  (some ([], y1))
  else
  (Option.bind (labels_pick a0 true a1) fun (y4 : (List S49)) =>
    some (y4, 0))
theorem labels_Keep_walk {a0 : List S49} {A0_0 : Option Addr} {n0_0 : Nat} {a1 : List ByteArray} {A1_0 : Option Addr} {n1_0 : Nat} {I : Imm} {r : (List S49) × Int} (hG : Gl I)  (hf0_0 : RepS kS49 I A0_0 n0_0 a0)  (hf1_0 : RepS Kd.str I A1_0 n1_0 a1) (hr : labels_Keep a0 a1 = some r) (L : Own) :
    CallsTo Tryz.prog 41 #[.slice A0_0 a0.length n0_0, .slice A1_0 a1.length n1_0] I L (fun v I' L' => ∃ A0 c0 C0, OwnS kS49 50 I' A0 c0 r.1 C0 ∧ v = .tuple #[.slice A0 r.1.length c0, .int .i64 r.2] ∧ C0 ++ L = L') := by
  unfold labels_Keep at hr
  refine callsTo_body (N := 15) Tryz.func41 (by kernel_rfl) (by kernel_rfl) (by kernel_rfl) ?_
  refine gk_pick [0, 1] (K' := [(0, .slice A0_0 a0.length n0_0), (1, .slice A1_0 a1.length n1_0)]) (by kernel_rfl) ?_
  refine gk_seq (by kernel_rfl) ?_
  refine gk_region (by kernel_rfl) ?_
  refine gl_pure 2 [0, 1] (K' := [(0, .slice A0_0 a0.length n0_0), (1, .slice A1_0 a1.length n1_0)]) (by kernel_rfl) ?_
  refine gl_atE (by kernel_rfl) ?_
  refine ge_seq ?_
  refine gk_seq (by kernel_rfl) ?_
  refine gk_seq (by kernel_rfl) ?_
  refine gk_region (by kernel_rfl) ?_
  refine gl_pure 1 [0, 1, 7] (K' := [(0, .slice A0_0 a0.length n0_0), (1, .slice A1_0 a1.length n1_0), (7, .slice A0_0 a0.length n0_0)]) (by kernel_rfl) ?_
  obtain ⟨y1, hx2, hr⟩ := bind_some hr
  refine gl_callQ (by kernel_rfl) (labels_right_walk (r := y1) hG hf0_0 hx2 _) ?_
  refine gl_pure 1 [0, 1, 6] (K' := [(0, .slice A0_0 a0.length n0_0), (1, .slice A1_0 a1.length n1_0), (6, .int .i64 y1)]) (by kernel_rfl) ?_
  refine gl_atE (by kernel_rfl) ?_
  refine ge_seq ?_
  refine gk_seq (by kernel_rfl) ?_
  refine gk_region (by kernel_rfl) ?_
  refine gl_pure 2 [0, 1, 6, 10] (K' := [(0, .slice A0_0 a0.length n0_0), (1, .slice A1_0 a1.length n1_0), (6, .int .i64 y1), (10, .bool (y1 != 0))]) (by kernel_rfl) ?_
  refine gl_atE (by kernel_rfl) ?_
  refine ge_seq ?_
  refine gk_cond (b := (y1 != 0)) (by kernel_rfl) (by kernel_rfl) (fun hc3 => ?_) (fun hc3 => ?_)
  · have hr := cond_t hc3 hr
    refine gk_seq (by kernel_rfl) ?_
    refine gk_region (by kernel_rfl) ?_
    refine gl_pure 3 [4, 5] (K' := [(4, .slice none 0 0), (5, .int .i64 y1)]) (by kernel_rfl) ?_
    refine gl_atE (by kernel_rfl) ?_
    refine ge_seq ?_
    refine gk_ret (by kernel_rfl) ?_
    refine ge_seq_ret ?_
    obtain rfl := some_inj hr
    exact ge_result trivial (ResOk.tmp (by kernel_rfl) (ResOk.tmp (by kernel_rfl) ResOk.nil)) (Imm.refl _) ⟨none, 0, [], OwnS.nil _ _ _ _, rfl, rfl⟩
  · have hr := cond_f hc3 hr
    refine gk_skip (by kernel_rfl) ?_
    refine ge_seq ?_
    refine gk_seq (by kernel_rfl) ?_
    refine gk_region (by kernel_rfl) ?_
    refine gl_pure 2 [12, 13] (K' := [(12, .slice A0_0 a0.length n0_0), (13, .slice A1_0 a1.length n1_0)]) (by kernel_rfl) ?_
    obtain ⟨y4, hx5, hr⟩ := bind_some hr
    refine gl_call (by kernel_rfl) (labels_pick_walk (r := y4) hf0_0 hf1_0 hx5 _) ?_
    rintro v I6 L7 hI8 ⟨A9, c10, C11, hO12, rfl, rfl⟩
    refine gl_pure 2 [4, 5] (K' := [(4, .slice A9 y4.length c10), (5, .int .i64 0)]) (by kernel_rfl) ?_
    refine gl_atE (by kernel_rfl) ?_
    refine ge_seq ?_
    refine gk_ret (by kernel_rfl) ?_
    obtain rfl := some_inj hr
    exact ge_result trivial (ResOk.tmp (by kernel_rfl) (ResOk.tmp (by kernel_rfl) ResOk.nil)) hI8 ⟨A9, c10, C11, hO12, rfl, rfl⟩
/-! 7 tocsinlaw04_LabelsTurns  -/
noncomputable def tocsinlaw04_LabelsTurns (a0 : List S49) (a1 : ByteArray) (a2 : ByteArray) (a3 : List ByteArray) : Option Bool :=
  Option.bind (tocsinlaw04_Lent a0) fun (y1 : (List S49 × List S49)) =>
  Option.bind (labels_With y1.1 a1 a2) fun (y15 : (List S49) × Int) =>
  Option.bind (tocsinref04_With a0 a1 a2) fun (y24 : (List S49) × Int) =>
  Option.bind (Option.bind (tocsinlaw04_same y15.1 y24.1) fun (y38 : Bool) =>
    bif (!y38) then
    (some true)
    else
    (some (y15.2 != y24.2))) fun (j33 : Bool) =>
  bif j33 then
  (some false)
  else
  (Option.bind (tocsinlaw04_Spoil_f28 y15.1) fun (y42 : Unit) =>
    Option.bind (labels_Without y1.1 a3) fun (y47 : (List S49) × Int) =>
    Option.bind (tocsinref04_Keep a0 a3 false) fun (y56 : (List S49) × Int) =>
    Option.bind (Option.bind (tocsinlaw04_same y47.1 y56.1) fun (y70 : Bool) =>
      bif (!y70) then
      (some true)
      else
      (bif (y47.2 != y56.2) then
        (some true)
        else
        (Option.bind (tocsinlaw04_Kept (y1.1, y1.2) a0) fun (y74 : Bool) =>
          some (!y74)))) fun (j65 : Bool) =>
    bif j65 then
    (some false)
    else
    (Option.bind (tocsinlaw04_Spoil_f28 y47.1) fun (y77 : Unit) =>
      Option.bind (labels_Keep y1.1 a3) fun (y82 : (List S49) × Int) =>
      Option.bind (tocsinref04_Keep a0 a3 true) fun (y91 : (List S49) × Int) =>
      Option.bind (Option.bind (tocsinlaw04_same y82.1 y91.1) fun (y105 : Bool) =>
        bif (!y105) then
        (some true)
        else
        (bif (y82.2 != y91.2) then
          (some true)
          else
          (Option.bind (tocsinlaw04_Kept (y1.1, y1.2) a0) fun (y109 : Bool) =>
            some (!y109)))) fun (j100 : Bool) =>
      bif j100 then
      (some false)
      else
      (Option.bind (tocsinlaw04_Spoil_f28 y82.1) fun (y112 : Unit) =>
        Option.bind (Option.bind (tocsinlaw04_Kept (y1.1, y1.2) a0) fun (y122 : Bool) =>
          bif y122 then
          (Option.bind tocsinlaw04_awake fun (y125 : Bool) =>
            some y125)
          else
          (some false)) fun (j117 : Bool) =>
        some j117)))
theorem tocsinlaw04_LabelsTurns_walk {a0 : List S49} {A0_0 : Option Addr} {n0_0 : Nat} {a1 : ByteArray} {a2 : ByteArray} {a3 : List ByteArray} {A3_0 : Option Addr} {n3_0 : Nat} {I : Imm} {r : Bool} (hG : Gl I)  (hf0_0 : RepS kS49 I A0_0 n0_0 a0)  (hf3_0 : RepS Kd.str I A3_0 n3_0 a3) (hr : tocsinlaw04_LabelsTurns a0 a1 a2 a3 = some r) (L : Own) :
    CallsTo Tryz.prog 7 #[.slice A0_0 a0.length n0_0, .string a1, .string a2, .slice A3_0 a3.length n3_0] I L (fun v I' L' => v = .bool r ∧ L = L') := by
  unfold tocsinlaw04_LabelsTurns at hr
  refine callsTo_body (N := 105) Tryz.func7 (by kernel_rfl) (by kernel_rfl) (by kernel_rfl) ?_
  refine gk_pick [0, 1, 2, 3] (K' := [(0, .slice A0_0 a0.length n0_0), (1, .string a1), (2, .string a2), (3, .slice A3_0 a3.length n3_0)]) (by kernel_rfl) ?_
  refine gk_seq (by kernel_rfl) ?_
  refine gk_region (by kernel_rfl) ?_
  refine gl_pure 1 [0, 1, 2, 3] (K' := [(0, .slice A0_0 a0.length n0_0), (1, .string a1), (2, .string a2), (3, .slice A3_0 a3.length n3_0)]) (by kernel_rfl) ?_
  refine gl_atE (by kernel_rfl) ?_
  refine ge_seq ?_
  refine gk_seq (by kernel_rfl) ?_
  refine gk_region (by kernel_rfl) ?_
  refine gl_pure 1 [0, 1, 2, 3, 14] (K' := [(0, .slice A0_0 a0.length n0_0), (1, .string a1), (2, .string a2), (3, .slice A3_0 a3.length n3_0), (14, .slice A0_0 a0.length n0_0)]) (by kernel_rfl) ?_
  obtain ⟨y1, hx2, hr⟩ := bind_some hr
  refine gl_call (by kernel_rfl) (tocsinlaw04_Lent_walk (r := y1) hf0_0 hx2 _) ?_
  rintro v I3 L4 hI5 ⟨A6, c7, C8, hO9, hO10, rfl, rfl⟩
  refine gl_pure 1 [0, 1, 2, 3, 9] (K' := [(0, .slice A0_0 a0.length n0_0), (1, .string a1), (2, .string a2), (3, .slice A3_0 a3.length n3_0), (9, .slice A6 y1.1.length c7)]) (by kernel_rfl) ?_
  refine gl_atE (by kernel_rfl) ?_
  refine ge_seq ?_
  refine gk_seq (by kernel_rfl) ?_
  refine gk_region (by kernel_rfl) ?_
  refine gl_pure 3 [0, 1, 2, 3, 9, 17, 18, 19] (K' := [(0, .slice A0_0 a0.length n0_0), (1, .string a1), (2, .string a2), (3, .slice A3_0 a3.length n3_0), (9, .slice A6 y1.1.length c7), (17, .slice A6 y1.1.length c7), (18, .string a1), (19, .string a2)]) (by kernel_rfl) ?_
  refine gl_rest (Tk.step (Upd.rmC _ _) (Tk.nil _)) (fun J11 hJ12 hC13 => ?_)
  have hf14 := (OwnS.rest hO9 hJ12 hC13.left)
  obtain ⟨y15, hx16, hr⟩ := bind_some hr
  refine gl_call (by kernel_rfl) (labels_With_walk (r := y15) (hG.mono (Imm.trans hI5 hJ12)) (RepS.head hO10 hf14) hx16 _) ?_
  rintro v I17 L18 hI19 ⟨A20, c21, C22, hO23, rfl, rfl⟩
  refine gl_pure 5 [0, 1, 2, 3, 9, 10, 11] (K' := [(0, .slice A0_0 a0.length n0_0), (1, .string a1), (2, .string a2), (3, .slice A3_0 a3.length n3_0), (9, .slice A6 y1.1.length c7), (10, .slice A20 y15.1.length c21), (11, .int .i64 y15.2)]) (by kernel_rfl) ?_
  refine gl_atE (by kernel_rfl) ?_
  refine ge_seq ?_
  refine gk_seq (by kernel_rfl) ?_
  refine gk_region (by kernel_rfl) ?_
  refine gl_pure 3 [0, 3, 9, 10, 11, 24, 25, 26] (K' := [(0, .slice A0_0 a0.length n0_0), (3, .slice A3_0 a3.length n3_0), (9, .slice A6 y1.1.length c7), (10, .slice A20 y15.1.length c21), (11, .int .i64 y15.2), (24, .slice A0_0 a0.length n0_0), (25, .string a1), (26, .string a2)]) (by kernel_rfl) ?_
  obtain ⟨y24, hx25, hr⟩ := bind_some hr
  refine gl_call (by kernel_rfl) (tocsinref04_With_walk (r := y24) (hf0_0.mono (Imm.trans (Imm.trans hI5 hJ12) hI19)) hx25 _) ?_
  rintro v I26 L27 hI28 ⟨A29, c30, C31, hO32, rfl, rfl⟩
  refine gl_pure 5 [0, 3, 9, 10, 11, 12, 13] (K' := [(0, .slice A0_0 a0.length n0_0), (3, .slice A3_0 a3.length n3_0), (9, .slice A6 y1.1.length c7), (10, .slice A20 y15.1.length c21), (11, .int .i64 y15.2), (12, .slice A29 y24.1.length c30), (13, .int .i64 y24.2)]) (by kernel_rfl) ?_
  refine gl_atE (by kernel_rfl) ?_
  refine ge_seq ?_
  refine gk_seq (by kernel_rfl) ?_
  refine gk_seq (by kernel_rfl) ?_
  obtain ⟨j33, hj34, hr⟩ := bind_some hr
  refine gk_join (fun t I' L' => I26 ≤ I' ∧ C22 ++ L = L' ∧ Knows 105 [(0, .slice A0_0 a0.length n0_0), (3, .slice A3_0 a3.length n3_0), (9, .slice A6 y1.1.length c7), (10, .slice A20 y15.1.length c21), (38, .bool j33)] t) ?_ ?_
  · refine gk_region (by kernel_rfl) ?_
    refine gl_pure 2 [0, 3, 9, 10, 11, 13, 30, 31] (K' := [(0, .slice A0_0 a0.length n0_0), (3, .slice A3_0 a3.length n3_0), (9, .slice A6 y1.1.length c7), (10, .slice A20 y15.1.length c21), (11, .int .i64 y15.2), (13, .int .i64 y24.2), (30, .slice A20 y15.1.length c21), (31, .slice A29 y24.1.length c30)]) (by kernel_rfl) ?_
    obtain ⟨y38, hx39, hj34⟩ := bind_some hj34
    refine gl_callB (r := .bool y38) (Tk.step (Upd.rmC _ _) (Tk.step (Upd.rmC _ _) (Tk.nil _))) (by kernel_rfl) (fun J hJ hC => tocsinlaw04_same_walk (r := y38) (OwnS.rest (hO23.mono hI28) hJ hC.right.left) (OwnS.rest hO32 hJ hC.left) hx39 _) ?_
    refine gl_pure 2 [0, 3, 9, 10, 11, 13, 34] (K' := [(0, .slice A0_0 a0.length n0_0), (3, .slice A3_0 a3.length n3_0), (9, .slice A6 y1.1.length c7), (10, .slice A20 y15.1.length c21), (11, .int .i64 y15.2), (13, .int .i64 y24.2), (34, .bool (!y38))]) (by kernel_rfl) ?_
    refine gl_case 34 (b := (!y38)) (by kernel_rfl) (fun hc40 => ?_) (fun hc40 => ?_)
    · have hj34 := cond_t hc40 hj34
      refine gl_pure 4 [0, 3, 9, 10, 38] (K' := [(0, .slice A0_0 a0.length n0_0), (3, .slice A3_0 a3.length n3_0), (9, .slice A6 y1.1.length c7), (10, .slice A20 y15.1.length c21), (38, .bool true)]) (by kernel_rfl) ?_
      refine gl_reord (D := C22 ++ L) (Reord.step (Upd.app _ (Upd.rmC _ _)) (Reord.skipC (Reord.refl _))) ?_
      refine gl_atE (by kernel_rfl) ?_
      obtain rfl := some_inj hj34
      exact ge_mid fun t ht => ⟨(Imm.refl _), rfl, ht.pick (l := [0, 3, 9, 10, 38]) (by kernel_rfl)⟩
    · have hj34 := cond_f hc40 hj34
      refine gl_pure 4 [0, 3, 9, 10, 38] (K' := [(0, .slice A0_0 a0.length n0_0), (3, .slice A3_0 a3.length n3_0), (9, .slice A6 y1.1.length c7), (10, .slice A20 y15.1.length c21), (38, .bool (y15.2 != y24.2))]) (by kernel_rfl) ?_
      refine gl_reord (D := C22 ++ L) (Reord.step (Upd.app _ (Upd.rmC _ _)) (Reord.skipC (Reord.refl _))) ?_
      refine gl_atE (by kernel_rfl) ?_
      obtain rfl := some_inj hj34
      exact ge_mid fun t ht => ⟨(Imm.refl _), rfl, ht.pick (l := [0, 3, 9, 10, 38]) (by kernel_rfl)⟩
  · rintro t I37 L' ⟨hI35, rfl, hK36⟩
    refine ge_at hK36 ?_
    refine ge_seq ?_
    refine gk_cond (b := j33) (by kernel_rfl) (by kernel_rfl) (fun hc41 => ?_) (fun hc41 => ?_)
    · have hr := cond_t hc41 hr
      refine gk_seq (by kernel_rfl) ?_
      refine gk_region (by kernel_rfl) ?_
      refine gl_pure 1 [8] (K' := [(8, .bool false)]) (by kernel_rfl) ?_
      refine gl_atE (by kernel_rfl) ?_
      refine ge_seq ?_
      refine gk_reord (D := L) (Reord.skipC (Reord.refl _)) ?_
      refine gk_ret (by kernel_rfl) ?_
      refine ge_seq_ret ?_
      obtain rfl := some_inj hr
      exact ge_result trivial (ResOk.tmp (by kernel_rfl) ResOk.nil) (Imm.trans (Imm.trans (Imm.trans (Imm.trans hI5 hJ12) hI19) hI28) hI35) ⟨rfl, rfl⟩
    · have hr := cond_f hc41 hr
      refine gk_skip (by kernel_rfl) ?_
      refine ge_seq ?_
      refine gk_seq (by kernel_rfl) ?_
      refine gk_region (by kernel_rfl) ?_
      refine gl_pure 1 [0, 3, 9, 39] (K' := [(0, .slice A0_0 a0.length n0_0), (3, .slice A3_0 a3.length n3_0), (9, .slice A6 y1.1.length c7), (39, .slice A20 y15.1.length c21)]) (by kernel_rfl) ?_
      obtain ⟨y42, hx43, hr⟩ := bind_some hr
      refine gl_call (by kernel_rfl) (tocsinlaw04_Spoil_f28_walk (r := y42) (A0 := A20) (c0 := c21) (C0 := C22) (a0 := y15.1) (hO23.mono (Imm.trans hI28 hI35)) hx43 _) ?_
      rintro v I44 L45 hI46 ⟨rfl, rfl⟩
      refine gl_atE (by kernel_rfl) ?_
      refine ge_seq ?_
      refine gk_seq (by kernel_rfl) ?_
      refine gk_region (by kernel_rfl) ?_
      refine gl_pure 2 [0, 3, 9, 42, 43] (K' := [(0, .slice A0_0 a0.length n0_0), (3, .slice A3_0 a3.length n3_0), (9, .slice A6 y1.1.length c7), (42, .slice A6 y1.1.length c7), (43, .slice A3_0 a3.length n3_0)]) (by kernel_rfl) ?_
      obtain ⟨y47, hx48, hr⟩ := bind_some hr
      refine gl_call (by kernel_rfl) (labels_Without_walk (r := y47) (hG.mono (Imm.trans (Imm.trans (Imm.trans (Imm.trans (Imm.trans hI5 hJ12) hI19) hI28) hI35) hI46)) ((RepS.head hO10 hf14).mono (Imm.trans (Imm.trans (Imm.trans hI19 hI28) hI35) hI46)) (hf3_0.mono (Imm.trans (Imm.trans (Imm.trans (Imm.trans (Imm.trans hI5 hJ12) hI19) hI28) hI35) hI46)) hx48 _) ?_
      rintro v I49 L50 hI51 ⟨A52, c53, C54, hO55, rfl, rfl⟩
      refine gl_pure 5 [0, 3, 9, 10, 11] (K' := [(0, .slice A0_0 a0.length n0_0), (3, .slice A3_0 a3.length n3_0), (9, .slice A6 y1.1.length c7), (10, .slice A52 y47.1.length c53), (11, .int .i64 y47.2)]) (by kernel_rfl) ?_
      refine gl_atE (by kernel_rfl) ?_
      refine ge_seq ?_
      refine gk_seq (by kernel_rfl) ?_
      refine gk_region (by kernel_rfl) ?_
      refine gl_pure 2 [0, 3, 9, 10, 11, 48, 49] (K' := [(0, .slice A0_0 a0.length n0_0), (3, .slice A3_0 a3.length n3_0), (9, .slice A6 y1.1.length c7), (10, .slice A52 y47.1.length c53), (11, .int .i64 y47.2), (48, .slice A0_0 a0.length n0_0), (49, .slice A3_0 a3.length n3_0)]) (by kernel_rfl) ?_
      obtain ⟨y56, hx57, hr⟩ := bind_some hr
      refine gl_call (by kernel_rfl) (tocsinref04_Keep_walk (r := y56) (hf0_0.mono (Imm.trans (Imm.trans (Imm.trans (Imm.trans (Imm.trans (Imm.trans hI5 hJ12) hI19) hI28) hI35) hI46) hI51)) (hf3_0.mono (Imm.trans (Imm.trans (Imm.trans (Imm.trans (Imm.trans (Imm.trans hI5 hJ12) hI19) hI28) hI35) hI46) hI51)) hx57 _) ?_
      rintro v I58 L59 hI60 ⟨A61, c62, C63, hO64, rfl, rfl⟩
      refine gl_pure 5 [0, 3, 9, 10, 11, 12, 13] (K' := [(0, .slice A0_0 a0.length n0_0), (3, .slice A3_0 a3.length n3_0), (9, .slice A6 y1.1.length c7), (10, .slice A52 y47.1.length c53), (11, .int .i64 y47.2), (12, .slice A61 y56.1.length c62), (13, .int .i64 y56.2)]) (by kernel_rfl) ?_
      refine gl_atE (by kernel_rfl) ?_
      refine ge_seq ?_
      refine gk_seq (by kernel_rfl) ?_
      refine gk_seq (by kernel_rfl) ?_
      obtain ⟨j65, hj66, hr⟩ := bind_some hr
      refine gk_join (fun t I' L' => I58 ≤ I' ∧ C54 ++ L = L' ∧ Knows 105 [(0, .slice A0_0 a0.length n0_0), (3, .slice A3_0 a3.length n3_0), (9, .slice A6 y1.1.length c7), (10, .slice A52 y47.1.length c53), (67, .bool j65)] t) ?_ ?_
      · refine gk_region (by kernel_rfl) ?_
        refine gl_pure 2 [0, 3, 9, 10, 11, 13, 53, 54] (K' := [(0, .slice A0_0 a0.length n0_0), (3, .slice A3_0 a3.length n3_0), (9, .slice A6 y1.1.length c7), (10, .slice A52 y47.1.length c53), (11, .int .i64 y47.2), (13, .int .i64 y56.2), (53, .slice A52 y47.1.length c53), (54, .slice A61 y56.1.length c62)]) (by kernel_rfl) ?_
        obtain ⟨y70, hx71, hj66⟩ := bind_some hj66
        refine gl_callB (r := .bool y70) (Tk.step (Upd.rmC _ _) (Tk.step (Upd.rmC _ _) (Tk.nil _))) (by kernel_rfl) (fun J hJ hC => tocsinlaw04_same_walk (r := y70) (OwnS.rest (hO55.mono hI60) hJ hC.right.left) (OwnS.rest hO64 hJ hC.left) hx71 _) ?_
        refine gl_pure 2 [0, 3, 9, 10, 11, 13, 57] (K' := [(0, .slice A0_0 a0.length n0_0), (3, .slice A3_0 a3.length n3_0), (9, .slice A6 y1.1.length c7), (10, .slice A52 y47.1.length c53), (11, .int .i64 y47.2), (13, .int .i64 y56.2), (57, .bool (!y70))]) (by kernel_rfl) ?_
        refine gl_case 57 (b := (!y70)) (by kernel_rfl) (fun hc72 => ?_) (fun hc72 => ?_)
        · have hj66 := cond_t hc72 hj66
          refine gl_pure 10 [0, 3, 9, 10, 67] (K' := [(0, .slice A0_0 a0.length n0_0), (3, .slice A3_0 a3.length n3_0), (9, .slice A6 y1.1.length c7), (10, .slice A52 y47.1.length c53), (67, .bool true)]) (by kernel_rfl) ?_
          refine gl_reord (D := C54 ++ L) (Reord.step (Upd.app _ (Upd.rmC _ _)) (Reord.skipC (Reord.refl _))) ?_
          refine gl_atE (by kernel_rfl) ?_
          obtain rfl := some_inj hj66
          exact ge_mid fun t ht => ⟨(Imm.refl _), rfl, ht.pick (l := [0, 3, 9, 10, 67]) (by kernel_rfl)⟩
        · have hj66 := cond_f hc72 hj66
          refine gl_pure 5 [0, 3, 9, 10, 62] (K' := [(0, .slice A0_0 a0.length n0_0), (3, .slice A3_0 a3.length n3_0), (9, .slice A6 y1.1.length c7), (10, .slice A52 y47.1.length c53), (62, .bool (y47.2 != y56.2))]) (by kernel_rfl) ?_
          refine gl_case 62 (b := (y47.2 != y56.2)) (by kernel_rfl) (fun hc73 => ?_) (fun hc73 => ?_)
          · have hj66 := cond_t hc73 hj66
            refine gl_pure 5 [0, 3, 9, 10, 67] (K' := [(0, .slice A0_0 a0.length n0_0), (3, .slice A3_0 a3.length n3_0), (9, .slice A6 y1.1.length c7), (10, .slice A52 y47.1.length c53), (67, .bool true)]) (by kernel_rfl) ?_
            refine gl_reord (D := C54 ++ L) (Reord.step (Upd.app _ (Upd.rmC _ _)) (Reord.skipC (Reord.refl _))) ?_
            refine gl_atE (by kernel_rfl) ?_
            obtain rfl := some_inj hj66
            exact ge_mid fun t ht => ⟨(Imm.refl _), rfl, ht.pick (l := [0, 3, 9, 10, 67]) (by kernel_rfl)⟩
          · have hj66 := cond_f hc73 hj66
            refine gl_pure 2 [0, 3, 9, 10, 62, 63, 64] (K' := [(0, .slice A0_0 a0.length n0_0), (3, .slice A3_0 a3.length n3_0), (9, .slice A6 y1.1.length c7), (10, .slice A52 y47.1.length c53), (62, .bool false), (63, .slice A6 y1.1.length c7), (64, .slice A0_0 a0.length n0_0)]) (by kernel_rfl) ?_
            obtain ⟨y74, hx75, hj66⟩ := bind_some hj66
            refine gl_callQ (by kernel_rfl) (tocsinlaw04_Kept_walk (r := y74) ((RepS.head hO10 hf14).mono (Imm.trans (Imm.trans (Imm.trans (Imm.trans (Imm.trans hI19 hI28) hI35) hI46) hI51) hI60)) (hf14.mono (Imm.trans (Imm.trans (Imm.trans (Imm.trans (Imm.trans hI19 hI28) hI35) hI46) hI51) hI60)) (hf0_0.mono (Imm.trans (Imm.trans (Imm.trans (Imm.trans (Imm.trans (Imm.trans (Imm.trans hI5 hJ12) hI19) hI28) hI35) hI46) hI51) hI60)) hx75 _) ?_
            refine gl_pure 2 [0, 3, 9, 10, 67] (K' := [(0, .slice A0_0 a0.length n0_0), (3, .slice A3_0 a3.length n3_0), (9, .slice A6 y1.1.length c7), (10, .slice A52 y47.1.length c53), (67, .bool (!y74))]) (by kernel_rfl) ?_
            refine gl_reord (D := C54 ++ L) (Reord.step (Upd.app _ (Upd.rmC _ _)) (Reord.skipC (Reord.refl _))) ?_
            refine gl_atE (by kernel_rfl) ?_
            obtain rfl := some_inj hj66
            exact ge_mid fun t ht => ⟨(Imm.refl _), rfl, ht.pick (l := [0, 3, 9, 10, 67]) (by kernel_rfl)⟩
      · rintro t I69 L' ⟨hI67, rfl, hK68⟩
        refine ge_at hK68 ?_
        refine ge_seq ?_
        refine gk_cond (b := j65) (by kernel_rfl) (by kernel_rfl) (fun hc76 => ?_) (fun hc76 => ?_)
        · have hr := cond_t hc76 hr
          refine gk_seq (by kernel_rfl) ?_
          refine gk_region (by kernel_rfl) ?_
          refine gl_pure 1 [8] (K' := [(8, .bool false)]) (by kernel_rfl) ?_
          refine gl_atE (by kernel_rfl) ?_
          refine ge_seq ?_
          refine gk_reord (D := L) (Reord.skipC (Reord.refl _)) ?_
          refine gk_ret (by kernel_rfl) ?_
          refine ge_seq_ret ?_
          obtain rfl := some_inj hr
          exact ge_result trivial (ResOk.tmp (by kernel_rfl) ResOk.nil) (Imm.trans (Imm.trans (Imm.trans (Imm.trans (Imm.trans (Imm.trans (Imm.trans (Imm.trans hI5 hJ12) hI19) hI28) hI35) hI46) hI51) hI60) hI67) ⟨rfl, rfl⟩
        · have hr := cond_f hc76 hr
          refine gk_skip (by kernel_rfl) ?_
          refine ge_seq ?_
          refine gk_seq (by kernel_rfl) ?_
          refine gk_region (by kernel_rfl) ?_
          refine gl_pure 1 [0, 3, 9, 68] (K' := [(0, .slice A0_0 a0.length n0_0), (3, .slice A3_0 a3.length n3_0), (9, .slice A6 y1.1.length c7), (68, .slice A52 y47.1.length c53)]) (by kernel_rfl) ?_
          obtain ⟨y77, hx78, hr⟩ := bind_some hr
          refine gl_call (by kernel_rfl) (tocsinlaw04_Spoil_f28_walk (r := y77) (A0 := A52) (c0 := c53) (C0 := C54) (a0 := y47.1) (hO55.mono (Imm.trans hI60 hI67)) hx78 _) ?_
          rintro v I79 L80 hI81 ⟨rfl, rfl⟩
          refine gl_atE (by kernel_rfl) ?_
          refine ge_seq ?_
          refine gk_seq (by kernel_rfl) ?_
          refine gk_region (by kernel_rfl) ?_
          refine gl_pure 2 [0, 3, 9, 71, 72] (K' := [(0, .slice A0_0 a0.length n0_0), (3, .slice A3_0 a3.length n3_0), (9, .slice A6 y1.1.length c7), (71, .slice A6 y1.1.length c7), (72, .slice A3_0 a3.length n3_0)]) (by kernel_rfl) ?_
          obtain ⟨y82, hx83, hr⟩ := bind_some hr
          refine gl_call (by kernel_rfl) (labels_Keep_walk (r := y82) (hG.mono (Imm.trans (Imm.trans (Imm.trans (Imm.trans (Imm.trans (Imm.trans (Imm.trans (Imm.trans (Imm.trans hI5 hJ12) hI19) hI28) hI35) hI46) hI51) hI60) hI67) hI81)) ((RepS.head hO10 hf14).mono (Imm.trans (Imm.trans (Imm.trans (Imm.trans (Imm.trans (Imm.trans (Imm.trans hI19 hI28) hI35) hI46) hI51) hI60) hI67) hI81)) (hf3_0.mono (Imm.trans (Imm.trans (Imm.trans (Imm.trans (Imm.trans (Imm.trans (Imm.trans (Imm.trans (Imm.trans hI5 hJ12) hI19) hI28) hI35) hI46) hI51) hI60) hI67) hI81)) hx83 _) ?_
          rintro v I84 L85 hI86 ⟨A87, c88, C89, hO90, rfl, rfl⟩
          refine gl_pure 5 [0, 3, 9, 10, 11] (K' := [(0, .slice A0_0 a0.length n0_0), (3, .slice A3_0 a3.length n3_0), (9, .slice A6 y1.1.length c7), (10, .slice A87 y82.1.length c88), (11, .int .i64 y82.2)]) (by kernel_rfl) ?_
          refine gl_atE (by kernel_rfl) ?_
          refine ge_seq ?_
          refine gk_seq (by kernel_rfl) ?_
          refine gk_region (by kernel_rfl) ?_
          refine gl_pure 2 [0, 9, 10, 11, 77, 78] (K' := [(0, .slice A0_0 a0.length n0_0), (9, .slice A6 y1.1.length c7), (10, .slice A87 y82.1.length c88), (11, .int .i64 y82.2), (77, .slice A0_0 a0.length n0_0), (78, .slice A3_0 a3.length n3_0)]) (by kernel_rfl) ?_
          obtain ⟨y91, hx92, hr⟩ := bind_some hr
          refine gl_call (by kernel_rfl) (tocsinref04_Keep_walk (r := y91) (hf0_0.mono (Imm.trans (Imm.trans (Imm.trans (Imm.trans (Imm.trans (Imm.trans (Imm.trans (Imm.trans (Imm.trans (Imm.trans hI5 hJ12) hI19) hI28) hI35) hI46) hI51) hI60) hI67) hI81) hI86)) (hf3_0.mono (Imm.trans (Imm.trans (Imm.trans (Imm.trans (Imm.trans (Imm.trans (Imm.trans (Imm.trans (Imm.trans (Imm.trans hI5 hJ12) hI19) hI28) hI35) hI46) hI51) hI60) hI67) hI81) hI86)) hx92 _) ?_
          rintro v I93 L94 hI95 ⟨A96, c97, C98, hO99, rfl, rfl⟩
          refine gl_pure 5 [0, 9, 10, 11, 12, 13] (K' := [(0, .slice A0_0 a0.length n0_0), (9, .slice A6 y1.1.length c7), (10, .slice A87 y82.1.length c88), (11, .int .i64 y82.2), (12, .slice A96 y91.1.length c97), (13, .int .i64 y91.2)]) (by kernel_rfl) ?_
          refine gl_atE (by kernel_rfl) ?_
          refine ge_seq ?_
          refine gk_seq (by kernel_rfl) ?_
          refine gk_seq (by kernel_rfl) ?_
          obtain ⟨j100, hj101, hr⟩ := bind_some hr
          refine gk_join (fun t I' L' => I93 ≤ I' ∧ C89 ++ L = L' ∧ Knows 105 [(0, .slice A0_0 a0.length n0_0), (9, .slice A6 y1.1.length c7), (10, .slice A87 y82.1.length c88), (96, .bool j100)] t) ?_ ?_
          · refine gk_region (by kernel_rfl) ?_
            refine gl_pure 2 [0, 9, 10, 11, 13, 82, 83] (K' := [(0, .slice A0_0 a0.length n0_0), (9, .slice A6 y1.1.length c7), (10, .slice A87 y82.1.length c88), (11, .int .i64 y82.2), (13, .int .i64 y91.2), (82, .slice A87 y82.1.length c88), (83, .slice A96 y91.1.length c97)]) (by kernel_rfl) ?_
            obtain ⟨y105, hx106, hj101⟩ := bind_some hj101
            refine gl_callB (r := .bool y105) (Tk.step (Upd.rmC _ _) (Tk.step (Upd.rmC _ _) (Tk.nil _))) (by kernel_rfl) (fun J hJ hC => tocsinlaw04_same_walk (r := y105) (OwnS.rest (hO90.mono hI95) hJ hC.right.left) (OwnS.rest hO99 hJ hC.left) hx106 _) ?_
            refine gl_pure 2 [0, 9, 10, 11, 13, 86] (K' := [(0, .slice A0_0 a0.length n0_0), (9, .slice A6 y1.1.length c7), (10, .slice A87 y82.1.length c88), (11, .int .i64 y82.2), (13, .int .i64 y91.2), (86, .bool (!y105))]) (by kernel_rfl) ?_
            refine gl_case 86 (b := (!y105)) (by kernel_rfl) (fun hc107 => ?_) (fun hc107 => ?_)
            · have hj101 := cond_t hc107 hj101
              refine gl_pure 10 [0, 9, 10, 96] (K' := [(0, .slice A0_0 a0.length n0_0), (9, .slice A6 y1.1.length c7), (10, .slice A87 y82.1.length c88), (96, .bool true)]) (by kernel_rfl) ?_
              refine gl_reord (D := C89 ++ L) (Reord.step (Upd.app _ (Upd.rmC _ _)) (Reord.skipC (Reord.refl _))) ?_
              refine gl_atE (by kernel_rfl) ?_
              obtain rfl := some_inj hj101
              exact ge_mid fun t ht => ⟨(Imm.refl _), rfl, ht.pick (l := [0, 9, 10, 96]) (by kernel_rfl)⟩
            · have hj101 := cond_f hc107 hj101
              refine gl_pure 5 [0, 9, 10, 91] (K' := [(0, .slice A0_0 a0.length n0_0), (9, .slice A6 y1.1.length c7), (10, .slice A87 y82.1.length c88), (91, .bool (y82.2 != y91.2))]) (by kernel_rfl) ?_
              refine gl_case 91 (b := (y82.2 != y91.2)) (by kernel_rfl) (fun hc108 => ?_) (fun hc108 => ?_)
              · have hj101 := cond_t hc108 hj101
                refine gl_pure 5 [0, 9, 10, 96] (K' := [(0, .slice A0_0 a0.length n0_0), (9, .slice A6 y1.1.length c7), (10, .slice A87 y82.1.length c88), (96, .bool true)]) (by kernel_rfl) ?_
                refine gl_reord (D := C89 ++ L) (Reord.step (Upd.app _ (Upd.rmC _ _)) (Reord.skipC (Reord.refl _))) ?_
                refine gl_atE (by kernel_rfl) ?_
                obtain rfl := some_inj hj101
                exact ge_mid fun t ht => ⟨(Imm.refl _), rfl, ht.pick (l := [0, 9, 10, 96]) (by kernel_rfl)⟩
              · have hj101 := cond_f hc108 hj101
                refine gl_pure 2 [0, 9, 10, 91, 92, 93] (K' := [(0, .slice A0_0 a0.length n0_0), (9, .slice A6 y1.1.length c7), (10, .slice A87 y82.1.length c88), (91, .bool false), (92, .slice A6 y1.1.length c7), (93, .slice A0_0 a0.length n0_0)]) (by kernel_rfl) ?_
                obtain ⟨y109, hx110, hj101⟩ := bind_some hj101
                refine gl_callQ (by kernel_rfl) (tocsinlaw04_Kept_walk (r := y109) ((RepS.head hO10 hf14).mono (Imm.trans (Imm.trans (Imm.trans (Imm.trans (Imm.trans (Imm.trans (Imm.trans (Imm.trans (Imm.trans hI19 hI28) hI35) hI46) hI51) hI60) hI67) hI81) hI86) hI95)) (hf14.mono (Imm.trans (Imm.trans (Imm.trans (Imm.trans (Imm.trans (Imm.trans (Imm.trans (Imm.trans (Imm.trans hI19 hI28) hI35) hI46) hI51) hI60) hI67) hI81) hI86) hI95)) (hf0_0.mono (Imm.trans (Imm.trans (Imm.trans (Imm.trans (Imm.trans (Imm.trans (Imm.trans (Imm.trans (Imm.trans (Imm.trans (Imm.trans hI5 hJ12) hI19) hI28) hI35) hI46) hI51) hI60) hI67) hI81) hI86) hI95)) hx110 _) ?_
                refine gl_pure 2 [0, 9, 10, 96] (K' := [(0, .slice A0_0 a0.length n0_0), (9, .slice A6 y1.1.length c7), (10, .slice A87 y82.1.length c88), (96, .bool (!y109))]) (by kernel_rfl) ?_
                refine gl_reord (D := C89 ++ L) (Reord.step (Upd.app _ (Upd.rmC _ _)) (Reord.skipC (Reord.refl _))) ?_
                refine gl_atE (by kernel_rfl) ?_
                obtain rfl := some_inj hj101
                exact ge_mid fun t ht => ⟨(Imm.refl _), rfl, ht.pick (l := [0, 9, 10, 96]) (by kernel_rfl)⟩
          · rintro t I104 L' ⟨hI102, rfl, hK103⟩
            refine ge_at hK103 ?_
            refine ge_seq ?_
            refine gk_cond (b := j100) (by kernel_rfl) (by kernel_rfl) (fun hc111 => ?_) (fun hc111 => ?_)
            · have hr := cond_t hc111 hr
              refine gk_seq (by kernel_rfl) ?_
              refine gk_region (by kernel_rfl) ?_
              refine gl_pure 1 [8] (K' := [(8, .bool false)]) (by kernel_rfl) ?_
              refine gl_atE (by kernel_rfl) ?_
              refine ge_seq ?_
              refine gk_reord (D := L) (Reord.skipC (Reord.refl _)) ?_
              refine gk_ret (by kernel_rfl) ?_
              refine ge_seq_ret ?_
              obtain rfl := some_inj hr
              exact ge_result trivial (ResOk.tmp (by kernel_rfl) ResOk.nil) (Imm.trans (Imm.trans (Imm.trans (Imm.trans (Imm.trans (Imm.trans (Imm.trans (Imm.trans (Imm.trans (Imm.trans (Imm.trans (Imm.trans hI5 hJ12) hI19) hI28) hI35) hI46) hI51) hI60) hI67) hI81) hI86) hI95) hI102) ⟨rfl, rfl⟩
            · have hr := cond_f hc111 hr
              refine gk_skip (by kernel_rfl) ?_
              refine ge_seq ?_
              refine gk_seq (by kernel_rfl) ?_
              refine gk_region (by kernel_rfl) ?_
              refine gl_pure 1 [0, 9, 97] (K' := [(0, .slice A0_0 a0.length n0_0), (9, .slice A6 y1.1.length c7), (97, .slice A87 y82.1.length c88)]) (by kernel_rfl) ?_
              obtain ⟨y112, hx113, hr⟩ := bind_some hr
              refine gl_call (by kernel_rfl) (tocsinlaw04_Spoil_f28_walk (r := y112) (A0 := A87) (c0 := c88) (C0 := C89) (a0 := y82.1) (hO90.mono (Imm.trans hI95 hI102)) hx113 _) ?_
              rintro v I114 L115 hI116 ⟨rfl, rfl⟩
              refine gl_atE (by kernel_rfl) ?_
              refine ge_seq ?_
              refine gk_seq (by kernel_rfl) ?_
              obtain ⟨j117, hj118, hr⟩ := bind_some hr
              refine gk_join (fun t I' L' => I114 ≤ I' ∧ L = L' ∧ Knows 105 [(8, .bool j117)] t) ?_ ?_
              · refine gk_region (by kernel_rfl) ?_
                refine gl_pure 2 [99, 100] (K' := [(99, .slice A6 y1.1.length c7), (100, .slice A0_0 a0.length n0_0)]) (by kernel_rfl) ?_
                obtain ⟨y122, hx123, hj118⟩ := bind_some hj118
                refine gl_callQ (by kernel_rfl) (tocsinlaw04_Kept_walk (r := y122) ((RepS.head hO10 hf14).mono (Imm.trans (Imm.trans (Imm.trans (Imm.trans (Imm.trans (Imm.trans (Imm.trans (Imm.trans (Imm.trans (Imm.trans (Imm.trans hI19 hI28) hI35) hI46) hI51) hI60) hI67) hI81) hI86) hI95) hI102) hI116)) (hf14.mono (Imm.trans (Imm.trans (Imm.trans (Imm.trans (Imm.trans (Imm.trans (Imm.trans (Imm.trans (Imm.trans (Imm.trans (Imm.trans hI19 hI28) hI35) hI46) hI51) hI60) hI67) hI81) hI86) hI95) hI102) hI116)) (hf0_0.mono (Imm.trans (Imm.trans (Imm.trans (Imm.trans (Imm.trans (Imm.trans (Imm.trans (Imm.trans (Imm.trans (Imm.trans (Imm.trans (Imm.trans (Imm.trans hI5 hJ12) hI19) hI28) hI35) hI46) hI51) hI60) hI67) hI81) hI86) hI95) hI102) hI116)) hx123 _) ?_
                refine gl_pure 1 [102] (K' := [(102, .bool y122)]) (by kernel_rfl) ?_
                refine gl_case 102 (b := y122) (by kernel_rfl) (fun hc124 => ?_) (fun hc124 => ?_)
                · have hj118 := cond_t hc124 hj118
                  obtain ⟨y125, hx126, hj118⟩ := bind_some hj118
                  refine gl_callQ (by kernel_rfl) (tocsinlaw04_awake_walk (r := y125) (hG.mono (Imm.trans (Imm.trans (Imm.trans (Imm.trans (Imm.trans (Imm.trans (Imm.trans (Imm.trans (Imm.trans (Imm.trans (Imm.trans (Imm.trans (Imm.trans hI5 hJ12) hI19) hI28) hI35) hI46) hI51) hI60) hI67) hI81) hI86) hI95) hI102) hI116)) hx126 _) ?_
                  refine gl_pure 2 [8] (K' := [(8, .bool y125)]) (by kernel_rfl) ?_
                  refine gl_atE (by kernel_rfl) ?_
                  obtain rfl := some_inj hj118
                  exact ge_mid fun t ht => ⟨(Imm.refl _), rfl, ht.pick (l := [8]) (by kernel_rfl)⟩
                · have hj118 := cond_f hc124 hj118
                  refine gl_pure 3 [8] (K' := [(8, .bool false)]) (by kernel_rfl) ?_
                  refine gl_atE (by kernel_rfl) ?_
                  obtain rfl := some_inj hj118
                  exact ge_mid fun t ht => ⟨(Imm.refl _), rfl, ht.pick (l := [8]) (by kernel_rfl)⟩
              · rintro t I121 L' ⟨hI119, rfl, hK120⟩
                refine ge_at hK120 ?_
                refine ge_seq ?_
                refine gk_ret (by kernel_rfl) ?_
                obtain rfl := some_inj hr
                exact ge_result trivial (ResOk.tmp (by kernel_rfl) ResOk.nil) (Imm.trans (Imm.trans (Imm.trans (Imm.trans (Imm.trans (Imm.trans (Imm.trans (Imm.trans (Imm.trans (Imm.trans (Imm.trans (Imm.trans (Imm.trans (Imm.trans hI5 hJ12) hI19) hI28) hI35) hI46) hI51) hI60) hI67) hI81) hI86) hI95) hI102) hI116) hI119) ⟨rfl, rfl⟩
end Go.Proofs.YtnlkfajnaelnnaaGreatDoor

set_option linter.unusedVariables false
set_option linter.unusedSimpArgs false
set_option maxRecDepth 100000
namespace Go.Proofs.YtnlkfajnaelnnaaGreatDoor
open Go.GB
/-! 8 tocsinlaw04_LabelsAlgebra  -/
end Go.Proofs.YtnlkfajnaelnnaaGreatDoor
