/- Plain laws, base: loops that are alike; searches; words of bits. -/
import Derived.Test.YtnlkfajnaelnnaaGreatDoorL1cm
import Derived.Test.YtnlkfajnaelnnaaGreatDoorM1m
import Derived.Test.YtnlkfajnaelnnaaGreatDoorRows
import Derived.Deep.Slices
import Derived.Below
import Derived.Test.YtnlkfajnaelnnaaGreatDoorGB10m
set_option linter.unusedVariables false
set_option linter.unusedSimpArgs false
set_option maxRecDepth 100000
namespace Go.Proofs.YtnlkfajnaelnnaaGreatDoor
open Go.GB
/-! 16 tocsinref04_Right  -/
noncomputable def tocsinref04_Right_l18 (a0 : List S49) : Int → Option ((Int) ⊕ ((Unit) ⊕ (Int × Int))) := fun s8 =>
  bif (decide (s8 < (a0.length : Int))) then
  (Option.bind (ix a0 s8) fun (x21 : S49) =>
    Option.bind (tocsinref04_one x21) fun (y30 : Int) =>
    bif (y30 != 0) then
    (some (Sum.inr (Sum.inr (y30, s8))))
    else
    (Option.bind (bif (decide (s8 > 0)) then
        (Option.bind (ix a0 (IntKind.wrap .i64 (s8 - 1))) fun (x39 : S49) =>
          some (!(Op.bytesLess x39.f0.toList x21.f0.toList)))
        else
        (some false)) fun (j33 : Bool) =>
      bif j33 then
      (some (Sum.inr (Sum.inr (3, s8))))
      else
      (some (Sum.inl (IntKind.wrap .i64 (s8 + 1))))))
  else
  (some (Sum.inr (Sum.inl ())))
noncomputable def tocsinref04_Right (a0 : List S49) : Option (Int × Int) :=
  bif (decide ((a0.length : Int) > 16)) then
  (some (8, 0))
  else
  (Option.bind (loopO (tocsinref04_Right_l18 a0) 0) fun (r6 : (Unit) ⊕ (Int × Int)) =>
    match r6 with
    | Sum.inl r14 => some (0, 0)
    | Sum.inr v48 => some v48)
theorem tocsinref04_Right_walk {a0 : List S49} {A0_0 : Option Addr} {n0_0 : Nat} {I : Imm} {r : Int × Int}  (hf0_0 : RepS kS49 I A0_0 n0_0 a0) (hr : tocsinref04_Right a0 = some r) (L : Own) :
    CallsTo Tryz.prog 16 #[.slice A0_0 a0.length n0_0] I L (fun v I' L' => v = .tuple #[.int .i64 r.1, .int .i64 r.2] ∧ L = L') := by
  unfold tocsinref04_Right at hr
  refine callsTo_body (N := 38) Tryz.func16 (by kernel_rfl) (by kernel_rfl) (by kernel_rfl) ?_
  refine gk_pick [0] (K' := [(0, .slice A0_0 a0.length n0_0)]) (by kernel_rfl) ?_
  refine gk_seq (by kernel_rfl) ?_
  refine gk_region (by kernel_rfl) ?_
  refine gl_pure 2 [0] (K' := [(0, .slice A0_0 a0.length n0_0)]) (by kernel_rfl) ?_
  refine gl_atE (by kernel_rfl) ?_
  refine ge_seq ?_
  refine gk_seq (by kernel_rfl) ?_
  refine gk_seq (by kernel_rfl) ?_
  refine gk_region (by kernel_rfl) ?_
  refine gl_pure 3 [0, 9] (K' := [(0, .slice A0_0 a0.length n0_0), (9, .bool (decide ((a0.length : Int) > 16)))]) (by kernel_rfl) ?_
  refine gl_atE (by kernel_rfl) ?_
  refine ge_seq ?_
  refine gk_cond (b := (decide ((a0.length : Int) > 16))) (by kernel_rfl) (by kernel_rfl) (fun hc1 => ?_) (fun hc1 => ?_)
  · have hr := cond_t hc1 hr
    refine gk_seq (by kernel_rfl) ?_
    refine gk_region (by kernel_rfl) ?_
    refine gl_pure 2 [2, 3] (K' := [(2, .int .i64 8), (3, .int .i64 0)]) (by kernel_rfl) ?_
    refine gl_atE (by kernel_rfl) ?_
    refine ge_seq ?_
    refine gk_ret (by kernel_rfl) ?_
    refine ge_seq_ret ?_
    obtain rfl := some_inj hr
    exact ge_result trivial (ResOk.tmp (by kernel_rfl) (ResOk.tmp (by kernel_rfl) ResOk.nil)) (Imm.refl _) ⟨rfl, rfl⟩
  · have hr := cond_f hc1 hr
    refine gk_skip (by kernel_rfl) ?_
    refine ge_seq ?_
    refine gk_seq (by kernel_rfl) ?_
    refine gk_seq (by kernel_rfl) ?_
    refine gk_region (by kernel_rfl) ?_
    refine gl_pure 3 [0, 10, 11, 12] (K' := [(0, .slice A0_0 a0.length n0_0), (10, .slice A0_0 a0.length n0_0), (11, .int .i64 (a0.length : Int)), (12, .int .i64 0)]) (by kernel_rfl) ?_
    refine gl_atE (by kernel_rfl) ?_
    refine ge_seq ?_
    obtain ⟨r6, hl7, hr⟩ := bind_some hr
    refine gk_join (fun t I' L' => ∃ r14, r6 = Sum.inl r14 ∧ I ≤ I' ∧ L = L' ∧ Knows 38 [] t) ?_ ?_
    · refine gk_block (by kernel_rfl) ?_
      refine gk_pick [0, 10, 11, 12] (K' := [(0, .slice A0_0 a0.length n0_0), (10, .slice A0_0 a0.length n0_0), (11, .int .i64 (a0.length : Int)), (12, .int .i64 0)]) (by kernel_rfl) ?_
      intro t hK
      refine gc_loop (tocsinref04_Right_l18 a0) (fun s8 t I' L' => I ≤ I' ∧ L = L' ∧ Knows 38 [(0, .slice A0_0 a0.length n0_0), (10, .slice A0_0 a0.length n0_0), (11, .int .i64 (a0.length : Int)), (12, .int .i64 s8)] t) (by kernel_rfl) ?_ hl7 ⟨(Imm.refl _), rfl, hK⟩
      rintro s8 o9 t I13 L' hb10 ⟨hI11, rfl, hK12⟩
      unfold tocsinref04_Right_l18 at hb10
      refine gk_at hK12 ?_
      refine gk_seq (by kernel_rfl) ?_
      refine gk_region (by kernel_rfl) ?_
      refine gl_pure 1 [0, 10, 11, 12, 13] (K' := [(0, .slice A0_0 a0.length n0_0), (10, .slice A0_0 a0.length n0_0), (11, .int .i64 (a0.length : Int)), (12, .int .i64 s8), (13, .bool (decide (s8 < (a0.length : Int))))]) (by kernel_rfl) ?_
      refine gl_atE (by kernel_rfl) ?_
      refine ge_seq ?_
      refine gk_seq (by kernel_rfl) ?_
      refine gk_cond (b := (decide (s8 < (a0.length : Int)))) (by kernel_rfl) (by kernel_rfl) (fun hc20 => ?_) (fun hc20 => ?_)
      · have hb10 := cond_t hc20 hb10
        refine gk_skip (by kernel_rfl) ?_
        refine ge_seq ?_
        refine gk_seq (by kernel_rfl) ?_
        refine gk_block (by kernel_rfl) ?_
        refine gk_seq (by kernel_rfl) ?_
        refine gk_region (by kernel_rfl) ?_
        refine gl_pure 1 [0, 10, 11, 12, 14] (K' := [(0, .slice A0_0 a0.length n0_0), (10, .slice A0_0 a0.length n0_0), (11, .int .i64 (a0.length : Int)), (12, .int .i64 s8), (14, .int .i64 s8)]) (by kernel_rfl) ?_
        obtain ⟨x21, hx22, hb10⟩ := bind_some hb10
        obtain ⟨p23, cs24, hR25, hA26, ha27⟩ := RepS.ixAt hx22 (hf0_0.mono hI11)
        have hi28 := ix_some hx22
        obtain rfl := kS49_open hR25
        refine gl_indexAddrF (c := n0_0) (T' := 22) (e := 50) (xs := (.tmp 10)) (xi := (.tmp 12)) (kd := .i64) ha27 hi28.1 hi28.2.1 (by kernel_rfl) (by kernel_rfl) (by kernel_rfl) (by kernel_rfl) (by kernel_rfl) ?_
        refine gl_loadA (T' := 50) (xp := (.tmp 15)) (p := p23) (cs := [.string x21.f0, .string x21.f1]) (by kernel_rfl) (by kernel_rfl) (by kernel_rfl) (by kernel_rfl) (hA26.take 2) ?_
        refine gl_alloc (T' := 50) (cs := #[.string (⟨#[]⟩ : ByteArray), .string (⟨#[]⟩ : ByteArray)]) (by kernel_rfl) (by kernel_rfl) (by kernel_rfl) (fun g29 => ?_)
        refine gl_pure 1 [0, 4, 5, 10, 11, 12, 16] (K' := [(0, .slice A0_0 a0.length n0_0), (4, .int .i64 s8), (5, .pointer (some ⟨g29, 0, none⟩)), (10, .slice A0_0 a0.length n0_0), (11, .int .i64 (a0.length : Int)), (12, .int .i64 s8), (16, .agg #[.string x21.f0, .string x21.f1])]) (by kernel_rfl) ?_
        refine gl_storeB (T' := 50) (xp := (.tmp 5)) (xv := (.tmp 16)) (v := .agg #[.string x21.f0, .string x21.f1]) (g := g29) (off := 0) (cs := #[.string (⟨#[]⟩ : ByteArray), .string (⟨#[]⟩ : ByteArray)]) (cs' := #[.string x21.f0, .string x21.f1]) (by kernel_rfl) (by kernel_rfl) (by kernel_rfl) (by kernel_rfl) (by kernel_rfl) (Upd.set _ _ _ _) ?_ (by kernel_rfl)
        refine gl_atE (by kernel_rfl) ?_
        refine ge_seq ?_
        refine gk_seq (by kernel_rfl) ?_
        refine gk_seq (by kernel_rfl) ?_
        refine gk_region (by kernel_rfl) ?_
        refine gl_loadB (T' := 50) (xp := (.tmp 5)) (v := .agg #[.string x21.f0, .string x21.f1]) (g := g29) (off := 0) (cs := #[.string x21.f0, .string x21.f1]) (e := 50) (fz := (0, 0)) (by kernel_rfl) (by kernel_rfl) (by kernel_rfl) List.mem_cons_self (by kernel_rfl) ?_
        obtain ⟨y30, hx31, hb10⟩ := bind_some hb10
        refine gl_callQ (by kernel_rfl) (tocsinref04_one_walk (r := y30)  hx31 _) ?_
        refine gl_pure 1 [0, 4, 5, 6, 10, 11, 12] (K' := [(0, .slice A0_0 a0.length n0_0), (4, .int .i64 s8), (5, .pointer (some ⟨g29, 0, none⟩)), (6, .int .i64 y30), (10, .slice A0_0 a0.length n0_0), (11, .int .i64 (a0.length : Int)), (12, .int .i64 s8)]) (by kernel_rfl) ?_
        refine gl_atE (by kernel_rfl) ?_
        refine ge_seq ?_
        refine gk_seq (by kernel_rfl) ?_
        refine gk_region (by kernel_rfl) ?_
        refine gl_pure 2 [0, 4, 5, 6, 10, 11, 12, 20] (K' := [(0, .slice A0_0 a0.length n0_0), (4, .int .i64 s8), (5, .pointer (some ⟨g29, 0, none⟩)), (6, .int .i64 y30), (10, .slice A0_0 a0.length n0_0), (11, .int .i64 (a0.length : Int)), (12, .int .i64 s8), (20, .bool (y30 != 0))]) (by kernel_rfl) ?_
        refine gl_atE (by kernel_rfl) ?_
        refine ge_seq ?_
        refine gk_cond (b := (y30 != 0)) (by kernel_rfl) (by kernel_rfl) (fun hc32 => ?_) (fun hc32 => ?_)
        · have hb10 := cond_t hc32 hb10
          refine gk_seq (by kernel_rfl) ?_
          refine gk_region (by kernel_rfl) ?_
          refine gl_pure 4 [2, 3] (K' := [(2, .int .i64 y30), (3, .int .i64 s8)]) (by kernel_rfl) ?_
          refine gl_atE (by kernel_rfl) ?_
          refine ge_seq ?_
          refine gk_reord (D := L) (Reord.skip (Reord.refl _)) ?_
          refine gk_ret (by kernel_rfl) ?_
          refine ge_seq_ret ?_
          refine ge_block_ret ?_
          refine ge_seq_ret ?_
          obtain rfl := some_inj hb10
          refine ge_round_out (fun hrr => ?_) (by intro h; cases h)
          obtain rfl := hrr
          refine ge_block_ret ?_
          refine ge_seq_ret ?_
          refine ge_seq_ret ?_
          obtain rfl := some_inj hr
          exact ge_result trivial (ResOk.tmp (by kernel_rfl) (ResOk.tmp (by kernel_rfl) ResOk.nil)) hI11 ⟨rfl, rfl⟩
        · have hb10 := cond_f hc32 hb10
          refine gk_skip (by kernel_rfl) ?_
          refine ge_seq ?_
          refine gk_seq (by kernel_rfl) ?_
          obtain ⟨j33, hj34, hb10⟩ := bind_some hb10
          refine gk_join (fun t I' L' => I13 ≤ I' ∧ L = L' ∧ Knows 38 [(0, .slice A0_0 a0.length n0_0), (4, .int .i64 s8), (10, .slice A0_0 a0.length n0_0), (11, .int .i64 (a0.length : Int)), (12, .int .i64 s8), (35, .bool j33)] t) ?_ ?_
          · refine gk_draw 13 [(0, true), (1, true), (2, true), (3, true), (4, true), (5, true), (6, true), (7, true), (8, true), (9, true), (10, true), (11, true), (12, true)] [(g29, .cells #[.string x21.f0, .string x21.f1] 50)] (List.forall_mem_cons.2 ⟨List.mem_cons_self, (fun p hp => by cases hp)⟩) (by kernel_rfl) (by kernel_rfl) (by kernel_rfl) ?_ (by kernel_rfl)
            refine gd_pure 3 [0, 4, 5, 10, 11, 12, 25] (K' := [(0, .slice A0_0 a0.length n0_0), (4, .int .i64 s8), (5, .pointer (some ⟨g29, 0, none⟩)), (10, .slice A0_0 a0.length n0_0), (11, .int .i64 (a0.length : Int)), (12, .int .i64 s8), (25, .bool (decide (s8 > 0)))]) (s' := [(3, true), (4, true), (5, true), (6, true), (7, true), (8, true), (9, true), (10, true), (11, true), (12, true)]) (CC.refl (List.forall_mem_cons.2 ⟨List.mem_cons_self, (fun p hp => by cases hp)⟩)) (by kernel_rfl) ?_
            refine gd_case 25 (b := (decide (s8 > 0))) (by kernel_rfl) (fun hc38 => ?_) (fun hc38 => ?_)
            · have hj34 := cond_t hc38 hj34
              refine gd_pure 3 [0, 4, 5, 10, 11, 12, 25, 26, 28] (K' := [(0, .slice A0_0 a0.length n0_0), (4, .int .i64 s8), (5, .pointer (some ⟨g29, 0, none⟩)), (10, .slice A0_0 a0.length n0_0), (11, .int .i64 (a0.length : Int)), (12, .int .i64 s8), (25, .bool true), (26, .slice A0_0 a0.length n0_0), (28, .int .i64 (IntKind.wrap .i64 (s8 - 1)))]) (s' := [(6, true), (7, true), (8, true), (9, true), (10, true), (11, true), (12, true)]) (CC.refl (List.forall_mem_cons.2 ⟨List.mem_cons_self, (fun p hp => by cases hp)⟩)) (by kernel_rfl) ?_
              obtain ⟨x39, hx40, hj34⟩ := bind_some hj34
              obtain ⟨p41, cs42, hR43, hA44, ha45⟩ := RepS.ixAt hx40 (hf0_0.mono hI11)
              have hi46 := ix_some hx40
              obtain rfl := kS49_open hR43
              refine gd_q (v := .pointer (some p41)) (by kernel_rfl) (by kernel_rfl) (CC.refl (List.forall_mem_cons.2 ⟨List.mem_cons_self, (fun p hp => by cases hp)⟩)) (fun I' L' T hC kk => gl_indexAddrF (c := n0_0) (T' := 22) (e := 50) (xs := (.tmp 26)) (xi := (.tmp 28)) (kd := .i64) ha45 hi46.1 hi46.2.1 (by kernel_rfl) (by kernel_rfl) (by kernel_rfl) (by kernel_rfl) (by kernel_rfl) kk) ?_
              refine gd_pure 1 [0, 4, 5, 10, 11, 12, 25, 30] (K' := [(0, .slice A0_0 a0.length n0_0), (4, .int .i64 s8), (5, .pointer (some ⟨g29, 0, none⟩)), (10, .slice A0_0 a0.length n0_0), (11, .int .i64 (a0.length : Int)), (12, .int .i64 s8), (25, .bool true), (30, .pointer (some (p41.add 0)))]) (s' := [(8, true), (9, true), (10, true), (11, true), (12, true)]) (CC.refl (List.forall_mem_cons.2 ⟨List.mem_cons_self, (fun p hp => by cases hp)⟩)) (by kernel_rfl) ?_
              refine gd_q (v := .string x39.f0) (by kernel_rfl) (by kernel_rfl) (CC.refl (List.forall_mem_cons.2 ⟨List.mem_cons_self, (fun p hp => by cases hp)⟩)) (fun I' L' T hC kk => gl_load (T' := 9) (xp := (.tmp 30)) (p := (p41.add 0)) (c := .string x39.f0) (n := 1) (by kernel_rfl) (by kernel_rfl) (by kernel_rfl) (by kernel_rfl) ((hA44.drop 0).mono hC.le) kk) ?_
              refine gd_pure 1 [0, 4, 10, 11, 12, 25, 31, 32] (K' := [(0, .slice A0_0 a0.length n0_0), (4, .int .i64 s8), (10, .slice A0_0 a0.length n0_0), (11, .int .i64 (a0.length : Int)), (12, .int .i64 s8), (25, .bool true), (31, .string x39.f0), (32, .pointer (some ⟨g29, 0, none⟩))]) (s' := [(10, true), (11, true), (12, true)]) (CC.refl (List.forall_mem_cons.2 ⟨List.mem_cons_self, (fun p hp => by cases hp)⟩)) (by kernel_rfl) ?_
              refine gd_q (v := .string x21.f0) (by kernel_rfl) (by kernel_rfl) (CC.refl (List.forall_mem_cons.2 ⟨List.mem_cons_self, (fun p hp => by cases hp)⟩)) (fun I' L' T hC kk => gl_loadB (T' := 9) (xp := (.tmp 32)) (v := .string x21.f0) (g := g29) (off := 0) (cs := #[.string x21.f0, .string x21.f1]) (e := 50) (fz := (0, 0)) (by kernel_rfl) (by kernel_rfl) (by kernel_rfl) (hC.sub _ List.mem_cons_self) (by kernel_rfl) kk) ?_
              refine gd_pure 2 [0, 4, 10, 11, 12, 35] (K' := [(0, .slice A0_0 a0.length n0_0), (4, .int .i64 s8), (10, .slice A0_0 a0.length n0_0), (11, .int .i64 (a0.length : Int)), (12, .int .i64 s8), (35, .bool (!(Op.bytesLess x39.f0.toList x21.f0.toList)))]) (s' := []) (CC.refl (List.forall_mem_cons.2 ⟨List.mem_cons_self, (fun p hp => by cases hp)⟩)) (by kernel_rfl) ?_
              refine gd_done ?_
              refine gl_reord (D := L) (Reord.skip (Reord.refl _)) ?_
              refine gl_atE (by kernel_rfl) ?_
              obtain rfl := some_inj hj34
              exact ge_mid fun t ht => ⟨(Imm.refl _), rfl, ht.pick (l := [0, 4, 10, 11, 12, 35]) (by kernel_rfl)⟩
            · have hj34 := cond_f hc38 hj34
              refine gd_pure 10 [0, 4, 10, 11, 12, 35] (K' := [(0, .slice A0_0 a0.length n0_0), (4, .int .i64 s8), (10, .slice A0_0 a0.length n0_0), (11, .int .i64 (a0.length : Int)), (12, .int .i64 s8), (35, .bool false)]) (s' := []) (CC.refl (List.forall_mem_cons.2 ⟨List.mem_cons_self, (fun p hp => by cases hp)⟩)) (by kernel_rfl) ?_
              refine gd_done ?_
              refine gl_reord (D := L) (Reord.skip (Reord.refl _)) ?_
              refine gl_atE (by kernel_rfl) ?_
              obtain rfl := some_inj hj34
              exact ge_mid fun t ht => ⟨(Imm.refl _), rfl, ht.pick (l := [0, 4, 10, 11, 12, 35]) (by kernel_rfl)⟩
          · rintro t I37 L' ⟨hI35, rfl, hK36⟩
            refine ge_at hK36 ?_
            refine ge_seq ?_
            refine gk_cond (b := j33) (by kernel_rfl) (by kernel_rfl) (fun hc47 => ?_) (fun hc47 => ?_)
            · have hb10 := cond_t hc47 hb10
              refine gk_seq (by kernel_rfl) ?_
              refine gk_region (by kernel_rfl) ?_
              refine gl_pure 3 [2, 3] (K' := [(2, .int .i64 3), (3, .int .i64 s8)]) (by kernel_rfl) ?_
              refine gl_atE (by kernel_rfl) ?_
              refine ge_seq ?_
              refine gk_ret (by kernel_rfl) ?_
              refine ge_block_ret ?_
              refine ge_seq_ret ?_
              obtain rfl := some_inj hb10
              refine ge_round_out (fun hrr => ?_) (by intro h; cases h)
              obtain rfl := hrr
              refine ge_block_ret ?_
              refine ge_seq_ret ?_
              refine ge_seq_ret ?_
              obtain rfl := some_inj hr
              exact ge_result trivial (ResOk.tmp (by kernel_rfl) (ResOk.tmp (by kernel_rfl) ResOk.nil)) (Imm.trans hI11 hI35) ⟨rfl, rfl⟩
            · have hb10 := cond_f hc47 hb10
              refine gk_skip (by kernel_rfl) ?_
              refine ge_block_normal ?_
              refine ge_seq ?_
              refine gk_region (by kernel_rfl) ?_
              refine gl_pure 2 [0, 10, 11, 12] (K' := [(0, .slice A0_0 a0.length n0_0), (10, .slice A0_0 a0.length n0_0), (11, .int .i64 (a0.length : Int)), (12, .int .i64 (IntKind.wrap .i64 (s8 + 1)))]) (by kernel_rfl) ?_
              refine gl_atE (by kernel_rfl) ?_
              obtain rfl := some_inj hb10
              exact ge_round fun t ht => ⟨(Imm.trans hI11 hI35), rfl, ht.pick (l := [0, 10, 11, 12]) (by kernel_rfl)⟩
      · have hb10 := cond_f hc20 hb10
        refine gk_exit (by kernel_rfl) ?_
        refine ge_seq_exit ?_
        obtain rfl := some_inj hb10
        refine ge_round_out (fun hrr => ?_) (by intro h; cases h)
        obtain rfl := hrr
        refine ge_block_hit (by kernel_rfl) ?_
        exact ge_mid fun t ht => ⟨_, rfl, hI11, rfl, ht.pick (l := []) (by kernel_rfl)⟩
    · rintro t I17 L' ⟨r14, rfl, hI15, rfl, hK16⟩
      refine ge_at hK16 ?_
      refine ge_seq ?_
      refine gk_seq (by kernel_rfl) ?_
      refine gk_region (by kernel_rfl) ?_
      refine gl_pure 2 [2, 3] (K' := [(2, .int .i64 0), (3, .int .i64 0)]) (by kernel_rfl) ?_
      refine gl_atE (by kernel_rfl) ?_
      refine ge_seq ?_
      refine gk_ret (by kernel_rfl) ?_
      obtain rfl := some_inj hr
      exact ge_result trivial (ResOk.tmp (by kernel_rfl) (ResOk.tmp (by kernel_rfl) ResOk.nil)) hI15 ⟨rfl, rfl⟩
/-! 20 tocsinref04_Metric  -/
/-! 21 tocsinlaw04_Kept ('vis', 'imm') -/
noncomputable def tocsinlaw04_Kept (a0 : List S49 × List S49) (a1 : List S49) : Option Bool :=
  Option.bind (Option.bind (tocsinlaw04_same a0.1 a1) fun (y6 : Bool) =>
    bif y6 then
    (Option.bind (lx a0.2 0 (IntKind.wrap .i64 ((a1.length : Int) + 1))) fun (l10 : List S49) =>
      Option.bind (ix l10 (a1.length : Int)) fun (x14 : S49) =>
      some (x14.f0.toList == (⟨#[98, 101, 104, 105, 110, 100]⟩ : ByteArray).toList))
    else
    (some false)) fun (j1 : Bool) =>
  some j1
theorem tocsinlaw04_Kept_walk {a0 : List S49 × List S49} {A0_0 : Option Addr} {n0_0 : Nat} {a1 : List S49} {A1_0 : Option Addr} {n1_0 : Nat} {I : Imm} {r : Bool} (hf0_0 : RepS kS49 I A0_0 n0_0 a0.1) (hF0_0 : RepS kS49 I A0_0 n0_0 a0.2)  (hf1_0 : RepS kS49 I A1_0 n1_0 a1) (hr : tocsinlaw04_Kept a0 a1 = some r) (L : Own) :
    CallsTo Tryz.prog 21 #[.slice A0_0 a0.1.length n0_0, .slice A1_0 a1.length n1_0] I L (fun v I' L' => v = .bool r ∧ L = L') := by
  unfold tocsinlaw04_Kept at hr
  refine callsTo_body (N := 21) Tryz.func21 (by kernel_rfl) (by kernel_rfl) (by kernel_rfl) ?_
  refine gk_pick [0, 1] (K' := [(0, .slice A0_0 a0.1.length n0_0), (1, .slice A1_0 a1.length n1_0)]) (by kernel_rfl) ?_
  refine gk_seq (by kernel_rfl) ?_
  refine gk_region (by kernel_rfl) ?_
  refine gl_pure 1 [0, 1] (K' := [(0, .slice A0_0 a0.1.length n0_0), (1, .slice A1_0 a1.length n1_0)]) (by kernel_rfl) ?_
  refine gl_atE (by kernel_rfl) ?_
  refine ge_seq ?_
  refine gk_seq (by kernel_rfl) ?_
  obtain ⟨j1, hj2, hr⟩ := bind_some hr
  refine gk_join (fun t I' L' => I ≤ I' ∧ L = L' ∧ Knows 21 [(4, .bool j1)] t) ?_ ?_
  · refine gk_region (by kernel_rfl) ?_
    refine gl_pure 2 [0, 1, 5, 6] (K' := [(0, .slice A0_0 a0.1.length n0_0), (1, .slice A1_0 a1.length n1_0), (5, .slice A0_0 a0.1.length n0_0), (6, .slice A1_0 a1.length n1_0)]) (by kernel_rfl) ?_
    obtain ⟨y6, hx7, hj2⟩ := bind_some hj2
    refine gl_callQ (by kernel_rfl) (tocsinlaw04_same_walk (r := y6) hf0_0 hf1_0 hx7 _) ?_
    refine gl_pure 1 [0, 1, 8] (K' := [(0, .slice A0_0 a0.1.length n0_0), (1, .slice A1_0 a1.length n1_0), (8, .bool y6)]) (by kernel_rfl) ?_
    refine gl_case 8 (b := y6) (by kernel_rfl) (fun hc8 => ?_) (fun hc8 => ?_)
    · have hj2 := cond_t hc8 hj2
      refine gl_pure 4 [1, 8, 9, 12] (K' := [(1, .slice A1_0 a1.length n1_0), (8, .bool true), (9, .slice A0_0 a0.1.length n0_0), (12, .int .i64 (IntKind.wrap .i64 ((a1.length : Int) + 1)))]) (by kernel_rfl) ?_
      obtain ⟨l10, hx9, hj2⟩ := bind_some hj2
      refine gl_sliceRF (d := kS49) (T' := 22) (e := 50) (m := a0.1.length) (xs := (.tmp 9)) (lo := none) (hi := (some (.tmp 12))) hx9 hF0_0 (by kernel_rfl) (by kernel_rfl) (by kernel_rfl) (by kernel_rfl) (by kernel_rfl) (by kernel_rfl) (fun A11 n12 hf13 => ?_)
      refine gl_pure 2 [8, 13, 15] (K' := [(8, .bool true), (13, .slice A11 l10.length n12), (15, .int .i64 (a1.length : Int))]) (by kernel_rfl) ?_
      obtain ⟨x14, hx15, hj2⟩ := bind_some hj2
      obtain ⟨p16, cs17, hR18, hA19, ha20⟩ := RepS.ixAt hx15 hf13
      have hi21 := ix_some hx15
      obtain rfl := kS49_open hR18
      refine gl_indexAddrF (c := n12) (T' := 22) (e := 50) (xs := (.tmp 13)) (xi := (.tmp 15)) (kd := .i64) ha20 hi21.1 hi21.2.1 (by kernel_rfl) (by kernel_rfl) (by kernel_rfl) (by kernel_rfl) (by kernel_rfl) ?_
      refine gl_pure 1 [8, 17] (K' := [(8, .bool true), (17, .pointer (some (p16.add 0)))]) (by kernel_rfl) ?_
      refine gl_load (T' := 9) (xp := (.tmp 17)) (p := (p16.add 0)) (c := .string x14.f0) (n := 1) (by kernel_rfl) (by kernel_rfl) (by kernel_rfl) (by kernel_rfl) (hA19.drop 0) ?_
      refine gl_pure 3 [4] (K' := [(4, .bool (x14.f0.toList == (⟨#[98, 101, 104, 105, 110, 100]⟩ : ByteArray).toList))]) (by kernel_rfl) ?_
      refine gl_atE (by kernel_rfl) ?_
      obtain rfl := some_inj hj2
      exact ge_mid fun t ht => ⟨(Imm.refl _), rfl, ht.pick (l := [4]) (by kernel_rfl)⟩
    · have hj2 := cond_f hc8 hj2
      refine gl_pure 13 [4] (K' := [(4, .bool false)]) (by kernel_rfl) ?_
      refine gl_atE (by kernel_rfl) ?_
      obtain rfl := some_inj hj2
      exact ge_mid fun t ht => ⟨(Imm.refl _), rfl, ht.pick (l := [4]) (by kernel_rfl)⟩
  · rintro t I5 L' ⟨hI3, rfl, hK4⟩
    refine ge_at hK4 ?_
    refine ge_seq ?_
    refine gk_ret (by kernel_rfl) ?_
    obtain rfl := some_inj hr
    exact ge_result trivial (ResOk.tmp (by kernel_rfl) ResOk.nil) hI3 ⟨rfl, rfl⟩
/-! 3 tocsinlaw04_LabelsRights  -/
/-! 29 labels_Make  -/
noncomputable def labels_Make (a0 : List S49) : Option ((List S49) × Int) :=
  Option.bind (labels_sorted a0) fun (y1 : (List S49) × Bool) =>
  bif y1.2 then
  (some ([], 6))
  else
  (Option.bind (labels_right y1.1) fun (y11 : Int) =>
    bif (y11 != 0) then
    (some ([], y11))
    else
    (some (y1.1, 0)))
theorem labels_Make_walk {a0 : List S49} {A0_0 : Option Addr} {n0_0 : Nat} {I : Imm} {r : (List S49) × Int} (hG : Gl I)  (hf0_0 : RepS kS49 I A0_0 n0_0 a0) (hr : labels_Make a0 = some r) (L : Own) :
    CallsTo Tryz.prog 29 #[.slice A0_0 a0.length n0_0] I L (fun v I' L' => ∃ A0 c0 C0, OwnS kS49 50 I' A0 c0 r.1 C0 ∧ v = .tuple #[.slice A0 r.1.length c0, .int .i64 r.2] ∧ C0 ++ L = L') := by
  unfold labels_Make at hr
  refine callsTo_body (N := 19) Tryz.func29 (by kernel_rfl) (by kernel_rfl) (by kernel_rfl) ?_
  refine gk_pick [0] (K' := [(0, .slice A0_0 a0.length n0_0)]) (by kernel_rfl) ?_
  refine gk_seq (by kernel_rfl) ?_
  refine gk_region (by kernel_rfl) ?_
  refine gl_pure 2 [0] (K' := [(0, .slice A0_0 a0.length n0_0)]) (by kernel_rfl) ?_
  refine gl_atE (by kernel_rfl) ?_
  refine ge_seq ?_
  refine gk_seq (by kernel_rfl) ?_
  refine gk_region (by kernel_rfl) ?_
  refine gl_pure 1 [8] (K' := [(8, .slice A0_0 a0.length n0_0)]) (by kernel_rfl) ?_
  obtain ⟨y1, hx2, hr⟩ := bind_some hr
  refine gl_call (by kernel_rfl) (labels_sorted_walk (r := y1) hf0_0 hx2 _) ?_
  rintro v I3 L4 hI5 ⟨A6, c7, C8, hO9, rfl, rfl⟩
  refine gl_pure 5 [4, 5] (K' := [(4, .slice A6 y1.1.length c7), (5, .bool y1.2)]) (by kernel_rfl) ?_
  refine gl_atE (by kernel_rfl) ?_
  refine ge_seq ?_
  refine gk_seq (by kernel_rfl) ?_
  refine gk_seq (by kernel_rfl) ?_
  refine gk_region (by kernel_rfl) ?_
  refine gl_pure 1 [4, 12] (K' := [(4, .slice A6 y1.1.length c7), (12, .bool y1.2)]) (by kernel_rfl) ?_
  refine gl_atE (by kernel_rfl) ?_
  refine ge_seq ?_
  refine gk_cond (b := y1.2) (by kernel_rfl) (by kernel_rfl) (fun hc10 => ?_) (fun hc10 => ?_)
  · have hr := cond_t hc10 hr
    refine gk_seq (by kernel_rfl) ?_
    refine gk_region (by kernel_rfl) ?_
    refine gl_pure 2 [2, 3] (K' := [(2, .slice none 0 0), (3, .int .i64 6)]) (by kernel_rfl) ?_
    refine gl_atE (by kernel_rfl) ?_
    refine ge_seq ?_
    refine gk_reord (D := L) (Reord.skipC (Reord.refl _)) ?_
    refine gk_ret (by kernel_rfl) ?_
    refine ge_seq_ret ?_
    obtain rfl := some_inj hr
    exact ge_result trivial (ResOk.tmp (by kernel_rfl) (ResOk.tmp (by kernel_rfl) ResOk.nil)) hI5 ⟨none, 0, [], OwnS.nil _ _ _ _, rfl, rfl⟩
  · have hr := cond_f hc10 hr
    refine gk_skip (by kernel_rfl) ?_
    refine ge_seq ?_
    refine gk_seq (by kernel_rfl) ?_
    refine gk_seq (by kernel_rfl) ?_
    refine gk_region (by kernel_rfl) ?_
    refine gl_pure 1 [4, 13] (K' := [(4, .slice A6 y1.1.length c7), (13, .slice A6 y1.1.length c7)]) (by kernel_rfl) ?_
    obtain ⟨y11, hx12, hr⟩ := bind_some hr
    refine gl_callB (r := .int .i64 y11) (Tk.step (Upd.rmC _ _) (Tk.nil _)) (by kernel_rfl) (fun J hJ hC => labels_right_walk (r := y11) (hG.mono (Imm.trans hI5 hJ)) (OwnS.rest hO9 hJ hC.left) hx12 _) ?_
    refine gl_pure 1 [4, 6] (K' := [(4, .slice A6 y1.1.length c7), (6, .int .i64 y11)]) (by kernel_rfl) ?_
    refine gl_atE (by kernel_rfl) ?_
    refine ge_seq ?_
    refine gk_seq (by kernel_rfl) ?_
    refine gk_region (by kernel_rfl) ?_
    refine gl_pure 2 [4, 6, 16] (K' := [(4, .slice A6 y1.1.length c7), (6, .int .i64 y11), (16, .bool (y11 != 0))]) (by kernel_rfl) ?_
    refine gl_atE (by kernel_rfl) ?_
    refine ge_seq ?_
    refine gk_cond (b := (y11 != 0)) (by kernel_rfl) (by kernel_rfl) (fun hc13 => ?_) (fun hc13 => ?_)
    · have hr := cond_t hc13 hr
      refine gk_seq (by kernel_rfl) ?_
      refine gk_region (by kernel_rfl) ?_
      refine gl_pure 3 [2, 3] (K' := [(2, .slice none 0 0), (3, .int .i64 y11)]) (by kernel_rfl) ?_
      refine gl_atE (by kernel_rfl) ?_
      refine ge_seq ?_
      refine gk_reord (D := L) (Reord.skipC (Reord.refl _)) ?_
      refine gk_ret (by kernel_rfl) ?_
      refine ge_seq_ret ?_
      obtain rfl := some_inj hr
      exact ge_result trivial (ResOk.tmp (by kernel_rfl) (ResOk.tmp (by kernel_rfl) ResOk.nil)) hI5 ⟨none, 0, [], OwnS.nil _ _ _ _, rfl, rfl⟩
    · have hr := cond_f hc13 hr
      refine gk_skip (by kernel_rfl) ?_
      refine ge_seq ?_
      refine gk_seq (by kernel_rfl) ?_
      refine gk_region (by kernel_rfl) ?_
      refine gl_pure 3 [2, 3] (K' := [(2, .slice A6 y1.1.length c7), (3, .int .i64 0)]) (by kernel_rfl) ?_
      refine gl_atE (by kernel_rfl) ?_
      refine ge_seq ?_
      refine gk_ret (by kernel_rfl) ?_
      obtain rfl := some_inj hr
      exact ge_result trivial (ResOk.tmp (by kernel_rfl) (ResOk.tmp (by kernel_rfl) ResOk.nil)) hI5 ⟨A6, c7, C8, hO9, rfl, rfl⟩
/-! 78 tocsinref04_twice  -/
noncomputable def tocsinref04_twice_l50 (x20 : S49) (l30 : List S49) : Int → Option ((Int) ⊕ ((Unit) ⊕ ((Int) ⊕ ((Unit) ⊕ (Bool))))) := fun s40 =>
  bif (decide (s40 < (l30.length : Int))) then
  (Option.bind (ix l30 s40) fun (x53 : S49) =>
    bif (x20.f0.toList == x53.f0.toList) then
    (some (Sum.inr (Sum.inr (Sum.inr (Sum.inr true)))))
    else
    (some (Sum.inl (IntKind.wrap .i64 (s40 + 1)))))
  else
  (some (Sum.inr (Sum.inl ())))
noncomputable def tocsinref04_twice_l17 (a0 : List S49) : Int → Option ((Int) ⊕ ((Unit) ⊕ (Bool))) := fun s7 =>
  bif (decide (s7 < (a0.length : Int))) then
  (Option.bind (ix a0 s7) fun (x20 : S49) =>
    Option.bind (lx a0 0 s7) fun (l30 : List S49) =>
    Option.bind (loopO (tocsinref04_twice_l50 x20 l30) 0) fun (r38 : (Unit) ⊕ ((Int) ⊕ ((Unit) ⊕ (Bool)))) =>
    match r38 with
    | Sum.inl r46 => some (Sum.inl (IntKind.wrap .i64 (s7 + 1)))
    | Sum.inr v63 => some v63)
  else
  (some (Sum.inr (Sum.inl ())))
noncomputable def tocsinref04_twice (a0 : List S49) : Option Bool :=
  Option.bind (loopO (tocsinref04_twice_l17 a0) 0) fun (r5 : (Unit) ⊕ (Bool)) =>
  match r5 with
  | Sum.inl r13 => some false
  | Sum.inr v64 => some v64
theorem tocsinref04_twice_walk {a0 : List S49} {A0_0 : Option Addr} {n0_0 : Nat} {I : Imm} {r : Bool}  (hf0_0 : RepS kS49 I A0_0 n0_0 a0) (hr : tocsinref04_twice a0 = some r) (L : Own) :
    CallsTo Tryz.prog 78 #[.slice A0_0 a0.length n0_0] I L (fun v I' L' => v = .bool r ∧ L = L') := by
  unfold tocsinref04_twice at hr
  refine callsTo_body (N := 29) Tryz.func78 (by kernel_rfl) (by kernel_rfl) (by kernel_rfl) ?_
  refine gk_pick [0] (K' := [(0, .slice A0_0 a0.length n0_0)]) (by kernel_rfl) ?_
  refine gk_seq (by kernel_rfl) ?_
  refine gk_region (by kernel_rfl) ?_
  refine gl_pure 1 [0] (K' := [(0, .slice A0_0 a0.length n0_0)]) (by kernel_rfl) ?_
  refine gl_atE (by kernel_rfl) ?_
  refine ge_seq ?_
  refine gk_seq (by kernel_rfl) ?_
  refine gk_seq (by kernel_rfl) ?_
  refine gk_region (by kernel_rfl) ?_
  refine gl_pure 3 [0, 7, 8, 9] (K' := [(0, .slice A0_0 a0.length n0_0), (7, .slice A0_0 a0.length n0_0), (8, .int .i64 (a0.length : Int)), (9, .int .i64 0)]) (by kernel_rfl) ?_
  refine gl_atE (by kernel_rfl) ?_
  refine ge_seq ?_
  obtain ⟨r5, hl6, hr⟩ := bind_some hr
  refine gk_join (fun t I' L' => ∃ r13, r5 = Sum.inl r13 ∧ I ≤ I' ∧ L = L' ∧ Knows 29 [] t) ?_ ?_
  · refine gk_block (by kernel_rfl) ?_
    refine gk_pick [0, 7, 8, 9] (K' := [(0, .slice A0_0 a0.length n0_0), (7, .slice A0_0 a0.length n0_0), (8, .int .i64 (a0.length : Int)), (9, .int .i64 0)]) (by kernel_rfl) ?_
    intro t hK
    refine gc_loop (tocsinref04_twice_l17 a0) (fun s7 t I' L' => I ≤ I' ∧ L = L' ∧ Knows 29 [(0, .slice A0_0 a0.length n0_0), (7, .slice A0_0 a0.length n0_0), (8, .int .i64 (a0.length : Int)), (9, .int .i64 s7)] t) (by kernel_rfl) ?_ hl6 ⟨(Imm.refl _), rfl, hK⟩
    rintro s7 o8 t I12 L' hb9 ⟨hI10, rfl, hK11⟩
    unfold tocsinref04_twice_l17 at hb9
    refine gk_at hK11 ?_
    refine gk_seq (by kernel_rfl) ?_
    refine gk_region (by kernel_rfl) ?_
    refine gl_pure 1 [0, 7, 8, 9, 10] (K' := [(0, .slice A0_0 a0.length n0_0), (7, .slice A0_0 a0.length n0_0), (8, .int .i64 (a0.length : Int)), (9, .int .i64 s7), (10, .bool (decide (s7 < (a0.length : Int))))]) (by kernel_rfl) ?_
    refine gl_atE (by kernel_rfl) ?_
    refine ge_seq ?_
    refine gk_seq (by kernel_rfl) ?_
    refine gk_cond (b := (decide (s7 < (a0.length : Int)))) (by kernel_rfl) (by kernel_rfl) (fun hc19 => ?_) (fun hc19 => ?_)
    · have hb9 := cond_t hc19 hb9
      refine gk_skip (by kernel_rfl) ?_
      refine ge_seq ?_
      refine gk_seq (by kernel_rfl) ?_
      refine gk_block (by kernel_rfl) ?_
      refine gk_seq (by kernel_rfl) ?_
      refine gk_region (by kernel_rfl) ?_
      refine gl_pure 1 [0, 7, 8, 9, 11] (K' := [(0, .slice A0_0 a0.length n0_0), (7, .slice A0_0 a0.length n0_0), (8, .int .i64 (a0.length : Int)), (9, .int .i64 s7), (11, .int .i64 s7)]) (by kernel_rfl) ?_
      obtain ⟨x20, hx21, hb9⟩ := bind_some hb9
      obtain ⟨p22, cs23, hR24, hA25, ha26⟩ := RepS.ixAt hx21 (hf0_0.mono hI10)
      have hi27 := ix_some hx21
      obtain rfl := kS49_open hR24
      refine gl_indexAddrF (c := n0_0) (T' := 22) (e := 50) (xs := (.tmp 7)) (xi := (.tmp 9)) (kd := .i64) ha26 hi27.1 hi27.2.1 (by kernel_rfl) (by kernel_rfl) (by kernel_rfl) (by kernel_rfl) (by kernel_rfl) ?_
      refine gl_loadA (T' := 50) (xp := (.tmp 12)) (p := p22) (cs := [.string x20.f0, .string x20.f1]) (by kernel_rfl) (by kernel_rfl) (by kernel_rfl) (by kernel_rfl) (hA25.take 2) ?_
      refine gl_alloc (T' := 50) (cs := #[.string (⟨#[]⟩ : ByteArray), .string (⟨#[]⟩ : ByteArray)]) (by kernel_rfl) (by kernel_rfl) (by kernel_rfl) (fun g28 => ?_)
      refine gl_pure 1 [0, 3, 4, 7, 8, 9, 13] (K' := [(0, .slice A0_0 a0.length n0_0), (3, .int .i64 s7), (4, .pointer (some ⟨g28, 0, none⟩)), (7, .slice A0_0 a0.length n0_0), (8, .int .i64 (a0.length : Int)), (9, .int .i64 s7), (13, .agg #[.string x20.f0, .string x20.f1])]) (by kernel_rfl) ?_
      refine gl_storeB (T' := 50) (xp := (.tmp 4)) (xv := (.tmp 13)) (v := .agg #[.string x20.f0, .string x20.f1]) (g := g28) (off := 0) (cs := #[.string (⟨#[]⟩ : ByteArray), .string (⟨#[]⟩ : ByteArray)]) (cs' := #[.string x20.f0, .string x20.f1]) (by kernel_rfl) (by kernel_rfl) (by kernel_rfl) (by kernel_rfl) (by kernel_rfl) (Upd.set _ _ _ _) ?_ (by kernel_rfl)
      refine gl_atE (by kernel_rfl) ?_
      refine ge_seq ?_
      refine gk_seq (by kernel_rfl) ?_
      refine gk_region (by kernel_rfl) ?_
      refine gl_pure 2 [0, 4, 7, 8, 9, 14, 15] (K' := [(0, .slice A0_0 a0.length n0_0), (4, .pointer (some ⟨g28, 0, none⟩)), (7, .slice A0_0 a0.length n0_0), (8, .int .i64 (a0.length : Int)), (9, .int .i64 s7), (14, .slice A0_0 a0.length n0_0), (15, .int .i64 s7)]) (by kernel_rfl) ?_
      obtain ⟨l30, hx29, hb9⟩ := bind_some hb9
      refine gl_sliceR (d := kS49) (T' := 22) (e := 50) (xs := (.tmp 14)) (lo := none) (hi := (some (.tmp 15))) hx29 (hf0_0.mono hI10) (by kernel_rfl) (by kernel_rfl) (by kernel_rfl) (by kernel_rfl) (by kernel_rfl) (by kernel_rfl) (fun A31 n32 hf33 => ?_)
      refine gl_pure 2 [0, 4, 7, 8, 9, 16, 17, 18] (K' := [(0, .slice A0_0 a0.length n0_0), (4, .pointer (some ⟨g28, 0, none⟩)), (7, .slice A0_0 a0.length n0_0), (8, .int .i64 (a0.length : Int)), (9, .int .i64 s7), (16, .slice A31 l30.length n32), (17, .int .i64 (l30.length : Int)), (18, .int .i64 0)]) (by kernel_rfl) ?_
      refine gl_atE (by kernel_rfl) ?_
      refine ge_seq ?_
      obtain ⟨r38, hl39, hb9⟩ := bind_some hb9
      refine gk_join (fun t I' L' => ∃ r46, r38 = Sum.inl r46 ∧ I12 ≤ I' ∧ L = L' ∧ Knows 29 [(0, .slice A0_0 a0.length n0_0), (7, .slice A0_0 a0.length n0_0), (8, .int .i64 (a0.length : Int)), (9, .int .i64 s7)] t) ?_ ?_
      · refine gk_block (by kernel_rfl) ?_
        refine gk_pick [0, 4, 7, 8, 9, 16, 17, 18] (K' := [(0, .slice A0_0 a0.length n0_0), (4, .pointer (some ⟨g28, 0, none⟩)), (7, .slice A0_0 a0.length n0_0), (8, .int .i64 (a0.length : Int)), (9, .int .i64 s7), (16, .slice A31 l30.length n32), (17, .int .i64 (l30.length : Int)), (18, .int .i64 0)]) (by kernel_rfl) ?_
        intro t hK
        refine gc_loop (tocsinref04_twice_l50 x20 l30) (fun s40 t I' L' => I12 ≤ I' ∧ (g28, .cells #[.string x20.f0, .string x20.f1] 50) :: L = L' ∧ Knows 29 [(0, .slice A0_0 a0.length n0_0), (4, .pointer (some ⟨g28, 0, none⟩)), (7, .slice A0_0 a0.length n0_0), (8, .int .i64 (a0.length : Int)), (9, .int .i64 s7), (16, .slice A31 l30.length n32), (17, .int .i64 (l30.length : Int)), (18, .int .i64 s40)] t) (by kernel_rfl) ?_ hl39 ⟨(Imm.refl _), rfl, hK⟩
        rintro s40 o41 t I45 L' hb42 ⟨hI43, rfl, hK44⟩
        unfold tocsinref04_twice_l50 at hb42
        refine gk_at hK44 ?_
        refine gk_seq (by kernel_rfl) ?_
        refine gk_region (by kernel_rfl) ?_
        refine gl_pure 1 [0, 4, 7, 8, 9, 16, 17, 18, 19] (K' := [(0, .slice A0_0 a0.length n0_0), (4, .pointer (some ⟨g28, 0, none⟩)), (7, .slice A0_0 a0.length n0_0), (8, .int .i64 (a0.length : Int)), (9, .int .i64 s7), (16, .slice A31 l30.length n32), (17, .int .i64 (l30.length : Int)), (18, .int .i64 s40), (19, .bool (decide (s40 < (l30.length : Int))))]) (by kernel_rfl) ?_
        refine gl_atE (by kernel_rfl) ?_
        refine ge_seq ?_
        refine gk_seq (by kernel_rfl) ?_
        refine gk_cond (b := (decide (s40 < (l30.length : Int)))) (by kernel_rfl) (by kernel_rfl) (fun hc52 => ?_) (fun hc52 => ?_)
        · have hb42 := cond_t hc52 hb42
          refine gk_skip (by kernel_rfl) ?_
          refine ge_seq ?_
          refine gk_seq (by kernel_rfl) ?_
          refine gk_block (by kernel_rfl) ?_
          refine gk_seq (by kernel_rfl) ?_
          refine gk_region (by kernel_rfl) ?_
          obtain ⟨x53, hx54, hb42⟩ := bind_some hb42
          obtain ⟨p55, cs56, hR57, hA58, ha59⟩ := RepS.ixAt hx54 (hf33.mono hI43)
          have hi60 := ix_some hx54
          obtain rfl := kS49_open hR57
          refine gl_indexAddrF (c := n32) (T' := 22) (e := 50) (xs := (.tmp 16)) (xi := (.tmp 18)) (kd := .i64) ha59 hi60.1 hi60.2.1 (by kernel_rfl) (by kernel_rfl) (by kernel_rfl) (by kernel_rfl) (by kernel_rfl) ?_
          refine gl_loadA (T' := 50) (xp := (.tmp 20)) (p := p55) (cs := [.string x53.f0, .string x53.f1]) (by kernel_rfl) (by kernel_rfl) (by kernel_rfl) (by kernel_rfl) (hA58.take 2) ?_
          refine gl_alloc (T' := 50) (cs := #[.string (⟨#[]⟩ : ByteArray), .string (⟨#[]⟩ : ByteArray)]) (by kernel_rfl) (by kernel_rfl) (by kernel_rfl) (fun g61 => ?_)
          refine gl_storeB (T' := 50) (xp := (.tmp 6)) (xv := (.tmp 21)) (v := .agg #[.string x53.f0, .string x53.f1]) (g := g61) (off := 0) (cs := #[.string (⟨#[]⟩ : ByteArray), .string (⟨#[]⟩ : ByteArray)]) (cs' := #[.string x53.f0, .string x53.f1]) (by kernel_rfl) (by kernel_rfl) (by kernel_rfl) (by kernel_rfl) (by kernel_rfl) (Upd.set _ _ _ _) ?_ (by kernel_rfl)
          refine gl_atE (by kernel_rfl) ?_
          refine ge_seq ?_
          refine gk_seq (by kernel_rfl) ?_
          refine gk_region (by kernel_rfl) ?_
          refine gl_pure 1 [0, 4, 6, 7, 8, 9, 16, 17, 18, 22] (K' := [(0, .slice A0_0 a0.length n0_0), (4, .pointer (some ⟨g28, 0, none⟩)), (6, .pointer (some ⟨g61, 0, none⟩)), (7, .slice A0_0 a0.length n0_0), (8, .int .i64 (a0.length : Int)), (9, .int .i64 s7), (16, .slice A31 l30.length n32), (17, .int .i64 (l30.length : Int)), (18, .int .i64 s40), (22, .pointer (some ⟨g28, 0, none⟩))]) (by kernel_rfl) ?_
          refine gl_loadB (T' := 9) (xp := (.tmp 22)) (v := .string x20.f0) (g := g28) (off := 0) (cs := #[.string x20.f0, .string x20.f1]) (e := 50) (fz := (0, 0)) (by kernel_rfl) (by kernel_rfl) (by kernel_rfl) (List.mem_cons_of_mem _ List.mem_cons_self) (by kernel_rfl) ?_
          refine gl_pure 1 [0, 4, 7, 8, 9, 16, 17, 18, 23, 24] (K' := [(0, .slice A0_0 a0.length n0_0), (4, .pointer (some ⟨g28, 0, none⟩)), (7, .slice A0_0 a0.length n0_0), (8, .int .i64 (a0.length : Int)), (9, .int .i64 s7), (16, .slice A31 l30.length n32), (17, .int .i64 (l30.length : Int)), (18, .int .i64 s40), (23, .string x20.f0), (24, .pointer (some ⟨g61, 0, none⟩))]) (by kernel_rfl) ?_
          refine gl_loadB (T' := 9) (xp := (.tmp 24)) (v := .string x53.f0) (g := g61) (off := 0) (cs := #[.string x53.f0, .string x53.f1]) (e := 50) (fz := (0, 0)) (by kernel_rfl) (by kernel_rfl) (by kernel_rfl) List.mem_cons_self (by kernel_rfl) ?_
          refine gl_pure 1 [0, 4, 7, 8, 9, 16, 17, 18, 26] (K' := [(0, .slice A0_0 a0.length n0_0), (4, .pointer (some ⟨g28, 0, none⟩)), (7, .slice A0_0 a0.length n0_0), (8, .int .i64 (a0.length : Int)), (9, .int .i64 s7), (16, .slice A31 l30.length n32), (17, .int .i64 (l30.length : Int)), (18, .int .i64 s40), (26, .bool (x20.f0.toList == x53.f0.toList))]) (by kernel_rfl) ?_
          refine gl_atE (by kernel_rfl) ?_
          refine ge_seq ?_
          refine gk_cond (b := (x20.f0.toList == x53.f0.toList)) (by kernel_rfl) (by kernel_rfl) (fun hc62 => ?_) (fun hc62 => ?_)
          · have hb42 := cond_t hc62 hb42
            refine gk_seq (by kernel_rfl) ?_
            refine gk_region (by kernel_rfl) ?_
            refine gl_pure 1 [2] (K' := [(2, .bool true)]) (by kernel_rfl) ?_
            refine gl_atE (by kernel_rfl) ?_
            refine ge_seq ?_
            refine gk_reord (D := L) (Reord.skip (Reord.skip (Reord.refl _))) ?_
            refine gk_ret (by kernel_rfl) ?_
            refine ge_block_ret ?_
            refine ge_seq_ret ?_
            obtain rfl := some_inj hb42
            refine ge_round_out (fun hrr => ?_) (by intro h; cases h)
            obtain rfl := hrr
            refine ge_block_ret ?_
            refine ge_seq_ret ?_
            refine ge_block_ret ?_
            refine ge_seq_ret ?_
            obtain rfl := some_inj hb9
            refine ge_round_out (fun hrr => ?_) (by intro h; cases h)
            obtain rfl := hrr
            refine ge_block_ret ?_
            refine ge_seq_ret ?_
            refine ge_seq_ret ?_
            obtain rfl := some_inj hr
            exact ge_result trivial (ResOk.tmp (by kernel_rfl) ResOk.nil) (Imm.trans hI10 hI43) ⟨rfl, rfl⟩
          · have hb42 := cond_f hc62 hb42
            refine gk_skip (by kernel_rfl) ?_
            refine ge_block_normal ?_
            refine ge_seq ?_
            refine gk_region (by kernel_rfl) ?_
            refine gl_pure 2 [0, 4, 7, 8, 9, 16, 17, 18] (K' := [(0, .slice A0_0 a0.length n0_0), (4, .pointer (some ⟨g28, 0, none⟩)), (7, .slice A0_0 a0.length n0_0), (8, .int .i64 (a0.length : Int)), (9, .int .i64 s7), (16, .slice A31 l30.length n32), (17, .int .i64 (l30.length : Int)), (18, .int .i64 (IntKind.wrap .i64 (s40 + 1)))]) (by kernel_rfl) ?_
            refine gl_reord (D := (g28, .cells #[.string x20.f0, .string x20.f1] 50) :: L) (Reord.step1 (Upd.one _ (Upd.rm1 _ _)) (Reord.skip (Reord.refl _))) ?_
            refine gl_atE (by kernel_rfl) ?_
            obtain rfl := some_inj hb42
            exact ge_round fun t ht => ⟨hI43, rfl, ht.pick (l := [0, 4, 7, 8, 9, 16, 17, 18]) (by kernel_rfl)⟩
        · have hb42 := cond_f hc52 hb42
          refine gk_reord (D := L) (Reord.skip (Reord.refl _)) ?_
          refine gk_exit (by kernel_rfl) ?_
          refine ge_seq_exit ?_
          obtain rfl := some_inj hb42
          refine ge_round_out (fun hrr => ?_) (by intro h; cases h)
          obtain rfl := hrr
          refine ge_block_hit (by kernel_rfl) ?_
          exact ge_mid fun t ht => ⟨_, rfl, hI43, rfl, ht.pick (l := [0, 7, 8, 9]) (by kernel_rfl)⟩
      · rintro t I49 L' ⟨r46, rfl, hI47, rfl, hK48⟩
        refine ge_at hK48 ?_
        refine ge_block_normal ?_
        refine ge_seq ?_
        refine gk_region (by kernel_rfl) ?_
        refine gl_pure 2 [0, 7, 8, 9] (K' := [(0, .slice A0_0 a0.length n0_0), (7, .slice A0_0 a0.length n0_0), (8, .int .i64 (a0.length : Int)), (9, .int .i64 (IntKind.wrap .i64 (s7 + 1)))]) (by kernel_rfl) ?_
        refine gl_atE (by kernel_rfl) ?_
        obtain rfl := some_inj hb9
        exact ge_round fun t ht => ⟨(Imm.trans hI10 hI47), rfl, ht.pick (l := [0, 7, 8, 9]) (by kernel_rfl)⟩
    · have hb9 := cond_f hc19 hb9
      refine gk_exit (by kernel_rfl) ?_
      refine ge_seq_exit ?_
      obtain rfl := some_inj hb9
      refine ge_round_out (fun hrr => ?_) (by intro h; cases h)
      obtain rfl := hrr
      refine ge_block_hit (by kernel_rfl) ?_
      exact ge_mid fun t ht => ⟨_, rfl, hI10, rfl, ht.pick (l := []) (by kernel_rfl)⟩
  · rintro t I16 L' ⟨r13, rfl, hI14, rfl, hK15⟩
    refine ge_at hK15 ?_
    refine ge_seq ?_
    refine gk_seq (by kernel_rfl) ?_
    refine gk_region (by kernel_rfl) ?_
    refine gl_pure 1 [2] (K' := [(2, .bool false)]) (by kernel_rfl) ?_
    refine gl_atE (by kernel_rfl) ?_
    refine ge_seq ?_
    refine gk_ret (by kernel_rfl) ?_
    obtain rfl := some_inj hr
    exact ge_result trivial (ResOk.tmp (by kernel_rfl) ResOk.nil) hI14 ⟨rfl, rfl⟩
/-! 80 tocsinref04_full  -/
noncomputable def tocsinref04_full_l28 (a0 : List S49) : ((List S49) × Int) → Option (((List S49) × Int) ⊕ ((List S49))) := fun s11 =>
  bif (decide (s11.2 < (a0.length : Int))) then
  (Option.bind (ix a0 s11.2) fun (x31 : S49) =>
    Option.bind (bif (!(x31.f1.toList == (⟨#[]⟩ : ByteArray).toList)) then
      (Option.bind (app s11.1 [x31]) fun (zs54 : List S49) =>
        some zs54)
      else
      (some s11.1)) fun (j40 : (List S49)) =>
    some (Sum.inl (j40, (IntKind.wrap .i64 (s11.2 + 1)))))
  else
  (some (Sum.inr s11.1))
noncomputable def tocsinref04_full (a0 : List S49) : Option (List S49) :=
  Option.bind (loopO (tocsinref04_full_l28 a0) ([], 0)) fun (r9 : (List S49)) =>
  some r9
theorem tocsinref04_full_walk {a0 : List S49} {A0_0 : Option Addr} {n0_0 : Nat} {I : Imm} {r : (List S49)}  (hf0_0 : RepS kS49 I A0_0 n0_0 a0) (hr : tocsinref04_full a0 = some r) (L : Own) :
    CallsTo Tryz.prog 80 #[.slice A0_0 a0.length n0_0] I L (fun v I' L' => ∃ A0 c0 C0, OwnS kS49 50 I' A0 c0 r C0 ∧ v = .slice A0 r.length c0 ∧ C0 ++ L = L') := by
  unfold tocsinref04_full at hr
  refine callsTo_body (N := 21) Tryz.func80 (by kernel_rfl) (by kernel_rfl) (by kernel_rfl) ?_
  refine gk_pick [0] (K' := [(0, .slice A0_0 a0.length n0_0)]) (by kernel_rfl) ?_
  refine gk_seq (by kernel_rfl) ?_
  refine gk_region (by kernel_rfl) ?_
  refine gl_pure 1 [0] (K' := [(0, .slice A0_0 a0.length n0_0)]) (by kernel_rfl) ?_
  refine gl_atE (by kernel_rfl) ?_
  refine ge_seq ?_
  refine gk_seq (by kernel_rfl) ?_
  refine gk_region (by kernel_rfl) ?_
  refine gl_pure 1 [0, 3] (K' := [(0, .slice A0_0 a0.length n0_0), (3, .slice none 0 0)]) (by kernel_rfl) ?_
  refine gl_atE (by kernel_rfl) ?_
  refine ge_seq ?_
  refine gk_seq (by kernel_rfl) ?_
  refine gk_seq (by kernel_rfl) ?_
  refine gk_region (by kernel_rfl) ?_
  refine gl_pure 3 [3, 6, 7, 8] (K' := [(3, .slice none 0 0), (6, .slice A0_0 a0.length n0_0), (7, .int .i64 (a0.length : Int)), (8, .int .i64 0)]) (by kernel_rfl) ?_
  refine gl_atE (by kernel_rfl) ?_
  refine ge_seq ?_
  obtain ⟨r9, hl10, hr⟩ := bind_some hr
  refine gk_join (fun t I' L' => ∃ A22 n23 C24, OwnS kS49 50 I' A22 n23 r9 C24 ∧ I ≤ I' ∧ C24 ++ L = L' ∧ Knows 21 [(3, .slice A22 r9.length n23)] t) ?_ ?_
  · refine gk_block (by kernel_rfl) ?_
    refine gk_pick [3, 6, 7, 8] (K' := [(3, .slice none 0 0), (6, .slice A0_0 a0.length n0_0), (7, .int .i64 (a0.length : Int)), (8, .int .i64 0)]) (by kernel_rfl) ?_
    intro t hK
    refine gc_loop (tocsinref04_full_l28 a0) (fun s11 t I' L' => ∃ A15 n16 C17, OwnS kS49 50 I' A15 n16 s11.1 C17 ∧ I ≤ I' ∧ C17 ++ L = L' ∧ Knows 21 [(3, .slice A15 s11.1.length n16), (6, .slice A0_0 a0.length n0_0), (7, .int .i64 (a0.length : Int)), (8, .int .i64 s11.2)] t) (by kernel_rfl) ?_ hl10 ⟨none, 0, [], OwnS.nil _ _ _ _, (Imm.refl _), rfl, hK⟩
    rintro s11 o12 t I20 L' hb13 ⟨A15, n16, C17, hO18, hI14, rfl, hK19⟩
    unfold tocsinref04_full_l28 at hb13
    refine gk_at hK19 ?_
    refine gk_seq (by kernel_rfl) ?_
    refine gk_region (by kernel_rfl) ?_
    refine gl_pure 1 [3, 6, 7, 8, 9] (K' := [(3, .slice A15 s11.1.length n16), (6, .slice A0_0 a0.length n0_0), (7, .int .i64 (a0.length : Int)), (8, .int .i64 s11.2), (9, .bool (decide (s11.2 < (a0.length : Int))))]) (by kernel_rfl) ?_
    refine gl_atE (by kernel_rfl) ?_
    refine ge_seq ?_
    refine gk_seq (by kernel_rfl) ?_
    refine gk_cond (b := (decide (s11.2 < (a0.length : Int)))) (by kernel_rfl) (by kernel_rfl) (fun hc30 => ?_) (fun hc30 => ?_)
    · have hb13 := cond_t hc30 hb13
      refine gk_skip (by kernel_rfl) ?_
      refine ge_seq ?_
      refine gk_seq (by kernel_rfl) ?_
      refine gk_block (by kernel_rfl) ?_
      refine gk_seq (by kernel_rfl) ?_
      refine gk_region (by kernel_rfl) ?_
      obtain ⟨x31, hx32, hb13⟩ := bind_some hb13
      obtain ⟨p33, cs34, hR35, hA36, ha37⟩ := RepS.ixAt hx32 (hf0_0.mono hI14)
      have hi38 := ix_some hx32
      obtain rfl := kS49_open hR35
      refine gl_indexAddrF (c := n0_0) (T' := 22) (e := 50) (xs := (.tmp 6)) (xi := (.tmp 8)) (kd := .i64) ha37 hi38.1 hi38.2.1 (by kernel_rfl) (by kernel_rfl) (by kernel_rfl) (by kernel_rfl) (by kernel_rfl) ?_
      refine gl_loadA (T' := 50) (xp := (.tmp 10)) (p := p33) (cs := [.string x31.f0, .string x31.f1]) (by kernel_rfl) (by kernel_rfl) (by kernel_rfl) (by kernel_rfl) (hA36.take 2) ?_
      refine gl_alloc (T' := 50) (cs := #[.string (⟨#[]⟩ : ByteArray), .string (⟨#[]⟩ : ByteArray)]) (by kernel_rfl) (by kernel_rfl) (by kernel_rfl) (fun g39 => ?_)
      refine gl_storeB (T' := 50) (xp := (.tmp 5)) (xv := (.tmp 11)) (v := .agg #[.string x31.f0, .string x31.f1]) (g := g39) (off := 0) (cs := #[.string (⟨#[]⟩ : ByteArray), .string (⟨#[]⟩ : ByteArray)]) (cs' := #[.string x31.f0, .string x31.f1]) (by kernel_rfl) (by kernel_rfl) (by kernel_rfl) (by kernel_rfl) (by kernel_rfl) (Upd.set _ _ _ _) ?_ (by kernel_rfl)
      refine gl_atE (by kernel_rfl) ?_
      refine ge_seq ?_
      refine gk_seq (by kernel_rfl) ?_
      refine gk_region (by kernel_rfl) ?_
      refine gl_pure 1 [3, 5, 6, 7, 8, 12] (K' := [(3, .slice A15 s11.1.length n16), (5, .pointer (some ⟨g39, 0, none⟩)), (6, .slice A0_0 a0.length n0_0), (7, .int .i64 (a0.length : Int)), (8, .int .i64 s11.2), (12, .pointer (some ⟨g39, 1, none⟩))]) (by kernel_rfl) ?_
      refine gl_loadB (T' := 9) (xp := (.tmp 12)) (v := .string x31.f1) (g := g39) (off := 1) (cs := #[.string x31.f0, .string x31.f1]) (e := 50) (fz := (0, 0)) (by kernel_rfl) (by kernel_rfl) (by kernel_rfl) List.mem_cons_self (by kernel_rfl) ?_
      refine gl_pure 1 [3, 5, 6, 7, 8, 14] (K' := [(3, .slice A15 s11.1.length n16), (5, .pointer (some ⟨g39, 0, none⟩)), (6, .slice A0_0 a0.length n0_0), (7, .int .i64 (a0.length : Int)), (8, .int .i64 s11.2), (14, .bool (!(x31.f1.toList == (⟨#[]⟩ : ByteArray).toList)))]) (by kernel_rfl) ?_
      refine gl_atE (by kernel_rfl) ?_
      refine ge_seq ?_
      obtain ⟨j40, hj41, hb13⟩ := bind_some hb13
      refine gk_join (fun t I' L' => ∃ A43 n44 C45, OwnS kS49 50 I' A43 n44 j40 C45 ∧ I20 ≤ I' ∧ C45 ++ L = L' ∧ Knows 21 [(3, .slice A43 j40.length n44), (6, .slice A0_0 a0.length n0_0), (7, .int .i64 (a0.length : Int)), (8, .int .i64 s11.2)] t) ?_ ?_
      · refine gk_cond (b := (!(x31.f1.toList == (⟨#[]⟩ : ByteArray).toList))) (by kernel_rfl) (by kernel_rfl) (fun hc49 => ?_) (fun hc49 => ?_)
        · have hj41 := cond_t hc49 hj41
          refine gk_region (by kernel_rfl) ?_
          refine gl_pure 1 [5, 6, 7, 8, 15] (K' := [(5, .pointer (some ⟨g39, 0, none⟩)), (6, .slice A0_0 a0.length n0_0), (7, .int .i64 (a0.length : Int)), (8, .int .i64 s11.2), (15, .slice A15 s11.1.length n16)]) (by kernel_rfl) ?_
          refine gl_loadB (T' := 50) (xp := (.tmp 5)) (v := .agg #[.string x31.f0, .string x31.f1]) (g := g39) (off := 0) (cs := #[.string x31.f0, .string x31.f1]) (e := 50) (fz := (0, 0)) (by kernel_rfl) (by kernel_rfl) (by kernel_rfl) List.mem_cons_self (by kernel_rfl) ?_
          refine gl_buildSlice (T' := 22) (e := 50) (n := 2) (len := 1) (parts := #[(0, (.tmp 16))]) (l := [(0, .agg #[.string x31.f0, .string x31.f1])]) (cs := #[.string x31.f0, .string x31.f1]) (by kernel_rfl) (by kernel_rfl) (by kernel_rfl) (by kernel_rfl) (by kernel_rfl) (fun g50 => ?_)
          have hO51 : OwnS kS49 50 I20 (some ⟨g50, 0, none⟩) 1 [x31] [(g50, .cells #[.string x31.f0, .string x31.f1] 50)] := OwnS.lit (row_cons (l := [.string x31.f0, .string x31.f1]) (kS49_mk (x := x31) ) (row_nil _ _)) rfl rfl rfl
          refine gl_reord (D := [(g50, .cells #[.string x31.f0, .string x31.f1] 50)] ++ ((g39, .cells #[.string x31.f0, .string x31.f1] 50) :: (C17 ++ L))) (Reord.refl _) ?_
          obtain ⟨zs54, hz55, hj41⟩ := bind_some hj41
          refine gl_append (xv := .slice (some ⟨g50, 0, none⟩) [x31].length 1) (d := kS49) (t := 22) (tx := 22) (e := 50) (s := (.tmp 15)) (x := (.tmp 17)) (xs := s11.1) (fun X => [(g50, .cells #[.string x31.f0, .string x31.f1] 50)] ++ ((g39, .cells #[.string x31.f0, .string x31.f1] 50) :: (X ++ L))) hz55 (by kernel_rfl) (by kernel_rfl) (by kernel_rfl) (by kernel_rfl) (by kernel_rfl) (by kernel_rfl) (fun X => (Upd.app _ (Upd.one _ (Upd.head _ X _)))) hO18 (SrcOk.slice (c := 1) (e := 50) (n := 2) (OwnS.rd hO51 (Upd.selfC _ _)) (by kernel_rfl)) (fun A56 n57 C58 hO59 => ?_)
          refine gl_pure 1 [3, 6, 7, 8] (K' := [(3, .slice A56 zs54.length n57), (6, .slice A0_0 a0.length n0_0), (7, .int .i64 (a0.length : Int)), (8, .int .i64 s11.2)]) (by kernel_rfl) ?_
          refine gl_reord (D := C58 ++ L) (Reord.step (Upd.app _ (Upd.one _ (Upd.rmC _ _))) (Reord.skipC (Reord.skip (Reord.refl _)))) ?_
          refine gl_atE (by kernel_rfl) ?_
          obtain rfl := some_inj hj41
          exact ge_mid fun t ht => ⟨A56, n57, C58, hO59, (Imm.refl _), rfl, ht.pick (l := [3, 6, 7, 8]) (by kernel_rfl)⟩
        · have hj41 := cond_f hc49 hj41
          refine gk_reord (D := C17 ++ L) (Reord.step (Upd.one _ (Upd.rmC _ _)) (Reord.skip (Reord.refl _))) ?_
          refine gk_skip (by kernel_rfl) ?_
          obtain rfl := some_inj hj41
          exact ge_mid fun t ht => ⟨A15, n16, C17, hO18, (Imm.refl _), rfl, ht.pick (l := [3, 6, 7, 8]) (by kernel_rfl)⟩
      · rintro t I48 L' ⟨A43, n44, C45, hO46, hI42, rfl, hK47⟩
        refine ge_at hK47 ?_
        refine ge_block_normal ?_
        refine ge_seq ?_
        refine gk_region (by kernel_rfl) ?_
        refine gl_pure 2 [3, 6, 7, 8] (K' := [(3, .slice A43 j40.length n44), (6, .slice A0_0 a0.length n0_0), (7, .int .i64 (a0.length : Int)), (8, .int .i64 (IntKind.wrap .i64 (s11.2 + 1)))]) (by kernel_rfl) ?_
        refine gl_atE (by kernel_rfl) ?_
        obtain rfl := some_inj hb13
        exact ge_round fun t ht => ⟨A43, n44, C45, hO46, (Imm.trans hI14 hI42), rfl, ht.pick (l := [3, 6, 7, 8]) (by kernel_rfl)⟩
    · have hb13 := cond_f hc30 hb13
      refine gk_exit (by kernel_rfl) ?_
      refine ge_seq_exit ?_
      obtain rfl := some_inj hb13
      refine ge_round_out (fun hrr => ?_) (by intro h; cases h)
      obtain rfl := hrr
      refine ge_block_hit (by kernel_rfl) ?_
      exact ge_mid fun t ht => ⟨A15, n16, C17, hO18, hI14, rfl, ht.pick (l := [3]) (by kernel_rfl)⟩
  · rintro t I27 L' ⟨A22, n23, C24, hO25, hI21, rfl, hK26⟩
    refine ge_at hK26 ?_
    refine ge_seq ?_
    refine gk_seq (by kernel_rfl) ?_
    refine gk_region (by kernel_rfl) ?_
    refine gl_pure 2 [2] (K' := [(2, .slice A22 r9.length n23)]) (by kernel_rfl) ?_
    refine gl_atE (by kernel_rfl) ?_
    refine ge_seq ?_
    refine gk_ret (by kernel_rfl) ?_
    obtain rfl := some_inj hr
    exact ge_result trivial (ResOk.tmp (by kernel_rfl) ResOk.nil) hI21 ⟨A22, n23, C24, hO25, rfl, rfl⟩
/-! 79 tocsinref04_sorted  -/
noncomputable def tocsinref04_sorted_l74 (x31 : S49) : ((List S49) × Int) → Option (((List S49) × Int) ⊕ ((List S49) × Int)) := fun s59 =>
  Option.bind (bif (decide (s59.2 > 0)) then
    (Option.bind (ix s59.1 (IntKind.wrap .i64 (s59.2 - 1))) fun (x82 : S49) =>
      some (!((Op.bytesLess x82.f0.toList x31.f0.toList) || (x82.f0.toList == x31.f0.toList))))
    else
    (some false)) fun (j76 : Bool) =>
  bif j76 then
  (Option.bind (ix s59.1 (IntKind.wrap .i64 (s59.2 - 1))) fun (x92 : S49) =>
    Option.bind (ix s59.1 s59.2) fun (x101 : S49) =>
    some (Sum.inl ((lset s59.1 s59.2 x92), (IntKind.wrap .i64 (s59.2 - 1)))))
  else
  (some (Sum.inr (s59.1, s59.2)))
noncomputable def tocsinref04_sorted_l28 (a0 : List S49) : ((List S49) × Int) → Option (((List S49) × Int) ⊕ ((List S49))) := fun s11 =>
  bif (decide (s11.2 < (a0.length : Int))) then
  (Option.bind (ix a0 s11.2) fun (x31 : S49) =>
    Option.bind (app s11.1 [x31]) fun (zs44 : List S49) =>
    Option.bind (loopO (tocsinref04_sorted_l74 x31) (zs44, (s11.1.length : Int))) fun (r57 : (List S49) × Int) =>
    Option.bind (ix r57.1 r57.2) fun (x113 : S49) =>
    some (Sum.inl ((lset r57.1 r57.2 x31), (IntKind.wrap .i64 (s11.2 + 1)))))
  else
  (some (Sum.inr s11.1))
noncomputable def tocsinref04_sorted (a0 : List S49) : Option (List S49) :=
  Option.bind (loopO (tocsinref04_sorted_l28 a0) ([], 0)) fun (r9 : (List S49)) =>
  some r9
theorem tocsinref04_sorted_walk {a0 : List S49} {A0_0 : Option Addr} {n0_0 : Nat} {I : Imm} {r : (List S49)}  (hf0_0 : RepS kS49 I A0_0 n0_0 a0) (hr : tocsinref04_sorted a0 = some r) (L : Own) :
    CallsTo Tryz.prog 79 #[.slice A0_0 a0.length n0_0] I L (fun v I' L' => ∃ A0 c0 C0, OwnS kS49 50 I' A0 c0 r C0 ∧ v = .slice A0 r.length c0 ∧ C0 ++ L = L') := by
  unfold tocsinref04_sorted at hr
  refine callsTo_body (N := 48) Tryz.func79 (by kernel_rfl) (by kernel_rfl) (by kernel_rfl) ?_
  refine gk_pick [0] (K' := [(0, .slice A0_0 a0.length n0_0)]) (by kernel_rfl) ?_
  refine gk_seq (by kernel_rfl) ?_
  refine gk_region (by kernel_rfl) ?_
  refine gl_pure 1 [0] (K' := [(0, .slice A0_0 a0.length n0_0)]) (by kernel_rfl) ?_
  refine gl_atE (by kernel_rfl) ?_
  refine ge_seq ?_
  refine gk_seq (by kernel_rfl) ?_
  refine gk_region (by kernel_rfl) ?_
  refine gl_pure 1 [0, 3] (K' := [(0, .slice A0_0 a0.length n0_0), (3, .slice none 0 0)]) (by kernel_rfl) ?_
  refine gl_atE (by kernel_rfl) ?_
  refine ge_seq ?_
  refine gk_seq (by kernel_rfl) ?_
  refine gk_seq (by kernel_rfl) ?_
  refine gk_region (by kernel_rfl) ?_
  refine gl_pure 3 [3, 7, 8, 9] (K' := [(3, .slice none 0 0), (7, .slice A0_0 a0.length n0_0), (8, .int .i64 (a0.length : Int)), (9, .int .i64 0)]) (by kernel_rfl) ?_
  refine gl_atE (by kernel_rfl) ?_
  refine ge_seq ?_
  obtain ⟨r9, hl10, hr⟩ := bind_some hr
  refine gk_join (fun t I' L' => ∃ A22 n23 C24, OwnS kS49 50 I' A22 n23 r9 C24 ∧ I ≤ I' ∧ C24 ++ L = L' ∧ Knows 48 [(3, .slice A22 r9.length n23)] t) ?_ ?_
  · refine gk_block (by kernel_rfl) ?_
    refine gk_pick [3, 7, 8, 9] (K' := [(3, .slice none 0 0), (7, .slice A0_0 a0.length n0_0), (8, .int .i64 (a0.length : Int)), (9, .int .i64 0)]) (by kernel_rfl) ?_
    intro t hK
    refine gc_loop (tocsinref04_sorted_l28 a0) (fun s11 t I' L' => ∃ A15 n16 C17, OwnS kS49 50 I' A15 n16 s11.1 C17 ∧ I ≤ I' ∧ C17 ++ L = L' ∧ Knows 48 [(3, .slice A15 s11.1.length n16), (7, .slice A0_0 a0.length n0_0), (8, .int .i64 (a0.length : Int)), (9, .int .i64 s11.2)] t) (by kernel_rfl) ?_ hl10 ⟨none, 0, [], OwnS.nil _ _ _ _, (Imm.refl _), rfl, hK⟩
    rintro s11 o12 t I20 L' hb13 ⟨A15, n16, C17, hO18, hI14, rfl, hK19⟩
    unfold tocsinref04_sorted_l28 at hb13
    refine gk_at hK19 ?_
    refine gk_seq (by kernel_rfl) ?_
    refine gk_region (by kernel_rfl) ?_
    refine gl_pure 1 [3, 7, 8, 9, 10] (K' := [(3, .slice A15 s11.1.length n16), (7, .slice A0_0 a0.length n0_0), (8, .int .i64 (a0.length : Int)), (9, .int .i64 s11.2), (10, .bool (decide (s11.2 < (a0.length : Int))))]) (by kernel_rfl) ?_
    refine gl_atE (by kernel_rfl) ?_
    refine ge_seq ?_
    refine gk_seq (by kernel_rfl) ?_
    refine gk_cond (b := (decide (s11.2 < (a0.length : Int)))) (by kernel_rfl) (by kernel_rfl) (fun hc30 => ?_) (fun hc30 => ?_)
    · have hb13 := cond_t hc30 hb13
      refine gk_skip (by kernel_rfl) ?_
      refine ge_seq ?_
      refine gk_seq (by kernel_rfl) ?_
      refine gk_block (by kernel_rfl) ?_
      refine gk_seq (by kernel_rfl) ?_
      refine gk_region (by kernel_rfl) ?_
      obtain ⟨x31, hx32, hb13⟩ := bind_some hb13
      obtain ⟨p33, cs34, hR35, hA36, ha37⟩ := RepS.ixAt hx32 (hf0_0.mono hI14)
      have hi38 := ix_some hx32
      obtain rfl := kS49_open hR35
      refine gl_indexAddrF (c := n0_0) (T' := 22) (e := 50) (xs := (.tmp 7)) (xi := (.tmp 9)) (kd := .i64) ha37 hi38.1 hi38.2.1 (by kernel_rfl) (by kernel_rfl) (by kernel_rfl) (by kernel_rfl) (by kernel_rfl) ?_
      refine gl_loadA (T' := 50) (xp := (.tmp 11)) (p := p33) (cs := [.string x31.f0, .string x31.f1]) (by kernel_rfl) (by kernel_rfl) (by kernel_rfl) (by kernel_rfl) (hA36.take 2) ?_
      refine gl_alloc (T' := 50) (cs := #[.string (⟨#[]⟩ : ByteArray), .string (⟨#[]⟩ : ByteArray)]) (by kernel_rfl) (by kernel_rfl) (by kernel_rfl) (fun g39 => ?_)
      refine gl_storeB (T' := 50) (xp := (.tmp 5)) (xv := (.tmp 12)) (v := .agg #[.string x31.f0, .string x31.f1]) (g := g39) (off := 0) (cs := #[.string (⟨#[]⟩ : ByteArray), .string (⟨#[]⟩ : ByteArray)]) (cs' := #[.string x31.f0, .string x31.f1]) (by kernel_rfl) (by kernel_rfl) (by kernel_rfl) (by kernel_rfl) (by kernel_rfl) (Upd.set _ _ _ _) ?_ (by kernel_rfl)
      refine gl_atE (by kernel_rfl) ?_
      refine ge_seq ?_
      refine gk_seq (by kernel_rfl) ?_
      refine gk_region (by kernel_rfl) ?_
      refine gl_pure 3 [3, 5, 6, 7, 8, 9] (K' := [(3, .slice A15 s11.1.length n16), (5, .pointer (some ⟨g39, 0, none⟩)), (6, .int .i64 (s11.1.length : Int)), (7, .slice A0_0 a0.length n0_0), (8, .int .i64 (a0.length : Int)), (9, .int .i64 s11.2)]) (by kernel_rfl) ?_
      refine gl_atE (by kernel_rfl) ?_
      refine ge_seq ?_
      refine gk_seq (by kernel_rfl) ?_
      refine gk_region (by kernel_rfl) ?_
      refine gl_pure 1 [5, 6, 7, 8, 9, 15] (K' := [(5, .pointer (some ⟨g39, 0, none⟩)), (6, .int .i64 (s11.1.length : Int)), (7, .slice A0_0 a0.length n0_0), (8, .int .i64 (a0.length : Int)), (9, .int .i64 s11.2), (15, .slice A15 s11.1.length n16)]) (by kernel_rfl) ?_
      refine gl_loadB (T' := 50) (xp := (.tmp 5)) (v := .agg #[.string x31.f0, .string x31.f1]) (g := g39) (off := 0) (cs := #[.string x31.f0, .string x31.f1]) (e := 50) (fz := (0, 0)) (by kernel_rfl) (by kernel_rfl) (by kernel_rfl) List.mem_cons_self (by kernel_rfl) ?_
      refine gl_buildSlice (T' := 22) (e := 50) (n := 2) (len := 1) (parts := #[(0, (.tmp 16))]) (l := [(0, .agg #[.string x31.f0, .string x31.f1])]) (cs := #[.string x31.f0, .string x31.f1]) (by kernel_rfl) (by kernel_rfl) (by kernel_rfl) (by kernel_rfl) (by kernel_rfl) (fun g40 => ?_)
      have hO41 : OwnS kS49 50 I20 (some ⟨g40, 0, none⟩) 1 [x31] [(g40, .cells #[.string x31.f0, .string x31.f1] 50)] := OwnS.lit (row_cons (l := [.string x31.f0, .string x31.f1]) (kS49_mk (x := x31) ) (row_nil _ _)) rfl rfl rfl
      refine gl_reord (D := [(g40, .cells #[.string x31.f0, .string x31.f1] 50)] ++ ((g39, .cells #[.string x31.f0, .string x31.f1] 50) :: (C17 ++ L))) (Reord.refl _) ?_
      obtain ⟨zs44, hz45, hb13⟩ := bind_some hb13
      refine gl_append (xv := .slice (some ⟨g40, 0, none⟩) [x31].length 1) (d := kS49) (t := 22) (tx := 22) (e := 50) (s := (.tmp 15)) (x := (.tmp 17)) (xs := s11.1) (fun X => [(g40, .cells #[.string x31.f0, .string x31.f1] 50)] ++ ((g39, .cells #[.string x31.f0, .string x31.f1] 50) :: (X ++ L))) hz45 (by kernel_rfl) (by kernel_rfl) (by kernel_rfl) (by kernel_rfl) (by kernel_rfl) (by kernel_rfl) (fun X => (Upd.app _ (Upd.one _ (Upd.head _ X _)))) hO18 (SrcOk.slice (c := 1) (e := 50) (n := 2) (OwnS.rd hO41 (Upd.selfC _ _)) (by kernel_rfl)) (fun A46 n47 C48 hO49 => ?_)
      refine gl_pure 1 [3, 5, 6, 7, 8, 9] (K' := [(3, .slice A46 zs44.length n47), (5, .pointer (some ⟨g39, 0, none⟩)), (6, .int .i64 (s11.1.length : Int)), (7, .slice A0_0 a0.length n0_0), (8, .int .i64 (a0.length : Int)), (9, .int .i64 s11.2)]) (by kernel_rfl) ?_
      refine gl_atE (by kernel_rfl) ?_
      refine ge_seq ?_
      refine gk_seq (by kernel_rfl) ?_
      obtain ⟨r57, hl58, hb13⟩ := bind_some hb13
      refine gk_reord (D := C48 ++ ((g39, .cells #[.string x31.f0, .string x31.f1] 50) :: L)) (Reord.step (Upd.app _ (Upd.one _ (Upd.rmC _ _))) (Reord.step1 (Upd.app _ (Upd.rm1 _ _)) (Reord.skipC (Reord.refl _)))) ?_
      refine gk_join (fun t I' L' => ∃ C69, OwnS kS49 50 I' A46 n47 r57.1 C69 ∧ I20 ≤ I' ∧ C69 ++ ((g39, .cells #[.string x31.f0, .string x31.f1] 50) :: L) = L' ∧ Knows 48 [(3, .slice A46 r57.1.length n47), (5, .pointer (some ⟨g39, 0, none⟩)), (6, .int .i64 r57.2), (7, .slice A0_0 a0.length n0_0), (8, .int .i64 (a0.length : Int)), (9, .int .i64 s11.2)] t) ?_ ?_
      · refine gk_block (by kernel_rfl) ?_
        refine gk_pick [3, 5, 6, 7, 8, 9] (K' := [(3, .slice A46 zs44.length n47), (5, .pointer (some ⟨g39, 0, none⟩)), (6, .int .i64 (s11.1.length : Int)), (7, .slice A0_0 a0.length n0_0), (8, .int .i64 (a0.length : Int)), (9, .int .i64 s11.2)]) (by kernel_rfl) ?_
        intro t hK
        refine gc_loop (tocsinref04_sorted_l74 x31) (fun s59 t I' L' => ∃ C63, OwnS kS49 50 I' A46 n47 s59.1 C63 ∧ I20 ≤ I' ∧ C63 ++ ((g39, .cells #[.string x31.f0, .string x31.f1] 50) :: L) = L' ∧ Knows 48 [(3, .slice A46 s59.1.length n47), (5, .pointer (some ⟨g39, 0, none⟩)), (6, .int .i64 s59.2), (7, .slice A0_0 a0.length n0_0), (8, .int .i64 (a0.length : Int)), (9, .int .i64 s11.2)] t) (by kernel_rfl) ?_ hl58 ⟨C48, hO49, (Imm.refl _), rfl, hK⟩
        rintro s59 o60 t I67 L' hb61 ⟨C63, hO64, hI62, rfl, hK66⟩
        unfold tocsinref04_sorted_l74 at hb61
        refine gk_at hK66 ?_
        refine gk_seq (by kernel_rfl) ?_
        refine gk_seq (by kernel_rfl) ?_
        obtain ⟨j76, hj77, hb61⟩ := bind_some hb61
        refine gk_join (fun t I' L' => I67 ≤ I' ∧ C63 ++ ((g39, .cells #[.string x31.f0, .string x31.f1] 50) :: L) = L' ∧ Knows 48 [(3, .slice A46 s59.1.length n47), (5, .pointer (some ⟨g39, 0, none⟩)), (6, .int .i64 s59.2), (7, .slice A0_0 a0.length n0_0), (8, .int .i64 (a0.length : Int)), (9, .int .i64 s11.2), (31, .bool j76)] t) ?_ ?_
        · refine gk_draw 13 [(0, true), (1, true), (2, true), (3, true), (4, true), (5, true), (6, true), (7, true), (8, true), (9, true), (10, true), (11, true), (12, true)] (C63 ++ [(g39, .cells #[.string x31.f0, .string x31.f1] 50)]) (List.forall_mem_append.2 ⟨fun q hq => (List.mem_append_left _ hq), (List.forall_mem_cons.2 ⟨(List.mem_append_right _ List.mem_cons_self), (fun p hp => by cases hp)⟩)⟩) (by kernel_rfl) (by kernel_rfl) (by kernel_rfl) ?_ (by kernel_rfl)
          refine gd_pure 3 [3, 5, 6, 7, 8, 9, 21] (K' := [(3, .slice A46 s59.1.length n47), (5, .pointer (some ⟨g39, 0, none⟩)), (6, .int .i64 s59.2), (7, .slice A0_0 a0.length n0_0), (8, .int .i64 (a0.length : Int)), (9, .int .i64 s11.2), (21, .bool (decide (s59.2 > 0)))]) (s' := [(3, true), (4, true), (5, true), (6, true), (7, true), (8, true), (9, true), (10, true), (11, true), (12, true)]) (CC.refl (List.forall_mem_append.2 ⟨fun q hq => (List.mem_append_left _ hq), (List.forall_mem_cons.2 ⟨(List.mem_append_right _ List.mem_cons_self), (fun p hp => by cases hp)⟩)⟩)) (by kernel_rfl) ?_
          refine gd_case 21 (b := (decide (s59.2 > 0))) (by kernel_rfl) (fun hc81 => ?_) (fun hc81 => ?_)
          · have hj77 := cond_t hc81 hj77
            refine gd_pure 3 [3, 5, 6, 7, 8, 9, 21, 22, 24] (K' := [(3, .slice A46 s59.1.length n47), (5, .pointer (some ⟨g39, 0, none⟩)), (6, .int .i64 s59.2), (7, .slice A0_0 a0.length n0_0), (8, .int .i64 (a0.length : Int)), (9, .int .i64 s11.2), (21, .bool true), (22, .slice A46 s59.1.length n47), (24, .int .i64 (IntKind.wrap .i64 (s59.2 - 1)))]) (s' := [(6, true), (7, true), (8, true), (9, true), (10, true), (11, true), (12, true)]) (CC.refl (List.forall_mem_append.2 ⟨fun q hq => (List.mem_append_left _ hq), (List.forall_mem_cons.2 ⟨(List.mem_append_right _ List.mem_cons_self), (fun p hp => by cases hp)⟩)⟩)) (by kernel_rfl) ?_
            obtain ⟨x82, hx83, hj77⟩ := bind_some hj77
            obtain ⟨p84, cs85, hR86, hA87, ha88, hg90⟩ := OwnS.ixAtG hx83 hO64
            have hi89 := ix_some hx83
            obtain rfl := kS49_open hR86
            refine gd_q (v := .pointer (some p84)) (by kernel_rfl) (by kernel_rfl) (CC.refl (List.forall_mem_append.2 ⟨fun q hq => (List.mem_append_left _ hq), (List.forall_mem_cons.2 ⟨(List.mem_append_right _ List.mem_cons_self), (fun p hp => by cases hp)⟩)⟩)) (fun I' L' T hC kk => gl_indexAddrF (c := n47) (T' := 22) (e := 50) (xs := (.tmp 22)) (xi := (.tmp 24)) (kd := .i64) ha88 hi89.1 hi89.2.1 (by kernel_rfl) (by kernel_rfl) (by kernel_rfl) (by kernel_rfl) (by kernel_rfl) kk) ?_
            refine gd_pure 1 [3, 5, 6, 7, 8, 9, 21, 26] (K' := [(3, .slice A46 s59.1.length n47), (5, .pointer (some ⟨g39, 0, none⟩)), (6, .int .i64 s59.2), (7, .slice A0_0 a0.length n0_0), (8, .int .i64 (a0.length : Int)), (9, .int .i64 s11.2), (21, .bool true), (26, .pointer (some (p84.add 0)))]) (s' := [(8, true), (9, true), (10, true), (11, true), (12, true)]) (CC.refl (List.forall_mem_append.2 ⟨fun q hq => (List.mem_append_left _ hq), (List.forall_mem_cons.2 ⟨(List.mem_append_right _ List.mem_cons_self), (fun p hp => by cases hp)⟩)⟩)) (by kernel_rfl) ?_
            refine gd_q (v := .string x82.f0) (by kernel_rfl) (by kernel_rfl) (CC.refl (List.forall_mem_append.2 ⟨fun q hq => (List.mem_append_left _ hq), (List.forall_mem_cons.2 ⟨(List.mem_append_right _ List.mem_cons_self), (fun p hp => by cases hp)⟩)⟩)) (fun I' L' T hC kk => gl_loadO (T' := 9) (xp := (.tmp 26)) (p := (p84.add 0)) (c := .string x82.f0) (n := 1) (by kernel_rfl) (by kernel_rfl) (by kernel_rfl) (by kernel_rfl) ((fun I' L' h => (hA87 I' L' h).drop 0) _ _ (fun q hq => hC.sub _ (List.mem_append_left _ hq))) kk) ?_
            refine gd_pure 1 [3, 5, 6, 7, 8, 9, 21, 27, 28] (K' := [(3, .slice A46 s59.1.length n47), (5, .pointer (some ⟨g39, 0, none⟩)), (6, .int .i64 s59.2), (7, .slice A0_0 a0.length n0_0), (8, .int .i64 (a0.length : Int)), (9, .int .i64 s11.2), (21, .bool true), (27, .string x82.f0), (28, .pointer (some ⟨g39, 0, none⟩))]) (s' := [(10, true), (11, true), (12, true)]) (CC.refl (List.forall_mem_append.2 ⟨fun q hq => (List.mem_append_left _ hq), (List.forall_mem_cons.2 ⟨(List.mem_append_right _ List.mem_cons_self), (fun p hp => by cases hp)⟩)⟩)) (by kernel_rfl) ?_
            refine gd_q (v := .string x31.f0) (by kernel_rfl) (by kernel_rfl) (CC.refl (List.forall_mem_append.2 ⟨fun q hq => (List.mem_append_left _ hq), (List.forall_mem_cons.2 ⟨(List.mem_append_right _ List.mem_cons_self), (fun p hp => by cases hp)⟩)⟩)) (fun I' L' T hC kk => gl_loadB (T' := 9) (xp := (.tmp 28)) (v := .string x31.f0) (g := g39) (off := 0) (cs := #[.string x31.f0, .string x31.f1]) (e := 50) (fz := (0, 0)) (by kernel_rfl) (by kernel_rfl) (by kernel_rfl) (hC.sub _ (List.mem_append_right _ List.mem_cons_self)) (by kernel_rfl) kk) ?_
            refine gd_pure 2 [3, 5, 6, 7, 8, 9, 31] (K' := [(3, .slice A46 s59.1.length n47), (5, .pointer (some ⟨g39, 0, none⟩)), (6, .int .i64 s59.2), (7, .slice A0_0 a0.length n0_0), (8, .int .i64 (a0.length : Int)), (9, .int .i64 s11.2), (31, .bool (!((Op.bytesLess x82.f0.toList x31.f0.toList) || (x82.f0.toList == x31.f0.toList))))]) (s' := []) (CC.refl (List.forall_mem_append.2 ⟨fun q hq => (List.mem_append_left _ hq), (List.forall_mem_cons.2 ⟨(List.mem_append_right _ List.mem_cons_self), (fun p hp => by cases hp)⟩)⟩)) (by kernel_rfl) ?_
            refine gd_done ?_
            refine gl_atE (by kernel_rfl) ?_
            obtain rfl := some_inj hj77
            exact ge_mid fun t ht => ⟨(Imm.refl _), rfl, ht.pick (l := [3, 5, 6, 7, 8, 9, 31]) (by kernel_rfl)⟩
          · have hj77 := cond_f hc81 hj77
            refine gd_pure 10 [3, 5, 6, 7, 8, 9, 31] (K' := [(3, .slice A46 s59.1.length n47), (5, .pointer (some ⟨g39, 0, none⟩)), (6, .int .i64 s59.2), (7, .slice A0_0 a0.length n0_0), (8, .int .i64 (a0.length : Int)), (9, .int .i64 s11.2), (31, .bool false)]) (s' := []) (CC.refl (List.forall_mem_append.2 ⟨fun q hq => (List.mem_append_left _ hq), (List.forall_mem_cons.2 ⟨(List.mem_append_right _ List.mem_cons_self), (fun p hp => by cases hp)⟩)⟩)) (by kernel_rfl) ?_
            refine gd_done ?_
            refine gl_atE (by kernel_rfl) ?_
            obtain rfl := some_inj hj77
            exact ge_mid fun t ht => ⟨(Imm.refl _), rfl, ht.pick (l := [3, 5, 6, 7, 8, 9, 31]) (by kernel_rfl)⟩
        · rintro t I80 L' ⟨hI78, rfl, hK79⟩
          refine ge_at hK79 ?_
          refine ge_seq ?_
          refine gk_cond (b := j76) (by kernel_rfl) (by kernel_rfl) (fun hc91 => ?_) (fun hc91 => ?_)
          · have hb61 := cond_t hc91 hb61
            refine gk_skip (by kernel_rfl) ?_
            refine ge_seq ?_
            refine gk_block (by kernel_rfl) ?_
            refine gk_seq (by kernel_rfl) ?_
            refine gk_region (by kernel_rfl) ?_
            refine gl_pure 5 [3, 5, 6, 7, 8, 9, 32, 33, 34, 36] (K' := [(3, .slice A46 s59.1.length n47), (5, .pointer (some ⟨g39, 0, none⟩)), (6, .int .i64 s59.2), (7, .slice A0_0 a0.length n0_0), (8, .int .i64 (a0.length : Int)), (9, .int .i64 s11.2), (32, .slice A46 s59.1.length n47), (33, .int .i64 s59.2), (34, .slice A46 s59.1.length n47), (36, .int .i64 (IntKind.wrap .i64 (s59.2 - 1)))]) (by kernel_rfl) ?_
            obtain ⟨x92, hx93, hb61⟩ := bind_some hb61
            refine gl_indexAddrW (d := kS49) (c := n47) (T' := 22) (e := 50) (xs := (.tmp 34)) (xi := (.tmp 36)) (kd := .i64) hx93 (hO64.mono hI78) (Upd.selfC _ _) (by kernel_rfl) (by kernel_rfl) (by kernel_rfl) (by kernel_rfl) (by kernel_rfl) (fun p94 cs95 hR96 hA97 hp100 => ?_)
            obtain rfl := kS49_open hR96
            refine gl_loadOA (T' := 50) (xp := (.tmp 37)) (p := p94) (cs := [.string x92.f0, .string x92.f1]) (by kernel_rfl) (by kernel_rfl) (by kernel_rfl) (by kernel_rfl) (hA97.take 2) ?_
            obtain ⟨x101, hx102, hb61⟩ := bind_some hb61
            refine gl_indexAddrW (d := kS49) (c := n47) (T' := 22) (e := 50) (xs := (.tmp 32)) (xi := (.tmp 33)) (kd := .i64) hx102 (hO64.mono hI78) (Upd.selfC _ _) (by kernel_rfl) (by kernel_rfl) (by kernel_rfl) (by kernel_rfl) (by kernel_rfl) (fun p103 cs104 hR105 hA106 hp109 => ?_)
            obtain rfl := kS49_open hR105
            have hl112 : s59.1.length = (lset s59.1 s59.2 x92).length := by simp [lset]
            refine gl_storeE (d := kS49) (T' := 50) (xp := (.tmp 39)) (xv := (.tmp 38)) (v := .agg #[.string x92.f0, .string x92.f1]) (off := 0) (y := x92) (fun X => X ++ ((g39, .cells #[.string x31.f0, .string x31.f1] 50) :: L)) hx102 (hO64.mono hI78) (fun X => (Upd.head _ X _)) hp109 (by kernel_rfl) (by kernel_rfl) (by kernel_rfl) (by kernel_rfl) (by kernel_rfl) (by kernel_rfl) (fun cs h => by obtain rfl := kS49_open h; exact kS49_mk (x := x92) ) (by kernel_rfl) (fun C110 hO111 => ?_)
            try rw [hl112]
            refine gl_atE (by kernel_rfl) ?_
            refine ge_seq ?_
            refine gk_region (by kernel_rfl) ?_
            refine gl_pure 3 [3, 5, 6, 7, 8, 9] (K' := [(3, .slice A46 (lset s59.1 s59.2 x92).length n47), (5, .pointer (some ⟨g39, 0, none⟩)), (6, .int .i64 (IntKind.wrap .i64 (s59.2 - 1))), (7, .slice A0_0 a0.length n0_0), (8, .int .i64 (a0.length : Int)), (9, .int .i64 s11.2)]) (by kernel_rfl) ?_
            refine gl_atE (by kernel_rfl) ?_
            refine ge_block_normal ?_
            obtain rfl := some_inj hb61
            exact ge_round fun t ht => ⟨C110, hO111, (Imm.trans hI62 hI78), rfl, ht.pick (l := [3, 5, 6, 7, 8, 9]) (by kernel_rfl)⟩
          · have hb61 := cond_f hc91 hb61
            refine gk_exit (by kernel_rfl) ?_
            refine ge_seq_exit ?_
            obtain rfl := some_inj hb61
            refine ge_round_out (fun hrr => ?_) (by intro h; cases h)
            obtain rfl := hrr
            refine ge_block_hit (by kernel_rfl) ?_
            exact ge_mid fun t ht => ⟨C63, (hO64.mono hI78), (Imm.trans hI62 hI78), rfl, ht.pick (l := [3, 5, 6, 7, 8, 9]) (by kernel_rfl)⟩
      · rintro t I73 L' ⟨C69, hO70, hI68, rfl, hK72⟩
        refine ge_at hK72 ?_
        refine ge_seq ?_
        refine gk_region (by kernel_rfl) ?_
        refine gl_pure 2 [3, 5, 7, 8, 9, 42, 43] (K' := [(3, .slice A46 r57.1.length n47), (5, .pointer (some ⟨g39, 0, none⟩)), (7, .slice A0_0 a0.length n0_0), (8, .int .i64 (a0.length : Int)), (9, .int .i64 s11.2), (42, .slice A46 r57.1.length n47), (43, .int .i64 r57.2)]) (by kernel_rfl) ?_
        refine gl_loadB (T' := 50) (xp := (.tmp 5)) (v := .agg #[.string x31.f0, .string x31.f1]) (g := g39) (off := 0) (cs := #[.string x31.f0, .string x31.f1]) (e := 50) (fz := (0, 0)) (by kernel_rfl) (by kernel_rfl) (by kernel_rfl) (List.mem_append_right _ List.mem_cons_self) (by kernel_rfl) ?_
        obtain ⟨x113, hx114, hb13⟩ := bind_some hb13
        refine gl_indexAddrW (d := kS49) (c := n47) (T' := 22) (e := 50) (xs := (.tmp 42)) (xi := (.tmp 43)) (kd := .i64) hx114 hO70 (Upd.selfC _ _) (by kernel_rfl) (by kernel_rfl) (by kernel_rfl) (by kernel_rfl) (by kernel_rfl) (fun p115 cs116 hR117 hA118 hp121 => ?_)
        obtain rfl := kS49_open hR117
        have hl124 : r57.1.length = (lset r57.1 r57.2 x31).length := by simp [lset]
        refine gl_storeE (d := kS49) (T' := 50) (xp := (.tmp 45)) (xv := (.tmp 44)) (v := .agg #[.string x31.f0, .string x31.f1]) (off := 0) (y := x31) (fun X => X ++ ((g39, .cells #[.string x31.f0, .string x31.f1] 50) :: L)) hx114 hO70 (fun X => (Upd.head _ X _)) hp121 (by kernel_rfl) (by kernel_rfl) (by kernel_rfl) (by kernel_rfl) (by kernel_rfl) (by kernel_rfl) (fun cs h => by obtain rfl := kS49_open h; exact kS49_mk (x := x31) ) (by kernel_rfl) (fun C122 hO123 => ?_)
        try rw [hl124]
        refine gl_atE (by kernel_rfl) ?_
        refine ge_block_normal ?_
        refine ge_seq ?_
        refine gk_region (by kernel_rfl) ?_
        refine gl_pure 2 [3, 7, 8, 9] (K' := [(3, .slice A46 (lset r57.1 r57.2 x31).length n47), (7, .slice A0_0 a0.length n0_0), (8, .int .i64 (a0.length : Int)), (9, .int .i64 (IntKind.wrap .i64 (s11.2 + 1)))]) (by kernel_rfl) ?_
        refine gl_reord (D := C122 ++ L) (Reord.step (Upd.rmC _ _) (Reord.skip (Reord.refl _))) ?_
        refine gl_atE (by kernel_rfl) ?_
        obtain rfl := some_inj hb13
        exact ge_round fun t ht => ⟨A46, n47, C122, hO123, (Imm.trans hI14 hI68), rfl, ht.pick (l := [3, 7, 8, 9]) (by kernel_rfl)⟩
    · have hb13 := cond_f hc30 hb13
      refine gk_exit (by kernel_rfl) ?_
      refine ge_seq_exit ?_
      obtain rfl := some_inj hb13
      refine ge_round_out (fun hrr => ?_) (by intro h; cases h)
      obtain rfl := hrr
      refine ge_block_hit (by kernel_rfl) ?_
      exact ge_mid fun t ht => ⟨A15, n16, C17, hO18, hI14, rfl, ht.pick (l := [3]) (by kernel_rfl)⟩
  · rintro t I27 L' ⟨A22, n23, C24, hO25, hI21, rfl, hK26⟩
    refine ge_at hK26 ?_
    refine ge_seq ?_
    refine gk_seq (by kernel_rfl) ?_
    refine gk_region (by kernel_rfl) ?_
    refine gl_pure 2 [2] (K' := [(2, .slice A22 r9.length n23)]) (by kernel_rfl) ?_
    refine gl_atE (by kernel_rfl) ?_
    refine ge_seq ?_
    refine gk_ret (by kernel_rfl) ?_
    obtain rfl := some_inj hr
    exact ge_result trivial (ResOk.tmp (by kernel_rfl) ResOk.nil) hI21 ⟨A22, n23, C24, hO25, rfl, rfl⟩
/-! 30 tocsinref04_Make  -/
noncomputable def tocsinref04_Make (a0 : List S49) : Option ((List S49) × Int) :=
  Option.bind (tocsinref04_twice a0) fun (y1 : Bool) =>
  bif y1 then
  (some ([], 6))
  else
  (Option.bind (tocsinref04_full a0) fun (y4 : (List S49)) =>
    Option.bind (tocsinref04_sorted y4) fun (y17 : (List S49)) =>
    Option.bind (tocsinref04_Right y17) fun (y26 : Int × Int) =>
    bif (y26.1 != 0) then
    (some ([], y26.1))
    else
    (some (y17, 0)))
theorem tocsinref04_Make_walk {a0 : List S49} {A0_0 : Option Addr} {n0_0 : Nat} {I : Imm} {r : (List S49) × Int}  (hf0_0 : RepS kS49 I A0_0 n0_0 a0) (hr : tocsinref04_Make a0 = some r) (L : Own) :
    CallsTo Tryz.prog 30 #[.slice A0_0 a0.length n0_0] I L (fun v I' L' => ∃ A0 c0 C0, OwnS kS49 50 I' A0 c0 r.1 C0 ∧ v = .tuple #[.slice A0 r.1.length c0, .int .i64 r.2] ∧ C0 ++ L = L') := by
  unfold tocsinref04_Make at hr
  refine callsTo_body (N := 21) Tryz.func30 (by kernel_rfl) (by kernel_rfl) (by kernel_rfl) ?_
  refine gk_pick [0] (K' := [(0, .slice A0_0 a0.length n0_0)]) (by kernel_rfl) ?_
  refine gk_seq (by kernel_rfl) ?_
  refine gk_region (by kernel_rfl) ?_
  refine gl_pure 2 [0] (K' := [(0, .slice A0_0 a0.length n0_0)]) (by kernel_rfl) ?_
  refine gl_atE (by kernel_rfl) ?_
  refine ge_seq ?_
  refine gk_seq (by kernel_rfl) ?_
  refine gk_seq (by kernel_rfl) ?_
  refine gk_region (by kernel_rfl) ?_
  refine gl_pure 1 [0, 7] (K' := [(0, .slice A0_0 a0.length n0_0), (7, .slice A0_0 a0.length n0_0)]) (by kernel_rfl) ?_
  obtain ⟨y1, hx2, hr⟩ := bind_some hr
  refine gl_callQ (by kernel_rfl) (tocsinref04_twice_walk (r := y1) hf0_0 hx2 _) ?_
  refine gl_atE (by kernel_rfl) ?_
  refine ge_seq ?_
  refine gk_cond (b := y1) (by kernel_rfl) (by kernel_rfl) (fun hc3 => ?_) (fun hc3 => ?_)
  · have hr := cond_t hc3 hr
    refine gk_seq (by kernel_rfl) ?_
    refine gk_region (by kernel_rfl) ?_
    refine gl_pure 2 [2, 3] (K' := [(2, .slice none 0 0), (3, .int .i64 6)]) (by kernel_rfl) ?_
    refine gl_atE (by kernel_rfl) ?_
    refine ge_seq ?_
    refine gk_ret (by kernel_rfl) ?_
    refine ge_seq_ret ?_
    obtain rfl := some_inj hr
    exact ge_result trivial (ResOk.tmp (by kernel_rfl) (ResOk.tmp (by kernel_rfl) ResOk.nil)) (Imm.refl _) ⟨none, 0, [], OwnS.nil _ _ _ _, rfl, rfl⟩
  · have hr := cond_f hc3 hr
    refine gk_skip (by kernel_rfl) ?_
    refine ge_seq ?_
    refine gk_seq (by kernel_rfl) ?_
    refine gk_region (by kernel_rfl) ?_
    refine gl_pure 1 [9] (K' := [(9, .slice A0_0 a0.length n0_0)]) (by kernel_rfl) ?_
    obtain ⟨y4, hx5, hr⟩ := bind_some hr
    refine gl_call (by kernel_rfl) (tocsinref04_full_walk (r := y4) hf0_0 hx5 _) ?_
    rintro v I6 L7 hI8 ⟨A9, c10, C11, hO12, rfl, rfl⟩
    refine gl_rest (Tk.step (Upd.rmC _ _) (Tk.nil _)) (fun J13 hJ14 hC15 => ?_)
    have hf16 := (OwnS.rest hO12 hJ14 hC15.left)
    obtain ⟨y17, hx18, hr⟩ := bind_some hr
    refine gl_call (by kernel_rfl) (tocsinref04_sorted_walk (r := y17) hf16 hx18 _) ?_
    rintro v I19 L20 hI21 ⟨A22, c23, C24, hO25, rfl, rfl⟩
    refine gl_pure 1 [4] (K' := [(4, .slice A22 y17.length c23)]) (by kernel_rfl) ?_
    refine gl_atE (by kernel_rfl) ?_
    refine ge_seq ?_
    refine gk_seq (by kernel_rfl) ?_
    refine gk_seq (by kernel_rfl) ?_
    refine gk_region (by kernel_rfl) ?_
    refine gl_pure 1 [4, 13] (K' := [(4, .slice A22 y17.length c23), (13, .slice A22 y17.length c23)]) (by kernel_rfl) ?_
    obtain ⟨y26, hx27, hr⟩ := bind_some hr
    refine gl_callB (r := .tuple #[.int .i64 y26.1, .int .i64 y26.2]) (Tk.step (Upd.rmC _ _) (Tk.nil _)) (by kernel_rfl) (fun J hJ hC => tocsinref04_Right_walk (r := y26) (OwnS.rest hO25 hJ hC.left) hx27 _) ?_
    refine gl_pure 5 [4, 5] (K' := [(4, .slice A22 y17.length c23), (5, .int .i64 y26.1)]) (by kernel_rfl) ?_
    refine gl_atE (by kernel_rfl) ?_
    refine ge_seq ?_
    refine gk_seq (by kernel_rfl) ?_
    refine gk_region (by kernel_rfl) ?_
    refine gl_pure 2 [4, 5, 18] (K' := [(4, .slice A22 y17.length c23), (5, .int .i64 y26.1), (18, .bool (y26.1 != 0))]) (by kernel_rfl) ?_
    refine gl_atE (by kernel_rfl) ?_
    refine ge_seq ?_
    refine gk_cond (b := (y26.1 != 0)) (by kernel_rfl) (by kernel_rfl) (fun hc28 => ?_) (fun hc28 => ?_)
    · have hr := cond_t hc28 hr
      refine gk_seq (by kernel_rfl) ?_
      refine gk_region (by kernel_rfl) ?_
      refine gl_pure 3 [2, 3] (K' := [(2, .slice none 0 0), (3, .int .i64 y26.1)]) (by kernel_rfl) ?_
      refine gl_atE (by kernel_rfl) ?_
      refine ge_seq ?_
      refine gk_reord (D := L) (Reord.skipC (Reord.refl _)) ?_
      refine gk_ret (by kernel_rfl) ?_
      refine ge_seq_ret ?_
      obtain rfl := some_inj hr
      exact ge_result trivial (ResOk.tmp (by kernel_rfl) (ResOk.tmp (by kernel_rfl) ResOk.nil)) (Imm.trans (Imm.trans hI8 hJ14) hI21) ⟨none, 0, [], OwnS.nil _ _ _ _, rfl, rfl⟩
    · have hr := cond_f hc28 hr
      refine gk_skip (by kernel_rfl) ?_
      refine ge_seq ?_
      refine gk_seq (by kernel_rfl) ?_
      refine gk_region (by kernel_rfl) ?_
      refine gl_pure 3 [2, 3] (K' := [(2, .slice A22 y17.length c23), (3, .int .i64 0)]) (by kernel_rfl) ?_
      refine gl_atE (by kernel_rfl) ?_
      refine ge_seq ?_
      refine gk_ret (by kernel_rfl) ?_
      obtain rfl := some_inj hr
      exact ge_result trivial (ResOk.tmp (by kernel_rfl) (ResOk.tmp (by kernel_rfl) ResOk.nil)) (Imm.trans (Imm.trans hI8 hJ14) hI21) ⟨A22, c23, C24, hO25, rfl, rfl⟩
/-! 32 tocsinref04_Get  -/
noncomputable def tocsinref04_Get_l17 (a0 : List S49) (a1 : ByteArray) : Int → Option ((Int) ⊕ ((Unit) ⊕ (ByteArray))) := fun s7 =>
  bif (decide (s7 < (a0.length : Int))) then
  (Option.bind (ix a0 s7) fun (x20 : S49) =>
    bif (x20.f0.toList == a1.toList) then
    (some (Sum.inr (Sum.inr x20.f1)))
    else
    (some (Sum.inl (IntKind.wrap .i64 (s7 + 1)))))
  else
  (some (Sum.inr (Sum.inl ())))
noncomputable def tocsinref04_Get (a0 : List S49) (a1 : ByteArray) : Option ByteArray :=
  Option.bind (loopO (tocsinref04_Get_l17 a0 a1) 0) fun (r5 : (Unit) ⊕ (ByteArray)) =>
  match r5 with
  | Sum.inl r13 => some (⟨#[]⟩ : ByteArray)
  | Sum.inr v30 => some v30
theorem tocsinref04_Get_walk {a0 : List S49} {A0_0 : Option Addr} {n0_0 : Nat} {a1 : ByteArray} {I : Imm} {r : ByteArray}  (hf0_0 : RepS kS49 I A0_0 n0_0 a0) (hr : tocsinref04_Get a0 a1 = some r) (L : Own) :
    CallsTo Tryz.prog 32 #[.slice A0_0 a0.length n0_0, .string a1] I L (fun v I' L' => v = .string r ∧ L = L') := by
  unfold tocsinref04_Get at hr
  refine callsTo_body (N := 20) Tryz.func32 (by kernel_rfl) (by kernel_rfl) (by kernel_rfl) ?_
  refine gk_pick [0, 1] (K' := [(0, .slice A0_0 a0.length n0_0), (1, .string a1)]) (by kernel_rfl) ?_
  refine gk_seq (by kernel_rfl) ?_
  refine gk_region (by kernel_rfl) ?_
  refine gl_pure 1 [0, 1] (K' := [(0, .slice A0_0 a0.length n0_0), (1, .string a1)]) (by kernel_rfl) ?_
  refine gl_atE (by kernel_rfl) ?_
  refine ge_seq ?_
  refine gk_seq (by kernel_rfl) ?_
  refine gk_seq (by kernel_rfl) ?_
  refine gk_region (by kernel_rfl) ?_
  refine gl_pure 3 [1, 7, 8, 9] (K' := [(1, .string a1), (7, .slice A0_0 a0.length n0_0), (8, .int .i64 (a0.length : Int)), (9, .int .i64 0)]) (by kernel_rfl) ?_
  refine gl_atE (by kernel_rfl) ?_
  refine ge_seq ?_
  obtain ⟨r5, hl6, hr⟩ := bind_some hr
  refine gk_join (fun t I' L' => ∃ r13, r5 = Sum.inl r13 ∧ I ≤ I' ∧ L = L' ∧ Knows 20 [] t) ?_ ?_
  · refine gk_block (by kernel_rfl) ?_
    refine gk_pick [1, 7, 8, 9] (K' := [(1, .string a1), (7, .slice A0_0 a0.length n0_0), (8, .int .i64 (a0.length : Int)), (9, .int .i64 0)]) (by kernel_rfl) ?_
    intro t hK
    refine gc_loop (tocsinref04_Get_l17 a0 a1) (fun s7 t I' L' => I ≤ I' ∧ L = L' ∧ Knows 20 [(1, .string a1), (7, .slice A0_0 a0.length n0_0), (8, .int .i64 (a0.length : Int)), (9, .int .i64 s7)] t) (by kernel_rfl) ?_ hl6 ⟨(Imm.refl _), rfl, hK⟩
    rintro s7 o8 t I12 L' hb9 ⟨hI10, rfl, hK11⟩
    unfold tocsinref04_Get_l17 at hb9
    refine gk_at hK11 ?_
    refine gk_seq (by kernel_rfl) ?_
    refine gk_region (by kernel_rfl) ?_
    refine gl_pure 1 [1, 7, 8, 9, 10] (K' := [(1, .string a1), (7, .slice A0_0 a0.length n0_0), (8, .int .i64 (a0.length : Int)), (9, .int .i64 s7), (10, .bool (decide (s7 < (a0.length : Int))))]) (by kernel_rfl) ?_
    refine gl_atE (by kernel_rfl) ?_
    refine ge_seq ?_
    refine gk_seq (by kernel_rfl) ?_
    refine gk_cond (b := (decide (s7 < (a0.length : Int)))) (by kernel_rfl) (by kernel_rfl) (fun hc19 => ?_) (fun hc19 => ?_)
    · have hb9 := cond_t hc19 hb9
      refine gk_skip (by kernel_rfl) ?_
      refine ge_seq ?_
      refine gk_seq (by kernel_rfl) ?_
      refine gk_block (by kernel_rfl) ?_
      refine gk_seq (by kernel_rfl) ?_
      refine gk_region (by kernel_rfl) ?_
      obtain ⟨x20, hx21, hb9⟩ := bind_some hb9
      obtain ⟨p22, cs23, hR24, hA25, ha26⟩ := RepS.ixAt hx21 (hf0_0.mono hI10)
      have hi27 := ix_some hx21
      obtain rfl := kS49_open hR24
      refine gl_indexAddrF (c := n0_0) (T' := 22) (e := 50) (xs := (.tmp 7)) (xi := (.tmp 9)) (kd := .i64) ha26 hi27.1 hi27.2.1 (by kernel_rfl) (by kernel_rfl) (by kernel_rfl) (by kernel_rfl) (by kernel_rfl) ?_
      refine gl_loadA (T' := 50) (xp := (.tmp 11)) (p := p22) (cs := [.string x20.f0, .string x20.f1]) (by kernel_rfl) (by kernel_rfl) (by kernel_rfl) (by kernel_rfl) (hA25.take 2) ?_
      refine gl_alloc (T' := 50) (cs := #[.string (⟨#[]⟩ : ByteArray), .string (⟨#[]⟩ : ByteArray)]) (by kernel_rfl) (by kernel_rfl) (by kernel_rfl) (fun g28 => ?_)
      refine gl_storeB (T' := 50) (xp := (.tmp 6)) (xv := (.tmp 12)) (v := .agg #[.string x20.f0, .string x20.f1]) (g := g28) (off := 0) (cs := #[.string (⟨#[]⟩ : ByteArray), .string (⟨#[]⟩ : ByteArray)]) (cs' := #[.string x20.f0, .string x20.f1]) (by kernel_rfl) (by kernel_rfl) (by kernel_rfl) (by kernel_rfl) (by kernel_rfl) (Upd.set _ _ _ _) ?_ (by kernel_rfl)
      refine gl_atE (by kernel_rfl) ?_
      refine ge_seq ?_
      refine gk_seq (by kernel_rfl) ?_
      refine gk_region (by kernel_rfl) ?_
      refine gl_pure 1 [1, 6, 7, 8, 9, 13] (K' := [(1, .string a1), (6, .pointer (some ⟨g28, 0, none⟩)), (7, .slice A0_0 a0.length n0_0), (8, .int .i64 (a0.length : Int)), (9, .int .i64 s7), (13, .pointer (some ⟨g28, 0, none⟩))]) (by kernel_rfl) ?_
      refine gl_loadB (T' := 9) (xp := (.tmp 13)) (v := .string x20.f0) (g := g28) (off := 0) (cs := #[.string x20.f0, .string x20.f1]) (e := 50) (fz := (0, 0)) (by kernel_rfl) (by kernel_rfl) (by kernel_rfl) List.mem_cons_self (by kernel_rfl) ?_
      refine gl_pure 2 [1, 6, 7, 8, 9, 16] (K' := [(1, .string a1), (6, .pointer (some ⟨g28, 0, none⟩)), (7, .slice A0_0 a0.length n0_0), (8, .int .i64 (a0.length : Int)), (9, .int .i64 s7), (16, .bool (x20.f0.toList == a1.toList))]) (by kernel_rfl) ?_
      refine gl_atE (by kernel_rfl) ?_
      refine ge_seq ?_
      refine gk_cond (b := (x20.f0.toList == a1.toList)) (by kernel_rfl) (by kernel_rfl) (fun hc29 => ?_) (fun hc29 => ?_)
      · have hb9 := cond_t hc29 hb9
        refine gk_seq (by kernel_rfl) ?_
        refine gk_region (by kernel_rfl) ?_
        refine gl_pure 1 [17] (K' := [(17, .pointer (some ⟨g28, 1, none⟩))]) (by kernel_rfl) ?_
        refine gl_loadB (T' := 9) (xp := (.tmp 17)) (v := .string x20.f1) (g := g28) (off := 1) (cs := #[.string x20.f0, .string x20.f1]) (e := 50) (fz := (0, 0)) (by kernel_rfl) (by kernel_rfl) (by kernel_rfl) List.mem_cons_self (by kernel_rfl) ?_
        refine gl_pure 1 [4] (K' := [(4, .string x20.f1)]) (by kernel_rfl) ?_
        refine gl_atE (by kernel_rfl) ?_
        refine ge_seq ?_
        refine gk_reord (D := L) (Reord.skip (Reord.refl _)) ?_
        refine gk_ret (by kernel_rfl) ?_
        refine ge_block_ret ?_
        refine ge_seq_ret ?_
        obtain rfl := some_inj hb9
        refine ge_round_out (fun hrr => ?_) (by intro h; cases h)
        obtain rfl := hrr
        refine ge_block_ret ?_
        refine ge_seq_ret ?_
        refine ge_seq_ret ?_
        obtain rfl := some_inj hr
        exact ge_result trivial (ResOk.tmp (by kernel_rfl) ResOk.nil) hI10 ⟨rfl, rfl⟩
      · have hb9 := cond_f hc29 hb9
        refine gk_skip (by kernel_rfl) ?_
        refine ge_block_normal ?_
        refine ge_seq ?_
        refine gk_region (by kernel_rfl) ?_
        refine gl_pure 2 [1, 7, 8, 9] (K' := [(1, .string a1), (7, .slice A0_0 a0.length n0_0), (8, .int .i64 (a0.length : Int)), (9, .int .i64 (IntKind.wrap .i64 (s7 + 1)))]) (by kernel_rfl) ?_
        refine gl_reord (D := L) (Reord.skip (Reord.refl _)) ?_
        refine gl_atE (by kernel_rfl) ?_
        obtain rfl := some_inj hb9
        exact ge_round fun t ht => ⟨hI10, rfl, ht.pick (l := [1, 7, 8, 9]) (by kernel_rfl)⟩
    · have hb9 := cond_f hc19 hb9
      refine gk_exit (by kernel_rfl) ?_
      refine ge_seq_exit ?_
      obtain rfl := some_inj hb9
      refine ge_round_out (fun hrr => ?_) (by intro h; cases h)
      obtain rfl := hrr
      refine ge_block_hit (by kernel_rfl) ?_
      exact ge_mid fun t ht => ⟨_, rfl, hI10, rfl, ht.pick (l := []) (by kernel_rfl)⟩
  · rintro t I16 L' ⟨r13, rfl, hI14, rfl, hK15⟩
    refine ge_at hK15 ?_
    refine ge_seq ?_
    refine gk_seq (by kernel_rfl) ?_
    refine gk_region (by kernel_rfl) ?_
    refine gl_pure 1 [4] (K' := [(4, .string (⟨#[]⟩ : ByteArray))]) (by kernel_rfl) ?_
    refine gl_atE (by kernel_rfl) ?_
    refine ge_seq ?_
    refine gk_ret (by kernel_rfl) ?_
    obtain rfl := some_inj hr
    exact ge_result trivial (ResOk.tmp (by kernel_rfl) ResOk.nil) hI14 ⟨rfl, rfl⟩
/-! 28 tocsinlaw04_Spoil_f28 ('own',) -/
noncomputable def tocsinlaw04_Spoil_f28_l25 (a0 : List S49) : ((List S49) × Int) → Option (((List S49) × Int) ⊕ ((List S49))) := fun s10 =>
  bif (decide (s10.2 < (a0.length : Int))) then
  (Option.bind (ix s10.1 s10.2) fun (x28 : S49) =>
    some (Sum.inl ((lset s10.1 s10.2 (⟨(⟨#[115, 112, 111, 105, 108, 116]⟩ : ByteArray), (⟨#[]⟩ : ByteArray)⟩ : S49)), (IntKind.wrap .i64 (s10.2 + 1)))))
  else
  (some (Sum.inr s10.1))
noncomputable def tocsinlaw04_Spoil_f28 (a0 : List S49) : Option Unit :=
  Option.bind (loopO (tocsinlaw04_Spoil_f28_l25 a0) (a0, 0)) fun (r8 : (List S49)) =>
  Option.bind (app r8 [(⟨(⟨#[115, 112, 111, 105, 108, 116]⟩ : ByteArray), (⟨#[]⟩ : ByteArray)⟩ : S49)]) fun (zs44 : List S49) =>
  Option.bind (ix zs44 (IntKind.wrap .i64 ((zs44.length : Int) - 1))) fun (x50 : S49) =>
  some ()
theorem tocsinlaw04_Spoil_f28_walk {a0 : List S49} {A0 : Option Addr} {c0 : Nat} {C0 : Own} {I : Imm} {r : Unit} (hO0 : OwnS kS49 50 I A0 c0 a0 C0) (hr : tocsinlaw04_Spoil_f28 a0 = some r) (L : Own) :
    CallsTo Tryz.prog 28 #[.slice A0 a0.length c0] I (C0 ++ L) (fun v I' L' => v = .tuple #[] ∧ L = L') := by
  unfold tocsinlaw04_Spoil_f28 at hr
  refine callsTo_body (N := 23) Tryz.func28 (by kernel_rfl) (by kernel_rfl) (by kernel_rfl) ?_
  refine gk_pick [0] (K' := [(0, .slice A0 a0.length c0)]) (by kernel_rfl) ?_
  refine gk_seq (by kernel_rfl) ?_
  refine gk_seq (by kernel_rfl) ?_
  refine gk_region (by kernel_rfl) ?_
  refine gl_pure 3 [0, 4, 5] (K' := [(0, .slice A0 a0.length c0), (4, .int .i64 (a0.length : Int)), (5, .int .i64 0)]) (by kernel_rfl) ?_
  refine gl_atE (by kernel_rfl) ?_
  refine ge_seq ?_
  obtain ⟨r8, hl9, hr⟩ := bind_some hr
  refine gk_join (fun t I' L' => ∃ C20, OwnS kS49 50 I' A0 c0 r8 C20 ∧ I ≤ I' ∧ C20 ++ L = L' ∧ Knows 23 [(0, .slice A0 r8.length c0)] t) ?_ ?_
  · refine gk_block (by kernel_rfl) ?_
    refine gk_pick [0, 4, 5] (K' := [(0, .slice A0 a0.length c0), (4, .int .i64 (a0.length : Int)), (5, .int .i64 0)]) (by kernel_rfl) ?_
    intro t hK
    refine gc_loop (tocsinlaw04_Spoil_f28_l25 a0) (fun s10 t I' L' => ∃ C14, OwnS kS49 50 I' A0 c0 s10.1 C14 ∧ I ≤ I' ∧ C14 ++ L = L' ∧ Knows 23 [(0, .slice A0 s10.1.length c0), (4, .int .i64 (a0.length : Int)), (5, .int .i64 s10.2)] t) (by kernel_rfl) ?_ hl9 ⟨C0, hO0, (Imm.refl _), rfl, hK⟩
    rintro s10 o11 t I18 L' hb12 ⟨C14, hO15, hI13, rfl, hK17⟩
    unfold tocsinlaw04_Spoil_f28_l25 at hb12
    refine gk_at hK17 ?_
    refine gk_seq (by kernel_rfl) ?_
    refine gk_region (by kernel_rfl) ?_
    refine gl_pure 1 [0, 4, 5, 6] (K' := [(0, .slice A0 s10.1.length c0), (4, .int .i64 (a0.length : Int)), (5, .int .i64 s10.2), (6, .bool (decide (s10.2 < (a0.length : Int))))]) (by kernel_rfl) ?_
    refine gl_atE (by kernel_rfl) ?_
    refine ge_seq ?_
    refine gk_seq (by kernel_rfl) ?_
    refine gk_cond (b := (decide (s10.2 < (a0.length : Int)))) (by kernel_rfl) (by kernel_rfl) (fun hc27 => ?_) (fun hc27 => ?_)
    · have hb12 := cond_t hc27 hb12
      refine gk_skip (by kernel_rfl) ?_
      refine ge_seq ?_
      refine gk_seq (by kernel_rfl) ?_
      refine gk_block (by kernel_rfl) ?_
      refine gk_seq (by kernel_rfl) ?_
      refine gk_region (by kernel_rfl) ?_
      refine gl_pure 2 [0, 2, 4, 5] (K' := [(0, .slice A0 s10.1.length c0), (2, .int .i64 s10.2), (4, .int .i64 (a0.length : Int)), (5, .int .i64 s10.2)]) (by kernel_rfl) ?_
      refine gl_atE (by kernel_rfl) ?_
      refine ge_seq ?_
      refine gk_region (by kernel_rfl) ?_
      refine gl_pure 3 [0, 4, 5, 8, 9, 10] (K' := [(0, .slice A0 s10.1.length c0), (4, .int .i64 (a0.length : Int)), (5, .int .i64 s10.2), (8, .slice A0 s10.1.length c0), (9, .int .i64 s10.2), (10, .agg #[.string (⟨#[115, 112, 111, 105, 108, 116]⟩ : ByteArray), .string (⟨#[]⟩ : ByteArray)])]) (by kernel_rfl) ?_
      obtain ⟨x28, hx29, hb12⟩ := bind_some hb12
      refine gl_indexAddrW (d := kS49) (c := c0) (T' := 22) (e := 50) (xs := (.tmp 8)) (xi := (.tmp 9)) (kd := .i64) hx29 hO15 (Upd.selfC _ _) (by kernel_rfl) (by kernel_rfl) (by kernel_rfl) (by kernel_rfl) (by kernel_rfl) (fun p30 cs31 hR32 hA33 hp36 => ?_)
      obtain rfl := kS49_open hR32
      have hl39 : s10.1.length = (lset s10.1 s10.2 (⟨(⟨#[115, 112, 111, 105, 108, 116]⟩ : ByteArray), (⟨#[]⟩ : ByteArray)⟩ : S49)).length := by simp [lset]
      refine gl_storeE (d := kS49) (T' := 50) (xp := (.tmp 11)) (xv := (.tmp 10)) (v := .agg #[.string (⟨#[115, 112, 111, 105, 108, 116]⟩ : ByteArray), .string (⟨#[]⟩ : ByteArray)]) (off := 0) (y := (⟨(⟨#[115, 112, 111, 105, 108, 116]⟩ : ByteArray), (⟨#[]⟩ : ByteArray)⟩ : S49)) (fun X => X ++ L) hx29 hO15 (fun X => (Upd.head _ X _)) hp36 (by kernel_rfl) (by kernel_rfl) (by kernel_rfl) (by kernel_rfl) (by kernel_rfl) (by kernel_rfl) (fun cs h => by obtain rfl := kS49_open h; exact kS49_mk (x := (⟨(⟨#[115, 112, 111, 105, 108, 116]⟩ : ByteArray), (⟨#[]⟩ : ByteArray)⟩ : S49)) ) (by kernel_rfl) (fun C37 hO38 => ?_)
      try rw [hl39]
      refine gl_atE (by kernel_rfl) ?_
      refine ge_block_normal ?_
      refine ge_seq ?_
      refine gk_region (by kernel_rfl) ?_
      refine gl_pure 2 [0, 4, 5] (K' := [(0, .slice A0 (lset s10.1 s10.2 (⟨(⟨#[115, 112, 111, 105, 108, 116]⟩ : ByteArray), (⟨#[]⟩ : ByteArray)⟩ : S49)).length c0), (4, .int .i64 (a0.length : Int)), (5, .int .i64 (IntKind.wrap .i64 (s10.2 + 1)))]) (by kernel_rfl) ?_
      refine gl_atE (by kernel_rfl) ?_
      obtain rfl := some_inj hb12
      exact ge_round fun t ht => ⟨C37, hO38, hI13, rfl, ht.pick (l := [0, 4, 5]) (by kernel_rfl)⟩
    · have hb12 := cond_f hc27 hb12
      refine gk_exit (by kernel_rfl) ?_
      refine ge_seq_exit ?_
      obtain rfl := some_inj hb12
      refine ge_round_out (fun hrr => ?_) (by intro h; cases h)
      obtain rfl := hrr
      refine ge_block_hit (by kernel_rfl) ?_
      exact ge_mid fun t ht => ⟨C14, hO15, hI13, rfl, ht.pick (l := [0]) (by kernel_rfl)⟩
  · rintro t I24 L' ⟨C20, hO21, hI19, rfl, hK23⟩
    refine ge_at hK23 ?_
    refine ge_seq ?_
    refine gk_seq (by kernel_rfl) ?_
    refine gk_region (by kernel_rfl) ?_
    refine gl_pure 2 [13, 14] (K' := [(13, .slice A0 r8.length c0), (14, .agg #[.string (⟨#[115, 112, 111, 105, 108, 116]⟩ : ByteArray), .string (⟨#[]⟩ : ByteArray)])]) (by kernel_rfl) ?_
    refine gl_buildSlice (T' := 22) (e := 50) (n := 2) (len := 1) (parts := #[(0, (.tmp 14))]) (l := [(0, .agg #[.string (⟨#[115, 112, 111, 105, 108, 116]⟩ : ByteArray), .string (⟨#[]⟩ : ByteArray)])]) (cs := #[.string (⟨#[115, 112, 111, 105, 108, 116]⟩ : ByteArray), .string (⟨#[]⟩ : ByteArray)]) (by kernel_rfl) (by kernel_rfl) (by kernel_rfl) (by kernel_rfl) (by kernel_rfl) (fun g40 => ?_)
    have hO41 : OwnS kS49 50 I24 (some ⟨g40, 0, none⟩) 1 [(⟨(⟨#[115, 112, 111, 105, 108, 116]⟩ : ByteArray), (⟨#[]⟩ : ByteArray)⟩ : S49)] [(g40, .cells #[.string (⟨#[115, 112, 111, 105, 108, 116]⟩ : ByteArray), .string (⟨#[]⟩ : ByteArray)] 50)] := OwnS.lit (row_cons (l := [.string (⟨#[115, 112, 111, 105, 108, 116]⟩ : ByteArray), .string (⟨#[]⟩ : ByteArray)]) (kS49_mk (x := (⟨(⟨#[115, 112, 111, 105, 108, 116]⟩ : ByteArray), (⟨#[]⟩ : ByteArray)⟩ : S49)) ) (row_nil _ _)) rfl rfl rfl
    refine gl_reord (D := [(g40, .cells #[.string (⟨#[115, 112, 111, 105, 108, 116]⟩ : ByteArray), .string (⟨#[]⟩ : ByteArray)] 50)] ++ (C20 ++ L)) (Reord.refl _) ?_
    obtain ⟨zs44, hz45, hr⟩ := bind_some hr
    refine gl_append (xv := .slice (some ⟨g40, 0, none⟩) [(⟨(⟨#[115, 112, 111, 105, 108, 116]⟩ : ByteArray), (⟨#[]⟩ : ByteArray)⟩ : S49)].length 1) (d := kS49) (t := 22) (tx := 22) (e := 50) (s := (.tmp 13)) (x := (.tmp 15)) (xs := r8) (fun X => [(g40, .cells #[.string (⟨#[115, 112, 111, 105, 108, 116]⟩ : ByteArray), .string (⟨#[]⟩ : ByteArray)] 50)] ++ (X ++ L)) hz45 (by kernel_rfl) (by kernel_rfl) (by kernel_rfl) (by kernel_rfl) (by kernel_rfl) (by kernel_rfl) (fun X => (Upd.app _ (Upd.head _ X _))) hO21 (SrcOk.slice (c := 1) (e := 50) (n := 2) (OwnS.rd hO41 (Upd.selfC _ _)) (by kernel_rfl)) (fun A46 n47 C48 hO49 => ?_)
    refine gl_pure 1 [0] (K' := [(0, .slice A46 zs44.length n47)]) (by kernel_rfl) ?_
    refine gl_atE (by kernel_rfl) ?_
    refine ge_seq ?_
    refine gk_region (by kernel_rfl) ?_
    refine gl_pure 4 [17, 20] (K' := [(17, .slice A46 zs44.length n47), (20, .int .i64 (IntKind.wrap .i64 ((zs44.length : Int) - 1)))]) (by kernel_rfl) ?_
    obtain ⟨x50, hx51, hr⟩ := bind_some hr
    refine gl_indexAddrW (d := kS49) (c := n47) (T' := 22) (e := 50) (xs := (.tmp 17)) (xi := (.tmp 20)) (kd := .i64) hx51 hO49 (Upd.app _ (Upd.selfC _ _)) (by kernel_rfl) (by kernel_rfl) (by kernel_rfl) (by kernel_rfl) (by kernel_rfl) (fun p52 cs53 hR54 hA55 hp58 => ?_)
    obtain rfl := kS49_open hR54
    refine gl_pure 1 [22] (K' := [(22, .pointer (some (p52.add 1)))]) (by kernel_rfl) ?_
    have hl61 : zs44.length = (lset zs44 (IntKind.wrap .i64 ((zs44.length : Int) - 1)) (⟨x50.f0, (⟨#[116, 111, 111]⟩ : ByteArray)⟩ : S49)).length := by simp [lset]
    refine gl_storeE (d := kS49) (T' := 9) (xp := (.tmp 22)) (xv := (.const (.string (⟨#[116, 111, 111]⟩ : ByteArray)))) (v := .string (⟨#[116, 111, 111]⟩ : ByteArray)) (off := 1) (y := (⟨x50.f0, (⟨#[116, 111, 111]⟩ : ByteArray)⟩ : S49)) (fun X => [(g40, .cells #[.string (⟨#[115, 112, 111, 105, 108, 116]⟩ : ByteArray), .string (⟨#[]⟩ : ByteArray)] 50)] ++ (X ++ L)) hx51 hO49 (fun X => (Upd.app _ (Upd.head _ X _))) hp58 (by kernel_rfl) (by kernel_rfl) (by kernel_rfl) (by kernel_rfl) (by kernel_rfl) (by kernel_rfl) (fun cs h => by obtain rfl := kS49_open h; exact kS49_mk (x := (⟨x50.f0, (⟨#[116, 111, 111]⟩ : ByteArray)⟩ : S49)) ) (by kernel_rfl) (fun C59 hO60 => ?_)
    try rw [hl61]
    refine gl_reord (D := L) (Reord.skipC (Reord.skipC (Reord.refl _))) ?_
    refine gl_atE (by kernel_rfl) ?_
    obtain rfl := some_inj hr
    exact ge_result trivial ResOk.nil hI19 ⟨rfl, rfl⟩
/-! 21 tocsinlaw04_Kept_f21  -/
/-! 5 tocsinlaw04_LabelsMakes  -/
noncomputable def tocsinlaw04_LabelsMakes (a0 : List S49) (a1 : ByteArray) : Option Bool :=
  Option.bind (tocsinlaw04_Lent a0) fun (y1 : (List S49 × List S49)) =>
  Option.bind (labels_Make y1.1) fun (y15 : (List S49) × Int) =>
  Option.bind (labels_Make y1.1) fun (y24 : (List S49) × Int) =>
  Option.bind (tocsinref04_Make a0) fun (y33 : (List S49) × Int) =>
  Option.bind (Option.bind (tocsinlaw04_same y15.1 y33.1) fun (y47 : Bool) =>
    bif (!y47) then
    (some true)
    else
    (bif (y15.2 != y33.2) then
      (some true)
      else
      (Option.bind (tocsinlaw04_Kept (y1.1, y1.2) a0) fun (y51 : Bool) =>
        bif (!y51) then
        (some true)
        else
        (Option.bind (labels_Get y1.1 a1) fun (y54 : ByteArray) =>
          Option.bind (tocsinref04_Get a0 a1) fun (y56 : ByteArray) =>
          some (!(y54.toList == y56.toList)))))) fun (j42 : Bool) =>
  bif j42 then
  (some false)
  else
  (Option.bind (tocsinlaw04_Spoil_f28 y15.1) fun (y59 : Unit) =>
    Option.bind (Option.bind (tocsinlaw04_Kept (y1.1, y1.2) a0) fun (y69 : Bool) =>
      bif y69 then
      (Option.bind (tocsinlaw04_same y24.1 y33.1) fun (y72 : Bool) =>
        bif y72 then
        (Option.bind tocsinlaw04_awake fun (y75 : Bool) =>
          some y75)
        else
        (some false))
      else
      (some false)) fun (j64 : Bool) =>
    some j64)
theorem tocsinlaw04_LabelsMakes_walk {a0 : List S49} {A0_0 : Option Addr} {n0_0 : Nat} {a1 : ByteArray} {I : Imm} {r : Bool} (hG : Gl I)  (hf0_0 : RepS kS49 I A0_0 n0_0 a0) (hr : tocsinlaw04_LabelsMakes a0 a1 = some r) (L : Own) :
    CallsTo Tryz.prog 5 #[.slice A0_0 a0.length n0_0, .string a1] I L (fun v I' L' => v = .bool r ∧ L = L') := by
  unfold tocsinlaw04_LabelsMakes at hr
  refine callsTo_body (N := 66) Tryz.func5 (by kernel_rfl) (by kernel_rfl) (by kernel_rfl) ?_
  refine gk_pick [0, 1] (K' := [(0, .slice A0_0 a0.length n0_0), (1, .string a1)]) (by kernel_rfl) ?_
  refine gk_seq (by kernel_rfl) ?_
  refine gk_region (by kernel_rfl) ?_
  refine gl_pure 1 [0, 1] (K' := [(0, .slice A0_0 a0.length n0_0), (1, .string a1)]) (by kernel_rfl) ?_
  refine gl_atE (by kernel_rfl) ?_
  refine ge_seq ?_
  refine gk_seq (by kernel_rfl) ?_
  refine gk_region (by kernel_rfl) ?_
  refine gl_pure 1 [0, 1, 12] (K' := [(0, .slice A0_0 a0.length n0_0), (1, .string a1), (12, .slice A0_0 a0.length n0_0)]) (by kernel_rfl) ?_
  obtain ⟨y1, hx2, hr⟩ := bind_some hr
  refine gl_call (by kernel_rfl) (tocsinlaw04_Lent_walk (r := y1) hf0_0 hx2 _) ?_
  rintro v I3 L4 hI5 ⟨A6, c7, C8, hO9, hO10, rfl, rfl⟩
  refine gl_pure 1 [0, 1, 5] (K' := [(0, .slice A0_0 a0.length n0_0), (1, .string a1), (5, .slice A6 y1.1.length c7)]) (by kernel_rfl) ?_
  refine gl_atE (by kernel_rfl) ?_
  refine ge_seq ?_
  refine gk_seq (by kernel_rfl) ?_
  refine gk_region (by kernel_rfl) ?_
  refine gl_pure 1 [0, 1, 5, 15] (K' := [(0, .slice A0_0 a0.length n0_0), (1, .string a1), (5, .slice A6 y1.1.length c7), (15, .slice A6 y1.1.length c7)]) (by kernel_rfl) ?_
  refine gl_rest (Tk.step (Upd.rmC _ _) (Tk.nil _)) (fun J11 hJ12 hC13 => ?_)
  have hf14 := (OwnS.rest hO9 hJ12 hC13.left)
  obtain ⟨y15, hx16, hr⟩ := bind_some hr
  refine gl_call (by kernel_rfl) (labels_Make_walk (r := y15) (hG.mono (Imm.trans hI5 hJ12)) (RepS.head hO10 hf14) hx16 _) ?_
  rintro v I17 L18 hI19 ⟨A20, c21, C22, hO23, rfl, rfl⟩
  refine gl_pure 5 [0, 1, 5, 6, 7] (K' := [(0, .slice A0_0 a0.length n0_0), (1, .string a1), (5, .slice A6 y1.1.length c7), (6, .slice A20 y15.1.length c21), (7, .int .i64 y15.2)]) (by kernel_rfl) ?_
  refine gl_atE (by kernel_rfl) ?_
  refine ge_seq ?_
  refine gk_seq (by kernel_rfl) ?_
  refine gk_region (by kernel_rfl) ?_
  refine gl_pure 1 [0, 1, 5, 6, 7, 20] (K' := [(0, .slice A0_0 a0.length n0_0), (1, .string a1), (5, .slice A6 y1.1.length c7), (6, .slice A20 y15.1.length c21), (7, .int .i64 y15.2), (20, .slice A6 y1.1.length c7)]) (by kernel_rfl) ?_
  obtain ⟨y24, hx25, hr⟩ := bind_some hr
  refine gl_call (by kernel_rfl) (labels_Make_walk (r := y24) (hG.mono (Imm.trans (Imm.trans hI5 hJ12) hI19)) ((RepS.head hO10 hf14).mono hI19) hx25 _) ?_
  rintro v I26 L27 hI28 ⟨A29, c30, C31, hO32, rfl, rfl⟩
  refine gl_pure 5 [0, 1, 5, 6, 7, 8] (K' := [(0, .slice A0_0 a0.length n0_0), (1, .string a1), (5, .slice A6 y1.1.length c7), (6, .slice A20 y15.1.length c21), (7, .int .i64 y15.2), (8, .slice A29 y24.1.length c30)]) (by kernel_rfl) ?_
  refine gl_atE (by kernel_rfl) ?_
  refine ge_seq ?_
  refine gk_seq (by kernel_rfl) ?_
  refine gk_region (by kernel_rfl) ?_
  refine gl_pure 1 [0, 1, 5, 6, 7, 8, 25] (K' := [(0, .slice A0_0 a0.length n0_0), (1, .string a1), (5, .slice A6 y1.1.length c7), (6, .slice A20 y15.1.length c21), (7, .int .i64 y15.2), (8, .slice A29 y24.1.length c30), (25, .slice A0_0 a0.length n0_0)]) (by kernel_rfl) ?_
  obtain ⟨y33, hx34, hr⟩ := bind_some hr
  refine gl_call (by kernel_rfl) (tocsinref04_Make_walk (r := y33) (hf0_0.mono (Imm.trans (Imm.trans (Imm.trans hI5 hJ12) hI19) hI28)) hx34 _) ?_
  rintro v I35 L36 hI37 ⟨A38, c39, C40, hO41, rfl, rfl⟩
  refine gl_pure 5 [0, 1, 5, 6, 7, 8, 10, 11] (K' := [(0, .slice A0_0 a0.length n0_0), (1, .string a1), (5, .slice A6 y1.1.length c7), (6, .slice A20 y15.1.length c21), (7, .int .i64 y15.2), (8, .slice A29 y24.1.length c30), (10, .slice A38 y33.1.length c39), (11, .int .i64 y33.2)]) (by kernel_rfl) ?_
  refine gl_atE (by kernel_rfl) ?_
  refine ge_seq ?_
  refine gk_seq (by kernel_rfl) ?_
  refine gk_seq (by kernel_rfl) ?_
  obtain ⟨j42, hj43, hr⟩ := bind_some hr
  refine gk_join (fun t I' L' => I35 ≤ I' ∧ C40 ++ (C31 ++ (C22 ++ L)) = L' ∧ Knows 66 [(0, .slice A0_0 a0.length n0_0), (5, .slice A6 y1.1.length c7), (6, .slice A20 y15.1.length c21), (8, .slice A29 y24.1.length c30), (10, .slice A38 y33.1.length c39), (52, .bool j42)] t) ?_ ?_
  · refine gk_region (by kernel_rfl) ?_
    refine gl_pure 2 [0, 1, 5, 6, 7, 8, 10, 11, 29, 30] (K' := [(0, .slice A0_0 a0.length n0_0), (1, .string a1), (5, .slice A6 y1.1.length c7), (6, .slice A20 y15.1.length c21), (7, .int .i64 y15.2), (8, .slice A29 y24.1.length c30), (10, .slice A38 y33.1.length c39), (11, .int .i64 y33.2), (29, .slice A20 y15.1.length c21), (30, .slice A38 y33.1.length c39)]) (by kernel_rfl) ?_
    obtain ⟨y47, hx48, hj43⟩ := bind_some hj43
    refine gl_callB (r := .bool y47) (Tk.step (Upd.rmC _ _) (Tk.step (Upd.app _ (Upd.rmC _ _)) (Tk.nil _))) (by kernel_rfl) (fun J hJ hC => tocsinlaw04_same_walk (r := y47) (OwnS.rest (hO23.mono (Imm.trans hI28 hI37)) hJ hC.right.left) (OwnS.rest hO41 hJ hC.left) hx48 _) ?_
    refine gl_pure 2 [0, 1, 5, 6, 7, 8, 10, 11, 33] (K' := [(0, .slice A0_0 a0.length n0_0), (1, .string a1), (5, .slice A6 y1.1.length c7), (6, .slice A20 y15.1.length c21), (7, .int .i64 y15.2), (8, .slice A29 y24.1.length c30), (10, .slice A38 y33.1.length c39), (11, .int .i64 y33.2), (33, .bool (!y47))]) (by kernel_rfl) ?_
    refine gl_case 33 (b := (!y47)) (by kernel_rfl) (fun hc49 => ?_) (fun hc49 => ?_)
    · have hj43 := cond_t hc49 hj43
      refine gl_pure 19 [0, 5, 6, 8, 10, 52] (K' := [(0, .slice A0_0 a0.length n0_0), (5, .slice A6 y1.1.length c7), (6, .slice A20 y15.1.length c21), (8, .slice A29 y24.1.length c30), (10, .slice A38 y33.1.length c39), (52, .bool true)]) (by kernel_rfl) ?_
      refine gl_atE (by kernel_rfl) ?_
      obtain rfl := some_inj hj43
      exact ge_mid fun t ht => ⟨(Imm.refl _), rfl, ht.pick (l := [0, 5, 6, 8, 10, 52]) (by kernel_rfl)⟩
    · have hj43 := cond_f hc49 hj43
      refine gl_pure 5 [0, 1, 5, 6, 8, 10, 38] (K' := [(0, .slice A0_0 a0.length n0_0), (1, .string a1), (5, .slice A6 y1.1.length c7), (6, .slice A20 y15.1.length c21), (8, .slice A29 y24.1.length c30), (10, .slice A38 y33.1.length c39), (38, .bool (y15.2 != y33.2))]) (by kernel_rfl) ?_
      refine gl_case 38 (b := (y15.2 != y33.2)) (by kernel_rfl) (fun hc50 => ?_) (fun hc50 => ?_)
      · have hj43 := cond_t hc50 hj43
        refine gl_pure 14 [0, 5, 6, 8, 10, 52] (K' := [(0, .slice A0_0 a0.length n0_0), (5, .slice A6 y1.1.length c7), (6, .slice A20 y15.1.length c21), (8, .slice A29 y24.1.length c30), (10, .slice A38 y33.1.length c39), (52, .bool true)]) (by kernel_rfl) ?_
        refine gl_atE (by kernel_rfl) ?_
        obtain rfl := some_inj hj43
        exact ge_mid fun t ht => ⟨(Imm.refl _), rfl, ht.pick (l := [0, 5, 6, 8, 10, 52]) (by kernel_rfl)⟩
      · have hj43 := cond_f hc50 hj43
        refine gl_pure 2 [0, 1, 5, 6, 8, 10, 38, 39, 40] (K' := [(0, .slice A0_0 a0.length n0_0), (1, .string a1), (5, .slice A6 y1.1.length c7), (6, .slice A20 y15.1.length c21), (8, .slice A29 y24.1.length c30), (10, .slice A38 y33.1.length c39), (38, .bool false), (39, .slice A6 y1.1.length c7), (40, .slice A0_0 a0.length n0_0)]) (by kernel_rfl) ?_
        obtain ⟨y51, hx52, hj43⟩ := bind_some hj43
        refine gl_callQ (by kernel_rfl) (tocsinlaw04_Kept_walk (r := y51) ((RepS.head hO10 hf14).mono (Imm.trans (Imm.trans hI19 hI28) hI37)) (hf14.mono (Imm.trans (Imm.trans hI19 hI28) hI37)) (hf0_0.mono (Imm.trans (Imm.trans (Imm.trans (Imm.trans hI5 hJ12) hI19) hI28) hI37)) hx52 _) ?_
        refine gl_pure 3 [0, 1, 5, 6, 8, 10, 44] (K' := [(0, .slice A0_0 a0.length n0_0), (1, .string a1), (5, .slice A6 y1.1.length c7), (6, .slice A20 y15.1.length c21), (8, .slice A29 y24.1.length c30), (10, .slice A38 y33.1.length c39), (44, .bool (!y51))]) (by kernel_rfl) ?_
        refine gl_case 44 (b := (!y51)) (by kernel_rfl) (fun hc53 => ?_) (fun hc53 => ?_)
        · have hj43 := cond_t hc53 hj43
          refine gl_pure 8 [0, 5, 6, 8, 10, 52] (K' := [(0, .slice A0_0 a0.length n0_0), (5, .slice A6 y1.1.length c7), (6, .slice A20 y15.1.length c21), (8, .slice A29 y24.1.length c30), (10, .slice A38 y33.1.length c39), (52, .bool true)]) (by kernel_rfl) ?_
          refine gl_atE (by kernel_rfl) ?_
          obtain rfl := some_inj hj43
          exact ge_mid fun t ht => ⟨(Imm.refl _), rfl, ht.pick (l := [0, 5, 6, 8, 10, 52]) (by kernel_rfl)⟩
        · have hj43 := cond_f hc53 hj43
          refine gl_pure 2 [0, 1, 5, 6, 8, 10, 44, 45, 46] (K' := [(0, .slice A0_0 a0.length n0_0), (1, .string a1), (5, .slice A6 y1.1.length c7), (6, .slice A20 y15.1.length c21), (8, .slice A29 y24.1.length c30), (10, .slice A38 y33.1.length c39), (44, .bool false), (45, .slice A6 y1.1.length c7), (46, .string a1)]) (by kernel_rfl) ?_
          obtain ⟨y54, hx55, hj43⟩ := bind_some hj43
          refine gl_callQ (by kernel_rfl) (labels_Get_walk (r := y54) ((RepS.head hO10 hf14).mono (Imm.trans (Imm.trans hI19 hI28) hI37)) hx55 _) ?_
          refine gl_pure 2 [0, 5, 6, 8, 10, 44, 47, 48, 49] (K' := [(0, .slice A0_0 a0.length n0_0), (5, .slice A6 y1.1.length c7), (6, .slice A20 y15.1.length c21), (8, .slice A29 y24.1.length c30), (10, .slice A38 y33.1.length c39), (44, .bool false), (47, .string y54), (48, .slice A0_0 a0.length n0_0), (49, .string a1)]) (by kernel_rfl) ?_
          obtain ⟨y56, hx57, hj43⟩ := bind_some hj43
          refine gl_callQ (by kernel_rfl) (tocsinref04_Get_walk (r := y56) (hf0_0.mono (Imm.trans (Imm.trans (Imm.trans (Imm.trans hI5 hJ12) hI19) hI28) hI37)) hx57 _) ?_
          refine gl_pure 2 [0, 5, 6, 8, 10, 52] (K' := [(0, .slice A0_0 a0.length n0_0), (5, .slice A6 y1.1.length c7), (6, .slice A20 y15.1.length c21), (8, .slice A29 y24.1.length c30), (10, .slice A38 y33.1.length c39), (52, .bool (!(y54.toList == y56.toList)))]) (by kernel_rfl) ?_
          refine gl_atE (by kernel_rfl) ?_
          obtain rfl := some_inj hj43
          exact ge_mid fun t ht => ⟨(Imm.refl _), rfl, ht.pick (l := [0, 5, 6, 8, 10, 52]) (by kernel_rfl)⟩
  · rintro t I46 L' ⟨hI44, rfl, hK45⟩
    refine ge_at hK45 ?_
    refine ge_seq ?_
    refine gk_cond (b := j42) (by kernel_rfl) (by kernel_rfl) (fun hc58 => ?_) (fun hc58 => ?_)
    · have hr := cond_t hc58 hr
      refine gk_seq (by kernel_rfl) ?_
      refine gk_region (by kernel_rfl) ?_
      refine gl_pure 1 [4] (K' := [(4, .bool false)]) (by kernel_rfl) ?_
      refine gl_atE (by kernel_rfl) ?_
      refine ge_seq ?_
      refine gk_reord (D := L) (Reord.skipC (Reord.skipC (Reord.skipC (Reord.refl _)))) ?_
      refine gk_ret (by kernel_rfl) ?_
      refine ge_seq_ret ?_
      obtain rfl := some_inj hr
      exact ge_result trivial (ResOk.tmp (by kernel_rfl) ResOk.nil) (Imm.trans (Imm.trans (Imm.trans (Imm.trans (Imm.trans hI5 hJ12) hI19) hI28) hI37) hI44) ⟨rfl, rfl⟩
    · have hr := cond_f hc58 hr
      refine gk_skip (by kernel_rfl) ?_
      refine ge_seq ?_
      refine gk_seq (by kernel_rfl) ?_
      refine gk_region (by kernel_rfl) ?_
      refine gl_pure 1 [0, 5, 8, 10, 53] (K' := [(0, .slice A0_0 a0.length n0_0), (5, .slice A6 y1.1.length c7), (8, .slice A29 y24.1.length c30), (10, .slice A38 y33.1.length c39), (53, .slice A20 y15.1.length c21)]) (by kernel_rfl) ?_
      obtain ⟨y59, hx60, hr⟩ := bind_some hr
      refine gl_reord (D := C22 ++ (C40 ++ (C31 ++ L))) (Reord.step (Upd.app _ (Upd.app _ (Upd.rmC _ _))) (Reord.step (Upd.rmC _ _) (Reord.step (Upd.rmC _ _) (Reord.refl _)))) ?_
      refine gl_call (by kernel_rfl) (tocsinlaw04_Spoil_f28_walk (r := y59) (A0 := A20) (c0 := c21) (C0 := C22) (a0 := y15.1) (hO23.mono (Imm.trans (Imm.trans hI28 hI37) hI44)) hx60 _) ?_
      rintro v I61 L62 hI63 ⟨rfl, rfl⟩
      refine gl_atE (by kernel_rfl) ?_
      refine ge_seq ?_
      refine gk_seq (by kernel_rfl) ?_
      obtain ⟨j64, hj65, hr⟩ := bind_some hr
      refine gk_join (fun t I' L' => I61 ≤ I' ∧ L = L' ∧ Knows 66 [(4, .bool j64)] t) ?_ ?_
      · refine gk_region (by kernel_rfl) ?_
        refine gl_pure 2 [8, 10, 55, 56] (K' := [(8, .slice A29 y24.1.length c30), (10, .slice A38 y33.1.length c39), (55, .slice A6 y1.1.length c7), (56, .slice A0_0 a0.length n0_0)]) (by kernel_rfl) ?_
        obtain ⟨y69, hx70, hj65⟩ := bind_some hj65
        refine gl_callQ (by kernel_rfl) (tocsinlaw04_Kept_walk (r := y69) ((RepS.head hO10 hf14).mono (Imm.trans (Imm.trans (Imm.trans (Imm.trans hI19 hI28) hI37) hI44) hI63)) (hf14.mono (Imm.trans (Imm.trans (Imm.trans (Imm.trans hI19 hI28) hI37) hI44) hI63)) (hf0_0.mono (Imm.trans (Imm.trans (Imm.trans (Imm.trans (Imm.trans (Imm.trans hI5 hJ12) hI19) hI28) hI37) hI44) hI63)) hx70 _) ?_
        refine gl_pure 1 [8, 10, 58] (K' := [(8, .slice A29 y24.1.length c30), (10, .slice A38 y33.1.length c39), (58, .bool y69)]) (by kernel_rfl) ?_
        refine gl_case 58 (b := y69) (by kernel_rfl) (fun hc71 => ?_) (fun hc71 => ?_)
        · have hj65 := cond_t hc71 hj65
          refine gl_pure 2 [58, 59, 60] (K' := [(58, .bool true), (59, .slice A29 y24.1.length c30), (60, .slice A38 y33.1.length c39)]) (by kernel_rfl) ?_
          obtain ⟨y72, hx73, hj65⟩ := bind_some hj65
          refine gl_callB (r := .bool y72) (Tk.step (Upd.rmC _ _) (Tk.step (Upd.rmC _ _) (Tk.nil _))) (by kernel_rfl) (fun J hJ hC => tocsinlaw04_same_walk (r := y72) (OwnS.rest (hO32.mono (Imm.trans (Imm.trans hI37 hI44) hI63)) hJ hC.right.left) (OwnS.rest (hO41.mono (Imm.trans hI44 hI63)) hJ hC.left) hx73 _) ?_
          refine gl_pure 2 [63] (K' := [(63, .bool y72)]) (by kernel_rfl) ?_
          refine gl_case 63 (b := y72) (by kernel_rfl) (fun hc74 => ?_) (fun hc74 => ?_)
          · have hj65 := cond_t hc74 hj65
            obtain ⟨y75, hx76, hj65⟩ := bind_some hj65
            refine gl_callQ (by kernel_rfl) (tocsinlaw04_awake_walk (r := y75) (hG.mono (Imm.trans (Imm.trans (Imm.trans (Imm.trans (Imm.trans (Imm.trans hI5 hJ12) hI19) hI28) hI37) hI44) hI63)) hx76 _) ?_
            refine gl_pure 2 [4] (K' := [(4, .bool y75)]) (by kernel_rfl) ?_
            refine gl_reord (D := L) (Reord.skipC (Reord.skipC (Reord.refl _))) ?_
            refine gl_atE (by kernel_rfl) ?_
            obtain rfl := some_inj hj65
            exact ge_mid fun t ht => ⟨(Imm.refl _), rfl, ht.pick (l := [4]) (by kernel_rfl)⟩
          · have hj65 := cond_f hc74 hj65
            refine gl_pure 3 [4] (K' := [(4, .bool false)]) (by kernel_rfl) ?_
            refine gl_reord (D := L) (Reord.skipC (Reord.skipC (Reord.refl _))) ?_
            refine gl_atE (by kernel_rfl) ?_
            obtain rfl := some_inj hj65
            exact ge_mid fun t ht => ⟨(Imm.refl _), rfl, ht.pick (l := [4]) (by kernel_rfl)⟩
        · have hj65 := cond_f hc71 hj65
          refine gl_pure 8 [4] (K' := [(4, .bool false)]) (by kernel_rfl) ?_
          refine gl_reord (D := L) (Reord.skipC (Reord.skipC (Reord.refl _))) ?_
          refine gl_atE (by kernel_rfl) ?_
          obtain rfl := some_inj hj65
          exact ge_mid fun t ht => ⟨(Imm.refl _), rfl, ht.pick (l := [4]) (by kernel_rfl)⟩
      · rintro t I68 L' ⟨hI66, rfl, hK67⟩
        refine ge_at hK67 ?_
        refine ge_seq ?_
        refine gk_ret (by kernel_rfl) ?_
        obtain rfl := some_inj hr
        exact ge_result trivial (ResOk.tmp (by kernel_rfl) ResOk.nil) (Imm.trans (Imm.trans (Imm.trans (Imm.trans (Imm.trans (Imm.trans (Imm.trans hI5 hJ12) hI19) hI28) hI37) hI44) hI63) hI66) ⟨rfl, rfl⟩
/-! 37 labels_With  -/
/-! 112 tocsinref04_has  -/
/-! 65 tocsinref04_Pick  -/
/-! 38 tocsinref04_With  -/
/-! 39 labels_Without  -/
/-! 40 tocsinref04_Keep  -/
/-! 41 labels_Keep  -/
/-! 7 tocsinlaw04_LabelsTurns  -/
end Go.Proofs.YtnlkfajnaelnnaaGreatDoor

set_option linter.unusedVariables false
set_option linter.unusedSimpArgs false
set_option maxRecDepth 100000
namespace Go.Proofs.YtnlkfajnaelnnaaGreatDoor
open Go.GB
/-! 8 tocsinlaw04_LabelsAlgebra  -/
end Go.Proofs.YtnlkfajnaelnnaaGreatDoor

/- From data that are read to what the walks ask: rows. -/
set_option linter.unusedVariables false
namespace Go.GB
open Go Go.RowKit
open Go.Proofs.YtnlkfajnaelnnaaGreatDoor.Rows (uptoBulk uptoBulkAll)

def immOf (W : World) : Imm := ⟨fun b => W.heap[b]?, W.os, W.tape, W.output, 0⟩
theorem holds_immOf (W : World) : Holds (immOf W) [] W := ⟨fun _ _ h => h, by simp, by simp, by simp, rfl, rfl, rfl, Nat.zero_le _⟩
theorem below_of {I' : Imm} {L' : Own} {W W' : World} (h : Holds I' L' W') (hI : immOf W ≤ I') : Below W.heap.size W W' := by
  refine ⟨by rw [h.os, hI.os]; rfl, by rw [h.tape, hI.tape]; rfl, by rw [h.out, hI.out]; rfl, ?_, fun k hk => ?_⟩
  · rcases Nat.eq_zero_or_pos W.heap.size with h0 | h0
    · omega
    · have : W.heap[W.heap.size - 1]? = some (W.heap[W.heap.size - 1]'(by omega)) := Array.getElem?_eq_getElem _
      have := lt_of_heap (h.imm _ _ (hI.h _ _ this))
      omega
  · have : W.heap[k]? = some (W.heap[k]) := Array.getElem?_eq_getElem hk
    rw [this]; exact h.imm _ _ (hI.h _ _ this)
theorem imm_cell {W : World} {a : Addr} {v : Value} (h : W.cell? a = some v) : (immOf W).cell a = some v := h
theorem run_of_cells {W : World} {a : Addr} {n : Nat} {cs : List Value} (h : W.cells? 0 a n = some cs) : RunAt (immOf W) a cs := fun j v hj => by
  unfold World.cells? at h
  rw [if_pos (Nat.zero_le _)] at h
  have hl := mapM_some_length h
  have hj' : j < n := by have := (List.getElem?_eq_some_iff.1 hj).1; simpa [hl] using this
  have := mapM_some_get h j j (by simp [hj'])
  exact imm_cell (this.trans hj)

def Reads {α : Type} (P : Program) (T : TypeId) (d : Kd α) (w : α → Nat → Prop) : Prop := ∀ {H : Type} {enc : TypeId × Value → H} {W : World} {spare : Nat → Bool} {held : Bool} {fuel : Nat} {cs : List Value} {x : DataW H × List MemPlace},
  DataW.trod enc P W 0 spare held fuel T cs = some x → uptoBulk x.1 ≤ 1048576 → ∃ y, d.R (immOf W) y cs ∧ w y (uptoBulk x.1)
theorem reads_str {P : Program} {T : TypeId} (h : P.underlying T = some .string) : Reads P T Kd.str wStr := fun ht _ => by
  obtain ⟨n, rfl, rfl, _⟩ := DataW.trod_string h ht
  exact ⟨n, rfl, by simp [uptoBulk, wStr]⟩
theorem bulk_pos {H : Type} (d : DataW H) : 1 ≤ uptoBulk d := by
  cases d with
  | lit l => cases l <;> simp [uptoBulk]
  | _ => simp [uptoBulk]
theorem bulkAll_ge {H : Type} : ∀ (l : List (DataW H)), l.length ≤ uptoBulkAll l
  | [] => by simp
  | d :: r => by have := bulk_pos d; have := bulkAll_ge r; simp only [uptoBulkAll, List.length_cons]; omega
theorem bulkAll_mem {H : Type} {d : DataW H} : ∀ {l : List (DataW H)}, d ∈ l → uptoBulk d ≤ uptoBulkAll l
  | [], h => by cases h
  | e :: r, h => by
    simp only [uptoBulkAll]
    rcases List.mem_cons.1 h with rfl | h
    · omega
    · have := bulkAll_mem h; omega
theorem choose_list {α : Type} {p : Nat → α → Prop} : ∀ (n : Nat), (∀ i, i < n → ∃ y, p i y) → ∃ xs : List α, xs.length = n ∧ ∀ i x, xs[i]? = some x → p i x
  | 0, _ => ⟨[], rfl, fun i x h => by simp at h⟩
  | m + 1, key => by
    obtain ⟨xs, hxl, hx⟩ := choose_list m (fun i hi => key i (by omega))
    obtain ⟨y, hy⟩ := key m (by omega)
    refine ⟨xs ++ [y], by simp [hxl], fun i x h => ?_⟩
    rcases Nat.lt_or_ge i m with hi | hi
    · rw [List.getElem?_append_left (by omega)] at h; exact hx i x h
    · rw [List.getElem?_append_right (by omega), hxl] at h
      have hi0 : i - m = 0 := by have := (List.getElem?_eq_some_iff.1 h).1; simpa using this
      rw [hi0] at h
      simp only [List.getElem?_cons_zero, Option.some.injEq] at h
      subst h
      rw [show i = m from by omega]
      exact hy
theorem wSl_of {α H : Type} {w : α → Nat → Prop} : ∀ (xs : List α) (es : List (DataW H)), xs.length = es.length → (∀ (i : Nat) (x : α) (e : DataW H), xs[i]? = some x → es[i]? = some e → w x (uptoBulk e)) → wSl w xs (uptoBulkAll es)
  | [], _, _, _ => trivial
  | x :: r, [], h, _ => by simp at h
  | x :: r, e :: es, h, hw => ⟨uptoBulk e, uptoBulkAll es, hw 0 x e rfl rfl, wSl_of r es (by simpa using h) (fun i x' e' h1 h2 => hw (i + 1) x' e' (by simpa using h1) (by simpa using h2)), by simp [uptoBulkAll], bulk_pos e⟩
theorem reads_slice {α : Type} {P : Program} {T e : TypeId} {d : Kd α} {w : α → Nat → Prop} (hu : P.underlying T = some (.slice e)) (hn : P.cellsOf e = d.n) (hr : Reads P e d w) : Reads P T (Kd.sl d) (wSl w) := by
  intro H enc W spare held fuel cs x ht hb
  rcases DataW.trod_slice hu ht with ⟨rfl, rfl⟩ | ⟨a, len, cap, elems, rest, n, rfl, rfl, rfl, _, hlc, hcm, hel, hat, _, _⟩
  · exact ⟨[], ⟨none, 0, rfl, RepS.nil _ _⟩, trivial⟩
  · simp only [uptoBulk] at hb
    have hlen := bulkAll_ge (elems.map (·.1))
    rw [List.length_map, hel] at hlen
    have key : ∀ i, i < len → ∃ y, (∃ cs', d.R (immOf W) y cs' ∧ RunAt (immOf W) (a.add (i * d.n)) cs') ∧ ∀ e, (elems.map (·.1))[i]? = some e → w y (uptoBulk e) := fun i hi => by
      have h1 := hat i hi
      have hie : i < elems.length := by omega
      rw [List.getElem?_eq_getElem hie] at h1
      simp only [Option.bind_eq_some_iff] at h1
      obtain ⟨cs', h2, h3⟩ := h1
      obtain ⟨y, hy, hw⟩ := hr h3 (by
        have := bulkAll_mem (l := elems.map (·.1)) (List.mem_map_of_mem (List.getElem_mem hie))
        omega)
      refine ⟨y, ⟨cs', hy, ?_⟩, fun e he => ?_⟩
      · rw [← hn]
        exact run_of_cells h2
      · rw [List.getElem?_map, List.getElem?_eq_getElem hie] at he
        cases he; exact hw
    have hex := choose_list (p := fun i y => (∃ cs', d.R (immOf W) y cs' ∧ RunAt (immOf W) (a.add (i * d.n)) cs') ∧ ∀ e, (elems.map (·.1))[i]? = some e → w y (uptoBulk e)) len key
    obtain ⟨xs, hxl, hx⟩ := hex
    refine ⟨xs, ⟨some a, cap, by rw [hxl], by omega, by unfold maxLen'; omega, fun i x h => ?_⟩, ?_⟩
    · obtain ⟨⟨cs', h1, h2⟩, _⟩ := hx i x h
      exact ⟨a, cs', rfl, h1, h2⟩
    · exact (wSl_of xs (elems.map (·.1)) (by simp [hxl, hel]) (fun i x e h1 h2 => (hx i x h1).2 e h2)).le (by simp only [uptoBulk]; omega)
theorem pairR {α β : Type} {a : Kd α} {b : Kd β} {I : Imm} {x : α} {y : β} {cs : List Value} {o n m : Nat} (h0 : a.R I x ((cs.drop o).take n)) (h1 : b.R I y (cs.drop m)) (hm : m = o + n) : (Kd.pair a b).R I (x, y) (cs.drop o) := by
  subst hm
  exact ⟨(cs.drop o).take n, (cs.drop o).drop n, (List.take_append_drop _ _).symm, h0, by rw [List.drop_drop]; exact h1⟩
theorem lastR {α : Type} {a : Kd α} {I : Imm} {x : α} {cs : List Value} {o n : Nat} (h : a.R I x ((cs.drop o).take n)) (hl : cs.length = o + n) : a.R I x (cs.drop o) := by
  rwa [List.take_of_length_le (by rw [List.length_drop]; omega)] at h
def fieldD (P : Program) (T : TypeId) (i : Nat) : Field := (P.fieldsOf T).getD i default
/-- A field of a struct that is read. -/
theorem field_read {α : Type} {H : Type} {enc : TypeId × Value → H} {P : Program} {W : World} {spare : Nat → Bool} {held : Bool} {m : Nat} {T t : TypeId} {d : Kd α} {w : α → Nat → Prop} {cs : List Value} {xs : List (DataW H × List MemPlace)} {x : DataW H × List MemPlace} {i o n : Nat}
    (hf : ∀ (i : Nat) (f : Field), (P.fieldsOf T)[i]? = some f → DataW.trod enc P W 0 spare held m f.type ((cs.drop f.offset).take (P.cellsOf f.type)) = xs[i]?)
    (hx : xs[i]? = some x) (h1 : (P.fieldsOf T)[i]? = some (fieldD P T i)) (h2 : (fieldD P T i).type = t) (h3 : (fieldD P T i).offset = o) (h4 : P.cellsOf t = n) (hr : Reads P t d w) (hb : uptoBulk x.1 ≤ 1048576) : ∃ y, d.R (immOf W) y ((cs.drop o).take n) ∧ w y (uptoBulk x.1) := by
  have := hf i _ h1
  rw [hx, h2, h3, h4] at this
  exact hr this hb
theorem calls_of {P : Program} {f : FuncId} {args : Array Value} {W : World} {b : Value} (h : CallsTo P f args (immOf W) [] (fun v I' L' => v = b ∧ [] = L')) : Calls P f args W fun e W' => e = .returned b ∧ Below W.heap.size W W' :=
  (h W (holds_immOf W)).mono fun e W' ⟨v, I', L', he, hI, hh, hv, _⟩ => ⟨by rw [he, hv], below_of hh hI⟩
end Go.GB

/- Functions that can be run out: twins with a bound on rounds. -/
set_option linter.unusedVariables false
namespace Go.GB
def loopF {σ ρ : Type} : Nat → (σ → Option (σ ⊕ ρ)) → σ → Option ρ
  | 0, _, _ => none
  | n + 1, body, s => match body s with
    | none => none
    | some (.inr r) => some r
    | some (.inl s') => loopF n body s'
def OLe {α : Type} (x y : Option α) : Prop := ∀ r, x = some r → y = some r
theorem OLe.refl {α : Type} (x : Option α) : OLe x x := fun _ h => h
theorem OLe.bind {α β : Type} {x y : Option α} {f g : α → Option β} (h : OLe x y) (hf : ∀ a, OLe (f a) (g a)) : OLe (Option.bind x f) (Option.bind y g) := fun r hr => by
  obtain ⟨a, ha, hb⟩ := bind_some hr
  rw [h a ha]; exact hf a r hb
theorem OLe.cond {α : Type} {b : Bool} {x y x' y' : Option α} (h : OLe x x') (h' : OLe y y') : OLe (bif b then x else y) (bif b then x' else y') := by
  cases b
  · exact h'
  · exact h
theorem loopF_R {σ ρ : Type} {body body' : σ → Option (σ ⊕ ρ)} (h : ∀ s, OLe (body s) (body' s)) : ∀ (n : Nat) (s : σ) (r : ρ), loopF n body s = some r → LoopR body' s r
  | 0, _, _, hr => by cases hr
  | n + 1, s, r, hr => by
    unfold loopF at hr
    cases hb : body s with
    | none => rw [hb] at hr; cases hr
    | some o =>
      rw [hb] at hr
      cases o with
      | inl s' => exact .step (h s _ hb) (loopF_R h n s' r hr)
      | inr r' => cases hr; exact .done (h s _ hb)
theorem OLe.loop {σ ρ : Type} {body body' : σ → Option (σ ⊕ ρ)} {n : Nat} {s : σ} (h : ∀ s, OLe (body s) (body' s)) : OLe (loopF n body s) (loopO body' s) := fun r hr => loopO_of (loopF_R h n s r hr)

/-! ### Loops that go up -/
end Go.GB

/- What plain functions come to: a calculus for 'it answers, and its answer is ..'. -/
set_option linter.unusedVariables false
namespace Go.GB
theorem wrap_up {i : Nat} (h : i < 4294967296) : IntKind.wrap .i64 ((i : Int) + 1) = ((i + 1 : Nat) : Int) := by rw [wrap64 (by omega) (by omega)]; omega
theorem ix_nat {α : Type} (xs : List α) (i : Nat) : ix xs (i : Int) = xs[i]? := by simp [ix]
theorem size_zero_iff {s : ByteArray} : (s.toList == (⟨#[]⟩ : ByteArray).toList) = decide (s.size = 0) := by
  rw [ByteArray.toList_eq, ByteArray.toList_eq]
  obtain ⟨⟨l⟩⟩ := s
  cases l <;> rfl
theorem toList_inj {a b : ByteArray} : (a.toList == b.toList) = true ↔ a = b := by
  rw [ByteArray.toList_eq, ByteArray.toList_eq]
  obtain ⟨⟨x⟩⟩ := a
  obtain ⟨⟨y⟩⟩ := b
  simp
end Go.GB

set_option linter.unusedVariables false
namespace Go.GB
/-- One round. -/
theorem loopO_step {σ ρ : Type} {b : σ → Option (σ ⊕ ρ)} {s s' : σ} (h : b s = some (.inl s')) : loopO b s = loopO b s' := by rw [loopO_eq, h]; rfl
theorem loopO_done {σ ρ : Type} {b : σ → Option (σ ⊕ ρ)} {s : σ} {r : ρ} (h : b s = some (.inr r)) : loopO b s = some r := by rw [loopO_eq, h]; rfl
/-- A search that goes up: the first place at which there is something to tell. -/
theorem up_find {ρ : Type} {body : Int → Option (Int ⊕ (Unit ⊕ ρ))} {n : Nat} (p : Nat → Option ρ) (h : ∀ i : Nat, i < n → body i = some (match p i with | some r => .inr (.inr r) | none => .inl ((i + 1 : Nat) : Int))) (he : body n = some (.inr (.inl ()))) :
    loopO body 0 = some (match (List.range n).findSome? p with | some r => .inr r | none => .inl ()) := by
  have key : ∀ d i : Nat, i + d = n → loopO body i = some (match (List.range' i d).findSome? p with | some r => .inr r | none => .inl ()) := by
    intro d
    induction d with
    | zero =>
      intro i hi
      have : i = n := by omega
      subst this
      simp [loopO_done he]
    | succ d ih =>
      intro i hi
      have h1 := h i (by omega)
      rw [List.range'_succ, List.findSome?_cons]
      cases hp : p i with
      | some r => rw [hp] at h1; rw [loopO_done h1]
      | none => rw [hp] at h1; rw [loopO_step h1]; exact ih (i + 1) (by omega)
  have := key n 0 (by omega)
  rw [List.range_eq_range']
  exact this
/-- All of a list, by a loop that goes up. -/
theorem up_all {body : Int → Option (Int ⊕ (Unit ⊕ Bool))} {n : Nat} (q : Nat → Bool) (h : ∀ i : Nat, i < n → body i = some (bif q i then .inl ((i + 1 : Nat) : Int) else .inr (.inr false))) (he : body n = some (.inr (.inl ()))) :
    loopO body 0 = some (if (List.range n).all q then .inl () else .inr false) := by
  rw [up_find (fun i => if q i then none else some false) (fun i hi => by rw [h i hi]; cases q i <;> rfl) he]
  congr 1
  by_cases ha : (List.range n).all q = true
  · rw [if_pos ha]
    have : (List.range n).findSome? (fun i => if q i then none else some false) = none := by
      rw [List.findSome?_eq_none_iff]
      intro i hi
      rw [if_pos (List.all_eq_true.1 ha i hi)]
    rw [this]
  · rw [if_neg ha]
    have hx : (List.range n).all q = false := by simpa using ha
    rw [List.all_eq_false] at hx
    obtain ⟨i, hi, hq⟩ := hx
    cases hf : (List.range n).findSome? (fun i => if q i then none else some false) with
    | none =>
      rw [List.findSome?_eq_none_iff] at hf
      have := hf i hi
      rw [if_neg hq] at this; cases this
    | some b =>
      obtain ⟨j, _, hj⟩ := List.exists_of_findSome?_eq_some hf
      split at hj <;> cases hj
      rfl
theorem wrapU64 {x : Int} (h : 0 ≤ x) (h' : x < 18446744073709551616) : IntKind.wrap .u64 x = x := by
  unfold IntKind.wrap
  simp [IntKind.bits, IntKind.signed]
  omega
theorem and63 : ∀ c : Fin 256, bitAnd .u8 ((c.val : Nat) : Int) 63 = ((c.val % 64 : Nat) : Int) := by decide +kernel
theorem and192 : ∀ c : Fin 256, (bitAnd .u8 ((c.val : Nat) : Int) 192 != 128) = !(decide (c.val / 64 = 2)) := by decide +kernel
theorem and31 : ∀ c : Fin 256, bitAnd .i64 ((c.val : Nat) : Int) 31 = ((c.val % 32 : Nat) : Int) := by decide +kernel
theorem and15 : ∀ c : Fin 256, bitAnd .i64 ((c.val : Nat) : Int) 15 = ((c.val % 16 : Nat) : Int) := by decide +kernel
theorem and7 : ∀ c : Fin 256, bitAnd .i64 ((c.val : Nat) : Int) 7 = ((c.val % 8 : Nat) : Int) := by decide +kernel
theorem bx_at {s : ByteArray} {i : Nat} (h : i < s.size) : bx s (i : Int) = some (((s.data.toList.getD i 0).toNat : Nat) : Int) := by
  unfold bx
  rw [if_pos ⟨by omega, by omega⟩]
  unfold byteAt
  rw [Int.toNat_natCast]
  simp [List.getD_eq_getElem?_getD]
theorem size_list (s : ByteArray) : s.data.toList.length = s.size := by rw [Array.length_toList]; rfl
theorem nil_size (s : ByteArray) : (s.toList == (⟨#[]⟩ : ByteArray).toList) = decide (s.size = 0) := size_zero_iff
end Go.GB
