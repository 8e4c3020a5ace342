/- Parts: N1. -/
import Derived.Test.YtcnnbaneoehilaaDoorN1bk
set_option linter.unusedVariables false
set_option linter.unusedSimpArgs false
set_option maxRecDepth 100000
namespace Go.Proofs.YtcnnbaneoehilaaDoor
open Go.GB
/-! 14 tocsinref26_SameSets  -/
noncomputable def tocsinref26_SameSets_l18 (a0 : List (List S50)) (a1 : List (List S50)) : Int → Option ((Int) ⊕ ((Unit) ⊕ (Bool))) := fun s8 =>
  bif (decide (s8 < (a0.length : Int))) then
  (Option.bind (ix a0 s8) fun (x21 : List S50) =>
    Option.bind (ix a1 s8) fun (x32 : List S50) =>
    Option.bind (tocsinref04_Same x21 x32) fun (y43 : Bool) =>
    bif (!y43) then
    (some (Sum.inr (Sum.inr false)))
    else
    (some (Sum.inl (IntKind.wrap .i64 (s8 + 1)))))
  else
  (some (Sum.inr (Sum.inl ())))
noncomputable def tocsinref26_SameSets (a0 : List (List S50)) (a1 : List (List S50)) : Option Bool :=
  bif ((a0.length : Int) != (a1.length : Int)) then
  (some false)
  else
  (Option.bind (loopO (tocsinref26_SameSets_l18 a0 a1) 0) fun (r6 : (Unit) ⊕ (Bool)) =>
    match r6 with
    | Sum.inl r14 => some true
    | Sum.inr v46 => some v46)
theorem tocsinref26_SameSets_walk {a0 : List (List S50)} {A0_0 : Option Addr} {n0_0 : Nat} {a1 : List (List S50)} {A1_0 : Option Addr} {n1_0 : Nat} {I : Imm} {r : Bool}  (hf0_0 : RepS (Kd.sl kS50) I A0_0 n0_0 a0)  (hf1_0 : RepS (Kd.sl kS50) I A1_0 n1_0 a1) (hr : tocsinref26_SameSets a0 a1 = some r) (L : Own) :
    CallsTo Tryd.prog 14 #[.slice A0_0 a0.length n0_0, .slice A1_0 a1.length n1_0] I L (fun v I' L' => v = .bool r ∧ L = L') := by
  unfold tocsinref26_SameSets at hr
  refine callsTo_body (N := 27) Tryd.func14 (by kernel_rfl) (by kernel_rfl) (by kernel_rfl) ?_
  refine gk_pick [0, 1] (K' := [(0, .slice A0_0 a0.length n0_0), (1, .slice A1_0 a1.length n1_0)]) (by kernel_rfl) ?_
  refine gk_seq (by kernel_rfl) ?_
  refine gk_region (by kernel_rfl) ?_
  refine gl_pure 1 [0, 1] (K' := [(0, .slice A0_0 a0.length n0_0), (1, .slice A1_0 a1.length n1_0)]) (by kernel_rfl) ?_
  refine gl_atE (by kernel_rfl) ?_
  refine ge_seq ?_
  refine gk_seq (by kernel_rfl) ?_
  refine gk_seq (by kernel_rfl) ?_
  refine gk_region (by kernel_rfl) ?_
  refine gl_pure 5 [0, 1, 10] (K' := [(0, .slice A0_0 a0.length n0_0), (1, .slice A1_0 a1.length n1_0), (10, .bool ((a0.length : Int) != (a1.length : Int)))]) (by kernel_rfl) ?_
  refine gl_atE (by kernel_rfl) ?_
  refine ge_seq ?_
  refine gk_cond (b := ((a0.length : Int) != (a1.length : Int))) (by kernel_rfl) (by kernel_rfl) (fun hc1 => ?_) (fun hc1 => ?_)
  · have hr := cond_t hc1 hr
    refine gk_seq (by kernel_rfl) ?_
    refine gk_region (by kernel_rfl) ?_
    refine gl_pure 1 [4] (K' := [(4, .bool false)]) (by kernel_rfl) ?_
    refine gl_atE (by kernel_rfl) ?_
    refine ge_seq ?_
    refine gk_ret (by kernel_rfl) ?_
    refine ge_seq_ret ?_
    obtain rfl := some_inj hr
    exact ge_result trivial (ResOk.tmp (by kernel_rfl) ResOk.nil) (Imm.refl _) ⟨rfl, rfl⟩
  · have hr := cond_f hc1 hr
    refine gk_skip (by kernel_rfl) ?_
    refine ge_seq ?_
    refine gk_seq (by kernel_rfl) ?_
    refine gk_seq (by kernel_rfl) ?_
    refine gk_region (by kernel_rfl) ?_
    refine gl_pure 3 [0, 1, 12, 13] (K' := [(0, .slice A0_0 a0.length n0_0), (1, .slice A1_0 a1.length n1_0), (12, .int .i64 (a0.length : Int)), (13, .int .i64 0)]) (by kernel_rfl) ?_
    refine gl_atE (by kernel_rfl) ?_
    refine ge_seq ?_
    obtain ⟨r6, hl7, hr⟩ := bind_some hr
    refine gk_join (fun t I' L' => ∃ r14, r6 = Sum.inl r14 ∧ I ≤ I' ∧ L = L' ∧ Knows 27 [] t) ?_ ?_
    · refine gk_block (by kernel_rfl) ?_
      refine gk_pick [0, 1, 12, 13] (K' := [(0, .slice A0_0 a0.length n0_0), (1, .slice A1_0 a1.length n1_0), (12, .int .i64 (a0.length : Int)), (13, .int .i64 0)]) (by kernel_rfl) ?_
      intro t hK
      refine gc_loop (tocsinref26_SameSets_l18 a0 a1) (fun s8 t I' L' => I ≤ I' ∧ L = L' ∧ Knows 27 [(0, .slice A0_0 a0.length n0_0), (1, .slice A1_0 a1.length n1_0), (12, .int .i64 (a0.length : Int)), (13, .int .i64 s8)] t) (by kernel_rfl) ?_ hl7 ⟨(Imm.refl _), rfl, hK⟩
      rintro s8 o9 t I13 L' hb10 ⟨hI11, rfl, hK12⟩
      unfold tocsinref26_SameSets_l18 at hb10
      refine gk_at hK12 ?_
      refine gk_seq (by kernel_rfl) ?_
      refine gk_region (by kernel_rfl) ?_
      refine gl_pure 1 [0, 1, 12, 13, 14] (K' := [(0, .slice A0_0 a0.length n0_0), (1, .slice A1_0 a1.length n1_0), (12, .int .i64 (a0.length : Int)), (13, .int .i64 s8), (14, .bool (decide (s8 < (a0.length : Int))))]) (by kernel_rfl) ?_
      refine gl_atE (by kernel_rfl) ?_
      refine ge_seq ?_
      refine gk_seq (by kernel_rfl) ?_
      refine gk_cond (b := (decide (s8 < (a0.length : Int)))) (by kernel_rfl) (by kernel_rfl) (fun hc20 => ?_) (fun hc20 => ?_)
      · have hb10 := cond_t hc20 hb10
        refine gk_skip (by kernel_rfl) ?_
        refine ge_seq ?_
        refine gk_seq (by kernel_rfl) ?_
        refine gk_block (by kernel_rfl) ?_
        refine gk_seq (by kernel_rfl) ?_
        refine gk_region (by kernel_rfl) ?_
        refine gl_pure 2 [0, 1, 5, 12, 13] (K' := [(0, .slice A0_0 a0.length n0_0), (1, .slice A1_0 a1.length n1_0), (5, .int .i64 s8), (12, .int .i64 (a0.length : Int)), (13, .int .i64 s8)]) (by kernel_rfl) ?_
        refine gl_atE (by kernel_rfl) ?_
        refine ge_seq ?_
        refine gk_seq (by kernel_rfl) ?_
        refine gk_draw 8 [(0, true), (1, true), (2, true), (3, true), (4, true), (5, true), (6, true), (7, true)] [] (fun p hp => by cases hp) (by kernel_rfl) (by kernel_rfl) (by kernel_rfl) ?_ (by kernel_rfl)
        refine gd_pure 2 [0, 1, 5, 12, 13, 16, 17] (K' := [(0, .slice A0_0 a0.length n0_0), (1, .slice A1_0 a1.length n1_0), (5, .int .i64 s8), (12, .int .i64 (a0.length : Int)), (13, .int .i64 s8), (16, .slice A0_0 a0.length n0_0), (17, .int .i64 s8)]) (s' := [(2, true), (3, true), (4, true), (5, true), (6, true), (7, true)]) (CC.refl (fun p hp => by cases hp)) (by kernel_rfl) ?_
        obtain ⟨x21, hx22, hb10⟩ := bind_some hb10
        obtain ⟨p23, cs24, hR25, hA26, ha27⟩ := RepS.ixAt hx22 (hf0_0.mono hI11)
        have hi28 := ix_some hx22
        obtain ⟨A29, n30, rfl, hf31⟩ := sl_open hR25
        refine gd_q (v := .pointer (some p23)) (by kernel_rfl) (by kernel_rfl) (CC.refl (fun p hp => by cases hp)) (fun I' L' T hC kk => gl_indexAddrF (c := n0_0) (T' := 22) (e := 39) (xs := (.tmp 16)) (xi := (.tmp 17)) (kd := .i64) ha27 hi28.1 hi28.2.1 (by kernel_rfl) (by kernel_rfl) (by kernel_rfl) (by kernel_rfl) (by kernel_rfl) kk) ?_
        refine gd_q (v := .slice A29 x21.length n30) (by kernel_rfl) (by kernel_rfl) (CC.refl (fun p hp => by cases hp)) (fun I' L' T hC kk => gl_load (T' := 39) (xp := (.tmp 18)) (p := p23) (c := .slice A29 x21.length n30) (n := 1) (by kernel_rfl) (by kernel_rfl) (by kernel_rfl) (by kernel_rfl) (hA26.mono hC.le) kk) ?_
        refine gd_pure 2 [0, 1, 12, 13, 19, 20, 21] (K' := [(0, .slice A0_0 a0.length n0_0), (1, .slice A1_0 a1.length n1_0), (12, .int .i64 (a0.length : Int)), (13, .int .i64 s8), (19, .slice A29 x21.length n30), (20, .slice A1_0 a1.length n1_0), (21, .int .i64 s8)]) (s' := [(6, true), (7, true)]) (CC.refl (fun p hp => by cases hp)) (by kernel_rfl) ?_
        obtain ⟨x32, hx33, hb10⟩ := bind_some hb10
        obtain ⟨p34, cs35, hR36, hA37, ha38⟩ := RepS.ixAt hx33 (hf1_0.mono hI11)
        have hi39 := ix_some hx33
        obtain ⟨A40, n41, rfl, hf42⟩ := sl_open hR36
        refine gd_q (v := .pointer (some p34)) (by kernel_rfl) (by kernel_rfl) (CC.refl (fun p hp => by cases hp)) (fun I' L' T hC kk => gl_indexAddrF (c := n1_0) (T' := 22) (e := 39) (xs := (.tmp 20)) (xi := (.tmp 21)) (kd := .i64) ha38 hi39.1 hi39.2.1 (by kernel_rfl) (by kernel_rfl) (by kernel_rfl) (by kernel_rfl) (by kernel_rfl) kk) ?_
        refine gd_q (v := .slice A40 x32.length n41) (by kernel_rfl) (by kernel_rfl) (CC.refl (fun p hp => by cases hp)) (fun I' L' T hC kk => gl_load (T' := 39) (xp := (.tmp 22)) (p := p34) (c := .slice A40 x32.length n41) (n := 1) (by kernel_rfl) (by kernel_rfl) (by kernel_rfl) (by kernel_rfl) (hA37.mono hC.le) kk) ?_
        refine gd_done ?_
        obtain ⟨y43, hx44, hb10⟩ := bind_some hb10
        refine gl_callQ (by kernel_rfl) (tocsinref04_Same_walk (r := y43) hf31 hf42 hx44 _) ?_
        refine gl_pure 1 [0, 1, 12, 13, 25] (K' := [(0, .slice A0_0 a0.length n0_0), (1, .slice A1_0 a1.length n1_0), (12, .int .i64 (a0.length : Int)), (13, .int .i64 s8), (25, .bool (!y43))]) (by kernel_rfl) ?_
        refine gl_atE (by kernel_rfl) ?_
        refine ge_seq ?_
        refine gk_cond (b := (!y43)) (by kernel_rfl) (by kernel_rfl) (fun hc45 => ?_) (fun hc45 => ?_)
        · have hb10 := cond_t hc45 hb10
          refine gk_seq (by kernel_rfl) ?_
          refine gk_region (by kernel_rfl) ?_
          refine gl_pure 1 [4] (K' := [(4, .bool false)]) (by kernel_rfl) ?_
          refine gl_atE (by kernel_rfl) ?_
          refine ge_seq ?_
          refine gk_ret (by kernel_rfl) ?_
          refine ge_block_ret ?_
          refine ge_seq_ret ?_
          obtain rfl := some_inj hb10
          refine ge_round_out (fun hrr => ?_) (by intro h; cases h)
          obtain rfl := hrr
          refine ge_block_ret ?_
          refine ge_seq_ret ?_
          refine ge_seq_ret ?_
          obtain rfl := some_inj hr
          exact ge_result trivial (ResOk.tmp (by kernel_rfl) ResOk.nil) hI11 ⟨rfl, rfl⟩
        · have hb10 := cond_f hc45 hb10
          refine gk_skip (by kernel_rfl) ?_
          refine ge_block_normal ?_
          refine ge_seq ?_
          refine gk_region (by kernel_rfl) ?_
          refine gl_pure 2 [0, 1, 12, 13] (K' := [(0, .slice A0_0 a0.length n0_0), (1, .slice A1_0 a1.length n1_0), (12, .int .i64 (a0.length : Int)), (13, .int .i64 (IntKind.wrap .i64 (s8 + 1)))]) (by kernel_rfl) ?_
          refine gl_atE (by kernel_rfl) ?_
          obtain rfl := some_inj hb10
          exact ge_round fun t ht => ⟨hI11, rfl, ht.pick (l := [0, 1, 12, 13]) (by kernel_rfl)⟩
      · have hb10 := cond_f hc20 hb10
        refine gk_exit (by kernel_rfl) ?_
        refine ge_seq_exit ?_
        obtain rfl := some_inj hb10
        refine ge_round_out (fun hrr => ?_) (by intro h; cases h)
        obtain rfl := hrr
        refine ge_block_hit (by kernel_rfl) ?_
        exact ge_mid fun t ht => ⟨_, rfl, hI11, rfl, ht.pick (l := []) (by kernel_rfl)⟩
    · rintro t I17 L' ⟨r14, rfl, hI15, rfl, hK16⟩
      refine ge_at hK16 ?_
      refine ge_seq ?_
      refine gk_seq (by kernel_rfl) ?_
      refine gk_region (by kernel_rfl) ?_
      refine gl_pure 1 [4] (K' := [(4, .bool true)]) (by kernel_rfl) ?_
      refine gl_atE (by kernel_rfl) ?_
      refine ge_seq ?_
      refine gk_ret (by kernel_rfl) ?_
      obtain rfl := some_inj hr
      exact ge_result trivial (ResOk.tmp (by kernel_rfl) ResOk.nil) hI15 ⟨rfl, rfl⟩
/-! 16 tocsinref26_Same  -/
noncomputable def tocsinref26_Same (a0 : S23) (a1 : S23) : Option Bool :=
  Option.bind (bif (a0.f0.toList == a1.f0.toList) then
    (bif (a0.f1.toList == a1.f1.toList) then
      (bif (a0.f2 == a1.f2) then
        (Option.bind (tocsinref26_SameSets a0.f3 a1.f3) fun (y11 : Bool) =>
          bif y11 then
          (Option.bind (tocsinref26_SameSets a0.f4 a1.f4) fun (y14 : Bool) =>
            some y14)
          else
          (some false))
        else
        (some false))
      else
      (some false))
    else
    (some false)) fun (j3 : Bool) =>
  some j3
theorem tocsinref26_Same_walk {a0 : S23} {A0_3 : Option Addr} {n0_3 : Nat} {A0_4 : Option Addr} {n0_4 : Nat} {a1 : S23} {A1_3 : Option Addr} {n1_3 : Nat} {A1_4 : Option Addr} {n1_4 : Nat} {I : Imm} {r : Bool}  (hf0_3 : RepS (Kd.sl kS50) I A0_3 n0_3 a0.f3) (hf0_4 : RepS (Kd.sl kS50) I A0_4 n0_4 a0.f4)  (hf1_3 : RepS (Kd.sl kS50) I A1_3 n1_3 a1.f3) (hf1_4 : RepS (Kd.sl kS50) I A1_4 n1_4 a1.f4) (hr : tocsinref26_Same a0 a1 = some r) (L : Own) :
    CallsTo Tryd.prog 16 #[.agg #[.string a0.f0, .string a0.f1, .int .i64 a0.f2, .slice A0_3 a0.f3.length n0_3, .slice A0_4 a0.f4.length n0_4], .agg #[.string a1.f0, .string a1.f1, .int .i64 a1.f2, .slice A1_3 a1.f3.length n1_3, .slice A1_4 a1.f4.length n1_4]] I L (fun v I' L' => v = .bool r ∧ L = L') := by
  unfold tocsinref26_Same at hr
  refine callsTo_body (N := 38) Tryd.func16 (by kernel_rfl) (by kernel_rfl) (by kernel_rfl) ?_
  refine gk_pick [0, 1] (K' := [(0, .agg #[.string a0.f0, .string a0.f1, .int .i64 a0.f2, .slice A0_3 a0.f3.length n0_3, .slice A0_4 a0.f4.length n0_4]), (1, .agg #[.string a1.f0, .string a1.f1, .int .i64 a1.f2, .slice A1_3 a1.f3.length n1_3, .slice A1_4 a1.f4.length n1_4])]) (by kernel_rfl) ?_
  refine gk_seq (by kernel_rfl) ?_
  refine gk_region (by kernel_rfl) ?_
  refine gl_box (T' := 24) (x := (.tmp 0)) (v := .agg #[.string a0.f0, .string a0.f1, .int .i64 a0.f2, .slice A0_3 a0.f3.length n0_3, .slice A0_4 a0.f4.length n0_4]) (cs := #[.string a0.f0, .string a0.f1, .int .i64 a0.f2, .slice A0_3 a0.f3.length n0_3, .slice A0_4 a0.f4.length n0_4]) (by kernel_rfl) (by kernel_rfl) (by kernel_rfl) (by kernel_rfl) (fun g1 => ?_)
  refine gl_box (T' := 24) (x := (.tmp 1)) (v := .agg #[.string a1.f0, .string a1.f1, .int .i64 a1.f2, .slice A1_3 a1.f3.length n1_3, .slice A1_4 a1.f4.length n1_4]) (cs := #[.string a1.f0, .string a1.f1, .int .i64 a1.f2, .slice A1_3 a1.f3.length n1_3, .slice A1_4 a1.f4.length n1_4]) (by kernel_rfl) (by kernel_rfl) (by kernel_rfl) (by kernel_rfl) (fun g2 => ?_)
  refine gl_pure 1 [2, 3] (K' := [(2, .pointer (some ⟨g1, 0, none⟩)), (3, .pointer (some ⟨g2, 0, none⟩))]) (by kernel_rfl) ?_
  refine gl_atE (by kernel_rfl) ?_
  refine ge_seq ?_
  refine gk_seq (by kernel_rfl) ?_
  obtain ⟨j3, hj4, hr⟩ := bind_some hr
  refine gk_join (fun t I' L' => I ≤ I' ∧ L = L' ∧ Knows 38 [(4, .bool j3)] t) ?_ ?_
  · refine gk_region (by kernel_rfl) ?_
    refine gl_pure 1 [2, 3, 5] (K' := [(2, .pointer (some ⟨g1, 0, none⟩)), (3, .pointer (some ⟨g2, 0, none⟩)), (5, .pointer (some ⟨g1, 0, none⟩))]) (by kernel_rfl) ?_
    refine gl_loadB (T' := 9) (xp := (.tmp 5)) (v := .string a0.f0) (g := g1) (off := 0) (cs := #[.string a0.f0, .string a0.f1, .int .i64 a0.f2, .slice A0_3 a0.f3.length n0_3, .slice A0_4 a0.f4.length n0_4]) (e := 24) (fz := (0, 0)) (by kernel_rfl) (by kernel_rfl) (by kernel_rfl) (List.mem_cons_of_mem _ List.mem_cons_self) (by kernel_rfl) ?_
    refine gl_pure 1 [2, 3, 6, 7] (K' := [(2, .pointer (some ⟨g1, 0, none⟩)), (3, .pointer (some ⟨g2, 0, none⟩)), (6, .string a0.f0), (7, .pointer (some ⟨g2, 0, none⟩))]) (by kernel_rfl) ?_
    refine gl_loadB (T' := 9) (xp := (.tmp 7)) (v := .string a1.f0) (g := g2) (off := 0) (cs := #[.string a1.f0, .string a1.f1, .int .i64 a1.f2, .slice A1_3 a1.f3.length n1_3, .slice A1_4 a1.f4.length n1_4]) (e := 24) (fz := (0, 0)) (by kernel_rfl) (by kernel_rfl) (by kernel_rfl) List.mem_cons_self (by kernel_rfl) ?_
    refine gl_pure 2 [2, 3, 10] (K' := [(2, .pointer (some ⟨g1, 0, none⟩)), (3, .pointer (some ⟨g2, 0, none⟩)), (10, .bool (a0.f0.toList == a1.f0.toList))]) (by kernel_rfl) ?_
    refine gl_case 10 (b := (a0.f0.toList == a1.f0.toList)) (by kernel_rfl) (fun hc8 => ?_) (fun hc8 => ?_)
    · have hj4 := cond_t hc8 hj4
      refine gl_pure 1 [2, 3, 10, 11] (K' := [(2, .pointer (some ⟨g1, 0, none⟩)), (3, .pointer (some ⟨g2, 0, none⟩)), (10, .bool true), (11, .pointer (some ⟨g1, 1, none⟩))]) (by kernel_rfl) ?_
      refine gl_loadB (T' := 9) (xp := (.tmp 11)) (v := .string a0.f1) (g := g1) (off := 1) (cs := #[.string a0.f0, .string a0.f1, .int .i64 a0.f2, .slice A0_3 a0.f3.length n0_3, .slice A0_4 a0.f4.length n0_4]) (e := 24) (fz := (0, 0)) (by kernel_rfl) (by kernel_rfl) (by kernel_rfl) (List.mem_cons_of_mem _ List.mem_cons_self) (by kernel_rfl) ?_
      refine gl_pure 1 [2, 3, 10, 12, 13] (K' := [(2, .pointer (some ⟨g1, 0, none⟩)), (3, .pointer (some ⟨g2, 0, none⟩)), (10, .bool true), (12, .string a0.f1), (13, .pointer (some ⟨g2, 1, none⟩))]) (by kernel_rfl) ?_
      refine gl_loadB (T' := 9) (xp := (.tmp 13)) (v := .string a1.f1) (g := g2) (off := 1) (cs := #[.string a1.f0, .string a1.f1, .int .i64 a1.f2, .slice A1_3 a1.f3.length n1_3, .slice A1_4 a1.f4.length n1_4]) (e := 24) (fz := (0, 0)) (by kernel_rfl) (by kernel_rfl) (by kernel_rfl) List.mem_cons_self (by kernel_rfl) ?_
      refine gl_pure 3 [2, 3, 17] (K' := [(2, .pointer (some ⟨g1, 0, none⟩)), (3, .pointer (some ⟨g2, 0, none⟩)), (17, .bool (a0.f1.toList == a1.f1.toList))]) (by kernel_rfl) ?_
      refine gl_case 17 (b := (a0.f1.toList == a1.f1.toList)) (by kernel_rfl) (fun hc9 => ?_) (fun hc9 => ?_)
      · have hj4 := cond_t hc9 hj4
        refine gl_pure 1 [2, 3, 17, 18] (K' := [(2, .pointer (some ⟨g1, 0, none⟩)), (3, .pointer (some ⟨g2, 0, none⟩)), (17, .bool true), (18, .pointer (some ⟨g1, 2, none⟩))]) (by kernel_rfl) ?_
        refine gl_loadB (T' := 2) (xp := (.tmp 18)) (v := .int .i64 a0.f2) (g := g1) (off := 2) (cs := #[.string a0.f0, .string a0.f1, .int .i64 a0.f2, .slice A0_3 a0.f3.length n0_3, .slice A0_4 a0.f4.length n0_4]) (e := 24) (fz := (0, 0)) (by kernel_rfl) (by kernel_rfl) (by kernel_rfl) (List.mem_cons_of_mem _ List.mem_cons_self) (by kernel_rfl) ?_
        refine gl_pure 1 [2, 3, 17, 19, 20] (K' := [(2, .pointer (some ⟨g1, 0, none⟩)), (3, .pointer (some ⟨g2, 0, none⟩)), (17, .bool true), (19, .int .i64 a0.f2), (20, .pointer (some ⟨g2, 2, none⟩))]) (by kernel_rfl) ?_
        refine gl_loadB (T' := 2) (xp := (.tmp 20)) (v := .int .i64 a1.f2) (g := g2) (off := 2) (cs := #[.string a1.f0, .string a1.f1, .int .i64 a1.f2, .slice A1_3 a1.f3.length n1_3, .slice A1_4 a1.f4.length n1_4]) (e := 24) (fz := (0, 0)) (by kernel_rfl) (by kernel_rfl) (by kernel_rfl) List.mem_cons_self (by kernel_rfl) ?_
        refine gl_pure 3 [2, 3, 24] (K' := [(2, .pointer (some ⟨g1, 0, none⟩)), (3, .pointer (some ⟨g2, 0, none⟩)), (24, .bool (a0.f2 == a1.f2))]) (by kernel_rfl) ?_
        refine gl_case 24 (b := (a0.f2 == a1.f2)) (by kernel_rfl) (fun hc10 => ?_) (fun hc10 => ?_)
        · have hj4 := cond_t hc10 hj4
          refine gl_pure 1 [2, 3, 24, 25] (K' := [(2, .pointer (some ⟨g1, 0, none⟩)), (3, .pointer (some ⟨g2, 0, none⟩)), (24, .bool true), (25, .pointer (some ⟨g1, 3, none⟩))]) (by kernel_rfl) ?_
          refine gl_loadB (T' := 22) (xp := (.tmp 25)) (v := .slice A0_3 a0.f3.length n0_3) (g := g1) (off := 3) (cs := #[.string a0.f0, .string a0.f1, .int .i64 a0.f2, .slice A0_3 a0.f3.length n0_3, .slice A0_4 a0.f4.length n0_4]) (e := 24) (fz := (0, 0)) (by kernel_rfl) (by kernel_rfl) (by kernel_rfl) (List.mem_cons_of_mem _ List.mem_cons_self) (by kernel_rfl) ?_
          refine gl_pure 1 [2, 3, 24, 26, 27] (K' := [(2, .pointer (some ⟨g1, 0, none⟩)), (3, .pointer (some ⟨g2, 0, none⟩)), (24, .bool true), (26, .slice A0_3 a0.f3.length n0_3), (27, .pointer (some ⟨g2, 3, none⟩))]) (by kernel_rfl) ?_
          refine gl_loadB (T' := 22) (xp := (.tmp 27)) (v := .slice A1_3 a1.f3.length n1_3) (g := g2) (off := 3) (cs := #[.string a1.f0, .string a1.f1, .int .i64 a1.f2, .slice A1_3 a1.f3.length n1_3, .slice A1_4 a1.f4.length n1_4]) (e := 24) (fz := (0, 0)) (by kernel_rfl) (by kernel_rfl) (by kernel_rfl) List.mem_cons_self (by kernel_rfl) ?_
          obtain ⟨y11, hx12, hj4⟩ := bind_some hj4
          refine gl_callQ (by kernel_rfl) (tocsinref26_SameSets_walk (r := y11) hf0_3 hf1_3 hx12 _) ?_
          refine gl_pure 2 [2, 3, 31] (K' := [(2, .pointer (some ⟨g1, 0, none⟩)), (3, .pointer (some ⟨g2, 0, none⟩)), (31, .bool y11)]) (by kernel_rfl) ?_
          refine gl_case 31 (b := y11) (by kernel_rfl) (fun hc13 => ?_) (fun hc13 => ?_)
          · have hj4 := cond_t hc13 hj4
            refine gl_pure 1 [3, 31, 32] (K' := [(3, .pointer (some ⟨g2, 0, none⟩)), (31, .bool true), (32, .pointer (some ⟨g1, 4, none⟩))]) (by kernel_rfl) ?_
            refine gl_loadB (T' := 22) (xp := (.tmp 32)) (v := .slice A0_4 a0.f4.length n0_4) (g := g1) (off := 4) (cs := #[.string a0.f0, .string a0.f1, .int .i64 a0.f2, .slice A0_3 a0.f3.length n0_3, .slice A0_4 a0.f4.length n0_4]) (e := 24) (fz := (0, 0)) (by kernel_rfl) (by kernel_rfl) (by kernel_rfl) (List.mem_cons_of_mem _ List.mem_cons_self) (by kernel_rfl) ?_
            refine gl_pure 1 [31, 33, 34] (K' := [(31, .bool true), (33, .slice A0_4 a0.f4.length n0_4), (34, .pointer (some ⟨g2, 4, none⟩))]) (by kernel_rfl) ?_
            refine gl_loadB (T' := 22) (xp := (.tmp 34)) (v := .slice A1_4 a1.f4.length n1_4) (g := g2) (off := 4) (cs := #[.string a1.f0, .string a1.f1, .int .i64 a1.f2, .slice A1_3 a1.f3.length n1_3, .slice A1_4 a1.f4.length n1_4]) (e := 24) (fz := (0, 0)) (by kernel_rfl) (by kernel_rfl) (by kernel_rfl) List.mem_cons_self (by kernel_rfl) ?_
            obtain ⟨y14, hx15, hj4⟩ := bind_some hj4
            refine gl_callQ (by kernel_rfl) (tocsinref26_SameSets_walk (r := y14) hf0_4 hf1_4 hx15 _) ?_
            refine gl_pure 2 [4] (K' := [(4, .bool y14)]) (by kernel_rfl) ?_
            refine gl_reord (D := L) (Reord.skip (Reord.skip (Reord.refl _))) ?_
            refine gl_atE (by kernel_rfl) ?_
            obtain rfl := some_inj hj4
            exact ge_mid fun t ht => ⟨(Imm.refl _), rfl, ht.pick (l := [4]) (by kernel_rfl)⟩
          · have hj4 := cond_f hc13 hj4
            refine gl_pure 7 [4] (K' := [(4, .bool false)]) (by kernel_rfl) ?_
            refine gl_reord (D := L) (Reord.skip (Reord.skip (Reord.refl _))) ?_
            refine gl_atE (by kernel_rfl) ?_
            obtain rfl := some_inj hj4
            exact ge_mid fun t ht => ⟨(Imm.refl _), rfl, ht.pick (l := [4]) (by kernel_rfl)⟩
        · have hj4 := cond_f hc10 hj4
          refine gl_pure 14 [4] (K' := [(4, .bool false)]) (by kernel_rfl) ?_
          refine gl_reord (D := L) (Reord.skip (Reord.skip (Reord.refl _))) ?_
          refine gl_atE (by kernel_rfl) ?_
          obtain rfl := some_inj hj4
          exact ge_mid fun t ht => ⟨(Imm.refl _), rfl, ht.pick (l := [4]) (by kernel_rfl)⟩
      · have hj4 := cond_f hc9 hj4
        refine gl_pure 21 [4] (K' := [(4, .bool false)]) (by kernel_rfl) ?_
        refine gl_reord (D := L) (Reord.skip (Reord.skip (Reord.refl _))) ?_
        refine gl_atE (by kernel_rfl) ?_
        obtain rfl := some_inj hj4
        exact ge_mid fun t ht => ⟨(Imm.refl _), rfl, ht.pick (l := [4]) (by kernel_rfl)⟩
    · have hj4 := cond_f hc8 hj4
      refine gl_pure 28 [4] (K' := [(4, .bool false)]) (by kernel_rfl) ?_
      refine gl_reord (D := L) (Reord.skip (Reord.skip (Reord.refl _))) ?_
      refine gl_atE (by kernel_rfl) ?_
      obtain rfl := some_inj hj4
      exact ge_mid fun t ht => ⟨(Imm.refl _), rfl, ht.pick (l := [4]) (by kernel_rfl)⟩
  · rintro t I7 L' ⟨hI5, rfl, hK6⟩
    refine ge_at hK6 ?_
    refine ge_seq ?_
    refine gk_ret (by kernel_rfl) ?_
    obtain rfl := some_inj hr
    exact ge_result trivial (ResOk.tmp (by kernel_rfl) ResOk.nil) hI5 ⟨rfl, rfl⟩
structure S74 where
  f0 : ByteArray
  f1 : ByteArray
def kS74 : Kd S74 := Kd.iso (Kd.pair Kd.str Kd.str) (fun x => (x.f0, x.f1))
theorem kS74_open {I : Imm} {x : S74} {cs : List Value} (h : kS74.R I x cs) : cs = [.string x.f0, .string x.f1] := by
  obtain ⟨_, _, rfl, h_0, h_1⟩ := h
  obtain rfl := h_0
  obtain rfl := h_1
  exact rfl
theorem kS74_mk {I : Imm} {x : S74}   : kS74.R I x [.string x.f0, .string x.f1] :=
  ⟨[.string x.f0], [.string x.f1], rfl, rfl, rfl⟩
structure S96 where
  f0 : S74
  f1 : S23
def kS96 : Kd S96 := Kd.iso (Kd.pair kS74 kS23) (fun x => (x.f0, x.f1))
theorem kS96_open {I : Imm} {x : S96} {cs : List Value} (h : kS96.R I x cs) : ∃ A5 c5 A6 c6, RepS (Kd.sl kS50) I A5 c5 x.f1.f3 ∧ RepS (Kd.sl kS50) I A6 c6 x.f1.f4 ∧ cs = [.string x.f0.f0, .string x.f0.f1, .string x.f1.f0, .string x.f1.f1, .int .i64 x.f1.f2, .slice A5 x.f1.f3.length c5, .slice A6 x.f1.f4.length c6] := by
  obtain ⟨_, _, rfl, h_0, h_1⟩ := h
  obtain rfl := kS74_open h_0
  obtain ⟨A_1_3, c_1_3, A_1_4, c_1_4, h_1_3, h_1_4, rfl⟩ := kS23_open h_1
  exact ⟨A_1_3, c_1_3, A_1_4, c_1_4, h_1_3, h_1_4, rfl⟩
theorem kS96_mk {I : Imm} {x : S96} {A5 : Option Addr} {c5 : Nat} {A6 : Option Addr} {c6 : Nat} (h5 : RepS (Kd.sl kS50) I A5 c5 x.f1.f3) (h6 : RepS (Kd.sl kS50) I A6 c6 x.f1.f4) : kS96.R I x [.string x.f0.f0, .string x.f0.f1, .string x.f1.f0, .string x.f1.f1, .int .i64 x.f1.f2, .slice A5 x.f1.f3.length c5, .slice A6 x.f1.f4.length c6] :=
  ⟨[.string x.f0.f0, .string x.f0.f1], [.string x.f1.f0, .string x.f1.f1, .int .i64 x.f1.f2, .slice A5 x.f1.f3.length c5, .slice A6 x.f1.f4.length c6], rfl, kS74_mk , kS23_mk h5 h6⟩
structure S66 where
  f0 : List S96
structure S68 where
  f0 : S66
/-! 34 nflog_New  -/
noncomputable def nflog_New : S68 :=
  (⟨(⟨[]⟩ : S66)⟩ : S68)
theorem nflog_New_walk  {I : Imm} {r : S68}  (hr : nflog_New = r) (L : Own) :
    CallsTo Tryd.prog 34 #[] I L (fun v I' L' => ∃ g0 A0_0 c0_0 C0_0, OwnS kS96 97 I' A0_0 c0_0 r.f0.f0 C0_0 ∧ v = .pointer (some ⟨g0, 0, none⟩) ∧ (g0, .cells #[.slice A0_0 r.f0.f0.length c0_0] 69) :: (C0_0 ++ L) = L') := by
  replace hr : some (nflog_New) = some r := congrArg some hr
  unfold nflog_New at hr
  refine callsTo_body (N := 3) Tryd.func34 (by kernel_rfl) (by kernel_rfl) (by kernel_rfl) ?_
  refine gk_pick [] (K' := []) (by kernel_rfl) ?_
  refine gk_seq (by kernel_rfl) ?_
  refine gk_region (by kernel_rfl) ?_
  refine gl_pure 1 [] (K' := []) (by kernel_rfl) ?_
  refine gl_atE (by kernel_rfl) ?_
  refine ge_seq ?_
  refine gk_seq (by kernel_rfl) ?_
  refine gk_region (by kernel_rfl) ?_
  refine gl_pure 1 [1] (K' := [(1, .agg #[.slice none 0 0])]) (by kernel_rfl) ?_
  refine gl_box (T' := 69) (x := (.tmp 1)) (v := .agg #[.slice none 0 0]) (cs := #[.slice none 0 0]) (by kernel_rfl) (by kernel_rfl) (by kernel_rfl) (by kernel_rfl) (fun g1 => ?_)
  refine gl_pure 1 [0] (K' := [(0, .pointer (some ⟨g1, 0, none⟩))]) (by kernel_rfl) ?_
  refine gl_atE (by kernel_rfl) ?_
  refine ge_seq ?_
  refine gk_ret (by kernel_rfl) ?_
  obtain rfl := some_inj hr
  exact ge_result trivial (ResOk.tmp (by kernel_rfl) ResOk.nil) (Imm.refl _) ⟨g1, none, 0, [], OwnS.nil _ _ _ _, rfl, rfl⟩
structure Fn109 (I : Imm) (fv : Value) (f : S96 → Option Bool) : Prop where
  out : ∀ I', I ≤ I' → ∀ (x0 : S96) (r : Bool), f x0 = some r → ∀ A0_5 c0_5 A0_6 c0_6, RepS (Kd.sl kS50) I' A0_5 c0_5 x0.f1.f3 → RepS (Kd.sl kS50) I' A0_6 c0_6 x0.f1.f4 → ∀ L, CallsV Tryd.prog fv [.agg #[.string x0.f0.f0, .string x0.f0.f1, .string x0.f1.f0, .string x0.f1.f1, .int .i64 x0.f1.f2, .slice A0_5 x0.f1.f3.length c0_5, .slice A0_6 x0.f1.f4.length c0_6]] I' L (fun v I' L' => v = .bool r ∧ L = L')
theorem Fn109.mono {I J : Imm} {fv : Value} {f : S96 → Option Bool} (h : Fn109 I fv f) (hI : I ≤ J) : Fn109 J fv f := ⟨fun I' hI' => h.out I' (Imm.trans hI hI')⟩
/-! 78 slices_IndexFunc_f78  -/
noncomputable def slices_IndexFunc_f78_l17 (a0 : List S96) (a1 : S96 → Option Bool) : Int → Option ((Int) ⊕ ((Unit) ⊕ (Int))) := fun s7 =>
  bif (decide (s7 < (a0.length : Int))) then
  (Option.bind (ix a0 s7) fun (x20 : S96) =>
    Option.bind (a1 x20) fun (y35 : Bool) =>
    bif y35 then
    (some (Sum.inr (Sum.inr s7)))
    else
    (some (Sum.inl (IntKind.wrap .i64 (s7 + 1)))))
  else
  (some (Sum.inr (Sum.inl ())))
noncomputable def slices_IndexFunc_f78 (a0 : List S96) (a1 : S96 → Option Bool) : Option Int :=
  Option.bind (loopO (slices_IndexFunc_f78_l17 a0 a1) 0) fun (r5 : (Unit) ⊕ (Int)) =>
  match r5 with
  | Sum.inl r13 => some (-1)
  | Sum.inr v37 => some v37
theorem slices_IndexFunc_f78_walk {a0 : List S96} {A0_0 : Option Addr} {n0_0 : Nat} {a1 : S96 → Option Bool} {fv1 : Value} {I : Imm} {r : Int}  (hf0_0 : RepS kS96 I A0_0 n0_0 a0) (hf1 : Fn109 I fv1 a1) (hr : slices_IndexFunc_f78 a0 a1 = some r) (L : Own) :
    CallsTo Tryd.prog 78 #[.slice A0_0 a0.length n0_0, fv1] I L (fun v I' L' => v = .int .i64 r ∧ L = L') := by
  unfold slices_IndexFunc_f78 at hr
  refine callsTo_body (N := 19) Tryd.func78 (by kernel_rfl) (by kernel_rfl) (by kernel_rfl) ?_
  refine gk_pick [0, 1] (K' := [(0, .slice A0_0 a0.length n0_0), (1, fv1)]) (by kernel_rfl) ?_
  refine gk_seq (by kernel_rfl) ?_
  refine gk_region (by kernel_rfl) ?_
  refine gl_pure 1 [0, 1] (K' := [(0, .slice A0_0 a0.length n0_0), (1, fv1)]) (by kernel_rfl) ?_
  refine gl_atE (by kernel_rfl) ?_
  refine ge_seq ?_
  refine gk_seq (by kernel_rfl) ?_
  refine gk_seq (by kernel_rfl) ?_
  refine gk_region (by kernel_rfl) ?_
  refine gl_pure 3 [0, 1, 7, 8] (K' := [(0, .slice A0_0 a0.length n0_0), (1, fv1), (7, .int .i64 (a0.length : Int)), (8, .int .i64 0)]) (by kernel_rfl) ?_
  refine gl_atE (by kernel_rfl) ?_
  refine ge_seq ?_
  obtain ⟨r5, hl6, hr⟩ := bind_some hr
  refine gk_join (fun t I' L' => ∃ r13, r5 = Sum.inl r13 ∧ I ≤ I' ∧ L = L' ∧ Knows 19 [] t) ?_ ?_
  · refine gk_block (by kernel_rfl) ?_
    refine gk_pick [0, 1, 7, 8] (K' := [(0, .slice A0_0 a0.length n0_0), (1, fv1), (7, .int .i64 (a0.length : Int)), (8, .int .i64 0)]) (by kernel_rfl) ?_
    intro t hK
    refine gc_loop (slices_IndexFunc_f78_l17 a0 a1) (fun s7 t I' L' => I ≤ I' ∧ L = L' ∧ Knows 19 [(0, .slice A0_0 a0.length n0_0), (1, fv1), (7, .int .i64 (a0.length : Int)), (8, .int .i64 s7)] t) (by kernel_rfl) ?_ hl6 ⟨(Imm.refl _), rfl, hK⟩
    rintro s7 o8 t I12 L' hb9 ⟨hI10, rfl, hK11⟩
    unfold slices_IndexFunc_f78_l17 at hb9
    refine gk_at hK11 ?_
    refine gk_seq (by kernel_rfl) ?_
    refine gk_region (by kernel_rfl) ?_
    refine gl_pure 1 [0, 1, 7, 8, 9] (K' := [(0, .slice A0_0 a0.length n0_0), (1, fv1), (7, .int .i64 (a0.length : Int)), (8, .int .i64 s7), (9, .bool (decide (s7 < (a0.length : Int))))]) (by kernel_rfl) ?_
    refine gl_atE (by kernel_rfl) ?_
    refine ge_seq ?_
    refine gk_seq (by kernel_rfl) ?_
    refine gk_cond (b := (decide (s7 < (a0.length : Int)))) (by kernel_rfl) (by kernel_rfl) (fun hc19 => ?_) (fun hc19 => ?_)
    · have hb9 := cond_t hc19 hb9
      refine gk_skip (by kernel_rfl) ?_
      refine ge_seq ?_
      refine gk_seq (by kernel_rfl) ?_
      refine gk_block (by kernel_rfl) ?_
      refine gk_seq (by kernel_rfl) ?_
      refine gk_region (by kernel_rfl) ?_
      refine gl_pure 2 [0, 1, 5, 7, 8] (K' := [(0, .slice A0_0 a0.length n0_0), (1, fv1), (5, .int .i64 s7), (7, .int .i64 (a0.length : Int)), (8, .int .i64 s7)]) (by kernel_rfl) ?_
      refine gl_atE (by kernel_rfl) ?_
      refine ge_seq ?_
      refine gk_seq (by kernel_rfl) ?_
      refine gk_region (by kernel_rfl) ?_
      refine gl_pure 3 [0, 1, 5, 7, 8, 11, 12, 13] (K' := [(0, .slice A0_0 a0.length n0_0), (1, fv1), (5, .int .i64 s7), (7, .int .i64 (a0.length : Int)), (8, .int .i64 s7), (11, fv1), (12, .slice A0_0 a0.length n0_0), (13, .int .i64 s7)]) (by kernel_rfl) ?_
      obtain ⟨x20, hx21, hb9⟩ := bind_some hb9
      obtain ⟨p22, cs23, hR24, hA25, ha26⟩ := RepS.ixAt hx21 (hf0_0.mono hI10)
      have hi27 := ix_some hx21
      obtain ⟨A28, n29, A31, n32, hf30, hf33, rfl⟩ := kS96_open hR24
      refine gl_indexAddrF (c := n0_0) (T' := 65) (e := 97) (xs := (.tmp 12)) (xi := (.tmp 13)) (kd := .i64) ha26 hi27.1 hi27.2.1 (by kernel_rfl) (by kernel_rfl) (by kernel_rfl) (by kernel_rfl) (by kernel_rfl) ?_
      refine gl_loadA (T' := 97) (xp := (.tmp 14)) (p := p22) (cs := [.string x20.f0.f0, .string x20.f0.f1, .string x20.f1.f0, .string x20.f1.f1, .int .i64 x20.f1.f2, .slice A28 x20.f1.f3.length n29, .slice A31 x20.f1.f4.length n32]) (by kernel_rfl) (by kernel_rfl) (by kernel_rfl) (by kernel_rfl) (hA25.take 7) ?_
      obtain ⟨y35, hx34, hb9⟩ := bind_some hb9
      refine gl_callvQ (by kernel_rfl) ((hf1.mono hI10).out _ (Imm.refl _) _ _ hx34 _ _ _ _ hf30 hf33 _) ?_
      refine gl_atE (by kernel_rfl) ?_
      refine ge_seq ?_
      refine gk_cond (b := y35) (by kernel_rfl) (by kernel_rfl) (fun hc36 => ?_) (fun hc36 => ?_)
      · have hb9 := cond_t hc36 hb9
        refine gk_seq (by kernel_rfl) ?_
        refine gk_region (by kernel_rfl) ?_
        refine gl_pure 2 [4] (K' := [(4, .int .i64 s7)]) (by kernel_rfl) ?_
        refine gl_atE (by kernel_rfl) ?_
        refine ge_seq ?_
        refine gk_ret (by kernel_rfl) ?_
        refine ge_block_ret ?_
        refine ge_seq_ret ?_
        obtain rfl := some_inj hb9
        refine ge_round_out (fun hrr => ?_) (by intro h; cases h)
        obtain rfl := hrr
        refine ge_block_ret ?_
        refine ge_seq_ret ?_
        refine ge_seq_ret ?_
        obtain rfl := some_inj hr
        exact ge_result trivial (ResOk.tmp (by kernel_rfl) ResOk.nil) hI10 ⟨rfl, rfl⟩
      · have hb9 := cond_f hc36 hb9
        refine gk_skip (by kernel_rfl) ?_
        refine ge_block_normal ?_
        refine ge_seq ?_
        refine gk_region (by kernel_rfl) ?_
        refine gl_pure 2 [0, 1, 7, 8] (K' := [(0, .slice A0_0 a0.length n0_0), (1, fv1), (7, .int .i64 (a0.length : Int)), (8, .int .i64 (IntKind.wrap .i64 (s7 + 1)))]) (by kernel_rfl) ?_
        refine gl_atE (by kernel_rfl) ?_
        obtain rfl := some_inj hb9
        exact ge_round fun t ht => ⟨hI10, rfl, ht.pick (l := [0, 1, 7, 8]) (by kernel_rfl)⟩
    · have hb9 := cond_f hc19 hb9
      refine gk_exit (by kernel_rfl) ?_
      refine ge_seq_exit ?_
      obtain rfl := some_inj hb9
      refine ge_round_out (fun hrr => ?_) (by intro h; cases h)
      obtain rfl := hrr
      refine ge_block_hit (by kernel_rfl) ?_
      exact ge_mid fun t ht => ⟨_, rfl, hI10, rfl, ht.pick (l := []) (by kernel_rfl)⟩
  · rintro t I16 L' ⟨r13, rfl, hI14, rfl, hK15⟩
    refine ge_at hK15 ?_
    refine ge_seq ?_
    refine gk_seq (by kernel_rfl) ?_
    refine gk_region (by kernel_rfl) ?_
    refine gl_pure 1 [4] (K' := [(4, .int .i64 (-1))]) (by kernel_rfl) ?_
    refine gl_atE (by kernel_rfl) ?_
    refine ge_seq ?_
    refine gk_ret (by kernel_rfl) ?_
    obtain rfl := some_inj hr
    exact ge_result trivial (ResOk.tmp (by kernel_rfl) ResOk.nil) hI14 ⟨rfl, rfl⟩
/-! 80 nflog_key_compare  -/
noncomputable def nflog_key_compare (a0 : S74) (a1 : S74) : Int :=
  bif ((strings_Compare a0.f0 a1.f0) != 0) then
  ((strings_Compare a0.f0 a1.f0))
  else
  ((strings_Compare a0.f1 a1.f1))
theorem nflog_key_compare_walk {a0 : S74} {a1 : S74} {I : Imm} {r : Int}  (hr : nflog_key_compare a0 a1 = r) (L : Own) :
    CallsTo Tryd.prog 80 #[.agg #[.string a0.f0, .string a0.f1], .agg #[.string a1.f0, .string a1.f1]] I L (fun v I' L' => v = .int .i64 r ∧ L = L') := by
  replace hr : some (nflog_key_compare a0 a1) = some r := congrArg some hr
  unfold nflog_key_compare at hr
  refine callsTo_body (N := 19) Tryd.func80 (by kernel_rfl) (by kernel_rfl) (by kernel_rfl) ?_
  refine gk_pick [0, 1] (K' := [(0, .agg #[.string a0.f0, .string a0.f1]), (1, .agg #[.string a1.f0, .string a1.f1])]) (by kernel_rfl) ?_
  refine gk_seq (by kernel_rfl) ?_
  refine gk_region (by kernel_rfl) ?_
  refine gl_box (T' := 75) (x := (.tmp 0)) (v := .agg #[.string a0.f0, .string a0.f1]) (cs := #[.string a0.f0, .string a0.f1]) (by kernel_rfl) (by kernel_rfl) (by kernel_rfl) (by kernel_rfl) (fun g1 => ?_)
  refine gl_box (T' := 75) (x := (.tmp 1)) (v := .agg #[.string a1.f0, .string a1.f1]) (cs := #[.string a1.f0, .string a1.f1]) (by kernel_rfl) (by kernel_rfl) (by kernel_rfl) (by kernel_rfl) (fun g2 => ?_)
  refine gl_pure 1 [2, 3] (K' := [(2, .pointer (some ⟨g1, 0, none⟩)), (3, .pointer (some ⟨g2, 0, none⟩))]) (by kernel_rfl) ?_
  refine gl_atE (by kernel_rfl) ?_
  refine ge_seq ?_
  refine gk_seq (by kernel_rfl) ?_
  refine gk_seq (by kernel_rfl) ?_
  refine gk_region (by kernel_rfl) ?_
  refine gl_pure 1 [2, 3, 6] (K' := [(2, .pointer (some ⟨g1, 0, none⟩)), (3, .pointer (some ⟨g2, 0, none⟩)), (6, .pointer (some ⟨g1, 0, none⟩))]) (by kernel_rfl) ?_
  refine gl_loadB (T' := 9) (xp := (.tmp 6)) (v := .string a0.f0) (g := g1) (off := 0) (cs := #[.string a0.f0, .string a0.f1]) (e := 75) (fz := (0, 0)) (by kernel_rfl) (by kernel_rfl) (by kernel_rfl) (List.mem_cons_of_mem _ List.mem_cons_self) (by kernel_rfl) ?_
  refine gl_pure 1 [2, 3, 7, 8] (K' := [(2, .pointer (some ⟨g1, 0, none⟩)), (3, .pointer (some ⟨g2, 0, none⟩)), (7, .string a0.f0), (8, .pointer (some ⟨g2, 0, none⟩))]) (by kernel_rfl) ?_
  refine gl_loadB (T' := 9) (xp := (.tmp 8)) (v := .string a1.f0) (g := g2) (off := 0) (cs := #[.string a1.f0, .string a1.f1]) (e := 75) (fz := (0, 0)) (by kernel_rfl) (by kernel_rfl) (by kernel_rfl) List.mem_cons_self (by kernel_rfl) ?_
  refine gl_callQ (by kernel_rfl) (strings_Compare_walk (r := (strings_Compare a0.f0 a1.f0))  rfl _) ?_
  refine gl_pure 1 [2, 3, 5] (K' := [(2, .pointer (some ⟨g1, 0, none⟩)), (3, .pointer (some ⟨g2, 0, none⟩)), (5, .int .i64 (strings_Compare a0.f0 a1.f0))]) (by kernel_rfl) ?_
  refine gl_atE (by kernel_rfl) ?_
  refine ge_seq ?_
  refine gk_seq (by kernel_rfl) ?_
  refine gk_region (by kernel_rfl) ?_
  refine gl_pure 2 [2, 3, 5, 12] (K' := [(2, .pointer (some ⟨g1, 0, none⟩)), (3, .pointer (some ⟨g2, 0, none⟩)), (5, .int .i64 (strings_Compare a0.f0 a1.f0)), (12, .bool ((strings_Compare a0.f0 a1.f0) != 0))]) (by kernel_rfl) ?_
  refine gl_atE (by kernel_rfl) ?_
  refine ge_seq ?_
  refine gk_cond (b := ((strings_Compare a0.f0 a1.f0) != 0)) (by kernel_rfl) (by kernel_rfl) (fun hc3 => ?_) (fun hc3 => ?_)
  · have hr := scond_t hc3 hr
    refine gk_seq (by kernel_rfl) ?_
    refine gk_region (by kernel_rfl) ?_
    refine gl_pure 2 [4] (K' := [(4, .int .i64 (strings_Compare a0.f0 a1.f0))]) (by kernel_rfl) ?_
    refine gl_atE (by kernel_rfl) ?_
    refine ge_seq ?_
    refine gk_reord (D := L) (Reord.skip (Reord.skip (Reord.refl _))) ?_
    refine gk_ret (by kernel_rfl) ?_
    refine ge_seq_ret ?_
    obtain rfl := some_inj hr
    exact ge_result trivial (ResOk.tmp (by kernel_rfl) ResOk.nil) (Imm.refl _) ⟨rfl, rfl⟩
  · have hr := scond_f hc3 hr
    refine gk_skip (by kernel_rfl) ?_
    refine ge_seq ?_
    refine gk_seq (by kernel_rfl) ?_
    refine gk_region (by kernel_rfl) ?_
    refine gl_pure 1 [3, 14] (K' := [(3, .pointer (some ⟨g2, 0, none⟩)), (14, .pointer (some ⟨g1, 1, none⟩))]) (by kernel_rfl) ?_
    refine gl_loadB (T' := 9) (xp := (.tmp 14)) (v := .string a0.f1) (g := g1) (off := 1) (cs := #[.string a0.f0, .string a0.f1]) (e := 75) (fz := (0, 0)) (by kernel_rfl) (by kernel_rfl) (by kernel_rfl) (List.mem_cons_of_mem _ List.mem_cons_self) (by kernel_rfl) ?_
    refine gl_pure 1 [15, 16] (K' := [(15, .string a0.f1), (16, .pointer (some ⟨g2, 1, none⟩))]) (by kernel_rfl) ?_
    refine gl_loadB (T' := 9) (xp := (.tmp 16)) (v := .string a1.f1) (g := g2) (off := 1) (cs := #[.string a1.f0, .string a1.f1]) (e := 75) (fz := (0, 0)) (by kernel_rfl) (by kernel_rfl) (by kernel_rfl) List.mem_cons_self (by kernel_rfl) ?_
    refine gl_callQ (by kernel_rfl) (strings_Compare_walk (r := (strings_Compare a0.f1 a1.f1))  rfl _) ?_
    refine gl_pure 1 [4] (K' := [(4, .int .i64 (strings_Compare a0.f1 a1.f1))]) (by kernel_rfl) ?_
    refine gl_atE (by kernel_rfl) ?_
    refine ge_seq ?_
    refine gk_reord (D := L) (Reord.skip (Reord.skip (Reord.refl _))) ?_
    refine gk_ret (by kernel_rfl) ?_
    obtain rfl := some_inj hr
    exact ge_result trivial (ResOk.tmp (by kernel_rfl) ResOk.nil) (Imm.refl _) ⟨rfl, rfl⟩
/-! 79 nflog_list_find_1 ('imm', ('ptrR', 75)) -/
noncomputable def nflog_list_find_1 (a0 : S96) (a1 : S74) : Bool :=
  (decide ((nflog_key_compare a0.f0 a1) ≥ 0))
theorem nflog_list_find_1_walk {a0 : S96} {A0_5 : Option Addr} {n0_5 : Nat} {A0_6 : Option Addr} {n0_6 : Nat} {a1 : S74} {p1 : Addr} {I : Imm} {r : Bool}  (hf0_5 : RepS (Kd.sl kS50) I A0_5 n0_5 a0.f1.f3) (hf0_6 : RepS (Kd.sl kS50) I A0_6 n0_6 a0.f1.f4) (hp1 : RunAt I p1 [.string a1.f0, .string a1.f1]) (hr : nflog_list_find_1 a0 a1 = r) (L : Own) :
    CallsTo Tryd.prog 79 #[.agg #[.string a0.f0.f0, .string a0.f0.f1, .string a0.f1.f0, .string a0.f1.f1, .int .i64 a0.f1.f2, .slice A0_5 a0.f1.f3.length n0_5, .slice A0_6 a0.f1.f4.length n0_6], .pointer (some p1)] I L (fun v I' L' => v = .bool r ∧ L = L') := by
  replace hr : some (nflog_list_find_1 a0 a1) = some r := congrArg some hr
  unfold nflog_list_find_1 at hr
  refine callsTo_body (N := 9) Tryd.func79 (by kernel_rfl) (by kernel_rfl) (by kernel_rfl) ?_
  refine gk_pick [0, 1] (K' := [(0, .agg #[.string a0.f0.f0, .string a0.f0.f1, .string a0.f1.f0, .string a0.f1.f1, .int .i64 a0.f1.f2, .slice A0_5 a0.f1.f3.length n0_5, .slice A0_6 a0.f1.f4.length n0_6]), (1, .pointer (some p1))]) (by kernel_rfl) ?_
  refine gk_seq (by kernel_rfl) ?_
  refine gk_region (by kernel_rfl) ?_
  refine gl_box (T' := 97) (x := (.tmp 0)) (v := .agg #[.string a0.f0.f0, .string a0.f0.f1, .string a0.f1.f0, .string a0.f1.f1, .int .i64 a0.f1.f2, .slice A0_5 a0.f1.f3.length n0_5, .slice A0_6 a0.f1.f4.length n0_6]) (cs := #[.string a0.f0.f0, .string a0.f0.f1, .string a0.f1.f0, .string a0.f1.f1, .int .i64 a0.f1.f2, .slice A0_5 a0.f1.f3.length n0_5, .slice A0_6 a0.f1.f4.length n0_6]) (by kernel_rfl) (by kernel_rfl) (by kernel_rfl) (by kernel_rfl) (fun g1 => ?_)
  refine gl_pure 1 [1, 2] (K' := [(1, .pointer (some p1)), (2, .pointer (some ⟨g1, 0, none⟩))]) (by kernel_rfl) ?_
  refine gl_atE (by kernel_rfl) ?_
  refine ge_seq ?_
  refine gk_seq (by kernel_rfl) ?_
  refine gk_region (by kernel_rfl) ?_
  refine gl_pure 1 [1, 4] (K' := [(1, .pointer (some p1)), (4, .pointer (some ⟨g1, 0, none⟩))]) (by kernel_rfl) ?_
  refine gl_loadB (T' := 75) (xp := (.tmp 4)) (v := .agg #[.string a0.f0.f0, .string a0.f0.f1]) (g := g1) (off := 0) (cs := #[.string a0.f0.f0, .string a0.f0.f1, .string a0.f1.f0, .string a0.f1.f1, .int .i64 a0.f1.f2, .slice A0_5 a0.f1.f3.length n0_5, .slice A0_6 a0.f1.f4.length n0_6]) (e := 97) (fz := (0, 0)) (by kernel_rfl) (by kernel_rfl) (by kernel_rfl) List.mem_cons_self (by kernel_rfl) ?_
  refine gl_loadA (T' := 75) (xp := (.tmp 1)) (p := p1) (cs := [.string a1.f0, .string a1.f1]) (by kernel_rfl) (by kernel_rfl) (by kernel_rfl) (by kernel_rfl) (hp1.take 2) ?_
  refine gl_callQ (by kernel_rfl) (nflog_key_compare_walk (r := (nflog_key_compare a0.f0 a1))  rfl _) ?_
  refine gl_pure 2 [3] (K' := [(3, .bool (decide ((nflog_key_compare a0.f0 a1) ≥ 0)))]) (by kernel_rfl) ?_
  refine gl_atE (by kernel_rfl) ?_
  refine ge_seq ?_
  refine gk_reord (D := L) (Reord.skip (Reord.refl _)) ?_
  refine gk_ret (by kernel_rfl) ?_
  obtain rfl := some_inj hr
  exact ge_result trivial (ResOk.tmp (by kernel_rfl) ResOk.nil) (Imm.refl _) ⟨rfl, rfl⟩
theorem nflog_list_find_1_impl109 {a1 : S74} {p1 : Addr} {I : Imm} (hp1 : RunAt I p1 [.string a1.f0, .string a1.f1]) : Fn109 I (.func (.func 79) #[] #[.pointer (some p1)]) (fun x0 => some (nflog_list_find_1 x0 a1)) := ⟨fun I' hI x0 r hr A0_5 c0_5 A0_6 c0_6 h0_5 h0_6 L => ⟨79, #[], #[.pointer (some p1)], rfl, ⟨_, Tryd.func79, by kernel_rfl, by kernel_rfl⟩, by
  simp only [List.append_toArray, List.nil_append, List.append_nil, Array.append_empty, Array.empty_append, List.push_append_toArray, List.cons_append]
  exact nflog_list_find_1_walk  h0_5 h0_6 (hp1.mono hI) (some_inj hr) L⟩⟩
/-! 68 nflog_list_find ('obj', 'imm') -/
noncomputable def nflog_list_find (a0 : S66) (a1 : S74) : Option (Int × Bool) :=
  Option.bind (slices_IndexFunc_f78 a0.f0 (fun x0 => some (nflog_list_find_1 x0 a1))) fun (y2 : Int) =>
  bif (decide (y2 < 0)) then
  (some ((a0.f0.length : Int), false))
  else
  (Option.bind (ix a0.f0 y2) fun (x5 : S96) =>
    some (y2, ((x5.f0.f0.toList == a1.f0.toList) && (x5.f0.f1.toList == a1.f1.toList))))
theorem nflog_list_find_walk {a0 : S66} {g0 : Nat} {T0 : TypeId} {A0_0 : Option Addr} {c0_0 : Nat} {C0_0 : Own} {a1 : S74} {I : Imm} {r : Int × Bool}  (hO0_0 : OwnS kS96 97 I A0_0 c0_0 a0.f0 C0_0) (hr : nflog_list_find a0 a1 = some r) (L : Own) :
    CallsTo Tryd.prog 68 #[.pointer (some ⟨g0, 0, none⟩), .agg #[.string a1.f0, .string a1.f1]] I ((g0, .cells #[.slice A0_0 a0.f0.length c0_0] T0) :: (C0_0 ++ L)) (fun v I' L' => v = .tuple #[.int .i64 r.1, .bool r.2] ∧ (g0, .cells #[.slice A0_0 a0.f0.length c0_0] T0) :: (C0_0 ++ L) = L') := by
  unfold nflog_list_find at hr
  refine callsTo_body (N := 31) Tryd.func68 (by kernel_rfl) (by kernel_rfl) (by kernel_rfl) ?_
  refine gk_pick [0, 1] (K' := [(0, .pointer (some ⟨g0, 0, none⟩)), (1, .agg #[.string a1.f0, .string a1.f1])]) (by kernel_rfl) ?_
  refine gk_seq (by kernel_rfl) ?_
  refine gk_region (by kernel_rfl) ?_
  refine gl_box (T' := 75) (x := (.tmp 1)) (v := .agg #[.string a1.f0, .string a1.f1]) (cs := #[.string a1.f0, .string a1.f1]) (by kernel_rfl) (by kernel_rfl) (by kernel_rfl) (by kernel_rfl) (fun g1 => ?_)
  refine gl_pure 2 [0, 3] (K' := [(0, .pointer (some ⟨g0, 0, none⟩)), (3, .pointer (some ⟨g1, 0, none⟩))]) (by kernel_rfl) ?_
  refine gl_atE (by kernel_rfl) ?_
  refine ge_seq ?_
  refine gk_seq (by kernel_rfl) ?_
  refine gk_region (by kernel_rfl) ?_
  refine gl_pure 3 [0, 3, 9] (K' := [(0, .pointer (some ⟨g0, 0, none⟩)), (3, .pointer (some ⟨g1, 0, none⟩)), (9, .pointer (some ⟨g0, 0, none⟩))]) (by kernel_rfl) ?_
  refine gl_loadB (T' := 65) (xp := (.tmp 9)) (v := .slice A0_0 a0.f0.length c0_0) (g := g0) (off := 0) (cs := #[.slice A0_0 a0.f0.length c0_0]) (e := T0) (fz := (0, 0)) (by kernel_rfl) (by kernel_rfl) (by kernel_rfl) (List.mem_cons_of_mem _ List.mem_cons_self) (by kernel_rfl) ?_
  refine gl_pure 1 [0, 3, 10, 11] (K' := [(0, .pointer (some ⟨g0, 0, none⟩)), (3, .pointer (some ⟨g1, 0, none⟩)), (10, .slice A0_0 a0.f0.length c0_0), (11, .func (.func 79) #[] #[.pointer (some ⟨g1, 0, none⟩)])]) (by kernel_rfl) ?_
  obtain ⟨y2, hx3, hr⟩ := bind_some hr
  refine gl_callB (r := .int .i64 y2) (Tk.step (Upd.rm1 _ _) (Tk.step (Upd.one _ (Upd.rmC _ _)) (Tk.nil _))) (by kernel_rfl) (fun J hJ hC => slices_IndexFunc_f78_walk (r := y2) (OwnS.rest hO0_0 hJ hC.right.left) (nflog_list_find_1_impl109 hC.left.blk) hx3 _) ?_
  refine gl_pure 1 [0, 3, 6] (K' := [(0, .pointer (some ⟨g0, 0, none⟩)), (3, .pointer (some ⟨g1, 0, none⟩)), (6, .int .i64 y2)]) (by kernel_rfl) ?_
  refine gl_atE (by kernel_rfl) ?_
  refine ge_seq ?_
  refine gk_seq (by kernel_rfl) ?_
  refine gk_seq (by kernel_rfl) ?_
  refine gk_region (by kernel_rfl) ?_
  refine gl_pure 2 [0, 3, 6, 14] (K' := [(0, .pointer (some ⟨g0, 0, none⟩)), (3, .pointer (some ⟨g1, 0, none⟩)), (6, .int .i64 y2), (14, .bool (decide (y2 < 0)))]) (by kernel_rfl) ?_
  refine gl_atE (by kernel_rfl) ?_
  refine ge_seq ?_
  refine gk_cond (b := (decide (y2 < 0))) (by kernel_rfl) (by kernel_rfl) (fun hc4 => ?_) (fun hc4 => ?_)
  · have hr := cond_t hc4 hr
    refine gk_seq (by kernel_rfl) ?_
    refine gk_region (by kernel_rfl) ?_
    refine gl_pure 3 [17] (K' := [(17, .pointer (some ⟨g0, 0, none⟩))]) (by kernel_rfl) ?_
    refine gl_loadB (T' := 65) (xp := (.tmp 17)) (v := .slice A0_0 a0.f0.length c0_0) (g := g0) (off := 0) (cs := #[.slice A0_0 a0.f0.length c0_0]) (e := T0) (fz := (0, 0)) (by kernel_rfl) (by kernel_rfl) (by kernel_rfl) (List.mem_cons_of_mem _ List.mem_cons_self) (by kernel_rfl) ?_
    refine gl_pure 3 [4, 5] (K' := [(4, .int .i64 (a0.f0.length : Int)), (5, .bool false)]) (by kernel_rfl) ?_
    refine gl_atE (by kernel_rfl) ?_
    refine ge_seq ?_
    refine gk_reord (D := (g0, .cells #[.slice A0_0 a0.f0.length c0_0] T0) :: (C0_0 ++ L)) (Reord.step1 (Upd.one _ (Upd.rm1 _ _)) (Reord.step (Upd.one _ (Upd.rmC _ _)) (Reord.skip (Reord.refl _)))) ?_
    refine gk_ret (by kernel_rfl) ?_
    refine ge_seq_ret ?_
    obtain rfl := some_inj hr
    exact ge_result trivial (ResOk.tmp (by kernel_rfl) (ResOk.tmp (by kernel_rfl) ResOk.nil)) (Imm.refl _) ⟨rfl, rfl⟩
  · have hr := cond_f hc4 hr
    refine gk_skip (by kernel_rfl) ?_
    refine ge_seq ?_
    refine gk_seq (by kernel_rfl) ?_
    refine gk_draw 13 [(0, true), (1, true), (2, true), (3, true), (4, true), (5, true), (6, true), (7, true), (8, true), (9, true), (10, true), (11, true), (12, true)] (C0_0 ++ [(g1, .cells #[.string a1.f0, .string a1.f1] 75), (g0, .cells #[.slice A0_0 a0.f0.length c0_0] T0)]) (List.forall_mem_append.2 ⟨fun q hq => (List.mem_cons_of_mem _ (List.mem_cons_of_mem _ (List.mem_append_left _ hq))), (List.forall_mem_cons.2 ⟨List.mem_cons_self, (List.forall_mem_cons.2 ⟨(List.mem_cons_of_mem _ List.mem_cons_self), (fun p hp => by cases hp)⟩)⟩)⟩) (by kernel_rfl) (by kernel_rfl) (by kernel_rfl) ?_ (by kernel_rfl)
    refine gd_pure 4 [3, 6, 20, 23] (K' := [(3, .pointer (some ⟨g1, 0, none⟩)), (6, .int .i64 y2), (20, .int .i64 y2), (23, .pointer (some ⟨g0, 0, none⟩))]) (s' := [(4, true), (5, true), (6, true), (7, true), (8, true), (9, true), (10, true), (11, true), (12, true)]) (CC.refl (List.forall_mem_append.2 ⟨fun q hq => (List.mem_cons_of_mem _ (List.mem_cons_of_mem _ (List.mem_append_left _ hq))), (List.forall_mem_cons.2 ⟨List.mem_cons_self, (List.forall_mem_cons.2 ⟨(List.mem_cons_of_mem _ List.mem_cons_self), (fun p hp => by cases hp)⟩)⟩)⟩)) (by kernel_rfl) ?_
    refine gd_q (v := .slice A0_0 a0.f0.length c0_0) (by kernel_rfl) (by kernel_rfl) (CC.refl (List.forall_mem_append.2 ⟨fun q hq => (List.mem_cons_of_mem _ (List.mem_cons_of_mem _ (List.mem_append_left _ hq))), (List.forall_mem_cons.2 ⟨List.mem_cons_self, (List.forall_mem_cons.2 ⟨(List.mem_cons_of_mem _ List.mem_cons_self), (fun p hp => by cases hp)⟩)⟩)⟩)) (fun I' L' T hC kk => gl_loadB (T' := 65) (xp := (.tmp 23)) (v := .slice A0_0 a0.f0.length c0_0) (g := g0) (off := 0) (cs := #[.slice A0_0 a0.f0.length c0_0]) (e := T0) (fz := (0, 0)) (by kernel_rfl) (by kernel_rfl) (by kernel_rfl) (hC.sub _ (List.mem_append_right _ (List.mem_cons_of_mem _ List.mem_cons_self))) (by kernel_rfl) kk) ?_
    refine gd_pure 1 [3, 20, 24, 25] (K' := [(3, .pointer (some ⟨g1, 0, none⟩)), (20, .int .i64 y2), (24, .slice A0_0 a0.f0.length c0_0), (25, .int .i64 y2)]) (s' := [(6, true), (7, true), (8, true), (9, true), (10, true), (11, true), (12, true)]) (CC.refl (List.forall_mem_append.2 ⟨fun q hq => (List.mem_cons_of_mem _ (List.mem_cons_of_mem _ (List.mem_append_left _ hq))), (List.forall_mem_cons.2 ⟨List.mem_cons_self, (List.forall_mem_cons.2 ⟨(List.mem_cons_of_mem _ List.mem_cons_self), (fun p hp => by cases hp)⟩)⟩)⟩)) (by kernel_rfl) ?_
    obtain ⟨x5, hx6, hr⟩ := bind_some hr
    obtain ⟨p7, cs8, hR9, hA10, ha11, hg19⟩ := OwnS.ixAtG hx6 hO0_0
    have hi12 := ix_some hx6
    obtain ⟨A13, n14, A16, n17, hf15, hf18, rfl⟩ := kS96_open hR9
    refine gd_q (v := .pointer (some p7)) (by kernel_rfl) (by kernel_rfl) (CC.refl (List.forall_mem_append.2 ⟨fun q hq => (List.mem_cons_of_mem _ (List.mem_cons_of_mem _ (List.mem_append_left _ hq))), (List.forall_mem_cons.2 ⟨List.mem_cons_self, (List.forall_mem_cons.2 ⟨(List.mem_cons_of_mem _ List.mem_cons_self), (fun p hp => by cases hp)⟩)⟩)⟩)) (fun I' L' T hC kk => gl_indexAddrF (c := c0_0) (T' := 65) (e := 97) (xs := (.tmp 24)) (xi := (.tmp 25)) (kd := .i64) ha11 hi12.1 hi12.2.1 (by kernel_rfl) (by kernel_rfl) (by kernel_rfl) (by kernel_rfl) (by kernel_rfl) kk) ?_
    refine gd_pure 1 [3, 20, 27] (K' := [(3, .pointer (some ⟨g1, 0, none⟩)), (20, .int .i64 y2), (27, .pointer (some (p7.add 0)))]) (s' := [(8, true), (9, true), (10, true), (11, true), (12, true)]) (CC.refl (List.forall_mem_append.2 ⟨fun q hq => (List.mem_cons_of_mem _ (List.mem_cons_of_mem _ (List.mem_append_left _ hq))), (List.forall_mem_cons.2 ⟨List.mem_cons_self, (List.forall_mem_cons.2 ⟨(List.mem_cons_of_mem _ List.mem_cons_self), (fun p hp => by cases hp)⟩)⟩)⟩)) (by kernel_rfl) ?_
    refine gd_q (v := .agg #[.string x5.f0.f0, .string x5.f0.f1]) (by kernel_rfl) (by kernel_rfl) (CC.refl (List.forall_mem_append.2 ⟨fun q hq => (List.mem_cons_of_mem _ (List.mem_cons_of_mem _ (List.mem_append_left _ hq))), (List.forall_mem_cons.2 ⟨List.mem_cons_self, (List.forall_mem_cons.2 ⟨(List.mem_cons_of_mem _ List.mem_cons_self), (fun p hp => by cases hp)⟩)⟩)⟩)) (fun I' L' T hC kk => gl_loadOA (T' := 75) (xp := (.tmp 27)) (p := (p7.add 0)) (cs := [.string x5.f0.f0, .string x5.f0.f1]) (by kernel_rfl) (by kernel_rfl) (by kernel_rfl) (by kernel_rfl) (((fun I' L' h => (hA10 I' L' h).drop 0) _ _ (fun q hq => hC.sub _ (List.mem_append_left _ hq))).take 2) kk) ?_
    refine gd_q (v := .agg #[.string a1.f0, .string a1.f1]) (by kernel_rfl) (by kernel_rfl) (CC.refl (List.forall_mem_append.2 ⟨fun q hq => (List.mem_cons_of_mem _ (List.mem_cons_of_mem _ (List.mem_append_left _ hq))), (List.forall_mem_cons.2 ⟨List.mem_cons_self, (List.forall_mem_cons.2 ⟨(List.mem_cons_of_mem _ List.mem_cons_self), (fun p hp => by cases hp)⟩)⟩)⟩)) (fun I' L' T hC kk => gl_loadB (T' := 75) (xp := (.tmp 3)) (v := .agg #[.string a1.f0, .string a1.f1]) (g := g1) (off := 0) (cs := #[.string a1.f0, .string a1.f1]) (e := 75) (fz := (0, 0)) (by kernel_rfl) (by kernel_rfl) (by kernel_rfl) (hC.sub _ (List.mem_append_right _ List.mem_cons_self)) (by kernel_rfl) kk) ?_
    refine gd_q (v := .bool ((x5.f0.f0.toList == a1.f0.toList) && (x5.f0.f1.toList == a1.f1.toList))) (by kernel_rfl) (by kernel_rfl) (CC.refl (List.forall_mem_append.2 ⟨fun q hq => (List.mem_cons_of_mem _ (List.mem_cons_of_mem _ (List.mem_append_left _ hq))), (List.forall_mem_cons.2 ⟨List.mem_cons_self, (List.forall_mem_cons.2 ⟨(List.mem_cons_of_mem _ List.mem_cons_self), (fun p hp => by cases hp)⟩)⟩)⟩)) (fun I' L' T hC kk => gl_eqAgg (cx := #[.string x5.f0.f0, .string x5.f0.f1]) (cy := #[.string a1.f0, .string a1.f1]) (n := false) (t := 75) (t' := 75) (x := (.tmp 28)) (y := (.tmp 29)) (b := ((x5.f0.f0.toList == a1.f0.toList) && (x5.f0.f1.toList == a1.f1.toList))) (by kernel_rfl) (by kernel_rfl) (by kernel_rfl) (by kernel_rfl) (by kernel_rfl) kk) ?_
    refine gd_pure 2 [4, 5] (K' := [(4, .int .i64 y2), (5, .bool ((x5.f0.f0.toList == a1.f0.toList) && (x5.f0.f1.toList == a1.f1.toList)))]) (s' := []) (CC.refl (List.forall_mem_append.2 ⟨fun q hq => (List.mem_cons_of_mem _ (List.mem_cons_of_mem _ (List.mem_append_left _ hq))), (List.forall_mem_cons.2 ⟨List.mem_cons_self, (List.forall_mem_cons.2 ⟨(List.mem_cons_of_mem _ List.mem_cons_self), (fun p hp => by cases hp)⟩)⟩)⟩)) (by kernel_rfl) ?_
    refine gd_done ?_
    refine gl_atE (by kernel_rfl) ?_
    refine ge_seq ?_
    refine gk_reord (D := (g0, .cells #[.slice A0_0 a0.f0.length c0_0] T0) :: (C0_0 ++ L)) (Reord.step1 (Upd.one _ (Upd.rm1 _ _)) (Reord.step (Upd.one _ (Upd.rmC _ _)) (Reord.skip (Reord.refl _)))) ?_
    refine gk_ret (by kernel_rfl) ?_
    obtain rfl := some_inj hr
    exact ge_result trivial (ResOk.tmp (by kernel_rfl) (ResOk.tmp (by kernel_rfl) ResOk.nil)) (Imm.refl _) ⟨rfl, rfl⟩
/-! 52 nflog_own  -/
noncomputable def nflog_own (a0 : S23) : Option S23 :=
  Option.bind (nflog_sets a0.f3) fun (y3 : (List (List S50))) =>
  Option.bind (nflog_sets a0.f4) fun (y12 : (List (List S50))) =>
  some (⟨a0.f0, a0.f1, a0.f2, y3, y12⟩ : S23)
theorem nflog_own_walk {a0 : S23} {A0_3 : Option Addr} {n0_3 : Nat} {A0_4 : Option Addr} {n0_4 : Nat} {I : Imm} {r : S23}  (hf0_3 : RepS (Kd.sl kS50) I A0_3 n0_3 a0.f3) (hf0_4 : RepS (Kd.sl kS50) I A0_4 n0_4 a0.f4) (hr : nflog_own a0 = some r) (L : Own) :
    CallsTo Tryd.prog 52 #[.agg #[.string a0.f0, .string a0.f1, .int .i64 a0.f2, .slice A0_3 a0.f3.length n0_3, .slice A0_4 a0.f4.length n0_4]] I L (fun v I' L' => ∃ A0_3 c0_3 A0_4 c0_4, RepS (Kd.sl kS50) I' A0_3 c0_3 r.f3 ∧ RepS (Kd.sl kS50) I' A0_4 c0_4 r.f4 ∧ v = .agg #[.string r.f0, .string r.f1, .int .i64 r.f2, .slice A0_3 r.f3.length c0_3, .slice A0_4 r.f4.length c0_4] ∧ L = L') := by
  unfold nflog_own at hr
  refine callsTo_body (N := 12) Tryd.func52 (by kernel_rfl) (by kernel_rfl) (by kernel_rfl) ?_
  refine gk_pick [0] (K' := [(0, .agg #[.string a0.f0, .string a0.f1, .int .i64 a0.f2, .slice A0_3 a0.f3.length n0_3, .slice A0_4 a0.f4.length n0_4])]) (by kernel_rfl) ?_
  refine gk_seq (by kernel_rfl) ?_
  refine gk_region (by kernel_rfl) ?_
  refine gl_box (T' := 24) (x := (.tmp 0)) (v := .agg #[.string a0.f0, .string a0.f1, .int .i64 a0.f2, .slice A0_3 a0.f3.length n0_3, .slice A0_4 a0.f4.length n0_4]) (cs := #[.string a0.f0, .string a0.f1, .int .i64 a0.f2, .slice A0_3 a0.f3.length n0_3, .slice A0_4 a0.f4.length n0_4]) (by kernel_rfl) (by kernel_rfl) (by kernel_rfl) (by kernel_rfl) (fun g1 => ?_)
  refine gl_alloc (T' := 24) (cs := #[.string (⟨#[]⟩ : ByteArray), .string (⟨#[]⟩ : ByteArray), .int .i64 0, .slice none 0 0, .slice none 0 0]) (by kernel_rfl) (by kernel_rfl) (by kernel_rfl) (fun g2 => ?_)
  refine gl_atE (by kernel_rfl) ?_
  refine ge_seq ?_
  refine gk_seq (by kernel_rfl) ?_
  refine gk_draw 7 [(0, true), (1, true), (3, true), (4, true), (2, false), (6, true), (5, false)] [(g2, .cells #[.string (⟨#[]⟩ : ByteArray), .string (⟨#[]⟩ : ByteArray), .int .i64 0, .slice none 0 0, .slice none 0 0] 24), (g1, .cells #[.string a0.f0, .string a0.f1, .int .i64 a0.f2, .slice A0_3 a0.f3.length n0_3, .slice A0_4 a0.f4.length n0_4] 24)] (List.forall_mem_cons.2 ⟨List.mem_cons_self, (List.forall_mem_cons.2 ⟨(List.mem_cons_of_mem _ List.mem_cons_self), (fun p hp => by cases hp)⟩)⟩) (by kernel_rfl) (by kernel_rfl) (by kernel_rfl) ?_ (by kernel_rfl)
  refine gd_pure 1 [1, 2, 3] (K' := [(1, .pointer (some ⟨g1, 0, none⟩)), (2, .pointer (some ⟨g2, 0, none⟩)), (3, .pointer (some ⟨g1, 3, none⟩))]) (s' := [(1, true), (3, true), (4, true), (2, false), (6, true), (5, false)]) (CC.refl (List.forall_mem_cons.2 ⟨List.mem_cons_self, (List.forall_mem_cons.2 ⟨(List.mem_cons_of_mem _ List.mem_cons_self), (fun p hp => by cases hp)⟩)⟩)) (by kernel_rfl) ?_
  refine gd_q (v := .slice A0_3 a0.f3.length n0_3) (by kernel_rfl) (by kernel_rfl) (CC.refl (List.forall_mem_cons.2 ⟨List.mem_cons_self, (List.forall_mem_cons.2 ⟨(List.mem_cons_of_mem _ List.mem_cons_self), (fun p hp => by cases hp)⟩)⟩)) (fun I' L' T hC kk => gl_loadB (T' := 22) (xp := (.tmp 3)) (v := .slice A0_3 a0.f3.length n0_3) (g := g1) (off := 3) (cs := #[.string a0.f0, .string a0.f1, .int .i64 a0.f2, .slice A0_3 a0.f3.length n0_3, .slice A0_4 a0.f4.length n0_4]) (e := 24) (fz := (0, 0)) (by kernel_rfl) (by kernel_rfl) (by kernel_rfl) (hC.sub _ (List.mem_cons_of_mem _ List.mem_cons_self)) (by kernel_rfl) kk) ?_
  refine gd_pure 1 [1, 2, 4, 6] (K' := [(1, .pointer (some ⟨g1, 0, none⟩)), (2, .pointer (some ⟨g2, 0, none⟩)), (4, .slice A0_3 a0.f3.length n0_3), (6, .pointer (some ⟨g1, 4, none⟩))]) (s' := [(4, true), (2, false), (6, true), (5, false)]) (CC.refl (List.forall_mem_cons.2 ⟨List.mem_cons_self, (List.forall_mem_cons.2 ⟨(List.mem_cons_of_mem _ List.mem_cons_self), (fun p hp => by cases hp)⟩)⟩)) (by kernel_rfl) ?_
  refine gd_q (v := .slice A0_4 a0.f4.length n0_4) (by kernel_rfl) (by kernel_rfl) (CC.refl (List.forall_mem_cons.2 ⟨List.mem_cons_self, (List.forall_mem_cons.2 ⟨(List.mem_cons_of_mem _ List.mem_cons_self), (fun p hp => by cases hp)⟩)⟩)) (fun I' L' T hC kk => gl_loadB (T' := 22) (xp := (.tmp 6)) (v := .slice A0_4 a0.f4.length n0_4) (g := g1) (off := 4) (cs := #[.string a0.f0, .string a0.f1, .int .i64 a0.f2, .slice A0_3 a0.f3.length n0_3, .slice A0_4 a0.f4.length n0_4]) (e := 24) (fz := (0, 0)) (by kernel_rfl) (by kernel_rfl) (by kernel_rfl) (hC.sub _ (List.mem_cons_of_mem _ List.mem_cons_self)) (by kernel_rfl) kk) ?_
  refine gd_one (by kernel_rfl) ?_
  obtain ⟨y3, hx4, hr⟩ := bind_some hr
  refine gl_call (by kernel_rfl) (nflog_sets_walk (r := y3) hf0_3 hx4 _) ?_
  rintro v I5 L6 hI7 ⟨A8, c9, C10, hO11, rfl, rfl⟩
  refine gl_toD (by kernel_rfl) ⟨hI7, (List.forall_mem_cons.2 ⟨(List.mem_append_right _ List.mem_cons_self), (List.forall_mem_cons.2 ⟨(List.mem_append_right _ (List.mem_cons_of_mem _ List.mem_cons_self)), (fun p hp => by cases hp)⟩)⟩)⟩ ?_
  refine gd_pure 1 [1, 2, 5, 7, 9] (K' := [(1, .pointer (some ⟨g1, 0, none⟩)), (2, .pointer (some ⟨g2, 0, none⟩)), (5, .slice A8 y3.length c9), (7, .slice A0_4 a0.f4.length n0_4), (9, .pointer (some ⟨g1, 3, none⟩))]) (s' := [(5, false)]) (CC.refl (List.forall_mem_cons.2 ⟨(List.mem_append_right _ List.mem_cons_self), (List.forall_mem_cons.2 ⟨(List.mem_append_right _ (List.mem_cons_of_mem _ List.mem_cons_self)), (fun p hp => by cases hp)⟩)⟩)) (by kernel_rfl) ?_
  refine gd_one (by kernel_rfl) ?_
  obtain ⟨y12, hx13, hr⟩ := bind_some hr
  refine gl_call (by kernel_rfl) (nflog_sets_walk (r := y12) (hf0_4.mono hI7) hx13 _) ?_
  rintro v I14 L15 hI16 ⟨A17, c18, C19, hO20, rfl, rfl⟩
  refine gl_toD (by kernel_rfl) ⟨hI16, (List.forall_mem_cons.2 ⟨(List.mem_append_right _ (List.mem_append_right _ List.mem_cons_self)), (List.forall_mem_cons.2 ⟨(List.mem_append_right _ (List.mem_append_right _ (List.mem_cons_of_mem _ List.mem_cons_self))), (fun p hp => by cases hp)⟩)⟩)⟩ ?_
  refine gd_done ?_
  refine gl_storeB (T' := 22) (xp := (.tmp 9)) (xv := (.tmp 5)) (v := .slice A8 y3.length c9) (g := g1) (off := 3) (cs := #[.string a0.f0, .string a0.f1, .int .i64 a0.f2, .slice A0_3 a0.f3.length n0_3, .slice A0_4 a0.f4.length n0_4]) (cs' := #[.string a0.f0, .string a0.f1, .int .i64 a0.f2, .slice A8 y3.length c9, .slice A0_4 a0.f4.length n0_4]) (by kernel_rfl) (by kernel_rfl) (by kernel_rfl) (by kernel_rfl) (by kernel_rfl) (Upd.app _ (Upd.app _ (Upd.one _ (Upd.set _ _ _ _)))) ?_ (by kernel_rfl)
  refine gl_pure 1 [1, 2, 8, 10] (K' := [(1, .pointer (some ⟨g1, 0, none⟩)), (2, .pointer (some ⟨g2, 0, none⟩)), (8, .slice A17 y12.length c18), (10, .pointer (some ⟨g1, 4, none⟩))]) (by kernel_rfl) ?_
  refine gl_storeB (T' := 22) (xp := (.tmp 10)) (xv := (.tmp 8)) (v := .slice A17 y12.length c18) (g := g1) (off := 4) (cs := #[.string a0.f0, .string a0.f1, .int .i64 a0.f2, .slice A8 y3.length c9, .slice A0_4 a0.f4.length n0_4]) (cs' := #[.string a0.f0, .string a0.f1, .int .i64 a0.f2, .slice A8 y3.length c9, .slice A17 y12.length c18]) (by kernel_rfl) (by kernel_rfl) (by kernel_rfl) (by kernel_rfl) (by kernel_rfl) (Upd.app _ (Upd.app _ (Upd.one _ (Upd.set _ _ _ _)))) ?_ (by kernel_rfl)
  refine gl_atE (by kernel_rfl) ?_
  refine ge_seq ?_
  refine gk_seq (by kernel_rfl) ?_
  refine gk_region (by kernel_rfl) ?_
  refine gl_loadB (T' := 24) (xp := (.tmp 1)) (v := .agg #[.string a0.f0, .string a0.f1, .int .i64 a0.f2, .slice A8 y3.length c9, .slice A17 y12.length c18]) (g := g1) (off := 0) (cs := #[.string a0.f0, .string a0.f1, .int .i64 a0.f2, .slice A8 y3.length c9, .slice A17 y12.length c18]) (e := 24) (fz := (0, 0)) (by kernel_rfl) (by kernel_rfl) (by kernel_rfl) (List.mem_append_right _ (List.mem_append_right _ (List.mem_cons_of_mem _ List.mem_cons_self))) (by kernel_rfl) ?_
  refine gl_storeB (T' := 24) (xp := (.tmp 2)) (xv := (.tmp 11)) (v := .agg #[.string a0.f0, .string a0.f1, .int .i64 a0.f2, .slice A8 y3.length c9, .slice A17 y12.length c18]) (g := g2) (off := 0) (cs := #[.string (⟨#[]⟩ : ByteArray), .string (⟨#[]⟩ : ByteArray), .int .i64 0, .slice none 0 0, .slice none 0 0]) (cs' := #[.string a0.f0, .string a0.f1, .int .i64 a0.f2, .slice A8 y3.length c9, .slice A17 y12.length c18]) (by kernel_rfl) (by kernel_rfl) (by kernel_rfl) (by kernel_rfl) (by kernel_rfl) (Upd.app _ (Upd.app _ (Upd.set _ _ _ _))) ?_ (by kernel_rfl)
  refine gl_atE (by kernel_rfl) ?_
  refine ge_seq ?_
  refine gk_rest (Tk.step (Upd.rmC _ _) (Tk.step (Upd.rmC _ _) (Tk.step (Upd.rm1 _ _) (Tk.nil _)))) (fun J21 hJ22 hC23 => ?_)
  have hf24 := (OwnS.rest hO20 hJ22 hC23.left)
  have hf25 := (OwnS.rest (hO11.mono hI16) hJ22 hC23.right.left)
  have hf26 := hC23.right.right.left.blk
  refine gk_reord (D := L) (Reord.skip (Reord.refl _)) ?_
  refine gk_ret (by kernel_rfl) ?_
  obtain rfl := some_inj hr
  exact ge_result trivial (ResOk.cell (v := .agg #[.string a0.f0, .string a0.f1, .int .i64 a0.f2, .slice A8 y3.length c9, .slice A17 y12.length c18]) (by kernel_rfl) (loadR_agg (cs := [.string a0.f0, .string a0.f1, .int .i64 a0.f2, .slice A8 y3.length c9, .slice A17 y12.length c18]) (by kernel_rfl) (RunAt.take hf26 5)) ResOk.nil) (Imm.trans (Imm.trans hI7 hI16) hJ22) ⟨A8, c9, A17, c18, hf25, hf24, rfl, rfl⟩
/-! 49 nflog_Log_Find ('obj', 'imm', 'imm') -/
noncomputable def nflog_Log_Find (a0 : S68) (a1 : ByteArray) (a2 : ByteArray) : Option (S23 × Bool) :=
  Option.bind (nflog_list_find a0.f0 (⟨a1, a2⟩ : S74)) fun (y2 : Int × Bool) =>
  bif (!y2.2) then
  (some ((⟨(⟨#[]⟩ : ByteArray), (⟨#[]⟩ : ByteArray), 0, [], []⟩ : S23), false))
  else
  (Option.bind (ix a0.f0.f0 y2.1) fun (x12 : S96) =>
    Option.bind (nflog_own x12.f1) fun (y27 : S23) =>
    some (y27, true))
theorem nflog_Log_Find_walk {a0 : S68} {g0 : Nat} {T0 : TypeId} {A0_0 : Option Addr} {c0_0 : Nat} {C0_0 : Own} {a1 : ByteArray} {a2 : ByteArray} {I : Imm} {r : S23 × Bool}  (hO0_0 : OwnS kS96 97 I A0_0 c0_0 a0.f0.f0 C0_0) (hr : nflog_Log_Find a0 a1 a2 = some r) (L : Own) :
    CallsTo Tryd.prog 49 #[.pointer (some ⟨g0, 0, none⟩), .string a1, .string a2] I ((g0, .cells #[.slice A0_0 a0.f0.f0.length c0_0] T0) :: (C0_0 ++ L)) (fun v I' L' => ∃ A0_3 c0_3 A0_4 c0_4, RepS (Kd.sl kS50) I' A0_3 c0_3 r.1.f3 ∧ RepS (Kd.sl kS50) I' A0_4 c0_4 r.1.f4 ∧ v = .tuple #[.agg #[.string r.1.f0, .string r.1.f1, .int .i64 r.1.f2, .slice A0_3 r.1.f3.length c0_3, .slice A0_4 r.1.f4.length c0_4], .bool r.2] ∧ (g0, .cells #[.slice A0_0 a0.f0.f0.length c0_0] T0) :: (C0_0 ++ L) = L') := by
  unfold nflog_Log_Find at hr
  refine callsTo_body (N := 36) Tryd.func49 (by kernel_rfl) (by kernel_rfl) (by kernel_rfl) ?_
  refine gk_pick [0, 1, 2] (K' := [(0, .pointer (some ⟨g0, 0, none⟩)), (1, .string a1), (2, .string a2)]) (by kernel_rfl) ?_
  refine gk_seq (by kernel_rfl) ?_
  refine gk_region (by kernel_rfl) ?_
  refine gl_alloc (T' := 24) (cs := #[.string (⟨#[]⟩ : ByteArray), .string (⟨#[]⟩ : ByteArray), .int .i64 0, .slice none 0 0, .slice none 0 0]) (by kernel_rfl) (by kernel_rfl) (by kernel_rfl) (fun g1 => ?_)
  refine gl_pure 1 [0, 1, 2, 6] (K' := [(0, .pointer (some ⟨g0, 0, none⟩)), (1, .string a1), (2, .string a2), (6, .pointer (some ⟨g1, 0, none⟩))]) (by kernel_rfl) ?_
  refine gl_atE (by kernel_rfl) ?_
  refine ge_seq ?_
  refine gk_seq (by kernel_rfl) ?_
  refine gk_seq (by kernel_rfl) ?_
  refine gk_region (by kernel_rfl) ?_
  refine gl_pure 2 [0, 1, 2, 6, 11] (K' := [(0, .pointer (some ⟨g0, 0, none⟩)), (1, .string a1), (2, .string a2), (6, .pointer (some ⟨g1, 0, none⟩)), (11, .bool false)]) (by kernel_rfl) ?_
  refine gl_atE (by kernel_rfl) ?_
  refine ge_seq ?_
  refine gk_cond (b := false) (by kernel_rfl) (by kernel_rfl) (fun h => by cases h) (fun _ => ?_)
  refine gk_skip (by kernel_rfl) ?_
  refine ge_seq ?_
  refine gk_seq (by kernel_rfl) ?_
  refine gk_region (by kernel_rfl) ?_
  refine gl_pure 6 [0, 6, 16, 19] (K' := [(0, .pointer (some ⟨g0, 0, none⟩)), (6, .pointer (some ⟨g1, 0, none⟩)), (16, .pointer (some ⟨g0, 0, none⟩)), (19, .agg #[.string a1, .string a2])]) (by kernel_rfl) ?_
  obtain ⟨y2, hx3, hr⟩ := bind_some hr
  refine gl_reord (D := (g0, .cells #[.slice A0_0 a0.f0.f0.length c0_0] T0) :: (C0_0 ++ ((g1, .cells #[.string (⟨#[]⟩ : ByteArray), .string (⟨#[]⟩ : ByteArray), .int .i64 0, .slice none 0 0, .slice none 0 0] 24) :: L))) (Reord.step1 (Upd.one _ (Upd.rm1 _ _)) (Reord.step (Upd.one _ (Upd.rmC _ _)) (Reord.step1 (Upd.rm1 _ _) (Reord.refl _)))) ?_
  refine gl_call (by kernel_rfl) (nflog_list_find_walk (r := y2) (g0 := g0) (T0 := T0) (A0_0 := A0_0) (c0_0 := c0_0) (C0_0 := C0_0) (a0 := a0.f0) hO0_0 hx3 _) ?_
  rintro v I4 L5 hI6 ⟨rfl, rfl⟩
  refine gl_pure 5 [0, 6, 8, 9] (K' := [(0, .pointer (some ⟨g0, 0, none⟩)), (6, .pointer (some ⟨g1, 0, none⟩)), (8, .int .i64 y2.1), (9, .bool y2.2)]) (by kernel_rfl) ?_
  refine gl_atE (by kernel_rfl) ?_
  refine ge_seq ?_
  refine gk_seq (by kernel_rfl) ?_
  refine gk_seq (by kernel_rfl) ?_
  refine gk_region (by kernel_rfl) ?_
  refine gl_pure 2 [0, 6, 8, 24] (K' := [(0, .pointer (some ⟨g0, 0, none⟩)), (6, .pointer (some ⟨g1, 0, none⟩)), (8, .int .i64 y2.1), (24, .bool (!y2.2))]) (by kernel_rfl) ?_
  refine gl_atE (by kernel_rfl) ?_
  refine ge_seq ?_
  refine gk_cond (b := (!y2.2)) (by kernel_rfl) (by kernel_rfl) (fun hc7 => ?_) (fun hc7 => ?_)
  · have hr := cond_t hc7 hr
    refine gk_seq (by kernel_rfl) ?_
    refine gk_region (by kernel_rfl) ?_
    refine gl_pure 1 [6, 25] (K' := [(6, .pointer (some ⟨g1, 0, none⟩)), (25, .agg #[.string (⟨#[]⟩ : ByteArray), .string (⟨#[]⟩ : ByteArray), .int .i64 0, .slice none 0 0, .slice none 0 0])]) (by kernel_rfl) ?_
    refine gl_storeB (T' := 24) (xp := (.tmp 6)) (xv := (.tmp 25)) (v := .agg #[.string (⟨#[]⟩ : ByteArray), .string (⟨#[]⟩ : ByteArray), .int .i64 0, .slice none 0 0, .slice none 0 0]) (g := g1) (off := 0) (cs := #[.string (⟨#[]⟩ : ByteArray), .string (⟨#[]⟩ : ByteArray), .int .i64 0, .slice none 0 0, .slice none 0 0]) (cs' := #[.string (⟨#[]⟩ : ByteArray), .string (⟨#[]⟩ : ByteArray), .int .i64 0, .slice none 0 0, .slice none 0 0]) (by kernel_rfl) (by kernel_rfl) (by kernel_rfl) (by kernel_rfl) (by kernel_rfl) (Upd.one _ (Upd.app _ (Upd.set _ _ _ _))) ?_ (by kernel_rfl)
    refine gl_pure 1 [6, 7] (K' := [(6, .pointer (some ⟨g1, 0, none⟩)), (7, .bool false)]) (by kernel_rfl) ?_
    refine gl_atE (by kernel_rfl) ?_
    refine ge_seq ?_
    refine gk_rest (Tk.step (Upd.one _ (Upd.app _ (Upd.rm1 _ _))) (Tk.nil _)) (fun J8 hJ9 hC10 => ?_)
    have hf11 := hC10.left.blk
    refine gk_ret (by kernel_rfl) ?_
    refine ge_seq_ret ?_
    obtain rfl := some_inj hr
    exact ge_result trivial (ResOk.cell (v := .agg #[.string (⟨#[]⟩ : ByteArray), .string (⟨#[]⟩ : ByteArray), .int .i64 0, .slice none 0 0, .slice none 0 0]) (by kernel_rfl) (loadR_agg (cs := [.string (⟨#[]⟩ : ByteArray), .string (⟨#[]⟩ : ByteArray), .int .i64 0, .slice none 0 0, .slice none 0 0]) (by kernel_rfl) (RunAt.take hf11 5)) (ResOk.tmp (by kernel_rfl) ResOk.nil)) (Imm.trans hI6 hJ9) ⟨none, 0, none, 0, RepS.nil _ _, RepS.nil _ _, rfl, rfl⟩
  · have hr := cond_f hc7 hr
    refine gk_skip (by kernel_rfl) ?_
    refine ge_seq ?_
    refine gk_seq (by kernel_rfl) ?_
    refine gk_region (by kernel_rfl) ?_
    refine gl_pure 4 [6, 8, 29] (K' := [(6, .pointer (some ⟨g1, 0, none⟩)), (8, .int .i64 y2.1), (29, .pointer (some ⟨g0, 0, none⟩))]) (by kernel_rfl) ?_
    refine gl_loadB (T' := 65) (xp := (.tmp 29)) (v := .slice A0_0 a0.f0.f0.length c0_0) (g := g0) (off := 0) (cs := #[.slice A0_0 a0.f0.f0.length c0_0]) (e := T0) (fz := (0, 0)) (by kernel_rfl) (by kernel_rfl) (by kernel_rfl) List.mem_cons_self (by kernel_rfl) ?_
    refine gl_pure 1 [6, 30, 31] (K' := [(6, .pointer (some ⟨g1, 0, none⟩)), (30, .slice A0_0 a0.f0.f0.length c0_0), (31, .int .i64 y2.1)]) (by kernel_rfl) ?_
    obtain ⟨x12, hx13, hr⟩ := bind_some hr
    refine gl_indexAddrW (d := kS96) (c := c0_0) (T' := 65) (e := 97) (xs := (.tmp 30)) (xi := (.tmp 31)) (kd := .i64) hx13 (hO0_0.mono hI6) (Upd.one _ (Upd.selfC _ _)) (by kernel_rfl) (by kernel_rfl) (by kernel_rfl) (by kernel_rfl) (by kernel_rfl) (fun p14 cs15 hR16 hA17 hp26 => ?_)
    obtain ⟨A20, n21, A23, n24, hf22, hf25, rfl⟩ := kS96_open hR16
    refine gl_pure 1 [6, 33] (K' := [(6, .pointer (some ⟨g1, 0, none⟩)), (33, .pointer (some (p14.add 2)))]) (by kernel_rfl) ?_
    refine gl_loadOA (T' := 24) (xp := (.tmp 33)) (p := (p14.add 2)) (cs := [.string x12.f1.f0, .string x12.f1.f1, .int .i64 x12.f1.f2, .slice A20 x12.f1.f3.length n21, .slice A23 x12.f1.f4.length n24]) (by kernel_rfl) (by kernel_rfl) (by kernel_rfl) (by kernel_rfl) ((hA17.drop 2).take 5) ?_
    obtain ⟨y27, hx28, hr⟩ := bind_some hr
    refine gl_call (by kernel_rfl) (nflog_own_walk (r := y27) hf22 hf25 hx28 _) ?_
    rintro v I29 L30 hI31 ⟨A32, c33, A34, c35, hf36, hf37, rfl, rfl⟩
    refine gl_storeB (T' := 24) (xp := (.tmp 6)) (xv := (.tmp 35)) (v := .agg #[.string y27.f0, .string y27.f1, .int .i64 y27.f2, .slice A32 y27.f3.length c33, .slice A34 y27.f4.length c35]) (g := g1) (off := 0) (cs := #[.string (⟨#[]⟩ : ByteArray), .string (⟨#[]⟩ : ByteArray), .int .i64 0, .slice none 0 0, .slice none 0 0]) (cs' := #[.string y27.f0, .string y27.f1, .int .i64 y27.f2, .slice A32 y27.f3.length c33, .slice A34 y27.f4.length c35]) (by kernel_rfl) (by kernel_rfl) (by kernel_rfl) (by kernel_rfl) (by kernel_rfl) (Upd.one _ (Upd.app _ (Upd.set _ _ _ _))) ?_ (by kernel_rfl)
    refine gl_pure 1 [6, 7] (K' := [(6, .pointer (some ⟨g1, 0, none⟩)), (7, .bool true)]) (by kernel_rfl) ?_
    refine gl_atE (by kernel_rfl) ?_
    refine ge_seq ?_
    refine gk_rest (Tk.step (Upd.one _ (Upd.app _ (Upd.rm1 _ _))) (Tk.nil _)) (fun J38 hJ39 hC40 => ?_)
    have hf41 := hC40.left.blk
    refine gk_ret (by kernel_rfl) ?_
    obtain rfl := some_inj hr
    exact ge_result trivial (ResOk.cell (v := .agg #[.string y27.f0, .string y27.f1, .int .i64 y27.f2, .slice A32 y27.f3.length c33, .slice A34 y27.f4.length c35]) (by kernel_rfl) (loadR_agg (cs := [.string y27.f0, .string y27.f1, .int .i64 y27.f2, .slice A32 y27.f3.length c33, .slice A34 y27.f4.length c35]) (by kernel_rfl) (RunAt.take hf41 5)) (ResOk.tmp (by kernel_rfl) ResOk.nil)) (Imm.trans (Imm.trans hI6 hI31) hJ39) ⟨A32, c33, A34, c35, (hf36.mono hJ39), (hf37.mono hJ39), rfl, rfl⟩
/-! 35 nflog_Log_Needs ('obj', 'imm', 'imm', 'imm', 'imm', 'imm', 'imm') -/
noncomputable def nflog_Log_Needs (a0 : S68) (a1 : ByteArray) (a2 : ByteArray) (a3 : Int) (a4 : Int) (a5 : List (List S50)) (a6 : List (List S50)) : Option (Bool × Int) :=
  Option.bind (nflog_Log_Find a0 a1 a2) fun (y1 : S23 × Bool) =>
  Option.bind (nflog_Needs y1.1 y1.2 a3 a4 a5 a6) fun (y13 : Bool × Int) =>
  some (y13.1, y13.2)
theorem nflog_Log_Needs_walk {a0 : S68} {g0 : Nat} {T0 : TypeId} {A0_0 : Option Addr} {c0_0 : Nat} {C0_0 : Own} {a1 : ByteArray} {a2 : ByteArray} {a3 : Int} {a4 : Int} {a5 : List (List S50)} {A5_0 : Option Addr} {n5_0 : Nat} {a6 : List (List S50)} {A6_0 : Option Addr} {n6_0 : Nat} {I : Imm} {r : Bool × Int} (hG : Gl I)  (hO0_0 : OwnS kS96 97 I A0_0 c0_0 a0.f0.f0 C0_0)  (hf5_0 : RepS (Kd.sl kS50) I A5_0 n5_0 a5)  (hf6_0 : RepS (Kd.sl kS50) I A6_0 n6_0 a6) (hr : nflog_Log_Needs a0 a1 a2 a3 a4 a5 a6 = some r) (L : Own) :
    CallsTo Tryd.prog 35 #[.pointer (some ⟨g0, 0, none⟩), .string a1, .string a2, .int .i64 a3, .int .i64 a4, .slice A5_0 a5.length n5_0, .slice A6_0 a6.length n6_0] I ((g0, .cells #[.slice A0_0 a0.f0.f0.length c0_0] T0) :: (C0_0 ++ L)) (fun v I' L' => v = .tuple #[.bool r.1, .int .i64 r.2] ∧ (g0, .cells #[.slice A0_0 a0.f0.f0.length c0_0] T0) :: (C0_0 ++ L) = L') := by
  unfold nflog_Log_Needs at hr
  refine callsTo_body (N := 36) Tryd.func35 (by kernel_rfl) (by kernel_rfl) (by kernel_rfl) ?_
  refine gk_pick [0, 1, 2, 3, 4, 5, 6] (K' := [(0, .pointer (some ⟨g0, 0, none⟩)), (1, .string a1), (2, .string a2), (3, .int .i64 a3), (4, .int .i64 a4), (5, .slice A5_0 a5.length n5_0), (6, .slice A6_0 a6.length n6_0)]) (by kernel_rfl) ?_
  refine gk_seq (by kernel_rfl) ?_
  refine gk_region (by kernel_rfl) ?_
  refine gl_pure 2 [0, 1, 2, 3, 4, 5, 6] (K' := [(0, .pointer (some ⟨g0, 0, none⟩)), (1, .string a1), (2, .string a2), (3, .int .i64 a3), (4, .int .i64 a4), (5, .slice A5_0 a5.length n5_0), (6, .slice A6_0 a6.length n6_0)]) (by kernel_rfl) ?_
  refine gl_atE (by kernel_rfl) ?_
  refine ge_seq ?_
  refine gk_seq (by kernel_rfl) ?_
  refine gk_seq (by kernel_rfl) ?_
  refine gk_region (by kernel_rfl) ?_
  refine gl_pure 2 [0, 1, 2, 3, 4, 5, 6, 19] (K' := [(0, .pointer (some ⟨g0, 0, none⟩)), (1, .string a1), (2, .string a2), (3, .int .i64 a3), (4, .int .i64 a4), (5, .slice A5_0 a5.length n5_0), (6, .slice A6_0 a6.length n6_0), (19, .bool false)]) (by kernel_rfl) ?_
  refine gl_atE (by kernel_rfl) ?_
  refine ge_seq ?_
  refine gk_cond (b := false) (by kernel_rfl) (by kernel_rfl) (fun h => by cases h) (fun _ => ?_)
  refine gk_skip (by kernel_rfl) ?_
  refine ge_seq ?_
  refine gk_seq (by kernel_rfl) ?_
  refine gk_region (by kernel_rfl) ?_
  refine gl_pure 3 [3, 4, 5, 6, 21, 22, 23] (K' := [(3, .int .i64 a3), (4, .int .i64 a4), (5, .slice A5_0 a5.length n5_0), (6, .slice A6_0 a6.length n6_0), (21, .pointer (some ⟨g0, 0, none⟩)), (22, .string a1), (23, .string a2)]) (by kernel_rfl) ?_
  obtain ⟨y1, hx2, hr⟩ := bind_some hr
  refine gl_call (by kernel_rfl) (nflog_Log_Find_walk (r := y1) (g0 := g0) (T0 := T0) (A0_0 := A0_0) (c0_0 := c0_0) (C0_0 := C0_0) (a0 := a0) hO0_0 hx2 _) ?_
  rintro v I3 L4 hI5 ⟨A6, c7, A8, c9, hf10, hf11, rfl, rfl⟩
  refine gl_pure 3 [3, 4, 5, 6, 25, 26] (K' := [(3, .int .i64 a3), (4, .int .i64 a4), (5, .slice A5_0 a5.length n5_0), (6, .slice A6_0 a6.length n6_0), (25, .agg #[.string y1.1.f0, .string y1.1.f1, .int .i64 y1.1.f2, .slice A6 y1.1.f3.length c7, .slice A8 y1.1.f4.length c9]), (26, .bool y1.2)]) (by kernel_rfl) ?_
  refine gl_alloc (T' := 24) (cs := #[.string (⟨#[]⟩ : ByteArray), .string (⟨#[]⟩ : ByteArray), .int .i64 0, .slice none 0 0, .slice none 0 0]) (by kernel_rfl) (by kernel_rfl) (by kernel_rfl) (fun g12 => ?_)
  refine gl_storeB (T' := 24) (xp := (.tmp 16)) (xv := (.tmp 25)) (v := .agg #[.string y1.1.f0, .string y1.1.f1, .int .i64 y1.1.f2, .slice A6 y1.1.f3.length c7, .slice A8 y1.1.f4.length c9]) (g := g12) (off := 0) (cs := #[.string (⟨#[]⟩ : ByteArray), .string (⟨#[]⟩ : ByteArray), .int .i64 0, .slice none 0 0, .slice none 0 0]) (cs' := #[.string y1.1.f0, .string y1.1.f1, .int .i64 y1.1.f2, .slice A6 y1.1.f3.length c7, .slice A8 y1.1.f4.length c9]) (by kernel_rfl) (by kernel_rfl) (by kernel_rfl) (by kernel_rfl) (by kernel_rfl) (Upd.set _ _ _ _) ?_ (by kernel_rfl)
  refine gl_pure 1 [3, 4, 5, 6, 16, 17] (K' := [(3, .int .i64 a3), (4, .int .i64 a4), (5, .slice A5_0 a5.length n5_0), (6, .slice A6_0 a6.length n6_0), (16, .pointer (some ⟨g12, 0, none⟩)), (17, .bool y1.2)]) (by kernel_rfl) ?_
  refine gl_atE (by kernel_rfl) ?_
  refine ge_seq ?_
  refine gk_seq (by kernel_rfl) ?_
  refine gk_region (by kernel_rfl) ?_
  refine gl_loadB (T' := 24) (xp := (.tmp 16)) (v := .agg #[.string y1.1.f0, .string y1.1.f1, .int .i64 y1.1.f2, .slice A6 y1.1.f3.length c7, .slice A8 y1.1.f4.length c9]) (g := g12) (off := 0) (cs := #[.string y1.1.f0, .string y1.1.f1, .int .i64 y1.1.f2, .slice A6 y1.1.f3.length c7, .slice A8 y1.1.f4.length c9]) (e := 24) (fz := (0, 0)) (by kernel_rfl) (by kernel_rfl) (by kernel_rfl) List.mem_cons_self (by kernel_rfl) ?_
  refine gl_pure 5 [27, 28, 29, 30, 31, 32] (K' := [(27, .agg #[.string y1.1.f0, .string y1.1.f1, .int .i64 y1.1.f2, .slice A6 y1.1.f3.length c7, .slice A8 y1.1.f4.length c9]), (28, .bool y1.2), (29, .int .i64 a3), (30, .int .i64 a4), (31, .slice A5_0 a5.length n5_0), (32, .slice A6_0 a6.length n6_0)]) (by kernel_rfl) ?_
  obtain ⟨y13, hx14, hr⟩ := bind_some hr
  refine gl_callQ (by kernel_rfl) (nflog_Needs_walk (r := y13) (hG.mono hI5) hf10 hf11 (hf5_0.mono hI5) (hf6_0.mono hI5) hx14 _) ?_
  refine gl_pure 4 [14, 15] (K' := [(14, .bool y13.1), (15, .int .i64 y13.2)]) (by kernel_rfl) ?_
  refine gl_atE (by kernel_rfl) ?_
  refine ge_seq ?_
  refine gk_reord (D := (g0, .cells #[.slice A0_0 a0.f0.f0.length c0_0] T0) :: (C0_0 ++ L)) (Reord.step1 (Upd.one _ (Upd.rm1 _ _)) (Reord.step (Upd.one _ (Upd.rmC _ _)) (Reord.skip (Reord.refl _)))) ?_
  refine gk_ret (by kernel_rfl) ?_
  obtain rfl := some_inj hr
  exact ge_result trivial (ResOk.tmp (by kernel_rfl) (ResOk.tmp (by kernel_rfl) ResOk.nil)) hI5 ⟨rfl, rfl⟩
/-! 50 nflog_Log_Len ('obj',) -/
noncomputable def nflog_Log_Len (a0 : S68) : Int :=
  (a0.f0.f0.length : Int)
theorem nflog_Log_Len_walk {a0 : S68} {g0 : Nat} {T0 : TypeId} {A0_0 : Option Addr} {c0_0 : Nat} {C0_0 : Own} {I : Imm} {r : Int}  (hO0_0 : OwnS kS96 97 I A0_0 c0_0 a0.f0.f0 C0_0) (hr : nflog_Log_Len a0 = r) (L : Own) :
    CallsTo Tryd.prog 50 #[.pointer (some ⟨g0, 0, none⟩)] I ((g0, .cells #[.slice A0_0 a0.f0.f0.length c0_0] T0) :: (C0_0 ++ L)) (fun v I' L' => v = .int .i64 r ∧ (g0, .cells #[.slice A0_0 a0.f0.f0.length c0_0] T0) :: (C0_0 ++ L) = L') := by
  replace hr : some (nflog_Log_Len a0) = some r := congrArg some hr
  unfold nflog_Log_Len at hr
  refine callsTo_body (N := 11) Tryd.func50 (by kernel_rfl) (by kernel_rfl) (by kernel_rfl) ?_
  refine gk_pick [0] (K' := [(0, .pointer (some ⟨g0, 0, none⟩))]) (by kernel_rfl) ?_
  refine gk_seq (by kernel_rfl) ?_
  refine gk_region (by kernel_rfl) ?_
  refine gl_pure 1 [0] (K' := [(0, .pointer (some ⟨g0, 0, none⟩))]) (by kernel_rfl) ?_
  refine gl_atE (by kernel_rfl) ?_
  refine ge_seq ?_
  refine gk_seq (by kernel_rfl) ?_
  refine gk_seq (by kernel_rfl) ?_
  refine gk_region (by kernel_rfl) ?_
  refine gl_pure 2 [0, 4] (K' := [(0, .pointer (some ⟨g0, 0, none⟩)), (4, .bool false)]) (by kernel_rfl) ?_
  refine gl_atE (by kernel_rfl) ?_
  refine ge_seq ?_
  refine gk_cond (b := false) (by kernel_rfl) (by kernel_rfl) (fun h => by cases h) (fun _ => ?_)
  refine gk_skip (by kernel_rfl) ?_
  refine ge_seq ?_
  refine gk_seq (by kernel_rfl) ?_
  refine gk_region (by kernel_rfl) ?_
  refine gl_pure 4 [8] (K' := [(8, .pointer (some ⟨g0, 0, none⟩))]) (by kernel_rfl) ?_
  refine gl_loadB (T' := 65) (xp := (.tmp 8)) (v := .slice A0_0 a0.f0.f0.length c0_0) (g := g0) (off := 0) (cs := #[.slice A0_0 a0.f0.f0.length c0_0]) (e := T0) (fz := (0, 0)) (by kernel_rfl) (by kernel_rfl) (by kernel_rfl) List.mem_cons_self (by kernel_rfl) ?_
  refine gl_pure 2 [2] (K' := [(2, .int .i64 (a0.f0.f0.length : Int))]) (by kernel_rfl) ?_
  refine gl_atE (by kernel_rfl) ?_
  refine ge_seq ?_
  refine gk_ret (by kernel_rfl) ?_
  obtain rfl := some_inj hr
  exact ge_result trivial (ResOk.tmp (by kernel_rfl) ResOk.nil) (Imm.refl _) ⟨rfl, rfl⟩
set_option maxHeartbeats 1000000 in
theorem slices_Insert_69_walk {a0 : List S96} {A : Option Addr} {c : Nat} {C : Own} {i : Int} {y : S96} {gv : Nat} {vs : List Value} {I : Imm} {r : List S96} (hO : OwnS kS96 97 I A c a0 C) (hy : kS96.R I y vs) (hr : linsert a0 i y = some r) (L : Own) :
    CallsTo Tryd.prog 69 #[.slice A a0.length c, .int .i64 i, .slice (some ⟨gv, 0, none⟩) 1 1] I (C ++ ((gv, .cells vs.toArray 97) :: L)) (fun v I' L' => ∃ A' c' C', OwnS kS96 97 I' A' c' r C' ∧ v = .slice A' r.length c' ∧ C' ++ L = L') := by
  obtain ⟨h0, h1, hmx, rfl⟩ := linsert_some hr
  have hmx' : a0.length + 1 ≤ 2147483648 := hmx
  obtain ⟨q, rfl⟩ : ∃ q : Nat, i = q := ⟨i.toNat, by omega⟩
  have hq : q ≤ a0.length := by omega
  have hlc := hO.lenc
  have w1 : IntKind.wrap .i64 ((a0.length : Int) + 1) = (a0.length + 1 : Nat) := by rw [wrap64 (by omega) (by omega)]; omega
  have w2 : IntKind.wrap .i64 ((q : Int) + 1) = (q + 1 : Nat) := by rw [wrap64 (by omega) (by omega)]; omega
  have w3 : IntKind.wrap .i64 (((a0.length + 1 : Nat) : Int) - (q : Int)) = (a0.length + 1 - q : Nat) := by rw [wrap64 (by omega) (by omega)]; omega
  have hvl : vs.length = 7 := kS96.len hy
  have hvo : ∀ v ∈ vs, v.oneCell' = true := kS96.one hy
  refine callsTo_body (N := 95) Tryd.func69 (by kernel_rfl) (by kernel_rfl) (by kernel_rfl) ?_
  refine gk_pick [0, 1, 2] (K' := [(0, .slice A a0.length c), (1, .int .i64 q), (2, .slice (some ⟨gv, 0, none⟩) 1 1)]) (by kernel_rfl) ?_
  refine gk_sr (by kernel_rfl) (by kernel_rfl) ?_
  refine gl_pure 1 [0, 1, 2] (K' := [(0, .slice A a0.length c), (1, .int .i64 q), (2, .slice (some ⟨gv, 0, none⟩) 1 1)]) (by kernel_rfl) ?_
  refine gl_toC (by kernel_rfl) ?_
  refine gk_sr (by kernel_rfl) (by kernel_rfl) ?_
  refine gl_pure 2 [0, 1, 2, 10, 11] (K' := [(0, .slice A a0.length c), (1, .int .i64 q), (2, .slice (some ⟨gv, 0, none⟩) 1 1), (10, .slice A a0.length c), (11, .int .i64 q)]) (by kernel_rfl) ?_
  refine gl_sliceV (T' := 65) (e := 97) (n := 7) (A := A) (len := a0.length) (c := c) (a := q) (b := (a0.length : Int)) (xs := .tmp 10) (lo := some (.tmp 11)) (hi := none) (by omega) (by omega) (by omega) (by kernel_rfl) (by kernel_rfl) (by kernel_rfl) (by kernel_rfl) (by kernel_rfl) (by kernel_rfl) rfl ?_
  refine gl_pick [0, 1, 2] (K' := [(0, .slice A a0.length c), (1, .int .i64 q), (2, .slice (some ⟨gv, 0, none⟩) 1 1)]) (by kernel_rfl) ?_
  refine gl_toC (by kernel_rfl) ?_
  refine gk_sr (by kernel_rfl) (by kernel_rfl) ?_
  refine gl_pure 3 [0, 1, 2, 7] (K' := [(0, .slice A a0.length c), (1, .int .i64 q), (2, .slice (some ⟨gv, 0, none⟩) 1 1), (7, .int .i64 1)]) (by kernel_rfl) ?_
  refine gl_toC (by kernel_rfl) ?_
  refine gk_seq (by kernel_rfl) ?_
  refine gk_sr (by kernel_rfl) (by kernel_rfl) ?_
  refine gl_pure 2 [0, 1, 2, 7, 16] (K' := [(0, .slice A a0.length c), (1, .int .i64 q), (2, .slice (some ⟨gv, 0, none⟩) 1 1), (7, .int .i64 1), (16, .bool false)]) (by kernel_rfl) ?_
  refine gl_toC (by kernel_rfl) ?_
  refine gk_cond (b := false) (by kernel_rfl) (by kernel_rfl) (fun h => by cases h) (fun _ => ?_)
  refine gk_skip (by kernel_rfl) ?_
  refine ge_seq ?_
  refine gk_sr (by kernel_rfl) (by kernel_rfl) ?_
  refine gl_pure 3 [0, 1, 2, 7, 8] (K' := [(0, .slice A a0.length c), (1, .int .i64 q), (2, .slice (some ⟨gv, 0, none⟩) 1 1), (7, .int .i64 1), (8, .int .i64 a0.length)]) (by kernel_rfl) ?_
  refine gl_toC (by kernel_rfl) ?_
  refine gk_seq (by kernel_rfl) ?_
  refine gk_sr (by kernel_rfl) (by kernel_rfl) ?_
  refine gl_pure 3 [0, 1, 2, 7, 8, 22] (K' := [(0, .slice A a0.length c), (1, .int .i64 q), (2, .slice (some ⟨gv, 0, none⟩) 1 1), (7, .int .i64 1), (8, .int .i64 a0.length), (22, .bool ((q : Int) == (a0.length : Int)))]) (by kernel_rfl) ?_
  refine gl_toC (by kernel_rfl) ?_
  have hrow1 : RowAt kS96 I [y] (fun j => vs[j]?) := by have := row_cons hy (row_nil kS96 I); simpa using this
  have hlit : OwnS kS96 97 I (some ⟨gv, 0, none⟩) 1 [y] [(gv, .cells vs.toArray 97)] := OwnS.lit (by simpa using hrow1) rfl (by simp [hvl]; rfl) rfl
  refine gk_cond (b := ((q : Int) == (a0.length : Int))) (by kernel_rfl) (by kernel_rfl) (fun hc => ?_) (fun hc => ?_)
  · have hqe : q = a0.length := by have := eq_of_beq hc; omega
    have hz : app a0 [y] = some (a0 ++ [y]) := by unfold app maxLen'; rw [if_pos (by simp; omega)]
    have hres : a0.take q ++ y :: a0.drop q = a0 ++ [y] := by rw [hqe]; simp
    refine gk_sr (by kernel_rfl) (by kernel_rfl) ?_
    refine gl_pure 2 [23, 24] (K' := [(23, .slice A a0.length c), (24, .slice (some ⟨gv, 0, none⟩) 1 1)]) (by kernel_rfl) ?_
    refine gl_append (xv := .slice (some ⟨gv, 0, none⟩) 1 1) (d := kS96) (t := 65) (tx := 65) (e := 97) (s := .tmp 23) (x := .tmp 24) (xs := a0) (fun X => X ++ ((gv, .cells vs.toArray 97) :: L)) hz (by kernel_rfl) (by kernel_rfl) (by kernel_rfl) (by kernel_rfl) (by kernel_rfl) (by kernel_rfl) (fun X => Upd.head _ X _) hO (SrcOk.slice (c := 1) (e := 97) (n := 7) (OwnS.rd hlit (Upd.app _ (Upd.head _ _ _))) (by kernel_rfl)) (fun A' c' C' hO' => ?_)
    refine gl_pure 1 [6] (K' := [(6, .slice A' (a0 ++ [y]).length c')]) (by kernel_rfl) ?_
    refine gl_reord (D := C' ++ L) (Reord.step (Upd.rmC _ _) (Reord.skip (Reord.refl _))) ?_
    refine gl_toC (by kernel_rfl) ?_
    refine gk_ret (by kernel_rfl) ?_
    repeat (refine ge_seq_ret ?_)
    exact ge_result trivial (ResOk.tmp (by kernel_rfl) ResOk.nil) (Imm.refl _) ⟨A', c', C', by rw [Int.toNat_natCast, hres]; exact hO', by rw [Int.toNat_natCast, hres]; rfl, rfl⟩
  have hne : ¬ ((q : Int) = (a0.length : Int)) := by simpa using hc
  have hlt : q < a0.length := by omega
  rcases hO with ⟨rfl, _, _⟩ | ⟨g, cells, fz, rfl, rfl, hfz, hlc', hcs, hrow, _⟩
  · simp at hlt
  have hn : kS96.n = 7 := rfl
  rw [hn] at hcs
  refine gk_skip (by kernel_rfl) ?_
  refine ge_seq ?_
  refine gk_seq (by kernel_rfl) ?_
  refine gk_sr (by kernel_rfl) (by kernel_rfl) ?_
  refine gl_pure 6 [0, 1, 2, 7, 8, 31] (K' := [(0, .slice (some ⟨g, 0, none⟩) a0.length c), (1, .int .i64 q), (2, .slice (some ⟨gv, 0, none⟩) 1 1), (7, .int .i64 1), (8, .int .i64 a0.length), (31, .bool (decide (IntKind.wrap .i64 ((a0.length : Int) + 1) > (c : Int))))]) (by kernel_rfl) ?_
  refine gl_toC (by kernel_rfl) ?_
  refine gk_cond (b := decide (IntKind.wrap .i64 ((a0.length : Int) + 1) > (c : Int))) (by kernel_rfl) (by kernel_rfl) (fun hc => ?_) (fun hc => ?_)
  · -- there is no room
    have hgt : c < a0.length + 1 := by have := of_decide_eq_true hc; rw [w1] at this; omega
    refine gk_sr (by kernel_rfl) (by kernel_rfl) ?_
    refine gl_pure 2 [0, 1, 2, 7, 8, 32, 33] (K' := [(0, .slice (some ⟨g, 0, none⟩) a0.length c), (1, .int .i64 q), (2, .slice (some ⟨gv, 0, none⟩) 1 1), (7, .int .i64 1), (8, .int .i64 a0.length), (32, .slice (some ⟨g, 0, none⟩) a0.length c), (33, .int .i64 q)]) (by kernel_rfl) ?_
    refine gl_sliceV (T' := 65) (e := 97) (n := 7) (A := some ⟨g, 0, none⟩) (len := a0.length) (c := c) (a := 0) (b := q) (xs := .tmp 32) (lo := none) (hi := some (.tmp 33)) (by omega) (by omega) (by omega) (by kernel_rfl) (by kernel_rfl) (by kernel_rfl) (by kernel_rfl) (by kernel_rfl) (by kernel_rfl) (v := .slice (some ⟨g, 0, none⟩) q c) (by rw [show ((0 : Int).toNat) = 0 from rfl, head_eq (by omega)]; simp) ?_
    refine gl_pure 5 [0, 1, 2, 7, 34, 39] (K' := [(0, .slice (some ⟨g, 0, none⟩) a0.length c), (1, .int .i64 q), (2, .slice (some ⟨gv, 0, none⟩) 1 1), (7, .int .i64 1), (34, .slice (some ⟨g, 0, none⟩) q c), (39, .int .i64 (IntKind.wrap .i64 (IntKind.wrap .i64 ((a0.length : Int) + 1) - (q : Int))))]) (by kernel_rfl) ?_
    rw [w1, w3]
    refine gl_appendZ (g := g) (i := q) (cnt := a0.length + 1 - q) (c := c) (size := 7) (t := 65) (tx := 3) (e := 97) (s := .tmp 34) (x := .tmp 39) (cells := cells) (e' := 97) (fz := fz) (kx := .i64) (by kernel_rfl) (by kernel_rfl) (by kernel_rfl) (by kernel_rfl) (by kernel_rfl) (by kernel_rfl) (by kernel_rfl) (by omega) (by omega) (by unfold maxLen'; omega) List.mem_cons_self (by rw [hcs]; exact Nat.mul_le_mul_right _ (by omega)) (fun g2 cells2 c2 hc2 hs2 heq => ?_)
    have e9 : q + (a0.length + 1 - q) = a0.length + 1 := by omega
    rw [e9] at hc2 ⊢
    refine gl_pure 1 [0, 1, 2, 7, 9] (K' := [(0, .slice (some ⟨g, 0, none⟩) a0.length c), (1, .int .i64 q), (2, .slice (some ⟨gv, 0, none⟩) 1 1), (7, .int .i64 1), (9, .slice (some ⟨g2, 0, none⟩) (a0.length + 1) c2)]) (by kernel_rfl) ?_
    refine gl_toC (by kernel_rfl) ?_
    refine gk_sr (by kernel_rfl) (by kernel_rfl) ?_
    refine gl_pure 2 [0, 1, 2, 7, 9, 41, 42] (K' := [(0, .slice (some ⟨g, 0, none⟩) a0.length c), (1, .int .i64 q), (2, .slice (some ⟨gv, 0, none⟩) 1 1), (7, .int .i64 1), (9, .slice (some ⟨g2, 0, none⟩) (a0.length + 1) c2), (41, .slice (some ⟨g2, 0, none⟩) (a0.length + 1) c2), (42, .int .i64 q)]) (by kernel_rfl) ?_
    refine gl_sliceV (T' := 65) (e := 97) (n := 7) (A := some ⟨g2, 0, none⟩) (len := a0.length + 1) (c := c2) (a := q) (b := ((a0.length + 1 : Nat) : Int)) (xs := .tmp 41) (lo := some (.tmp 42)) (hi := none) (by omega) (by omega) (by omega) (by kernel_rfl) (by kernel_rfl) (by kernel_rfl) (by kernel_rfl) (by kernel_rfl) (by kernel_rfl) (v := .slice (some ⟨g2, q * 7, none⟩) (a0.length + 1 - q) (c2 - q)) (by rw [Int.toNat_natCast, Int.toNat_natCast, head_eq (by omega)]) ?_
    refine gl_pure 1 [0, 1, 7, 9, 43, 44] (K' := [(0, .slice (some ⟨g, 0, none⟩) a0.length c), (1, .int .i64 q), (7, .int .i64 1), (9, .slice (some ⟨g2, 0, none⟩) (a0.length + 1) c2), (43, .slice (some ⟨g2, q * 7, none⟩) (a0.length + 1 - q) (c2 - q)), (44, .slice (some ⟨gv, 0, none⟩) 1 1)]) (by kernel_rfl) ?_
    have hfit1 : q * 7 + vs.length ≤ cells2.size := by
      rw [hs2, hvl]
      have : (q + 1) * 7 ≤ c2 * 7 := Nat.mul_le_mul_right _ (by omega)
      omega
    refine gl_copyB (g := g2) (off := q * 7) (dLen := a0.length + 1 - q) (dCap := c2 - q) (sLen := 1) (m := 1) (size := 7) (tD := 65) (tS := 65) (e := 97) (sv := .slice (some ⟨gv, 0, none⟩) 1 1) (dx := .tmp 43) (sx := .tmp 44) (cells := cells2) (e' := 97) (fz := (0, 0)) (l := vs) (by kernel_rfl) (by kernel_rfl) (by kernel_rfl) (by kernel_rfl) (by kernel_rfl) (fun W => rfl) (Nat.min_eq_left (by omega)) (fun W hW => run_firstCells_some W 7 1 ⟨gv, 0, none⟩ 1 1 vs (by rw [hvl]) (fun j v hj => by
      have hm : W.heap[gv]? = some (.cells vs.toArray 97) := hW.mem (List.mem_cons_of_mem _ (List.mem_cons_of_mem _ List.mem_cons_self))
      have hadd : (⟨gv, 0, none⟩ : Addr).add j = ⟨gv, j, none⟩ := by unfold Addr.add; split <;> simp_all
      rw [hadd]; simp only [World.cell?, hm]; simpa using hj)) (Upd.set _ _ _ _) (FreeOf.zero _) hfit1 hvo ?_
    refine gl_pick [0, 1, 7, 9] (K' := [(0, .slice (some ⟨g, 0, none⟩) a0.length c), (1, .int .i64 q), (7, .int .i64 1), (9, .slice (some ⟨g2, 0, none⟩) (a0.length + 1) c2)]) (by kernel_rfl) ?_
    refine gl_toC (by kernel_rfl) ?_
    refine gk_seq (by kernel_rfl) ?_
    refine gk_draw 8 [(0, true), (1, true), (2, true), (3, true), (4, true), (5, true), (6, true), (7, true)] [] (fun p hp => by cases hp) (by kernel_rfl) (by kernel_rfl) (by kernel_rfl) ?_ (by kernel_rfl)
    refine gd_pure 4 [0, 1, 9, 46, 49] (K' := [(0, .slice (some ⟨g, 0, none⟩) a0.length c), (1, .int .i64 q), (9, .slice (some ⟨g2, 0, none⟩) (a0.length + 1) c2), (46, .slice (some ⟨g2, 0, none⟩) (a0.length + 1) c2), (49, .int .i64 (IntKind.wrap .i64 ((q : Int) + 1)))]) (s' := [(4, true), (5, true), (6, true), (7, true)]) (CC.refl (fun p hp => by cases hp)) (by kernel_rfl) ?_
    rw [w2]
    refine gd_q (v := .slice (some ⟨g2, (q + 1) * 7, none⟩) (a0.length - q) (c2 - (q + 1))) (by kernel_rfl) (by kernel_rfl) (CC.refl (fun p hp => by cases hp)) (fun I' L' T hC kk => gl_sliceV (T' := 65) (e := 97) (n := 7) (A := some ⟨g2, 0, none⟩) (len := a0.length + 1) (c := c2) (a := ((q + 1 : Nat) : Int)) (b := ((a0.length + 1 : Nat) : Int)) (xs := .tmp 46) (lo := some (.tmp 49)) (hi := none) (by omega) (by omega) (by omega) (by kernel_rfl) (by kernel_rfl) (by kernel_rfl) (by kernel_rfl) (by kernel_rfl) (by kernel_rfl) (by rw [Int.toNat_natCast, Int.toNat_natCast, head_eq (by omega), show a0.length + 1 - (q + 1) = a0.length - q from by omega]) kk) ?_
    refine gd_pure 2 [9, 50, 51, 52] (K' := [(9, .slice (some ⟨g2, 0, none⟩) (a0.length + 1) c2), (50, .slice (some ⟨g2, (q + 1) * 7, none⟩) (a0.length - q) (c2 - (q + 1))), (51, .slice (some ⟨g, 0, none⟩) a0.length c), (52, .int .i64 q)]) (s' := [(7, true)]) (CC.refl (fun p hp => by cases hp)) (by kernel_rfl) ?_
    refine gd_q (v := .slice (some ⟨g, q * 7, none⟩) (a0.length - q) (c - q)) (by kernel_rfl) (by kernel_rfl) (CC.refl (fun p hp => by cases hp)) (fun I' L' T hC kk => gl_sliceV (T' := 65) (e := 97) (n := 7) (A := some ⟨g, 0, none⟩) (len := a0.length) (c := c) (a := q) (b := (a0.length : Int)) (xs := .tmp 51) (lo := some (.tmp 52)) (hi := none) (by omega) (by omega) (by omega) (by kernel_rfl) (by kernel_rfl) (by kernel_rfl) (by kernel_rfl) (by kernel_rfl) (by kernel_rfl) (by rw [Int.toNat_natCast, Int.toNat_natCast, head_eq (by omega)]) kk) ?_
    refine gd_done ?_
    have hll : ((cells.toList.drop (q * 7)).take ((a0.length - q) * 7)).length = (a0.length - q) * 7 := by
      rw [List.length_take, List.length_drop, Array.length_toList (xs := cells), hcs]
      have e1 : (a0.length - q) * 7 + q * 7 = a0.length * 7 := by rw [← Nat.add_mul]; congr 1; omega
      have e2 := Nat.mul_le_mul_right 7 hlc'
      omega
    have hlg : ∀ j, j < (a0.length - q) * 7 → ((cells.toList.drop (q * 7)).take ((a0.length - q) * 7))[j]? = cells[q * 7 + j]? := fun j hj => by
      rw [List.getElem?_take, if_pos hj, List.getElem?_drop, Array.getElem?_toList]
    have hone : ∀ v ∈ (cells.toList.drop (q * 7)).take ((a0.length - q) * 7), v.oneCell' = true := row_one hrow hcs hlc' hn
    have hfit2 : (q + 1) * 7 + ((cells.toList.drop (q * 7)).take ((a0.length - q) * 7)).length ≤ (putSeg cells2 (q * 7) vs).size := by
      rw [hll, putSeg_size, hs2]
      have e1 : (q + 1) * 7 + (a0.length - q) * 7 = (a0.length + 1) * 7 := by rw [← Nat.add_mul]; congr 1; omega
      have e2 := Nat.mul_le_mul_right 7 hc2
      omega
    refine gl_copyB (g := g2) (off := (q + 1) * 7) (dLen := a0.length - q) (dCap := c2 - (q + 1)) (sLen := a0.length - q) (m := a0.length - q) (size := 7) (tD := 65) (tS := 65) (e := 97) (sv := .slice (some ⟨g, q * 7, none⟩) (a0.length - q) (c - q)) (dx := .tmp 50) (sx := .tmp 53) (cells := putSeg cells2 (q * 7) vs) (e' := 97) (fz := (0, 0)) (l := (cells.toList.drop (q * 7)).take ((a0.length - q) * 7)) (by kernel_rfl) (by kernel_rfl) (by kernel_rfl) (by kernel_rfl) (by kernel_rfl) (fun W => rfl) (Nat.min_self _) (fun W hW => run_firstCells_some W 7 (a0.length - q) ⟨g, q * 7, none⟩ _ _ _ hll (fun j v hj => by
      have hm : W.heap[g]? = some (.cells cells 97 fz) := hW.mem (List.mem_cons_of_mem _ List.mem_cons_self)
      have hjl : j < (a0.length - q) * 7 := by rw [← hll]; exact (List.getElem?_eq_some_iff.1 hj).1
      rw [hlg j hjl] at hj
      have hadd : (⟨g, q * 7, none⟩ : Addr).add j = ⟨g, q * 7 + j, none⟩ := by
        unfold Addr.add; split
        · rename_i h; rw [h]; rfl
        · rfl
      rw [hadd]; simp only [World.cell?, hm]; simpa using hj)) (Upd.set _ _ _ _) (FreeOf.zero _) hfit2 hone ?_
    refine gl_pick [9] (K' := [(9, .slice (some ⟨g2, 0, none⟩) (a0.length + 1) c2)]) (by kernel_rfl) ?_
    refine gl_atE (by kernel_rfl) ?_
    refine ge_seq ?_
    refine gk_sr (by kernel_rfl) (by kernel_rfl) ?_
    refine gl_pure 2 [6] (K' := [(6, .slice (some ⟨g2, 0, none⟩) (a0.length + 1) c2)]) (by kernel_rfl) ?_
    refine gl_reord (D := [(g2, .cells (putSeg (putSeg cells2 (q * 7) vs) ((q + 1) * 7) ((cells.toList.drop (q * 7)).take ((a0.length - q) * 7))) 97)] ++ L) (Reord.step1 (Upd.rm1 _ _) (Reord.skip (Reord.skip (Reord.refl _)))) ?_
    refine gl_toC (by kernel_rfl) ?_
    refine gk_ret (by kernel_rfl) ?_
    repeat (refine ge_seq_ret ?_)
    have hrl : (a0.take q ++ y :: a0.drop q).length = a0.length + 1 := by simp; omega
    refine ge_result trivial (ResOk.tmp (by kernel_rfl) ResOk.nil) (Imm.refl _) ⟨some ⟨g2, 0, none⟩, c2, _, .inr ⟨g2, _, (0, 0), rfl, rfl, FreeOf.zero _, by rw [Int.toNat_natCast, hrl]; exact hc2, by rw [putSeg_size, putSeg_size, hs2, hn], ?_, by rw [Int.toNat_natCast, hrl]; exact hmx⟩, by rw [Int.toNat_natCast, hrl]; rfl, rfl⟩
    refine row_insert hrow hy (by simpa using hq) (fun j hj => ?_) (fun j hj => ?_) (fun j hj => ?_)
    all_goals rw [hn, Int.toNat_natCast] at *
    · rw [putSeg_get _ _ _ hfit2, if_neg (by omega), putSeg_get _ _ _ hfit1, if_neg (by omega)]; exact heq j hj
    · rw [putSeg_get _ _ _ hfit2, if_neg (by omega), putSeg_get _ _ _ hfit1, if_pos (by omega)]; congr 1; omega
    · rw [putSeg_get _ _ _ hfit2, if_pos (by rw [hll]; omega), show (q + 1) * 7 + j - (q + 1) * 7 = j from by omega]; exact hlg j hj
  · -- there is room
    have hgt : a0.length + 1 ≤ c := by have := of_decide_eq_false hc; rw [w1] at this; omega
    refine gk_skip (by kernel_rfl) ?_
    refine ge_seq ?_
    refine gk_sr (by kernel_rfl) (by kernel_rfl) ?_
    refine gl_pure 4 [1, 2, 7, 8, 56, 59] (K' := [(1, .int .i64 q), (2, .slice (some ⟨gv, 0, none⟩) 1 1), (7, .int .i64 1), (8, .int .i64 a0.length), (56, .slice (some ⟨g, 0, none⟩) a0.length c), (59, .int .i64 (IntKind.wrap .i64 ((a0.length : Int) + 1)))]) (by kernel_rfl) ?_
    rw [w1]
    refine gl_sliceV (T' := 65) (e := 97) (n := 7) (A := some ⟨g, 0, none⟩) (len := a0.length) (c := c) (a := 0) (b := ((a0.length + 1 : Nat) : Int)) (xs := .tmp 56) (lo := none) (hi := some (.tmp 59)) (by omega) (by omega) (by omega) (by kernel_rfl) (by kernel_rfl) (by kernel_rfl) (by kernel_rfl) (by kernel_rfl) (by kernel_rfl) (v := .slice (some ⟨g, 0, none⟩) (a0.length + 1) c) (by rw [show ((0 : Int).toNat) = 0 from rfl, head_eq (by omega)]; simp) ?_
    refine gl_pure 1 [0, 1, 2, 7, 8] (K' := [(0, .slice (some ⟨g, 0, none⟩) (a0.length + 1) c), (1, .int .i64 q), (2, .slice (some ⟨gv, 0, none⟩) 1 1), (7, .int .i64 1), (8, .int .i64 a0.length)]) (by kernel_rfl) ?_
    refine gl_toC (by kernel_rfl) ?_
    refine gk_seq (by kernel_rfl) ?_
    refine gk_sr (by kernel_rfl) (by kernel_rfl) ?_
    refine gl_pure 5 [0, 1, 2, 7, 61, 62, 65] (K' := [(0, .slice (some ⟨g, 0, none⟩) (a0.length + 1) c), (1, .int .i64 q), (2, .slice (some ⟨gv, 0, none⟩) 1 1), (7, .int .i64 1), (61, .slice (some ⟨gv, 0, none⟩) 1 1), (62, .slice (some ⟨g, 0, none⟩) (a0.length + 1) c), (65, .int .i64 (IntKind.wrap .i64 ((q : Int) + 1)))]) (by kernel_rfl) ?_
    rw [w2]
    refine gl_sliceV (T' := 65) (e := 97) (n := 7) (A := some ⟨g, 0, none⟩) (len := a0.length + 1) (c := c) (a := ((q + 1 : Nat) : Int)) (b := ((a0.length + 1 : Nat) : Int)) (xs := .tmp 62) (lo := some (.tmp 65)) (hi := none) (by omega) (by omega) (by omega) (by kernel_rfl) (by kernel_rfl) (by kernel_rfl) (by kernel_rfl) (by kernel_rfl) (by kernel_rfl) (v := .slice (some ⟨g, (q + 1) * 7, none⟩) (a0.length - q) (c - (q + 1))) (by rw [Int.toNat_natCast, Int.toNat_natCast, head_eq (by omega), show a0.length + 1 - (q + 1) = a0.length - q from by omega]) ?_
    refine gl_have (φ := gv ≠ g) (fun W hW he => by
      subst he
      have := hW.nd
      simp at this) (fun hneg => ?_)
    refine gl_overlaps (f := 81) (tS := 65) (tR := 4) (e := 97) (size := 7) (g1 := gv) (g2 := g) (o1 := 0) (o2 := (q + 1) * 7) (la := 1) (ca := 1) (lb := a0.length - q) (cb := c - (q + 1)) (c1 := vs.toArray) (c2 := cells) (t1 := 97) (t2 := 97) (fz := fz) Tryd.func81 (by kernel_rfl) (by kernel_rfl) (by kernel_rfl) (by kernel_rfl) (by kernel_rfl) (by kernel_rfl) (by kernel_rfl) (List.mem_cons_of_mem _ List.mem_cons_self) List.mem_cons_self hneg (by rw [hcs]; omega) ?_
    refine gl_pure 1 [0, 1, 2, 7, 68] (K' := [(0, .slice (some ⟨g, 0, none⟩) (a0.length + 1) c), (1, .int .i64 q), (2, .slice (some ⟨gv, 0, none⟩) 1 1), (7, .int .i64 1), (68, .bool true)]) (by kernel_rfl) ?_
    refine gl_toC (by kernel_rfl) ?_
    refine gk_cond (b := true) (by kernel_rfl) (by kernel_rfl) (fun _ => ?_) (fun h => by cases h)
    refine gk_seq (by kernel_rfl) ?_
    refine gk_draw 8 [(0, true), (1, true), (2, true), (3, true), (4, true), (5, true), (6, true), (7, true)] [] (fun p hp => by cases hp) (by kernel_rfl) (by kernel_rfl) (by kernel_rfl) ?_ (by kernel_rfl)
    refine gd_pure 4 [0, 1, 2, 69, 72] (K' := [(0, .slice (some ⟨g, 0, none⟩) (a0.length + 1) c), (1, .int .i64 q), (2, .slice (some ⟨gv, 0, none⟩) 1 1), (69, .slice (some ⟨g, 0, none⟩) (a0.length + 1) c), (72, .int .i64 (IntKind.wrap .i64 ((q : Int) + 1)))]) (s' := [(4, true), (5, true), (6, true), (7, true)]) (CC.refl (fun p hp => by cases hp)) (by kernel_rfl) ?_
    rw [w2]
    refine gd_q (v := .slice (some ⟨g, (q + 1) * 7, none⟩) (a0.length - q) (c - (q + 1))) (by kernel_rfl) (by kernel_rfl) (CC.refl (fun p hp => by cases hp)) (fun I' L' T hC kk => gl_sliceV (T' := 65) (e := 97) (n := 7) (A := some ⟨g, 0, none⟩) (len := a0.length + 1) (c := c) (a := ((q + 1 : Nat) : Int)) (b := ((a0.length + 1 : Nat) : Int)) (xs := .tmp 69) (lo := some (.tmp 72)) (hi := none) (by omega) (by omega) (by omega) (by kernel_rfl) (by kernel_rfl) (by kernel_rfl) (by kernel_rfl) (by kernel_rfl) (by kernel_rfl) (by rw [Int.toNat_natCast, Int.toNat_natCast, head_eq (by omega), show a0.length + 1 - (q + 1) = a0.length - q from by omega]) kk) ?_
    refine gd_pure 2 [0, 1, 2, 73, 74, 75] (K' := [(0, .slice (some ⟨g, 0, none⟩) (a0.length + 1) c), (1, .int .i64 q), (2, .slice (some ⟨gv, 0, none⟩) 1 1), (73, .slice (some ⟨g, (q + 1) * 7, none⟩) (a0.length - q) (c - (q + 1))), (74, .slice (some ⟨g, 0, none⟩) (a0.length + 1) c), (75, .int .i64 q)]) (s' := [(7, true)]) (CC.refl (fun p hp => by cases hp)) (by kernel_rfl) ?_
    refine gd_q (v := .slice (some ⟨g, q * 7, none⟩) (a0.length + 1 - q) (c - q)) (by kernel_rfl) (by kernel_rfl) (CC.refl (fun p hp => by cases hp)) (fun I' L' T hC kk => gl_sliceV (T' := 65) (e := 97) (n := 7) (A := some ⟨g, 0, none⟩) (len := a0.length + 1) (c := c) (a := q) (b := ((a0.length + 1 : Nat) : Int)) (xs := .tmp 74) (lo := some (.tmp 75)) (hi := none) (by omega) (by omega) (by omega) (by kernel_rfl) (by kernel_rfl) (by kernel_rfl) (by kernel_rfl) (by kernel_rfl) (by kernel_rfl) (by rw [Int.toNat_natCast, Int.toNat_natCast, head_eq (by omega)]) kk) ?_
    refine gd_done ?_
    have hll : ((cells.toList.drop (q * 7)).take ((a0.length - q) * 7)).length = (a0.length - q) * 7 := by
      rw [List.length_take, List.length_drop, Array.length_toList (xs := cells), hcs]
      have e1 : (a0.length - q) * 7 + q * 7 = a0.length * 7 := by rw [← Nat.add_mul]; congr 1; omega
      have e2 := Nat.mul_le_mul_right 7 hlc'
      omega
    have hlg : ∀ j, j < (a0.length - q) * 7 → ((cells.toList.drop (q * 7)).take ((a0.length - q) * 7))[j]? = cells[q * 7 + j]? := fun j hj => by
      rw [List.getElem?_take, if_pos hj, List.getElem?_drop, Array.getElem?_toList]
    have hone : ∀ v ∈ (cells.toList.drop (q * 7)).take ((a0.length - q) * 7), v.oneCell' = true := row_one hrow hcs hlc' hn
    have hfit1 : (q + 1) * 7 + ((cells.toList.drop (q * 7)).take ((a0.length - q) * 7)).length ≤ cells.size := by
      rw [hll, hcs]
      have e1 : (q + 1) * 7 + (a0.length - q) * 7 = (a0.length + 1) * 7 := by rw [← Nat.add_mul]; congr 1; omega
      have e2 := Nat.mul_le_mul_right 7 hgt
      omega
    refine gl_copyB (g := g) (off := (q + 1) * 7) (dLen := a0.length - q) (dCap := c - (q + 1)) (sLen := a0.length + 1 - q) (m := a0.length - q) (size := 7) (tD := 65) (tS := 65) (e := 97) (sv := .slice (some ⟨g, q * 7, none⟩) (a0.length + 1 - q) (c - q)) (dx := .tmp 73) (sx := .tmp 76) (cells := cells) (e' := 97) (fz := fz) (l := (cells.toList.drop (q * 7)).take ((a0.length - q) * 7)) (by kernel_rfl) (by kernel_rfl) (by kernel_rfl) (by kernel_rfl) (by kernel_rfl) (fun W => rfl) (Nat.min_eq_right (by omega)) (fun W hW => run_firstCells_some W 7 (a0.length - q) ⟨g, q * 7, none⟩ _ _ _ hll (fun j v hj => by
      have hm : W.heap[g]? = some (.cells cells 97 fz) := hW.mem List.mem_cons_self
      have hjl : j < (a0.length - q) * 7 := by rw [← hll]; exact (List.getElem?_eq_some_iff.1 hj).1
      rw [hlg j hjl] at hj
      have hadd : (⟨g, q * 7, none⟩ : Addr).add j = ⟨g, q * 7 + j, none⟩ := by
        unfold Addr.add; split
        · rename_i h; rw [h]; rfl
        · rfl
      rw [hadd]; simp only [World.cell?, hm]; simpa using hj)) (Upd.set _ _ _ _) hfz hfit1 hone ?_
    refine gl_pick [0, 1, 2] (K' := [(0, .slice (some ⟨g, 0, none⟩) (a0.length + 1) c), (1, .int .i64 q), (2, .slice (some ⟨gv, 0, none⟩) 1 1)]) (by kernel_rfl) ?_
    refine gl_atE (by kernel_rfl) ?_
    refine ge_seq ?_
    refine gk_sr (by kernel_rfl) (by kernel_rfl) ?_
    refine gl_pure 2 [0, 2, 78, 79] (K' := [(0, .slice (some ⟨g, 0, none⟩) (a0.length + 1) c), (2, .slice (some ⟨gv, 0, none⟩) 1 1), (78, .slice (some ⟨g, 0, none⟩) (a0.length + 1) c), (79, .int .i64 q)]) (by kernel_rfl) ?_
    refine gl_sliceV (T' := 65) (e := 97) (n := 7) (A := some ⟨g, 0, none⟩) (len := a0.length + 1) (c := c) (a := q) (b := ((a0.length + 1 : Nat) : Int)) (xs := .tmp 78) (lo := some (.tmp 79)) (hi := none) (by omega) (by omega) (by omega) (by kernel_rfl) (by kernel_rfl) (by kernel_rfl) (by kernel_rfl) (by kernel_rfl) (by kernel_rfl) (v := .slice (some ⟨g, q * 7, none⟩) (a0.length + 1 - q) (c - q)) (by rw [Int.toNat_natCast, Int.toNat_natCast, head_eq (by omega)]) ?_
    refine gl_pure 1 [0, 80, 81] (K' := [(0, .slice (some ⟨g, 0, none⟩) (a0.length + 1) c), (80, .slice (some ⟨g, q * 7, none⟩) (a0.length + 1 - q) (c - q)), (81, .slice (some ⟨gv, 0, none⟩) 1 1)]) (by kernel_rfl) ?_
    have hfit2 : q * 7 + vs.length ≤ (putSeg cells ((q + 1) * 7) ((cells.toList.drop (q * 7)).take ((a0.length - q) * 7))).size := by
      rw [putSeg_size, hvl, hcs]
      have : (q + 1) * 7 ≤ c * 7 := Nat.mul_le_mul_right _ (by omega)
      omega
    refine gl_copyB (g := g) (off := q * 7) (dLen := a0.length + 1 - q) (dCap := c - q) (sLen := 1) (m := 1) (size := 7) (tD := 65) (tS := 65) (e := 97) (sv := .slice (some ⟨gv, 0, none⟩) 1 1) (dx := .tmp 80) (sx := .tmp 81) (cells := putSeg cells ((q + 1) * 7) ((cells.toList.drop (q * 7)).take ((a0.length - q) * 7))) (e' := 97) (fz := fz) (l := vs) (by kernel_rfl) (by kernel_rfl) (by kernel_rfl) (by kernel_rfl) (by kernel_rfl) (fun W => rfl) (Nat.min_eq_left (by omega)) (fun W hW => run_firstCells_some W 7 1 ⟨gv, 0, none⟩ 1 1 vs (by rw [hvl]) (fun j v hj => by
      have hm : W.heap[gv]? = some (.cells vs.toArray 97) := hW.mem (List.mem_cons_of_mem _ List.mem_cons_self)
      have hadd : (⟨gv, 0, none⟩ : Addr).add j = ⟨gv, j, none⟩ := by unfold Addr.add; split <;> simp_all
      rw [hadd]; simp only [World.cell?, hm]; simpa using hj)) (Upd.set _ _ _ _) (by rw [FreeOf, putSeg_size]; exact hfz) hfit2 hvo ?_
    refine gl_pick [0] (K' := [(0, .slice (some ⟨g, 0, none⟩) (a0.length + 1) c)]) (by kernel_rfl) ?_
    refine gl_toC (by kernel_rfl) ?_
    refine gk_sr (by kernel_rfl) (by kernel_rfl) ?_
    refine gl_pure 2 [6] (K' := [(6, .slice (some ⟨g, 0, none⟩) (a0.length + 1) c)]) (by kernel_rfl) ?_
    refine gl_reord (D := [(g, .cells (putSeg (putSeg cells ((q + 1) * 7) ((cells.toList.drop (q * 7)).take ((a0.length - q) * 7))) (q * 7) vs) 97 fz)] ++ L) (Reord.step1 (Upd.rm1 _ _) (Reord.skip (Reord.refl _))) ?_
    refine gl_toC (by kernel_rfl) ?_
    refine gk_ret (by kernel_rfl) ?_
    repeat (refine ge_seq_ret ?_)
    have hrl : (a0.take q ++ y :: a0.drop q).length = a0.length + 1 := by simp; omega
    refine ge_result trivial (ResOk.tmp (by kernel_rfl) ResOk.nil) (Imm.refl _) ⟨some ⟨g, 0, none⟩, c, _, .inr ⟨g, _, fz, rfl, rfl, by rw [FreeOf, putSeg_size, putSeg_size]; exact hfz, by rw [Int.toNat_natCast, hrl]; exact hgt, by rw [putSeg_size, putSeg_size, hcs, hn], ?_, by rw [Int.toNat_natCast, hrl]; exact hmx⟩, by rw [Int.toNat_natCast, hrl]; rfl, rfl⟩
    refine row_insert hrow hy (by simpa using hq) (fun j hj => ?_) (fun j hj => ?_) (fun j hj => ?_)
    all_goals rw [hn, Int.toNat_natCast] at *
    · rw [putSeg_get _ _ _ hfit2, if_neg (by omega), putSeg_get _ _ _ hfit1, if_neg (by omega)]
    · rw [putSeg_get _ _ _ hfit2, if_pos (by omega)]; congr 1; omega
    · rw [putSeg_get _ _ _ hfit2, if_neg (by omega), putSeg_get _ _ _ hfit1, if_pos (by rw [hll]; omega), show (q + 1) * 7 + j - (q + 1) * 7 = j from by omega]; exact hlg j hj

/-! 51 nflog_list_put ('obj', 'imm', 'imm') -/
noncomputable def nflog_list_put (a0 : S66) (a1 : S74) (a2 : S23) : Option S66 :=
  Option.bind (nflog_list_find a0 a1) fun (y3 : Int × Bool) =>
  bif y3.2 then
  (Option.bind (ix a0.f0 y3.1) fun (x9 : S96) =>
    some (⟨(lset a0.f0 y3.1 (⟨x9.f0, a2⟩ : S96))⟩ : S66))
  else
  (Option.bind (linsert a0.f0 y3.1 (⟨(⟨a1.f0, a1.f1⟩ : S74), (⟨a2.f0, a2.f1, a2.f2, a2.f3, a2.f4⟩ : S23)⟩ : S96)) fun (zs31 : List S96) =>
    some (⟨zs31⟩ : S66))
theorem nflog_list_put_walk {a0 : S66} {g0 : Nat} {T0 : TypeId} {A0_0 : Option Addr} {c0_0 : Nat} {C0_0 : Own} {a1 : S74} {a2 : S23} {A2_3 : Option Addr} {n2_3 : Nat} {A2_4 : Option Addr} {n2_4 : Nat} {I : Imm} {r : S66}  (hO0_0 : OwnS kS96 97 I A0_0 c0_0 a0.f0 C0_0)  (hf2_3 : RepS (Kd.sl kS50) I A2_3 n2_3 a2.f3) (hf2_4 : RepS (Kd.sl kS50) I A2_4 n2_4 a2.f4) (hr : nflog_list_put a0 a1 a2 = some r) (L : Own) :
    CallsTo Tryd.prog 51 #[.pointer (some ⟨g0, 0, none⟩), .agg #[.string a1.f0, .string a1.f1], .agg #[.string a2.f0, .string a2.f1, .int .i64 a2.f2, .slice A2_3 a2.f3.length n2_3, .slice A2_4 a2.f4.length n2_4]] I ((g0, .cells #[.slice A0_0 a0.f0.length c0_0] T0) :: (C0_0 ++ L)) (fun v I' L' => ∃ A0_0 c0_0 C0_0, OwnS kS96 97 I' A0_0 c0_0 r.f0 C0_0 ∧ v = .tuple #[] ∧ (g0, .cells #[.slice A0_0 r.f0.length c0_0] T0) :: (C0_0 ++ L) = L') := by
  unfold nflog_list_put at hr
  refine callsTo_body (N := 36) Tryd.func51 (by kernel_rfl) (by kernel_rfl) (by kernel_rfl) ?_
  refine gk_pick [0, 1, 2] (K' := [(0, .pointer (some ⟨g0, 0, none⟩)), (1, .agg #[.string a1.f0, .string a1.f1]), (2, .agg #[.string a2.f0, .string a2.f1, .int .i64 a2.f2, .slice A2_3 a2.f3.length n2_3, .slice A2_4 a2.f4.length n2_4])]) (by kernel_rfl) ?_
  refine gk_seq (by kernel_rfl) ?_
  refine gk_region (by kernel_rfl) ?_
  refine gl_box (T' := 75) (x := (.tmp 1)) (v := .agg #[.string a1.f0, .string a1.f1]) (cs := #[.string a1.f0, .string a1.f1]) (by kernel_rfl) (by kernel_rfl) (by kernel_rfl) (by kernel_rfl) (fun g1 => ?_)
  refine gl_box (T' := 24) (x := (.tmp 2)) (v := .agg #[.string a2.f0, .string a2.f1, .int .i64 a2.f2, .slice A2_3 a2.f3.length n2_3, .slice A2_4 a2.f4.length n2_4]) (cs := #[.string a2.f0, .string a2.f1, .int .i64 a2.f2, .slice A2_3 a2.f3.length n2_3, .slice A2_4 a2.f4.length n2_4]) (by kernel_rfl) (by kernel_rfl) (by kernel_rfl) (by kernel_rfl) (fun g2 => ?_)
  refine gl_atE (by kernel_rfl) ?_
  refine ge_seq ?_
  refine gk_seq (by kernel_rfl) ?_
  refine gk_region (by kernel_rfl) ?_
  refine gl_pure 1 [0, 4, 5, 9] (K' := [(0, .pointer (some ⟨g0, 0, none⟩)), (4, .pointer (some ⟨g1, 0, none⟩)), (5, .pointer (some ⟨g2, 0, none⟩)), (9, .pointer (some ⟨g0, 0, none⟩))]) (by kernel_rfl) ?_
  refine gl_loadB (T' := 75) (xp := (.tmp 4)) (v := .agg #[.string a1.f0, .string a1.f1]) (g := g1) (off := 0) (cs := #[.string a1.f0, .string a1.f1]) (e := 75) (fz := (0, 0)) (by kernel_rfl) (by kernel_rfl) (by kernel_rfl) (List.mem_cons_of_mem _ List.mem_cons_self) (by kernel_rfl) ?_
  obtain ⟨y3, hx4, hr⟩ := bind_some hr
  refine gl_reord (D := (g0, .cells #[.slice A0_0 a0.f0.length c0_0] T0) :: (C0_0 ++ ((g2, .cells #[.string a2.f0, .string a2.f1, .int .i64 a2.f2, .slice A2_3 a2.f3.length n2_3, .slice A2_4 a2.f4.length n2_4] 24) :: ((g1, .cells #[.string a1.f0, .string a1.f1] 75) :: L)))) (Reord.step1 (Upd.one _ (Upd.one _ (Upd.rm1 _ _))) (Reord.step (Upd.one _ (Upd.one _ (Upd.rmC _ _))) (Reord.step1 (Upd.rm1 _ _) (Reord.step1 (Upd.rm1 _ _) (Reord.refl _))))) ?_
  refine gl_call (by kernel_rfl) (nflog_list_find_walk (r := y3) (g0 := g0) (T0 := T0) (A0_0 := A0_0) (c0_0 := c0_0) (C0_0 := C0_0) (a0 := a0) hO0_0 hx4 _) ?_
  rintro v I5 L6 hI7 ⟨rfl, rfl⟩
  refine gl_pure 5 [0, 4, 5, 6, 7] (K' := [(0, .pointer (some ⟨g0, 0, none⟩)), (4, .pointer (some ⟨g1, 0, none⟩)), (5, .pointer (some ⟨g2, 0, none⟩)), (6, .int .i64 y3.1), (7, .bool y3.2)]) (by kernel_rfl) ?_
  refine gl_atE (by kernel_rfl) ?_
  refine ge_seq ?_
  refine gk_seq (by kernel_rfl) ?_
  refine gk_seq (by kernel_rfl) ?_
  refine gk_region (by kernel_rfl) ?_
  refine gl_pure 1 [0, 4, 5, 6, 14] (K' := [(0, .pointer (some ⟨g0, 0, none⟩)), (4, .pointer (some ⟨g1, 0, none⟩)), (5, .pointer (some ⟨g2, 0, none⟩)), (6, .int .i64 y3.1), (14, .bool y3.2)]) (by kernel_rfl) ?_
  refine gl_atE (by kernel_rfl) ?_
  refine ge_seq ?_
  refine gk_cond (b := y3.2) (by kernel_rfl) (by kernel_rfl) (fun hc8 => ?_) (fun hc8 => ?_)
  · have hr := cond_t hc8 hr
    refine gk_seq (by kernel_rfl) ?_
    refine gk_draw 8 [(0, true), (1, true), (2, true), (3, true), (4, true), (5, true), (6, false), (7, true)] [(g0, .cells #[.slice A0_0 a0.f0.length c0_0] T0), (g2, .cells #[.string a2.f0, .string a2.f1, .int .i64 a2.f2, .slice A2_3 a2.f3.length n2_3, .slice A2_4 a2.f4.length n2_4] 24), (g1, .cells #[.string a1.f0, .string a1.f1] 75)] (List.forall_mem_cons.2 ⟨List.mem_cons_self, (List.forall_mem_cons.2 ⟨(List.mem_cons_of_mem _ (List.mem_append_right _ List.mem_cons_self)), (List.forall_mem_cons.2 ⟨(List.mem_cons_of_mem _ (List.mem_append_right _ (List.mem_cons_of_mem _ List.mem_cons_self))), (fun p hp => by cases hp)⟩)⟩)⟩) (by kernel_rfl) (by kernel_rfl) (by kernel_rfl) ?_ (by kernel_rfl)
    refine gd_pure 3 [5, 6, 17] (K' := [(5, .pointer (some ⟨g2, 0, none⟩)), (6, .int .i64 y3.1), (17, .pointer (some ⟨g0, 0, none⟩))]) (s' := [(3, true), (4, true), (5, true), (6, false), (7, true)]) (CC.refl (List.forall_mem_cons.2 ⟨List.mem_cons_self, (List.forall_mem_cons.2 ⟨(List.mem_cons_of_mem _ (List.mem_append_right _ List.mem_cons_self)), (List.forall_mem_cons.2 ⟨(List.mem_cons_of_mem _ (List.mem_append_right _ (List.mem_cons_of_mem _ List.mem_cons_self))), (fun p hp => by cases hp)⟩)⟩)⟩)) (by kernel_rfl) ?_
    refine gd_q (v := .slice A0_0 a0.f0.length c0_0) (by kernel_rfl) (by kernel_rfl) (CC.refl (List.forall_mem_cons.2 ⟨List.mem_cons_self, (List.forall_mem_cons.2 ⟨(List.mem_cons_of_mem _ (List.mem_append_right _ List.mem_cons_self)), (List.forall_mem_cons.2 ⟨(List.mem_cons_of_mem _ (List.mem_append_right _ (List.mem_cons_of_mem _ List.mem_cons_self))), (fun p hp => by cases hp)⟩)⟩)⟩)) (fun I' L' T hC kk => gl_loadB (T' := 65) (xp := (.tmp 17)) (v := .slice A0_0 a0.f0.length c0_0) (g := g0) (off := 0) (cs := #[.slice A0_0 a0.f0.length c0_0]) (e := T0) (fz := (0, 0)) (by kernel_rfl) (by kernel_rfl) (by kernel_rfl) (hC.sub _ List.mem_cons_self) (by kernel_rfl) kk) ?_
    refine gd_pure 1 [5, 18, 19] (K' := [(5, .pointer (some ⟨g2, 0, none⟩)), (18, .slice A0_0 a0.f0.length c0_0), (19, .int .i64 y3.1)]) (s' := [(5, true), (6, false), (7, true)]) (CC.refl (List.forall_mem_cons.2 ⟨List.mem_cons_self, (List.forall_mem_cons.2 ⟨(List.mem_cons_of_mem _ (List.mem_append_right _ List.mem_cons_self)), (List.forall_mem_cons.2 ⟨(List.mem_cons_of_mem _ (List.mem_append_right _ (List.mem_cons_of_mem _ List.mem_cons_self))), (fun p hp => by cases hp)⟩)⟩)⟩)) (by kernel_rfl) ?_
    refine gd_q (v := .agg #[.string a2.f0, .string a2.f1, .int .i64 a2.f2, .slice A2_3 a2.f3.length n2_3, .slice A2_4 a2.f4.length n2_4]) (by kernel_rfl) (by kernel_rfl) (CC.refl (List.forall_mem_cons.2 ⟨List.mem_cons_self, (List.forall_mem_cons.2 ⟨(List.mem_cons_of_mem _ (List.mem_append_right _ List.mem_cons_self)), (List.forall_mem_cons.2 ⟨(List.mem_cons_of_mem _ (List.mem_append_right _ (List.mem_cons_of_mem _ List.mem_cons_self))), (fun p hp => by cases hp)⟩)⟩)⟩)) (fun I' L' T hC kk => gl_loadB (T' := 24) (xp := (.tmp 5)) (v := .agg #[.string a2.f0, .string a2.f1, .int .i64 a2.f2, .slice A2_3 a2.f3.length n2_3, .slice A2_4 a2.f4.length n2_4]) (g := g2) (off := 0) (cs := #[.string a2.f0, .string a2.f1, .int .i64 a2.f2, .slice A2_3 a2.f3.length n2_3, .slice A2_4 a2.f4.length n2_4]) (e := 24) (fz := (0, 0)) (by kernel_rfl) (by kernel_rfl) (by kernel_rfl) (hC.sub _ (List.mem_cons_of_mem _ List.mem_cons_self)) (by kernel_rfl) kk) ?_
    refine gd_one (by kernel_rfl) ?_
    obtain ⟨x9, hx10, hr⟩ := bind_some hr
    refine gl_indexAddrW (d := kS96) (c := c0_0) (T' := 65) (e := 97) (xs := (.tmp 18)) (xi := (.tmp 19)) (kd := .i64) hx10 (hO0_0.mono hI7) (Upd.one _ (Upd.selfC _ _)) (by kernel_rfl) (by kernel_rfl) (by kernel_rfl) (by kernel_rfl) (by kernel_rfl) (fun p11 cs12 hR13 hA14 hp23 => ?_)
    obtain ⟨A17, n18, A20, n21, hf19, hf22, rfl⟩ := kS96_open hR13
    refine gl_toD (by kernel_rfl) ⟨(Imm.refl _), (List.forall_mem_cons.2 ⟨List.mem_cons_self, (List.forall_mem_cons.2 ⟨(List.mem_cons_of_mem _ (List.mem_append_right _ List.mem_cons_self)), (List.forall_mem_cons.2 ⟨(List.mem_cons_of_mem _ (List.mem_append_right _ (List.mem_cons_of_mem _ List.mem_cons_self))), (fun p hp => by cases hp)⟩)⟩)⟩)⟩ ?_
    refine gd_pure 1 [20, 22] (K' := [(20, .agg #[.string a2.f0, .string a2.f1, .int .i64 a2.f2, .slice A2_3 a2.f3.length n2_3, .slice A2_4 a2.f4.length n2_4]), (22, .pointer (some (p11.add 2)))]) (s' := []) (CC.refl (List.forall_mem_cons.2 ⟨List.mem_cons_self, (List.forall_mem_cons.2 ⟨(List.mem_cons_of_mem _ (List.mem_append_right _ List.mem_cons_self)), (List.forall_mem_cons.2 ⟨(List.mem_cons_of_mem _ (List.mem_append_right _ (List.mem_cons_of_mem _ List.mem_cons_self))), (fun p hp => by cases hp)⟩)⟩)⟩)) (by kernel_rfl) ?_
    refine gd_done ?_
    have hl26 : a0.f0.length = (lset a0.f0 y3.1 (⟨x9.f0, a2⟩ : S96)).length := by simp [lset]
    refine gl_storeE (d := kS96) (T' := 24) (xp := (.tmp 22)) (xv := (.tmp 20)) (v := .agg #[.string a2.f0, .string a2.f1, .int .i64 a2.f2, .slice A2_3 a2.f3.length n2_3, .slice A2_4 a2.f4.length n2_4]) (off := 2) (y := (⟨x9.f0, a2⟩ : S96)) (fun X => (g0, .cells #[.slice A0_0 a0.f0.length c0_0] T0) :: (X ++ ((g2, .cells #[.string a2.f0, .string a2.f1, .int .i64 a2.f2, .slice A2_3 a2.f3.length n2_3, .slice A2_4 a2.f4.length n2_4] 24) :: ((g1, .cells #[.string a1.f0, .string a1.f1] 75) :: L)))) hx10 (hO0_0.mono hI7) (fun X => (Upd.one _ (Upd.head _ X _))) hp23 (by kernel_rfl) (by kernel_rfl) (by kernel_rfl) (by kernel_rfl) (by kernel_rfl) (by kernel_rfl) (fun cs h => by obtain ⟨A_5, c_5, A_6, c_6, h_5, h_6, rfl⟩ := kS96_open h; exact kS96_mk (x := (⟨x9.f0, a2⟩ : S96)) (hf2_3.mono hI7) (hf2_4.mono hI7)) (by kernel_rfl) (fun C24 hO25 => ?_)
    try rw [hl26]
    refine gl_atE (by kernel_rfl) ?_
    refine ge_seq ?_
    refine gk_reord (D := (g0, .cells #[.slice A0_0 (lset a0.f0 y3.1 (⟨x9.f0, a2⟩ : S96)).length c0_0] T0) :: (C24 ++ L)) (Reord.step1 (Upd.rm1 _ _) (Reord.step (Upd.rmC _ _) (Reord.skip (Reord.skip (Reord.refl _))))) ?_
    refine gk_ret (by kernel_rfl) ?_
    refine ge_seq_ret ?_
    obtain rfl := some_inj hr
    exact ge_result trivial ResOk.nil hI7 ⟨A0_0, c0_0, C24, hO25, rfl, rfl⟩
  · have hr := cond_f hc8 hr
    refine gk_skip (by kernel_rfl) ?_
    refine ge_seq ?_
    refine gk_draw 13 [(0, true), (1, true), (2, true), (3, true), (4, true), (5, true), (6, true), (7, true), (8, true), (9, false), (10, false), (11, true), (12, true)] [(g0, .cells #[.slice A0_0 a0.f0.length c0_0] T0), (g2, .cells #[.string a2.f0, .string a2.f1, .int .i64 a2.f2, .slice A2_3 a2.f3.length n2_3, .slice A2_4 a2.f4.length n2_4] 24), (g1, .cells #[.string a1.f0, .string a1.f1] 75)] (List.forall_mem_cons.2 ⟨List.mem_cons_self, (List.forall_mem_cons.2 ⟨(List.mem_cons_of_mem _ (List.mem_append_right _ List.mem_cons_self)), (List.forall_mem_cons.2 ⟨(List.mem_cons_of_mem _ (List.mem_append_right _ (List.mem_cons_of_mem _ List.mem_cons_self))), (fun p hp => by cases hp)⟩)⟩)⟩) (by kernel_rfl) (by kernel_rfl) (by kernel_rfl) ?_ (by kernel_rfl)
    refine gd_pure 4 [4, 5, 6, 23, 26] (K' := [(4, .pointer (some ⟨g1, 0, none⟩)), (5, .pointer (some ⟨g2, 0, none⟩)), (6, .int .i64 y3.1), (23, .pointer (some ⟨g0, 0, none⟩)), (26, .pointer (some ⟨g0, 0, none⟩))]) (s' := [(4, true), (5, true), (6, true), (7, true), (8, true), (9, false), (10, false), (11, true), (12, true)]) (CC.refl (List.forall_mem_cons.2 ⟨List.mem_cons_self, (List.forall_mem_cons.2 ⟨(List.mem_cons_of_mem _ (List.mem_append_right _ List.mem_cons_self)), (List.forall_mem_cons.2 ⟨(List.mem_cons_of_mem _ (List.mem_append_right _ (List.mem_cons_of_mem _ List.mem_cons_self))), (fun p hp => by cases hp)⟩)⟩)⟩)) (by kernel_rfl) ?_
    refine gd_q (v := .slice A0_0 a0.f0.length c0_0) (by kernel_rfl) (by kernel_rfl) (CC.refl (List.forall_mem_cons.2 ⟨List.mem_cons_self, (List.forall_mem_cons.2 ⟨(List.mem_cons_of_mem _ (List.mem_append_right _ List.mem_cons_self)), (List.forall_mem_cons.2 ⟨(List.mem_cons_of_mem _ (List.mem_append_right _ (List.mem_cons_of_mem _ List.mem_cons_self))), (fun p hp => by cases hp)⟩)⟩)⟩)) (fun I' L' T hC kk => gl_loadB (T' := 65) (xp := (.tmp 26)) (v := .slice A0_0 a0.f0.length c0_0) (g := g0) (off := 0) (cs := #[.slice A0_0 a0.f0.length c0_0]) (e := T0) (fz := (0, 0)) (by kernel_rfl) (by kernel_rfl) (by kernel_rfl) (hC.sub _ List.mem_cons_self) (by kernel_rfl) kk) ?_
    refine gd_pure 1 [4, 5, 23, 27, 28] (K' := [(4, .pointer (some ⟨g1, 0, none⟩)), (5, .pointer (some ⟨g2, 0, none⟩)), (23, .pointer (some ⟨g0, 0, none⟩)), (27, .slice A0_0 a0.f0.length c0_0), (28, .int .i64 y3.1)]) (s' := [(6, true), (7, true), (8, true), (9, false), (10, false), (11, true), (12, true)]) (CC.refl (List.forall_mem_cons.2 ⟨List.mem_cons_self, (List.forall_mem_cons.2 ⟨(List.mem_cons_of_mem _ (List.mem_append_right _ List.mem_cons_self)), (List.forall_mem_cons.2 ⟨(List.mem_cons_of_mem _ (List.mem_append_right _ (List.mem_cons_of_mem _ List.mem_cons_self))), (fun p hp => by cases hp)⟩)⟩)⟩)) (by kernel_rfl) ?_
    refine gd_q (v := .agg #[.string a1.f0, .string a1.f1]) (by kernel_rfl) (by kernel_rfl) (CC.refl (List.forall_mem_cons.2 ⟨List.mem_cons_self, (List.forall_mem_cons.2 ⟨(List.mem_cons_of_mem _ (List.mem_append_right _ List.mem_cons_self)), (List.forall_mem_cons.2 ⟨(List.mem_cons_of_mem _ (List.mem_append_right _ (List.mem_cons_of_mem _ List.mem_cons_self))), (fun p hp => by cases hp)⟩)⟩)⟩)) (fun I' L' T hC kk => gl_loadB (T' := 75) (xp := (.tmp 4)) (v := .agg #[.string a1.f0, .string a1.f1]) (g := g1) (off := 0) (cs := #[.string a1.f0, .string a1.f1]) (e := 75) (fz := (0, 0)) (by kernel_rfl) (by kernel_rfl) (by kernel_rfl) (hC.sub _ (List.mem_cons_of_mem _ (List.mem_cons_of_mem _ List.mem_cons_self))) (by kernel_rfl) kk) ?_
    refine gd_q (v := .agg #[.string a2.f0, .string a2.f1, .int .i64 a2.f2, .slice A2_3 a2.f3.length n2_3, .slice A2_4 a2.f4.length n2_4]) (by kernel_rfl) (by kernel_rfl) (CC.refl (List.forall_mem_cons.2 ⟨List.mem_cons_self, (List.forall_mem_cons.2 ⟨(List.mem_cons_of_mem _ (List.mem_append_right _ List.mem_cons_self)), (List.forall_mem_cons.2 ⟨(List.mem_cons_of_mem _ (List.mem_append_right _ (List.mem_cons_of_mem _ List.mem_cons_self))), (fun p hp => by cases hp)⟩)⟩)⟩)) (fun I' L' T hC kk => gl_loadB (T' := 24) (xp := (.tmp 5)) (v := .agg #[.string a2.f0, .string a2.f1, .int .i64 a2.f2, .slice A2_3 a2.f3.length n2_3, .slice A2_4 a2.f4.length n2_4]) (g := g2) (off := 0) (cs := #[.string a2.f0, .string a2.f1, .int .i64 a2.f2, .slice A2_3 a2.f3.length n2_3, .slice A2_4 a2.f4.length n2_4]) (e := 24) (fz := (0, 0)) (by kernel_rfl) (by kernel_rfl) (by kernel_rfl) (hC.sub _ (List.mem_cons_of_mem _ List.mem_cons_self)) (by kernel_rfl) kk) ?_
    refine gd_pure 1 [23, 27, 28, 31] (K' := [(23, .pointer (some ⟨g0, 0, none⟩)), (27, .slice A0_0 a0.f0.length c0_0), (28, .int .i64 y3.1), (31, .agg #[.string a1.f0, .string a1.f1, .string a2.f0, .string a2.f1, .int .i64 a2.f2, .slice A2_3 a2.f3.length n2_3, .slice A2_4 a2.f4.length n2_4])]) (s' := [(9, false), (10, false), (11, true), (12, true)]) (CC.refl (List.forall_mem_cons.2 ⟨List.mem_cons_self, (List.forall_mem_cons.2 ⟨(List.mem_cons_of_mem _ (List.mem_append_right _ List.mem_cons_self)), (List.forall_mem_cons.2 ⟨(List.mem_cons_of_mem _ (List.mem_append_right _ (List.mem_cons_of_mem _ List.mem_cons_self))), (fun p hp => by cases hp)⟩)⟩)⟩)) (by kernel_rfl) ?_
    refine gd_one (by kernel_rfl) ?_
    refine gl_buildSlice (T' := 65) (e := 97) (n := 7) (len := 1) (parts := #[(0, (.tmp 31))]) (l := [(0, .agg #[.string a1.f0, .string a1.f1, .string a2.f0, .string a2.f1, .int .i64 a2.f2, .slice A2_3 a2.f3.length n2_3, .slice A2_4 a2.f4.length n2_4])]) (cs := #[.string a1.f0, .string a1.f1, .string a2.f0, .string a2.f1, .int .i64 a2.f2, .slice A2_3 a2.f3.length n2_3, .slice A2_4 a2.f4.length n2_4]) (by kernel_rfl) (by kernel_rfl) (by kernel_rfl) (by kernel_rfl) (by kernel_rfl) (fun g27 => ?_)
    have hO28 : OwnS kS96 97 I5 (some ⟨g27, 0, none⟩) 1 [(⟨(⟨a1.f0, a1.f1⟩ : S74), (⟨a2.f0, a2.f1, a2.f2, a2.f3, a2.f4⟩ : S23)⟩ : S96)] [(g27, .cells #[.string a1.f0, .string a1.f1, .string a2.f0, .string a2.f1, .int .i64 a2.f2, .slice A2_3 a2.f3.length n2_3, .slice A2_4 a2.f4.length n2_4] 97)] := OwnS.lit (row_cons (l := [.string a1.f0, .string a1.f1, .string a2.f0, .string a2.f1, .int .i64 a2.f2, .slice A2_3 a2.f3.length n2_3, .slice A2_4 a2.f4.length n2_4]) (kS96_mk (x := (⟨(⟨a1.f0, a1.f1⟩ : S74), (⟨a2.f0, a2.f1, a2.f2, a2.f3, a2.f4⟩ : S23)⟩ : S96)) (hf2_3.mono hI7) (hf2_4.mono hI7)) (row_nil _ _)) rfl rfl rfl
    refine gl_reord (D := [(g27, .cells #[.string a1.f0, .string a1.f1, .string a2.f0, .string a2.f1, .int .i64 a2.f2, .slice A2_3 a2.f3.length n2_3, .slice A2_4 a2.f4.length n2_4] 97)] ++ ((g0, .cells #[.slice A0_0 a0.f0.length c0_0] T0) :: (C0_0 ++ ((g2, .cells #[.string a2.f0, .string a2.f1, .int .i64 a2.f2, .slice A2_3 a2.f3.length n2_3, .slice A2_4 a2.f4.length n2_4] 24) :: ((g1, .cells #[.string a1.f0, .string a1.f1] 75) :: L))))) (Reord.refl _) ?_
    refine gl_toD (by kernel_rfl) ⟨(Imm.refl _), (List.forall_mem_cons.2 ⟨(List.mem_append_right _ List.mem_cons_self), (List.forall_mem_cons.2 ⟨(List.mem_append_right _ (List.mem_cons_of_mem _ (List.mem_append_right _ List.mem_cons_self))), (List.forall_mem_cons.2 ⟨(List.mem_append_right _ (List.mem_cons_of_mem _ (List.mem_append_right _ (List.mem_cons_of_mem _ List.mem_cons_self)))), (fun p hp => by cases hp)⟩)⟩)⟩)⟩ ?_
    refine gd_one (by kernel_rfl) ?_
    obtain ⟨zs31, hz32, hr⟩ := bind_some hr
    refine gl_reord (D := C0_0 ++ ([(g27, .cells #[.string a1.f0, .string a1.f1, .string a2.f0, .string a2.f1, .int .i64 a2.f2, .slice A2_3 a2.f3.length n2_3, .slice A2_4 a2.f4.length n2_4] 97)] ++ ((g0, .cells #[.slice A0_0 a0.f0.length c0_0] T0) :: ((g2, .cells #[.string a2.f0, .string a2.f1, .int .i64 a2.f2, .slice A2_3 a2.f3.length n2_3, .slice A2_4 a2.f4.length n2_4] 24) :: ((g1, .cells #[.string a1.f0, .string a1.f1] 75) :: L))))) (Reord.step (Upd.app _ (Upd.one _ (Upd.rmC _ _))) (Reord.step (Upd.rmC _ _) (Reord.step1 (Upd.rm1 _ _) (Reord.step1 (Upd.rm1 _ _) (Reord.step1 (Upd.rm1 _ _) (Reord.refl _)))))) ?_
    refine gl_call (by kernel_rfl) (slices_Insert_69_walk (a0 := a0.f0) (A := A0_0) (c := c0_0) (C := C0_0) (gv := g27) (vs := [.string a1.f0, .string a1.f1, .string a2.f0, .string a2.f1, .int .i64 a2.f2, .slice A2_3 a2.f3.length n2_3, .slice A2_4 a2.f4.length n2_4]) (y := (⟨(⟨a1.f0, a1.f1⟩ : S74), (⟨a2.f0, a2.f1, a2.f2, a2.f3, a2.f4⟩ : S23)⟩ : S96)) (r := zs31) (hO0_0.mono hI7) (kS96_mk (x := (⟨(⟨a1.f0, a1.f1⟩ : S74), (⟨a2.f0, a2.f1, a2.f2, a2.f3, a2.f4⟩ : S23)⟩ : S96)) (hf2_3.mono hI7) (hf2_4.mono hI7)) hz32 _) ?_
    rintro v I37 L38 hI39 ⟨A33, n34, C35, hO36, rfl, rfl⟩
    refine gl_toD (by kernel_rfl) ⟨hI39, (List.forall_mem_cons.2 ⟨(List.mem_append_right _ List.mem_cons_self), (List.forall_mem_cons.2 ⟨(List.mem_append_right _ (List.mem_cons_of_mem _ List.mem_cons_self)), (List.forall_mem_cons.2 ⟨(List.mem_append_right _ (List.mem_cons_of_mem _ (List.mem_cons_of_mem _ List.mem_cons_self))), (fun p hp => by cases hp)⟩)⟩)⟩)⟩ ?_
    refine gd_pure 2 [33, 35] (K' := [(33, .slice A33 zs31.length n34), (35, .pointer (some ⟨g0, 0, none⟩))]) (s' := []) (CC.refl (List.forall_mem_cons.2 ⟨(List.mem_append_right _ List.mem_cons_self), (List.forall_mem_cons.2 ⟨(List.mem_append_right _ (List.mem_cons_of_mem _ List.mem_cons_self)), (List.forall_mem_cons.2 ⟨(List.mem_append_right _ (List.mem_cons_of_mem _ (List.mem_cons_of_mem _ List.mem_cons_self))), (fun p hp => by cases hp)⟩)⟩)⟩)) (by kernel_rfl) ?_
    refine gd_done ?_
    refine gl_storeB (T' := 65) (xp := (.tmp 35)) (xv := (.tmp 33)) (v := .slice A33 zs31.length n34) (g := g0) (off := 0) (cs := #[.slice A0_0 a0.f0.length c0_0]) (cs' := #[.slice A33 zs31.length n34]) (by kernel_rfl) (by kernel_rfl) (by kernel_rfl) (by kernel_rfl) (by kernel_rfl) (Upd.app _ (Upd.set _ _ _ _)) ?_ (by kernel_rfl)
    refine gl_reord (D := (g0, .cells #[.slice A33 zs31.length n34] T0) :: (C35 ++ L)) (Reord.step1 (Upd.app _ (Upd.rm1 _ _)) (Reord.step (Upd.rmC _ _) (Reord.skip (Reord.skip (Reord.refl _))))) ?_
    refine gl_atE (by kernel_rfl) ?_
    obtain rfl := some_inj hr
    exact ge_result trivial ResOk.nil (Imm.trans hI7 hI39) ⟨A33, n34, C35, hO36, rfl, rfl⟩
/-! 36 nflog_Log_Put ('obj', 'imm') -/
noncomputable def nflog_Log_Put (a0 : S68) (a1 : S23) : Option (Int × S68) :=
  Option.bind (nflog_Right a1) fun (y2 : Int) =>
  bif (y2 != 0) then
  (some (y2, a0))
  else
  (Option.bind (nflog_Log_Find a0 a1.f0 a1.f1) fun (y5 : S23 × Bool) =>
    bif (y5.2 && (decide (y5.1.f2 > a1.f2))) then
    (some (90, a0))
    else
    (Option.bind (bif (!y5.2) then
        (some (decide ((nflog_Log_Len a0) ≥ 500)))
        else
        (some false)) fun (j24 : Bool) =>
      bif j24 then
      (some (8, a0))
      else
      (Option.bind (nflog_own a1) fun (y34 : S23) =>
        Option.bind (nflog_list_put a0.f0 (⟨a1.f0, a1.f1⟩ : S74) y34) fun (y45 : S66) =>
        some (0, (⟨(⟨y45.f0⟩ : S66)⟩ : S68)))))
theorem nflog_Log_Put_walk {a0 : S68} {g0 : Nat} {T0 : TypeId} {A0_0 : Option Addr} {c0_0 : Nat} {C0_0 : Own} {a1 : S23} {A1_3 : Option Addr} {n1_3 : Nat} {A1_4 : Option Addr} {n1_4 : Nat} {I : Imm} {r : Int × S68} (hG : Gl I)  (hO0_0 : OwnS kS96 97 I A0_0 c0_0 a0.f0.f0 C0_0)  (hf1_3 : RepS (Kd.sl kS50) I A1_3 n1_3 a1.f3) (hf1_4 : RepS (Kd.sl kS50) I A1_4 n1_4 a1.f4) (hr : nflog_Log_Put a0 a1 = some r) (L : Own) :
    CallsTo Tryd.prog 36 #[.pointer (some ⟨g0, 0, none⟩), .agg #[.string a1.f0, .string a1.f1, .int .i64 a1.f2, .slice A1_3 a1.f3.length n1_3, .slice A1_4 a1.f4.length n1_4]] I ((g0, .cells #[.slice A0_0 a0.f0.f0.length c0_0] T0) :: (C0_0 ++ L)) (fun v I' L' => ∃ A1_0 c1_0 C1_0, OwnS kS96 97 I' A1_0 c1_0 r.2.f0.f0 C1_0 ∧ v = .int .i64 r.1 ∧ (g0, .cells #[.slice A1_0 r.2.f0.f0.length c1_0] T0) :: (C1_0 ++ L) = L') := by
  unfold nflog_Log_Put at hr
  refine callsTo_body (N := 52) Tryd.func36 (by kernel_rfl) (by kernel_rfl) (by kernel_rfl) ?_
  refine gk_pick [0, 1] (K' := [(0, .pointer (some ⟨g0, 0, none⟩)), (1, .agg #[.string a1.f0, .string a1.f1, .int .i64 a1.f2, .slice A1_3 a1.f3.length n1_3, .slice A1_4 a1.f4.length n1_4])]) (by kernel_rfl) ?_
  refine gk_seq (by kernel_rfl) ?_
  refine gk_region (by kernel_rfl) ?_
  refine gl_box (T' := 24) (x := (.tmp 1)) (v := .agg #[.string a1.f0, .string a1.f1, .int .i64 a1.f2, .slice A1_3 a1.f3.length n1_3, .slice A1_4 a1.f4.length n1_4]) (cs := #[.string a1.f0, .string a1.f1, .int .i64 a1.f2, .slice A1_3 a1.f3.length n1_3, .slice A1_4 a1.f4.length n1_4]) (by kernel_rfl) (by kernel_rfl) (by kernel_rfl) (by kernel_rfl) (fun g1 => ?_)
  refine gl_pure 1 [0, 3] (K' := [(0, .pointer (some ⟨g0, 0, none⟩)), (3, .pointer (some ⟨g1, 0, none⟩))]) (by kernel_rfl) ?_
  refine gl_atE (by kernel_rfl) ?_
  refine ge_seq ?_
  refine gk_seq (by kernel_rfl) ?_
  refine gk_seq (by kernel_rfl) ?_
  refine gk_region (by kernel_rfl) ?_
  refine gl_pure 2 [0, 3, 9] (K' := [(0, .pointer (some ⟨g0, 0, none⟩)), (3, .pointer (some ⟨g1, 0, none⟩)), (9, .bool false)]) (by kernel_rfl) ?_
  refine gl_atE (by kernel_rfl) ?_
  refine ge_seq ?_
  refine gk_cond (b := false) (by kernel_rfl) (by kernel_rfl) (fun h => by cases h) (fun _ => ?_)
  refine gk_skip (by kernel_rfl) ?_
  refine ge_seq ?_
  refine gk_seq (by kernel_rfl) ?_
  refine gk_seq (by kernel_rfl) ?_
  refine gk_region (by kernel_rfl) ?_
  refine gl_loadB (T' := 24) (xp := (.tmp 3)) (v := .agg #[.string a1.f0, .string a1.f1, .int .i64 a1.f2, .slice A1_3 a1.f3.length n1_3, .slice A1_4 a1.f4.length n1_4]) (g := g1) (off := 0) (cs := #[.string a1.f0, .string a1.f1, .int .i64 a1.f2, .slice A1_3 a1.f3.length n1_3, .slice A1_4 a1.f4.length n1_4]) (e := 24) (fz := (0, 0)) (by kernel_rfl) (by kernel_rfl) (by kernel_rfl) List.mem_cons_self (by kernel_rfl) ?_
  obtain ⟨y2, hx3, hr⟩ := bind_some hr
  refine gl_callQ (by kernel_rfl) (nflog_Right_walk (r := y2) hG hf1_3 hf1_4 hx3 _) ?_
  refine gl_pure 1 [0, 3, 5] (K' := [(0, .pointer (some ⟨g0, 0, none⟩)), (3, .pointer (some ⟨g1, 0, none⟩)), (5, .int .i64 y2)]) (by kernel_rfl) ?_
  refine gl_atE (by kernel_rfl) ?_
  refine ge_seq ?_
  refine gk_seq (by kernel_rfl) ?_
  refine gk_region (by kernel_rfl) ?_
  refine gl_pure 2 [0, 3, 5, 13] (K' := [(0, .pointer (some ⟨g0, 0, none⟩)), (3, .pointer (some ⟨g1, 0, none⟩)), (5, .int .i64 y2), (13, .bool (y2 != 0))]) (by kernel_rfl) ?_
  refine gl_atE (by kernel_rfl) ?_
  refine ge_seq ?_
  refine gk_cond (b := (y2 != 0)) (by kernel_rfl) (by kernel_rfl) (fun hc4 => ?_) (fun hc4 => ?_)
  · have hr := cond_t hc4 hr
    refine gk_seq (by kernel_rfl) ?_
    refine gk_region (by kernel_rfl) ?_
    refine gl_pure 2 [4] (K' := [(4, .int .i64 y2)]) (by kernel_rfl) ?_
    refine gl_atE (by kernel_rfl) ?_
    refine ge_seq ?_
    refine gk_reord (D := (g0, .cells #[.slice A0_0 a0.f0.f0.length c0_0] T0) :: (C0_0 ++ L)) (Reord.step1 (Upd.one _ (Upd.rm1 _ _)) (Reord.step (Upd.one _ (Upd.rmC _ _)) (Reord.skip (Reord.refl _)))) ?_
    refine gk_ret (by kernel_rfl) ?_
    refine ge_seq_ret ?_
    obtain rfl := some_inj hr
    exact ge_result trivial (ResOk.tmp (by kernel_rfl) ResOk.nil) (Imm.refl _) ⟨A0_0, c0_0, C0_0, hO0_0, rfl, rfl⟩
  · have hr := cond_f hc4 hr
    refine gk_skip (by kernel_rfl) ?_
    refine ge_seq ?_
    refine gk_seq (by kernel_rfl) ?_
    refine gk_region (by kernel_rfl) ?_
    refine gl_pure 2 [0, 3, 16, 17] (K' := [(0, .pointer (some ⟨g0, 0, none⟩)), (3, .pointer (some ⟨g1, 0, none⟩)), (16, .pointer (some ⟨g0, 0, none⟩)), (17, .pointer (some ⟨g1, 0, none⟩))]) (by kernel_rfl) ?_
    refine gl_loadB (T' := 9) (xp := (.tmp 17)) (v := .string a1.f0) (g := g1) (off := 0) (cs := #[.string a1.f0, .string a1.f1, .int .i64 a1.f2, .slice A1_3 a1.f3.length n1_3, .slice A1_4 a1.f4.length n1_4]) (e := 24) (fz := (0, 0)) (by kernel_rfl) (by kernel_rfl) (by kernel_rfl) List.mem_cons_self (by kernel_rfl) ?_
    refine gl_pure 1 [0, 3, 16, 18, 19] (K' := [(0, .pointer (some ⟨g0, 0, none⟩)), (3, .pointer (some ⟨g1, 0, none⟩)), (16, .pointer (some ⟨g0, 0, none⟩)), (18, .string a1.f0), (19, .pointer (some ⟨g1, 1, none⟩))]) (by kernel_rfl) ?_
    refine gl_loadB (T' := 9) (xp := (.tmp 19)) (v := .string a1.f1) (g := g1) (off := 1) (cs := #[.string a1.f0, .string a1.f1, .int .i64 a1.f2, .slice A1_3 a1.f3.length n1_3, .slice A1_4 a1.f4.length n1_4]) (e := 24) (fz := (0, 0)) (by kernel_rfl) (by kernel_rfl) (by kernel_rfl) List.mem_cons_self (by kernel_rfl) ?_
    obtain ⟨y5, hx6, hr⟩ := bind_some hr
    refine gl_reord (D := (g0, .cells #[.slice A0_0 a0.f0.f0.length c0_0] T0) :: (C0_0 ++ ((g1, .cells #[.string a1.f0, .string a1.f1, .int .i64 a1.f2, .slice A1_3 a1.f3.length n1_3, .slice A1_4 a1.f4.length n1_4] 24) :: L))) (Reord.step1 (Upd.one _ (Upd.rm1 _ _)) (Reord.step (Upd.one _ (Upd.rmC _ _)) (Reord.step1 (Upd.rm1 _ _) (Reord.refl _)))) ?_
    refine gl_call (by kernel_rfl) (nflog_Log_Find_walk (r := y5) (g0 := g0) (T0 := T0) (A0_0 := A0_0) (c0_0 := c0_0) (C0_0 := C0_0) (a0 := a0) hO0_0 hx6 _) ?_
    rintro v I7 L8 hI9 ⟨A10, c11, A12, c13, hf14, hf15, rfl, rfl⟩
    refine gl_pure 3 [0, 3, 22, 23] (K' := [(0, .pointer (some ⟨g0, 0, none⟩)), (3, .pointer (some ⟨g1, 0, none⟩)), (22, .agg #[.string y5.1.f0, .string y5.1.f1, .int .i64 y5.1.f2, .slice A10 y5.1.f3.length c11, .slice A12 y5.1.f4.length c13]), (23, .bool y5.2)]) (by kernel_rfl) ?_
    refine gl_alloc (T' := 24) (cs := #[.string (⟨#[]⟩ : ByteArray), .string (⟨#[]⟩ : ByteArray), .int .i64 0, .slice none 0 0, .slice none 0 0]) (by kernel_rfl) (by kernel_rfl) (by kernel_rfl) (fun g16 => ?_)
    refine gl_storeB (T' := 24) (xp := (.tmp 6)) (xv := (.tmp 22)) (v := .agg #[.string y5.1.f0, .string y5.1.f1, .int .i64 y5.1.f2, .slice A10 y5.1.f3.length c11, .slice A12 y5.1.f4.length c13]) (g := g16) (off := 0) (cs := #[.string (⟨#[]⟩ : ByteArray), .string (⟨#[]⟩ : ByteArray), .int .i64 0, .slice none 0 0, .slice none 0 0]) (cs' := #[.string y5.1.f0, .string y5.1.f1, .int .i64 y5.1.f2, .slice A10 y5.1.f3.length c11, .slice A12 y5.1.f4.length c13]) (by kernel_rfl) (by kernel_rfl) (by kernel_rfl) (by kernel_rfl) (by kernel_rfl) (Upd.set _ _ _ _) ?_ (by kernel_rfl)
    refine gl_pure 1 [0, 3, 6, 7] (K' := [(0, .pointer (some ⟨g0, 0, none⟩)), (3, .pointer (some ⟨g1, 0, none⟩)), (6, .pointer (some ⟨g16, 0, none⟩)), (7, .bool y5.2)]) (by kernel_rfl) ?_
    refine gl_atE (by kernel_rfl) ?_
    refine ge_seq ?_
    refine gk_seq (by kernel_rfl) ?_
    refine gk_block (by kernel_rfl) ?_
    refine gk_seq (by kernel_rfl) ?_
    obtain ⟨b19, hb20⟩ : ∃ z, z = (y5.2 && (decide (y5.1.f2 > a1.f2))) := ⟨_, rfl⟩
    refine gk_join (fun t I' L' => I7 ≤ I' ∧ (g16, .cells #[.string y5.1.f0, .string y5.1.f1, .int .i64 y5.1.f2, .slice A10 y5.1.f3.length c11, .slice A12 y5.1.f4.length c13] 24) :: ((g0, .cells #[.slice A0_0 a0.f0.f0.length c0_0] T0) :: (C0_0 ++ ((g1, .cells #[.string a1.f0, .string a1.f1, .int .i64 a1.f2, .slice A1_3 a1.f3.length n1_3, .slice A1_4 a1.f4.length n1_4] 24) :: L))) = L' ∧ Knows 52 [(0, .pointer (some ⟨g0, 0, none⟩)), (3, .pointer (some ⟨g1, 0, none⟩)), (7, .bool y5.2), (24, .bool b19)] t) ?_ ?_
    · refine gk_region (by kernel_rfl) ?_
      refine gl_pure 2 [0, 3, 6, 7, 26] (K' := [(0, .pointer (some ⟨g0, 0, none⟩)), (3, .pointer (some ⟨g1, 0, none⟩)), (6, .pointer (some ⟨g16, 0, none⟩)), (7, .bool y5.2), (26, .bool y5.2)]) (by kernel_rfl) ?_
      refine gl_case 26 (b := y5.2) (by kernel_rfl) (fun hc22 => ?_) (fun hc22 => ?_)
      · refine gl_pure 1 [0, 3, 7, 26, 27] (K' := [(0, .pointer (some ⟨g0, 0, none⟩)), (3, .pointer (some ⟨g1, 0, none⟩)), (7, .bool y5.2), (26, .bool true), (27, .pointer (some ⟨g16, 2, none⟩))]) (by kernel_rfl) ?_
        refine gl_loadB (T' := 2) (xp := (.tmp 27)) (v := .int .i64 y5.1.f2) (g := g16) (off := 2) (cs := #[.string y5.1.f0, .string y5.1.f1, .int .i64 y5.1.f2, .slice A10 y5.1.f3.length c11, .slice A12 y5.1.f4.length c13]) (e := 24) (fz := (0, 0)) (by kernel_rfl) (by kernel_rfl) (by kernel_rfl) List.mem_cons_self (by kernel_rfl) ?_
        refine gl_pure 1 [0, 3, 7, 26, 28, 29] (K' := [(0, .pointer (some ⟨g0, 0, none⟩)), (3, .pointer (some ⟨g1, 0, none⟩)), (7, .bool y5.2), (26, .bool true), (28, .int .i64 y5.1.f2), (29, .pointer (some ⟨g1, 2, none⟩))]) (by kernel_rfl) ?_
        refine gl_loadB (T' := 2) (xp := (.tmp 29)) (v := .int .i64 a1.f2) (g := g1) (off := 2) (cs := #[.string a1.f0, .string a1.f1, .int .i64 a1.f2, .slice A1_3 a1.f3.length n1_3, .slice A1_4 a1.f4.length n1_4]) (e := 24) (fz := (0, 0)) (by kernel_rfl) (by kernel_rfl) (by kernel_rfl) (List.mem_cons_of_mem _ (List.mem_cons_of_mem _ (List.mem_append_right _ List.mem_cons_self))) (by kernel_rfl) ?_
        refine gl_pure 3 [0, 3, 7, 24] (K' := [(0, .pointer (some ⟨g0, 0, none⟩)), (3, .pointer (some ⟨g1, 0, none⟩)), (7, .bool y5.2), (24, .bool (decide (y5.1.f2 > a1.f2)))]) (by kernel_rfl) ?_
        refine gl_atE (by kernel_rfl) ?_
        exact ge_mid fun t ht => ⟨(Imm.refl _), rfl, by rw [(show b19 = (decide (y5.1.f2 > a1.f2)) from hb20.trans (by first | (rw [hc22]; done) | (rw [hc22]; rfl) | (simp [hc22]; done) | (simp only [hc22]; rfl) | (simp at *; omega)))]; exact ht.pick (l := [0, 3, 7, 24]) (by kernel_rfl)⟩
      · refine gl_pure 7 [0, 3, 7, 24] (K' := [(0, .pointer (some ⟨g0, 0, none⟩)), (3, .pointer (some ⟨g1, 0, none⟩)), (7, .bool y5.2), (24, .bool false)]) (by kernel_rfl) ?_
        refine gl_atE (by kernel_rfl) ?_
        exact ge_mid fun t ht => ⟨(Imm.refl _), rfl, by rw [(show b19 = false from hb20.trans (by first | (rw [hc22]; done) | (rw [hc22]; rfl) | (simp [hc22]; done) | (simp only [hc22]; rfl) | (simp at *; omega)))]; exact ht.pick (l := [0, 3, 7, 24]) (by kernel_rfl)⟩
    · rintro t I21 L' ⟨hI17, rfl, hK18⟩
      subst hb20
      refine ge_at hK18 ?_
      refine ge_seq ?_
      refine gk_cond (b := (y5.2 && (decide (y5.1.f2 > a1.f2)))) (by kernel_rfl) (by kernel_rfl) (fun hc23 => ?_) (fun hc23 => ?_)
      · have hr := cond_t hc23 hr
        refine gk_seq (by kernel_rfl) ?_
        refine gk_region (by kernel_rfl) ?_
        refine gl_pure 1 [4] (K' := [(4, .int .i64 90)]) (by kernel_rfl) ?_
        refine gl_atE (by kernel_rfl) ?_
        refine ge_seq ?_
        refine gk_reord (D := (g0, .cells #[.slice A0_0 a0.f0.f0.length c0_0] T0) :: (C0_0 ++ L)) (Reord.step1 (Upd.one _ (Upd.rm1 _ _)) (Reord.step (Upd.one _ (Upd.rmC _ _)) (Reord.skip (Reord.skip (Reord.refl _))))) ?_
        refine gk_ret (by kernel_rfl) ?_
        refine ge_block_ret ?_
        refine ge_seq_ret ?_
        obtain rfl := some_inj hr
        exact ge_result trivial (ResOk.tmp (by kernel_rfl) ResOk.nil) (Imm.trans hI9 hI17) ⟨A0_0, c0_0, C0_0, (hO0_0.mono (Imm.trans hI9 hI17)), rfl, rfl⟩
      · have hr := cond_f hc23 hr
        refine gk_seq (by kernel_rfl) ?_
        obtain ⟨j24, hj25, hr⟩ := bind_some hr
        refine gk_join (fun t I' L' => I21 ≤ I' ∧ (g0, .cells #[.slice A0_0 a0.f0.f0.length c0_0] T0) :: (C0_0 ++ ((g1, .cells #[.string a1.f0, .string a1.f1, .int .i64 a1.f2, .slice A1_3 a1.f3.length n1_3, .slice A1_4 a1.f4.length n1_4] 24) :: L)) = L' ∧ Knows 52 [(0, .pointer (some ⟨g0, 0, none⟩)), (3, .pointer (some ⟨g1, 0, none⟩)), (33, .bool j24)] t) ?_ ?_
        · refine gk_region (by kernel_rfl) ?_
          refine gl_pure 3 [0, 3, 36] (K' := [(0, .pointer (some ⟨g0, 0, none⟩)), (3, .pointer (some ⟨g1, 0, none⟩)), (36, .bool (!y5.2))]) (by kernel_rfl) ?_
          refine gl_case 36 (b := (!y5.2)) (by kernel_rfl) (fun hc29 => ?_) (fun hc29 => ?_)
          · have hj25 := cond_t hc29 hj25
            refine gl_pure 1 [0, 3, 36, 37] (K' := [(0, .pointer (some ⟨g0, 0, none⟩)), (3, .pointer (some ⟨g1, 0, none⟩)), (36, .bool true), (37, .pointer (some ⟨g0, 0, none⟩))]) (by kernel_rfl) ?_
            refine gl_reord (D := (g0, .cells #[.slice A0_0 a0.f0.f0.length c0_0] T0) :: (C0_0 ++ ((g16, .cells #[.string y5.1.f0, .string y5.1.f1, .int .i64 y5.1.f2, .slice A10 y5.1.f3.length c11, .slice A12 y5.1.f4.length c13] 24) :: ((g1, .cells #[.string a1.f0, .string a1.f1, .int .i64 a1.f2, .slice A1_3 a1.f3.length n1_3, .slice A1_4 a1.f4.length n1_4] 24) :: L)))) (Reord.step1 (Upd.one _ (Upd.rm1 _ _)) (Reord.step (Upd.one _ (Upd.rmC _ _)) (Reord.step1 (Upd.rm1 _ _) (Reord.step1 (Upd.rm1 _ _) (Reord.refl _))))) ?_
            refine gl_call (by kernel_rfl) (nflog_Log_Len_walk (r := (nflog_Log_Len a0)) (g0 := g0) (T0 := T0) (A0_0 := A0_0) (c0_0 := c0_0) (C0_0 := C0_0) (a0 := a0) (hO0_0.mono (Imm.trans hI9 hI17)) rfl _) ?_
            rintro v I30 L31 hI32 ⟨rfl, rfl⟩
            refine gl_pure 3 [0, 3, 33] (K' := [(0, .pointer (some ⟨g0, 0, none⟩)), (3, .pointer (some ⟨g1, 0, none⟩)), (33, .bool (decide ((nflog_Log_Len a0) ≥ 500)))]) (by kernel_rfl) ?_
            refine gl_reord (D := (g0, .cells #[.slice A0_0 a0.f0.f0.length c0_0] T0) :: (C0_0 ++ ((g1, .cells #[.string a1.f0, .string a1.f1, .int .i64 a1.f2, .slice A1_3 a1.f3.length n1_3, .slice A1_4 a1.f4.length n1_4] 24) :: L))) (Reord.step1 (Upd.rm1 _ _) (Reord.step (Upd.rmC _ _) (Reord.step1 (Upd.one _ (Upd.rm1 _ _)) (Reord.skip (Reord.refl _))))) ?_
            refine gl_atE (by kernel_rfl) ?_
            obtain rfl := some_inj hj25
            exact ge_mid fun t ht => ⟨hI32, rfl, ht.pick (l := [0, 3, 33]) (by kernel_rfl)⟩
          · have hj25 := cond_f hc29 hj25
            refine gl_pure 5 [0, 3, 33] (K' := [(0, .pointer (some ⟨g0, 0, none⟩)), (3, .pointer (some ⟨g1, 0, none⟩)), (33, .bool false)]) (by kernel_rfl) ?_
            refine gl_reord (D := (g0, .cells #[.slice A0_0 a0.f0.f0.length c0_0] T0) :: (C0_0 ++ ((g1, .cells #[.string a1.f0, .string a1.f1, .int .i64 a1.f2, .slice A1_3 a1.f3.length n1_3, .slice A1_4 a1.f4.length n1_4] 24) :: L))) (Reord.step1 (Upd.one _ (Upd.rm1 _ _)) (Reord.step (Upd.one _ (Upd.rmC _ _)) (Reord.step1 (Upd.one _ (Upd.rm1 _ _)) (Reord.skip (Reord.refl _))))) ?_
            refine gl_atE (by kernel_rfl) ?_
            obtain rfl := some_inj hj25
            exact ge_mid fun t ht => ⟨(Imm.refl _), rfl, ht.pick (l := [0, 3, 33]) (by kernel_rfl)⟩
        · rintro t I28 L' ⟨hI26, rfl, hK27⟩
          refine ge_at hK27 ?_
          refine ge_seq ?_
          refine gk_cond (b := j24) (by kernel_rfl) (by kernel_rfl) (fun hc33 => ?_) (fun hc33 => ?_)
          · have hr := cond_t hc33 hr
            refine gk_seq (by kernel_rfl) ?_
            refine gk_region (by kernel_rfl) ?_
            refine gl_pure 1 [4] (K' := [(4, .int .i64 8)]) (by kernel_rfl) ?_
            refine gl_atE (by kernel_rfl) ?_
            refine ge_seq ?_
            refine gk_reord (D := (g0, .cells #[.slice A0_0 a0.f0.f0.length c0_0] T0) :: (C0_0 ++ L)) (Reord.step1 (Upd.rm1 _ _) (Reord.step (Upd.rmC _ _) (Reord.skip (Reord.refl _)))) ?_
            refine gk_ret (by kernel_rfl) ?_
            refine ge_block_ret ?_
            refine ge_seq_ret ?_
            obtain rfl := some_inj hr
            exact ge_result trivial (ResOk.tmp (by kernel_rfl) ResOk.nil) (Imm.trans (Imm.trans hI9 hI17) hI26) ⟨A0_0, c0_0, C0_0, (hO0_0.mono (Imm.trans (Imm.trans hI9 hI17) hI26)), rfl, rfl⟩
          · have hr := cond_f hc33 hr
            refine gk_skip (by kernel_rfl) ?_
            refine ge_block_normal ?_
            refine ge_seq ?_
            refine gk_seq (by kernel_rfl) ?_
            refine gk_draw 10 [(0, true), (1, true), (2, true), (3, true), (4, true), (5, true), (6, true), (7, true), (8, true), (9, false)] [(g0, .cells #[.slice A0_0 a0.f0.f0.length c0_0] T0), (g1, .cells #[.string a1.f0, .string a1.f1, .int .i64 a1.f2, .slice A1_3 a1.f3.length n1_3, .slice A1_4 a1.f4.length n1_4] 24)] (List.forall_mem_cons.2 ⟨List.mem_cons_self, (List.forall_mem_cons.2 ⟨(List.mem_cons_of_mem _ (List.mem_append_right _ List.mem_cons_self)), (fun p hp => by cases hp)⟩)⟩) (by kernel_rfl) (by kernel_rfl) (by kernel_rfl) ?_ (by kernel_rfl)
            refine gd_pure 4 [3, 43, 44] (K' := [(3, .pointer (some ⟨g1, 0, none⟩)), (43, .pointer (some ⟨g0, 0, none⟩)), (44, .pointer (some ⟨g1, 0, none⟩))]) (s' := [(4, true), (5, true), (6, true), (7, true), (8, true), (9, false)]) (CC.refl (List.forall_mem_cons.2 ⟨List.mem_cons_self, (List.forall_mem_cons.2 ⟨(List.mem_cons_of_mem _ (List.mem_append_right _ List.mem_cons_self)), (fun p hp => by cases hp)⟩)⟩)) (by kernel_rfl) ?_
            refine gd_q (v := .string a1.f0) (by kernel_rfl) (by kernel_rfl) (CC.refl (List.forall_mem_cons.2 ⟨List.mem_cons_self, (List.forall_mem_cons.2 ⟨(List.mem_cons_of_mem _ (List.mem_append_right _ List.mem_cons_self)), (fun p hp => by cases hp)⟩)⟩)) (fun I' L' T hC kk => gl_loadB (T' := 9) (xp := (.tmp 44)) (v := .string a1.f0) (g := g1) (off := 0) (cs := #[.string a1.f0, .string a1.f1, .int .i64 a1.f2, .slice A1_3 a1.f3.length n1_3, .slice A1_4 a1.f4.length n1_4]) (e := 24) (fz := (0, 0)) (by kernel_rfl) (by kernel_rfl) (by kernel_rfl) (hC.sub _ (List.mem_cons_of_mem _ List.mem_cons_self)) (by kernel_rfl) kk) ?_
            refine gd_pure 1 [3, 43, 45, 46] (K' := [(3, .pointer (some ⟨g1, 0, none⟩)), (43, .pointer (some ⟨g0, 0, none⟩)), (45, .string a1.f0), (46, .pointer (some ⟨g1, 1, none⟩))]) (s' := [(6, true), (7, true), (8, true), (9, false)]) (CC.refl (List.forall_mem_cons.2 ⟨List.mem_cons_self, (List.forall_mem_cons.2 ⟨(List.mem_cons_of_mem _ (List.mem_append_right _ List.mem_cons_self)), (fun p hp => by cases hp)⟩)⟩)) (by kernel_rfl) ?_
            refine gd_q (v := .string a1.f1) (by kernel_rfl) (by kernel_rfl) (CC.refl (List.forall_mem_cons.2 ⟨List.mem_cons_self, (List.forall_mem_cons.2 ⟨(List.mem_cons_of_mem _ (List.mem_append_right _ List.mem_cons_self)), (fun p hp => by cases hp)⟩)⟩)) (fun I' L' T hC kk => gl_loadB (T' := 9) (xp := (.tmp 46)) (v := .string a1.f1) (g := g1) (off := 1) (cs := #[.string a1.f0, .string a1.f1, .int .i64 a1.f2, .slice A1_3 a1.f3.length n1_3, .slice A1_4 a1.f4.length n1_4]) (e := 24) (fz := (0, 0)) (by kernel_rfl) (by kernel_rfl) (by kernel_rfl) (hC.sub _ (List.mem_cons_of_mem _ List.mem_cons_self)) (by kernel_rfl) kk) ?_
            refine gd_pure 1 [3, 43, 48] (K' := [(3, .pointer (some ⟨g1, 0, none⟩)), (43, .pointer (some ⟨g0, 0, none⟩)), (48, .agg #[.string a1.f0, .string a1.f1])]) (s' := [(8, true), (9, false)]) (CC.refl (List.forall_mem_cons.2 ⟨List.mem_cons_self, (List.forall_mem_cons.2 ⟨(List.mem_cons_of_mem _ (List.mem_append_right _ List.mem_cons_self)), (fun p hp => by cases hp)⟩)⟩)) (by kernel_rfl) ?_
            refine gd_q (v := .agg #[.string a1.f0, .string a1.f1, .int .i64 a1.f2, .slice A1_3 a1.f3.length n1_3, .slice A1_4 a1.f4.length n1_4]) (by kernel_rfl) (by kernel_rfl) (CC.refl (List.forall_mem_cons.2 ⟨List.mem_cons_self, (List.forall_mem_cons.2 ⟨(List.mem_cons_of_mem _ (List.mem_append_right _ List.mem_cons_self)), (fun p hp => by cases hp)⟩)⟩)) (fun I' L' T hC kk => gl_loadB (T' := 24) (xp := (.tmp 3)) (v := .agg #[.string a1.f0, .string a1.f1, .int .i64 a1.f2, .slice A1_3 a1.f3.length n1_3, .slice A1_4 a1.f4.length n1_4]) (g := g1) (off := 0) (cs := #[.string a1.f0, .string a1.f1, .int .i64 a1.f2, .slice A1_3 a1.f3.length n1_3, .slice A1_4 a1.f4.length n1_4]) (e := 24) (fz := (0, 0)) (by kernel_rfl) (by kernel_rfl) (by kernel_rfl) (hC.sub _ (List.mem_cons_of_mem _ List.mem_cons_self)) (by kernel_rfl) kk) ?_
            refine gd_one (by kernel_rfl) ?_
            obtain ⟨y34, hx35, hr⟩ := bind_some hr
            refine gl_call (by kernel_rfl) (nflog_own_walk (r := y34) (hf1_3.mono (Imm.trans (Imm.trans hI9 hI17) hI26)) (hf1_4.mono (Imm.trans (Imm.trans hI9 hI17) hI26)) hx35 _) ?_
            rintro v I36 L37 hI38 ⟨A39, c40, A41, c42, hf43, hf44, rfl, rfl⟩
            refine gl_toD (by kernel_rfl) ⟨hI38, (List.forall_mem_cons.2 ⟨List.mem_cons_self, (List.forall_mem_cons.2 ⟨(List.mem_cons_of_mem _ (List.mem_append_right _ List.mem_cons_self)), (fun p hp => by cases hp)⟩)⟩)⟩ ?_
            refine gd_done ?_
            obtain ⟨y45, hx46, hr⟩ := bind_some hr
            refine gl_call (by kernel_rfl) (nflog_list_put_walk (r := y45) (g0 := g0) (T0 := T0) (A0_0 := A0_0) (c0_0 := c0_0) (C0_0 := C0_0) (a0 := a0.f0) (hO0_0.mono (Imm.trans (Imm.trans (Imm.trans hI9 hI17) hI26) hI38)) hf43 hf44 hx46 _) ?_
            rintro v I47 L48 hI49 ⟨A50, c51, C52, hO53, rfl, rfl⟩
            refine gl_atE (by kernel_rfl) ?_
            refine ge_seq ?_
            refine gk_seq (by kernel_rfl) ?_
            refine gk_region (by kernel_rfl) ?_
            refine gl_pure 1 [4] (K' := [(4, .int .i64 0)]) (by kernel_rfl) ?_
            refine gl_atE (by kernel_rfl) ?_
            refine ge_seq ?_
            refine gk_reord (D := (g0, .cells #[.slice A50 y45.f0.length c51] T0) :: (C52 ++ L)) (Reord.step1 (Upd.rm1 _ _) (Reord.step (Upd.rmC _ _) (Reord.skip (Reord.refl _)))) ?_
            refine gk_ret (by kernel_rfl) ?_
            obtain rfl := some_inj hr
            exact ge_result trivial (ResOk.tmp (by kernel_rfl) ResOk.nil) (Imm.trans (Imm.trans (Imm.trans (Imm.trans hI9 hI17) hI26) hI38) hI49) ⟨A50, c51, C52, hO53, rfl, rfl⟩
/-! 17 tocsinlaw26_awake  -/
noncomputable def tocsinlaw26_awake : Option Bool :=
  Option.bind (nflog_Log_Needs (⟨(⟨nflog_New.f0.f0⟩ : S66)⟩ : S68) (⟨#[116, 101, 97, 109]⟩ : ByteArray) (⟨#[107]⟩ : ByteArray) 100 50 [[(⟨(⟨#[97]⟩ : ByteArray), (⟨#[49]⟩ : ByteArray)⟩ : S50)]] []) fun (y25 : Bool × Int) =>
  Option.bind (nflog_Log_Put (⟨(⟨nflog_New.f0.f0⟩ : S66)⟩ : S68) (⟨(⟨#[116, 101, 97, 109]⟩ : ByteArray), (⟨#[107]⟩ : ByteArray), 100, [[(⟨(⟨#[97]⟩ : ByteArray), (⟨#[49]⟩ : ByteArray)⟩ : S50)]], []⟩ : S23)) fun (y30 : Int × S68) =>
  Option.bind (nflog_Log_Needs y30.2 (⟨#[116, 101, 97, 109]⟩ : ByteArray) (⟨#[107]⟩ : ByteArray) 120 50 [[(⟨(⟨#[97]⟩ : ByteArray), (⟨#[49]⟩ : ByteArray)⟩ : S50)]] []) fun (y39 : Bool × Int) =>
  Option.bind (nflog_Log_Needs y30.2 (⟨#[116, 101, 97, 109]⟩ : ByteArray) (⟨#[107]⟩ : ByteArray) 150 50 [[(⟨(⟨#[97]⟩ : ByteArray), (⟨#[49]⟩ : ByteArray)⟩ : S50)]] []) fun (y44 : Bool × Int) =>
  some ((((((y25.1 && (y25.2 == 0)) && (y30.1 == 0)) && (!y39.1)) && (y39.2 == 0)) && y44.1) && (y44.2 == 0))
theorem tocsinlaw26_awake_walk  {I : Imm} {r : Bool} (hG : Gl I) (hr : tocsinlaw26_awake = some r) (L : Own) :
    CallsTo Tryd.prog 17 #[] I L (fun v I' L' => v = .bool r ∧ L = L') := by
  unfold tocsinlaw26_awake at hr
  refine callsTo_body (N := 62) Tryd.func17 (by kernel_rfl) (by kernel_rfl) (by kernel_rfl) ?_
  refine gk_pick [] (K' := []) (by kernel_rfl) ?_
  refine gk_seq (by kernel_rfl) ?_
  refine gk_region (by kernel_rfl) ?_
  refine gl_pure 1 [] (K' := []) (by kernel_rfl) ?_
  refine gl_atE (by kernel_rfl) ?_
  refine ge_seq ?_
  refine gk_seq (by kernel_rfl) ?_
  refine gk_region (by kernel_rfl) ?_
  refine gl_call (by kernel_rfl) (nflog_New_walk (r := nflog_New)  rfl _) ?_
  rintro v I1 L2 hI3 ⟨g4, A5, c6, C7, hO8, rfl, rfl⟩
  refine gl_pure 1 [1] (K' := [(1, .pointer (some ⟨g4, 0, none⟩))]) (by kernel_rfl) ?_
  refine gl_atE (by kernel_rfl) ?_
  refine ge_seq ?_
  refine gk_seq (by kernel_rfl) ?_
  refine gk_seq (by kernel_rfl) ?_
  refine gk_region (by kernel_rfl) ?_
  refine gl_pure 2 [1, 12] (K' := [(1, .pointer (some ⟨g4, 0, none⟩)), (12, .bool false)]) (by kernel_rfl) ?_
  refine gl_atE (by kernel_rfl) ?_
  refine ge_seq ?_
  refine gk_cond (b := false) (by kernel_rfl) (by kernel_rfl) (fun h => by cases h) (fun _ => ?_)
  refine gk_skip (by kernel_rfl) ?_
  refine ge_seq ?_
  refine gk_seq (by kernel_rfl) ?_
  refine gk_region (by kernel_rfl) ?_
  refine gl_pure 1 [1, 13] (K' := [(1, .pointer (some ⟨g4, 0, none⟩)), (13, .agg #[.string (⟨#[97]⟩ : ByteArray), .string (⟨#[49]⟩ : ByteArray)])]) (by kernel_rfl) ?_
  refine gl_buildSlice (T' := 39) (e := 51) (n := 2) (len := 1) (parts := #[(0, (.tmp 13))]) (l := [(0, .agg #[.string (⟨#[97]⟩ : ByteArray), .string (⟨#[49]⟩ : ByteArray)])]) (cs := #[.string (⟨#[97]⟩ : ByteArray), .string (⟨#[49]⟩ : ByteArray)]) (by kernel_rfl) (by kernel_rfl) (by kernel_rfl) (by kernel_rfl) (by kernel_rfl) (fun g9 => ?_)
  have hO10 : OwnS kS50 51 I1 (some ⟨g9, 0, none⟩) 1 [(⟨(⟨#[97]⟩ : ByteArray), (⟨#[49]⟩ : ByteArray)⟩ : S50)] [(g9, .cells #[.string (⟨#[97]⟩ : ByteArray), .string (⟨#[49]⟩ : ByteArray)] 51)] := OwnS.lit (row_cons (l := [.string (⟨#[97]⟩ : ByteArray), .string (⟨#[49]⟩ : ByteArray)]) (kS50_mk (x := (⟨(⟨#[97]⟩ : ByteArray), (⟨#[49]⟩ : ByteArray)⟩ : S50)) ) (row_nil _ _)) rfl rfl rfl
  refine gl_reord (D := [(g9, .cells #[.string (⟨#[97]⟩ : ByteArray), .string (⟨#[49]⟩ : ByteArray)] 51)] ++ ((g4, .cells #[.slice A5 nflog_New.f0.f0.length c6] 69) :: (C7 ++ L))) (Reord.refl _) ?_
  refine gl_rest (Tk.step (Upd.rmC _ _) (Tk.nil _)) (fun J13 hJ14 hC15 => ?_)
  have hf16 := (OwnS.rest hO10 hJ14 hC15.left)
  refine gl_buildSlice (T' := 22) (e := 39) (n := 1) (len := 1) (parts := #[(0, (.tmp 14))]) (l := [(0, .slice (some ⟨g9, 0, none⟩) [(⟨(⟨#[97]⟩ : ByteArray), (⟨#[49]⟩ : ByteArray)⟩ : S50)].length 1)]) (cs := #[.slice (some ⟨g9, 0, none⟩) [(⟨(⟨#[97]⟩ : ByteArray), (⟨#[49]⟩ : ByteArray)⟩ : S50)].length 1]) (by kernel_rfl) (by kernel_rfl) (by kernel_rfl) (by kernel_rfl) (by kernel_rfl) (fun g17 => ?_)
  have hO18 : OwnS (Kd.sl kS50) 39 J13 (some ⟨g17, 0, none⟩) 1 [[(⟨(⟨#[97]⟩ : ByteArray), (⟨#[49]⟩ : ByteArray)⟩ : S50)]] [(g17, .cells #[.slice (some ⟨g9, 0, none⟩) [(⟨(⟨#[97]⟩ : ByteArray), (⟨#[49]⟩ : ByteArray)⟩ : S50)].length 1] 39)] := OwnS.lit (row_cons (l := [.slice (some ⟨g9, 0, none⟩) [(⟨(⟨#[97]⟩ : ByteArray), (⟨#[49]⟩ : ByteArray)⟩ : S50)].length 1]) ⟨_, _, rfl, hf16⟩ (row_nil _ _)) rfl rfl rfl
  refine gl_reord (D := [(g17, .cells #[.slice (some ⟨g9, 0, none⟩) [(⟨(⟨#[97]⟩ : ByteArray), (⟨#[49]⟩ : ByteArray)⟩ : S50)].length 1] 39)] ++ ((g4, .cells #[.slice A5 nflog_New.f0.f0.length c6] 69) :: (C7 ++ L))) (Reord.refl _) ?_
  refine gl_pure 1 [1, 2] (K' := [(1, .pointer (some ⟨g4, 0, none⟩)), (2, .slice (some ⟨g17, 0, none⟩) [[(⟨(⟨#[97]⟩ : ByteArray), (⟨#[49]⟩ : ByteArray)⟩ : S50)]].length 1)]) (by kernel_rfl) ?_
  refine gl_atE (by kernel_rfl) ?_
  refine ge_seq ?_
  refine gk_seq (by kernel_rfl) ?_
  refine gk_region (by kernel_rfl) ?_
  refine gl_pure 2 [1, 2, 17, 18] (K' := [(1, .pointer (some ⟨g4, 0, none⟩)), (2, .slice (some ⟨g17, 0, none⟩) [[(⟨(⟨#[97]⟩ : ByteArray), (⟨#[49]⟩ : ByteArray)⟩ : S50)]].length 1), (17, .pointer (some ⟨g4, 0, none⟩)), (18, .slice (some ⟨g17, 0, none⟩) [[(⟨(⟨#[97]⟩ : ByteArray), (⟨#[49]⟩ : ByteArray)⟩ : S50)]].length 1)]) (by kernel_rfl) ?_
  refine gl_rest (Tk.step (Upd.rmC _ _) (Tk.nil _)) (fun J21 hJ22 hC23 => ?_)
  have hf24 := (OwnS.rest hO18 hJ22 hC23.left)
  obtain ⟨y25, hx26, hr⟩ := bind_some hr
  refine gl_call (by kernel_rfl) (nflog_Log_Needs_walk (r := y25) (g0 := g4) (T0 := 69) (A0_0 := A5) (c0_0 := c6) (C0_0 := C7) (a0 := (⟨(⟨nflog_New.f0.f0⟩ : S66)⟩ : S68)) (hG.mono (Imm.trans (Imm.trans hI3 hJ14) hJ22)) (hO8.mono (Imm.trans hJ14 hJ22)) hf24 (RepS.nil _ _) hx26 _) ?_
  rintro v I27 L28 hI29 ⟨rfl, rfl⟩
  refine gl_pure 5 [1, 2, 3, 4] (K' := [(1, .pointer (some ⟨g4, 0, none⟩)), (2, .slice (some ⟨g17, 0, none⟩) [[(⟨(⟨#[97]⟩ : ByteArray), (⟨#[49]⟩ : ByteArray)⟩ : S50)]].length 1), (3, .bool y25.1), (4, .int .i64 y25.2)]) (by kernel_rfl) ?_
  refine gl_atE (by kernel_rfl) ?_
  refine ge_seq ?_
  refine gk_seq (by kernel_rfl) ?_
  refine gk_region (by kernel_rfl) ?_
  refine gl_pure 3 [1, 2, 3, 4, 22, 24] (K' := [(1, .pointer (some ⟨g4, 0, none⟩)), (2, .slice (some ⟨g17, 0, none⟩) [[(⟨(⟨#[97]⟩ : ByteArray), (⟨#[49]⟩ : ByteArray)⟩ : S50)]].length 1), (3, .bool y25.1), (4, .int .i64 y25.2), (22, .pointer (some ⟨g4, 0, none⟩)), (24, .agg #[.string (⟨#[116, 101, 97, 109]⟩ : ByteArray), .string (⟨#[107]⟩ : ByteArray), .int .i64 100, .slice (some ⟨g17, 0, none⟩) [[(⟨(⟨#[97]⟩ : ByteArray), (⟨#[49]⟩ : ByteArray)⟩ : S50)]].length 1, .slice none 0 0])]) (by kernel_rfl) ?_
  obtain ⟨y30, hx31, hr⟩ := bind_some hr
  refine gl_call (by kernel_rfl) (nflog_Log_Put_walk (r := y30) (g0 := g4) (T0 := 69) (A0_0 := A5) (c0_0 := c6) (C0_0 := C7) (a0 := (⟨(⟨nflog_New.f0.f0⟩ : S66)⟩ : S68)) (hG.mono (Imm.trans (Imm.trans (Imm.trans hI3 hJ14) hJ22) hI29)) (hO8.mono (Imm.trans (Imm.trans hJ14 hJ22) hI29)) (hf24.mono hI29) (RepS.nil _ _) hx31 _) ?_
  rintro v I32 L33 hI34 ⟨A35, c36, C37, hO38, rfl, rfl⟩
  refine gl_pure 1 [1, 2, 3, 4, 5] (K' := [(1, .pointer (some ⟨g4, 0, none⟩)), (2, .slice (some ⟨g17, 0, none⟩) [[(⟨(⟨#[97]⟩ : ByteArray), (⟨#[49]⟩ : ByteArray)⟩ : S50)]].length 1), (3, .bool y25.1), (4, .int .i64 y25.2), (5, .int .i64 y30.1)]) (by kernel_rfl) ?_
  refine gl_atE (by kernel_rfl) ?_
  refine ge_seq ?_
  refine gk_seq (by kernel_rfl) ?_
  refine gk_region (by kernel_rfl) ?_
  refine gl_pure 2 [1, 2, 3, 4, 5, 27, 28] (K' := [(1, .pointer (some ⟨g4, 0, none⟩)), (2, .slice (some ⟨g17, 0, none⟩) [[(⟨(⟨#[97]⟩ : ByteArray), (⟨#[49]⟩ : ByteArray)⟩ : S50)]].length 1), (3, .bool y25.1), (4, .int .i64 y25.2), (5, .int .i64 y30.1), (27, .pointer (some ⟨g4, 0, none⟩)), (28, .slice (some ⟨g17, 0, none⟩) [[(⟨(⟨#[97]⟩ : ByteArray), (⟨#[49]⟩ : ByteArray)⟩ : S50)]].length 1)]) (by kernel_rfl) ?_
  obtain ⟨y39, hx40, hr⟩ := bind_some hr
  refine gl_call (by kernel_rfl) (nflog_Log_Needs_walk (r := y39) (g0 := g4) (T0 := 69) (A0_0 := A35) (c0_0 := c36) (C0_0 := C37) (a0 := y30.2) (hG.mono (Imm.trans (Imm.trans (Imm.trans (Imm.trans hI3 hJ14) hJ22) hI29) hI34)) hO38 (hf24.mono (Imm.trans hI29 hI34)) (RepS.nil _ _) hx40 _) ?_
  rintro v I41 L42 hI43 ⟨rfl, rfl⟩
  refine gl_pure 5 [1, 2, 3, 4, 5, 6, 7] (K' := [(1, .pointer (some ⟨g4, 0, none⟩)), (2, .slice (some ⟨g17, 0, none⟩) [[(⟨(⟨#[97]⟩ : ByteArray), (⟨#[49]⟩ : ByteArray)⟩ : S50)]].length 1), (3, .bool y25.1), (4, .int .i64 y25.2), (5, .int .i64 y30.1), (6, .bool y39.1), (7, .int .i64 y39.2)]) (by kernel_rfl) ?_
  refine gl_atE (by kernel_rfl) ?_
  refine ge_seq ?_
  refine gk_seq (by kernel_rfl) ?_
  refine gk_region (by kernel_rfl) ?_
  refine gl_pure 2 [3, 4, 5, 6, 7, 33, 34] (K' := [(3, .bool y25.1), (4, .int .i64 y25.2), (5, .int .i64 y30.1), (6, .bool y39.1), (7, .int .i64 y39.2), (33, .pointer (some ⟨g4, 0, none⟩)), (34, .slice (some ⟨g17, 0, none⟩) [[(⟨(⟨#[97]⟩ : ByteArray), (⟨#[49]⟩ : ByteArray)⟩ : S50)]].length 1)]) (by kernel_rfl) ?_
  obtain ⟨y44, hx45, hr⟩ := bind_some hr
  refine gl_call (by kernel_rfl) (nflog_Log_Needs_walk (r := y44) (g0 := g4) (T0 := 69) (A0_0 := A35) (c0_0 := c36) (C0_0 := C37) (a0 := y30.2) (hG.mono (Imm.trans (Imm.trans (Imm.trans (Imm.trans (Imm.trans hI3 hJ14) hJ22) hI29) hI34) hI43)) (hO38.mono hI43) (hf24.mono (Imm.trans (Imm.trans hI29 hI34) hI43)) (RepS.nil _ _) hx45 _) ?_
  rintro v I46 L47 hI48 ⟨rfl, rfl⟩
  refine gl_pure 5 [3, 4, 5, 6, 7, 8, 9] (K' := [(3, .bool y25.1), (4, .int .i64 y25.2), (5, .int .i64 y30.1), (6, .bool y39.1), (7, .int .i64 y39.2), (8, .bool y44.1), (9, .int .i64 y44.2)]) (by kernel_rfl) ?_
  refine gl_atE (by kernel_rfl) ?_
  refine ge_seq ?_
  refine gk_seq (by kernel_rfl) ?_
  obtain ⟨b51, hb52⟩ : ∃ z, z = ((((((y25.1 && (y25.2 == 0)) && (y30.1 == 0)) && (!y39.1)) && (y39.2 == 0)) && y44.1) && (y44.2 == 0)) := ⟨_, rfl⟩
  refine gk_join (fun t I' L' => I46 ≤ I' ∧ (g4, .cells #[.slice A35 y30.2.f0.f0.length c36] 69) :: (C37 ++ L) = L' ∧ Knows 62 [(0, .bool b51)] t) ?_ ?_
  · refine gk_region (by kernel_rfl) ?_
    refine gl_pure 2 [4, 5, 6, 7, 8, 9, 39] (K' := [(4, .int .i64 y25.2), (5, .int .i64 y30.1), (6, .bool y39.1), (7, .int .i64 y39.2), (8, .bool y44.1), (9, .int .i64 y44.2), (39, .bool y25.1)]) (by kernel_rfl) ?_
    refine gl_case 39 (b := y25.1) (by kernel_rfl) (fun hc54 => ?_) (fun hc54 => ?_)
    · refine gl_pure 4 [5, 6, 7, 8, 9, 43] (K' := [(5, .int .i64 y30.1), (6, .bool y39.1), (7, .int .i64 y39.2), (8, .bool y44.1), (9, .int .i64 y44.2), (43, .bool (y25.2 == 0))]) (by kernel_rfl) ?_
      refine gl_case 43 (b := (y25.2 == 0)) (by kernel_rfl) (fun hc55 => ?_) (fun hc55 => ?_)
      · refine gl_pure 4 [6, 7, 8, 9, 47] (K' := [(6, .bool y39.1), (7, .int .i64 y39.2), (8, .bool y44.1), (9, .int .i64 y44.2), (47, .bool (y30.1 == 0))]) (by kernel_rfl) ?_
        refine gl_case 47 (b := (y30.1 == 0)) (by kernel_rfl) (fun hc56 => ?_) (fun hc56 => ?_)
        · refine gl_pure 4 [7, 8, 9, 51] (K' := [(7, .int .i64 y39.2), (8, .bool y44.1), (9, .int .i64 y44.2), (51, .bool (!y39.1))]) (by kernel_rfl) ?_
          refine gl_case 51 (b := (!y39.1)) (by kernel_rfl) (fun hc57 => ?_) (fun hc57 => ?_)
          · refine gl_pure 4 [8, 9, 55] (K' := [(8, .bool y44.1), (9, .int .i64 y44.2), (55, .bool (y39.2 == 0))]) (by kernel_rfl) ?_
            refine gl_case 55 (b := (y39.2 == 0)) (by kernel_rfl) (fun hc58 => ?_) (fun hc58 => ?_)
            · refine gl_pure 3 [9, 58] (K' := [(9, .int .i64 y44.2), (58, .bool y44.1)]) (by kernel_rfl) ?_
              refine gl_case 58 (b := y44.1) (by kernel_rfl) (fun hc59 => ?_) (fun hc59 => ?_)
              · refine gl_pure 4 [0] (K' := [(0, .bool (y44.2 == 0))]) (by kernel_rfl) ?_
                refine gl_atE (by kernel_rfl) ?_
                exact ge_mid fun t ht => ⟨(Imm.refl _), rfl, by rw [(show b51 = (y44.2 == 0) from hb52.trans (by first | (rw [hc54, hc55, hc56, hc57, hc58, hc59]; done) | (rw [hc54, hc55, hc56, hc57, hc58, hc59]; rfl) | (simp [hc54, hc55, hc56, hc57, hc58, hc59]; done) | (simp only [hc54, hc55, hc56, hc57, hc58, hc59]; rfl) | (simp at *; omega)))]; exact ht.pick (l := [0]) (by kernel_rfl)⟩
              · refine gl_pure 4 [0] (K' := [(0, .bool false)]) (by kernel_rfl) ?_
                refine gl_atE (by kernel_rfl) ?_
                exact ge_mid fun t ht => ⟨(Imm.refl _), rfl, by rw [(show b51 = false from hb52.trans (by first | (rw [hc54, hc55, hc56, hc57, hc58, hc59]; done) | (rw [hc54, hc55, hc56, hc57, hc58, hc59]; rfl) | (simp [hc54, hc55, hc56, hc57, hc58, hc59]; done) | (simp only [hc54, hc55, hc56, hc57, hc58, hc59]; rfl) | (simp at *; omega)))]; exact ht.pick (l := [0]) (by kernel_rfl)⟩
            · refine gl_pure 7 [0] (K' := [(0, .bool false)]) (by kernel_rfl) ?_
              refine gl_atE (by kernel_rfl) ?_
              exact ge_mid fun t ht => ⟨(Imm.refl _), rfl, by rw [(show b51 = false from hb52.trans (by first | (rw [hc54, hc55, hc56, hc57, hc58]; done) | (rw [hc54, hc55, hc56, hc57, hc58]; rfl) | (simp [hc54, hc55, hc56, hc57, hc58]; done) | (simp only [hc54, hc55, hc56, hc57, hc58]; rfl) | (simp at *; omega)))]; exact ht.pick (l := [0]) (by kernel_rfl)⟩
          · refine gl_pure 11 [0] (K' := [(0, .bool false)]) (by kernel_rfl) ?_
            refine gl_atE (by kernel_rfl) ?_
            exact ge_mid fun t ht => ⟨(Imm.refl _), rfl, by rw [(show b51 = false from hb52.trans (by first | (rw [hc54, hc55, hc56, hc57]; done) | (rw [hc54, hc55, hc56, hc57]; rfl) | (simp [hc54, hc55, hc56, hc57]; done) | (simp only [hc54, hc55, hc56, hc57]; rfl) | (simp at *; omega)))]; exact ht.pick (l := [0]) (by kernel_rfl)⟩
        · refine gl_pure 15 [0] (K' := [(0, .bool false)]) (by kernel_rfl) ?_
          refine gl_atE (by kernel_rfl) ?_
          exact ge_mid fun t ht => ⟨(Imm.refl _), rfl, by rw [(show b51 = false from hb52.trans (by first | (rw [hc54, hc55, hc56]; done) | (rw [hc54, hc55, hc56]; rfl) | (simp [hc54, hc55, hc56]; done) | (simp only [hc54, hc55, hc56]; rfl) | (simp at *; omega)))]; exact ht.pick (l := [0]) (by kernel_rfl)⟩
      · refine gl_pure 19 [0] (K' := [(0, .bool false)]) (by kernel_rfl) ?_
        refine gl_atE (by kernel_rfl) ?_
        exact ge_mid fun t ht => ⟨(Imm.refl _), rfl, by rw [(show b51 = false from hb52.trans (by first | (rw [hc54, hc55]; done) | (rw [hc54, hc55]; rfl) | (simp [hc54, hc55]; done) | (simp only [hc54, hc55]; rfl) | (simp at *; omega)))]; exact ht.pick (l := [0]) (by kernel_rfl)⟩
    · refine gl_pure 23 [0] (K' := [(0, .bool false)]) (by kernel_rfl) ?_
      refine gl_atE (by kernel_rfl) ?_
      exact ge_mid fun t ht => ⟨(Imm.refl _), rfl, by rw [(show b51 = false from hb52.trans (by first | (rw [hc54]; done) | (rw [hc54]; rfl) | (simp [hc54]; done) | (simp only [hc54]; rfl) | (simp at *; omega)))]; exact ht.pick (l := [0]) (by kernel_rfl)⟩
  · rintro t I53 L' ⟨hI49, rfl, hK50⟩
    subst hb52
    refine ge_at hK50 ?_
    refine ge_seq ?_
    refine gk_reord (D := L) (Reord.skip (Reord.skipC (Reord.refl _))) ?_
    refine gk_ret (by kernel_rfl) ?_
    obtain rfl := some_inj hr
    exact ge_result trivial (ResOk.tmp (by kernel_rfl) ResOk.nil) (Imm.trans (Imm.trans (Imm.trans (Imm.trans (Imm.trans (Imm.trans (Imm.trans hI3 hJ14) hJ22) hI29) hI34) hI43) hI48) hI49) ⟨rfl, rfl⟩
/-! 3 tocsinlaw26_NflogNeeds  -/
noncomputable def tocsinlaw26_NflogNeeds (a0 : S23) (a1 : Bool) (a2 : Int) (a3 : Int) (a4 : List (List S50)) (a5 : List (List S50)) : Option Bool :=
  Option.bind (tocsinlaw26_mark a0) fun (y2 : S23) =>
  Option.bind (tocsinlaw26_lent a4) fun (y13 : (List (List S50))) =>
  Option.bind (tocsinlaw26_lent a5) fun (y22 : (List (List S50))) =>
  Option.bind (nflog_Needs y2 a1 a2 a3 y13 y22) fun (y32 : Bool × Int) =>
  Option.bind (tocsinref26_Needs a0 a1 a2 a3 a4 a5) fun (y34 : Bool × Int) =>
  Option.bind (bif (!(y32.1 == y34.1)) then
    (some true)
    else
    (bif (y32.2 != y34.2) then
      (some true)
      else
      (Option.bind (nflog_Right y2) fun (y43 : Int) =>
        Option.bind (tocsinref26_Right a0) fun (y45 : Int) =>
        bif (y43 != y45) then
        (some true)
        else
        (Option.bind (nflog_Within y13 y22) fun (y48 : Bool) =>
          Option.bind (tocsinref26_Within a4 a5) fun (y50 : Bool) =>
          some (!(y48 == y50)))))) fun (j36 : Bool) =>
  bif j36 then
  (some false)
  else
  (Option.bind (nflog_Sorted y13) fun (y57 : (List (List S50)) × Int) =>
    Option.bind (tocsinref26_Sorted a4) fun (y66 : (List (List S50)) × Int) =>
    Option.bind (Option.bind (tocsinref26_SameSets y57.1 y66.1) fun (y80 : Bool) =>
      bif (!y80) then
      (some true)
      else
      (some (y57.2 != y66.2))) fun (j75 : Bool) =>
    bif j75 then
    (some false)
    else
    (Option.bind (Option.bind (tocsinref26_Same y2 a0) fun (y89 : Bool) =>
        bif y89 then
        (Option.bind (tocsinref26_SameSets y13 a4) fun (y92 : Bool) =>
          bif y92 then
          (Option.bind (tocsinref26_SameSets y22 a5) fun (y95 : Bool) =>
            bif y95 then
            (Option.bind tocsinlaw26_awake fun (y98 : Bool) =>
              some y98)
            else
            (some false))
          else
          (some false))
        else
        (some false)) fun (j84 : Bool) =>
      some j84))
theorem tocsinlaw26_NflogNeeds_walk {a0 : S23} {A0_3 : Option Addr} {n0_3 : Nat} {A0_4 : Option Addr} {n0_4 : Nat} {a1 : Bool} {a2 : Int} {a3 : Int} {a4 : List (List S50)} {A4_0 : Option Addr} {n4_0 : Nat} {a5 : List (List S50)} {A5_0 : Option Addr} {n5_0 : Nat} {I : Imm} {r : Bool} (hG : Gl I)  (hf0_3 : RepS (Kd.sl kS50) I A0_3 n0_3 a0.f3) (hf0_4 : RepS (Kd.sl kS50) I A0_4 n0_4 a0.f4)  (hf4_0 : RepS (Kd.sl kS50) I A4_0 n4_0 a4)  (hf5_0 : RepS (Kd.sl kS50) I A5_0 n5_0 a5) (hr : tocsinlaw26_NflogNeeds a0 a1 a2 a3 a4 a5 = some r) (L : Own) :
    CallsTo Tryd.prog 3 #[.agg #[.string a0.f0, .string a0.f1, .int .i64 a0.f2, .slice A0_3 a0.f3.length n0_3, .slice A0_4 a0.f4.length n0_4], .bool a1, .int .i64 a2, .int .i64 a3, .slice A4_0 a4.length n4_0, .slice A5_0 a5.length n5_0] I L (fun v I' L' => v = .bool r ∧ L = L') := by
  unfold tocsinlaw26_NflogNeeds at hr
  refine callsTo_body (N := 111) Tryd.func3 (by kernel_rfl) (by kernel_rfl) (by kernel_rfl) ?_
  refine gk_pick [0, 1, 2, 3, 4, 5] (K' := [(0, .agg #[.string a0.f0, .string a0.f1, .int .i64 a0.f2, .slice A0_3 a0.f3.length n0_3, .slice A0_4 a0.f4.length n0_4]), (1, .bool a1), (2, .int .i64 a2), (3, .int .i64 a3), (4, .slice A4_0 a4.length n4_0), (5, .slice A5_0 a5.length n5_0)]) (by kernel_rfl) ?_
  refine gk_seq (by kernel_rfl) ?_
  refine gk_region (by kernel_rfl) ?_
  refine gl_box (T' := 24) (x := (.tmp 0)) (v := .agg #[.string a0.f0, .string a0.f1, .int .i64 a0.f2, .slice A0_3 a0.f3.length n0_3, .slice A0_4 a0.f4.length n0_4]) (cs := #[.string a0.f0, .string a0.f1, .int .i64 a0.f2, .slice A0_3 a0.f3.length n0_3, .slice A0_4 a0.f4.length n0_4]) (by kernel_rfl) (by kernel_rfl) (by kernel_rfl) (by kernel_rfl) (fun g1 => ?_)
  refine gl_pure 1 [1, 2, 3, 4, 5, 6] (K' := [(1, .bool a1), (2, .int .i64 a2), (3, .int .i64 a3), (4, .slice A4_0 a4.length n4_0), (5, .slice A5_0 a5.length n5_0), (6, .pointer (some ⟨g1, 0, none⟩))]) (by kernel_rfl) ?_
  refine gl_atE (by kernel_rfl) ?_
  refine ge_seq ?_
  refine gk_seq (by kernel_rfl) ?_
  refine gk_region (by kernel_rfl) ?_
  refine gl_loadB (T' := 24) (xp := (.tmp 6)) (v := .agg #[.string a0.f0, .string a0.f1, .int .i64 a0.f2, .slice A0_3 a0.f3.length n0_3, .slice A0_4 a0.f4.length n0_4]) (g := g1) (off := 0) (cs := #[.string a0.f0, .string a0.f1, .int .i64 a0.f2, .slice A0_3 a0.f3.length n0_3, .slice A0_4 a0.f4.length n0_4]) (e := 24) (fz := (0, 0)) (by kernel_rfl) (by kernel_rfl) (by kernel_rfl) List.mem_cons_self (by kernel_rfl) ?_
  obtain ⟨y2, hx3, hr⟩ := bind_some hr
  refine gl_call (by kernel_rfl) (tocsinlaw26_mark_walk (r := y2) hf0_3 hf0_4 hx3 _) ?_
  rintro v I4 L5 hI6 ⟨A7, c8, A9, c10, hf11, hf12, rfl, rfl⟩
  refine gl_pure 1 [1, 2, 3, 4, 5, 6, 25, 26] (K' := [(1, .bool a1), (2, .int .i64 a2), (3, .int .i64 a3), (4, .slice A4_0 a4.length n4_0), (5, .slice A5_0 a5.length n5_0), (6, .pointer (some ⟨g1, 0, none⟩)), (25, .agg #[.string y2.f0, .string y2.f1, .int .i64 y2.f2, .slice A7 y2.f3.length c8, .slice A9 y2.f4.length c10]), (26, .slice A4_0 a4.length n4_0)]) (by kernel_rfl) ?_
  obtain ⟨y13, hx14, hr⟩ := bind_some hr
  refine gl_call (by kernel_rfl) (tocsinlaw26_lent_walk (r := y13) (hf4_0.mono hI6) hx14 _) ?_
  rintro v I15 L16 hI17 ⟨A18, c19, C20, hO21, rfl, rfl⟩
  refine gl_pure 1 [1, 2, 3, 4, 5, 6, 25, 27, 28] (K' := [(1, .bool a1), (2, .int .i64 a2), (3, .int .i64 a3), (4, .slice A4_0 a4.length n4_0), (5, .slice A5_0 a5.length n5_0), (6, .pointer (some ⟨g1, 0, none⟩)), (25, .agg #[.string y2.f0, .string y2.f1, .int .i64 y2.f2, .slice A7 y2.f3.length c8, .slice A9 y2.f4.length c10]), (27, .slice A18 y13.length c19), (28, .slice A5_0 a5.length n5_0)]) (by kernel_rfl) ?_
  obtain ⟨y22, hx23, hr⟩ := bind_some hr
  refine gl_call (by kernel_rfl) (tocsinlaw26_lent_walk (r := y22) (hf5_0.mono (Imm.trans hI6 hI17)) hx23 _) ?_
  rintro v I24 L25 hI26 ⟨A27, c28, C29, hO30, rfl, rfl⟩
  refine gl_alloc (T' := 24) (cs := #[.string (⟨#[]⟩ : ByteArray), .string (⟨#[]⟩ : ByteArray), .int .i64 0, .slice none 0 0, .slice none 0 0]) (by kernel_rfl) (by kernel_rfl) (by kernel_rfl) (fun g31 => ?_)
  refine gl_storeB (T' := 24) (xp := (.tmp 13)) (xv := (.tmp 25)) (v := .agg #[.string y2.f0, .string y2.f1, .int .i64 y2.f2, .slice A7 y2.f3.length c8, .slice A9 y2.f4.length c10]) (g := g31) (off := 0) (cs := #[.string (⟨#[]⟩ : ByteArray), .string (⟨#[]⟩ : ByteArray), .int .i64 0, .slice none 0 0, .slice none 0 0]) (cs' := #[.string y2.f0, .string y2.f1, .int .i64 y2.f2, .slice A7 y2.f3.length c8, .slice A9 y2.f4.length c10]) (by kernel_rfl) (by kernel_rfl) (by kernel_rfl) (by kernel_rfl) (by kernel_rfl) (Upd.set _ _ _ _) ?_ (by kernel_rfl)
  refine gl_pure 2 [1, 2, 3, 4, 5, 6, 13, 14, 15] (K' := [(1, .bool a1), (2, .int .i64 a2), (3, .int .i64 a3), (4, .slice A4_0 a4.length n4_0), (5, .slice A5_0 a5.length n5_0), (6, .pointer (some ⟨g1, 0, none⟩)), (13, .pointer (some ⟨g31, 0, none⟩)), (14, .slice A18 y13.length c19), (15, .slice A27 y22.length c28)]) (by kernel_rfl) ?_
  refine gl_atE (by kernel_rfl) ?_
  refine ge_seq ?_
  refine gk_seq (by kernel_rfl) ?_
  refine gk_region (by kernel_rfl) ?_
  refine gl_loadB (T' := 24) (xp := (.tmp 13)) (v := .agg #[.string y2.f0, .string y2.f1, .int .i64 y2.f2, .slice A7 y2.f3.length c8, .slice A9 y2.f4.length c10]) (g := g31) (off := 0) (cs := #[.string y2.f0, .string y2.f1, .int .i64 y2.f2, .slice A7 y2.f3.length c8, .slice A9 y2.f4.length c10]) (e := 24) (fz := (0, 0)) (by kernel_rfl) (by kernel_rfl) (by kernel_rfl) List.mem_cons_self (by kernel_rfl) ?_
  refine gl_pure 5 [1, 2, 3, 4, 5, 6, 13, 14, 15, 31, 32, 33, 34, 35, 36] (K' := [(1, .bool a1), (2, .int .i64 a2), (3, .int .i64 a3), (4, .slice A4_0 a4.length n4_0), (5, .slice A5_0 a5.length n5_0), (6, .pointer (some ⟨g1, 0, none⟩)), (13, .pointer (some ⟨g31, 0, none⟩)), (14, .slice A18 y13.length c19), (15, .slice A27 y22.length c28), (31, .agg #[.string y2.f0, .string y2.f1, .int .i64 y2.f2, .slice A7 y2.f3.length c8, .slice A9 y2.f4.length c10]), (32, .bool a1), (33, .int .i64 a2), (34, .int .i64 a3), (35, .slice A18 y13.length c19), (36, .slice A27 y22.length c28)]) (by kernel_rfl) ?_
  obtain ⟨y32, hx33, hr⟩ := bind_some hr
  refine gl_callB (r := .tuple #[.bool y32.1, .int .i64 y32.2]) (Tk.step (Upd.one _ (Upd.rmC _ _)) (Tk.step (Upd.one _ (Upd.rmC _ _)) (Tk.nil _))) (by kernel_rfl) (fun J hJ hC => nflog_Needs_walk (r := y32) (hG.mono (Imm.trans (Imm.trans (Imm.trans hI6 hI17) hI26) hJ)) (hf11.mono (Imm.trans (Imm.trans hI17 hI26) hJ)) (hf12.mono (Imm.trans (Imm.trans hI17 hI26) hJ)) (OwnS.rest (hO21.mono hI26) hJ hC.right.left) (OwnS.rest hO30 hJ hC.left) hx33 _) ?_
  refine gl_pure 5 [1, 2, 3, 4, 5, 6, 13, 14, 15, 16, 17] (K' := [(1, .bool a1), (2, .int .i64 a2), (3, .int .i64 a3), (4, .slice A4_0 a4.length n4_0), (5, .slice A5_0 a5.length n5_0), (6, .pointer (some ⟨g1, 0, none⟩)), (13, .pointer (some ⟨g31, 0, none⟩)), (14, .slice A18 y13.length c19), (15, .slice A27 y22.length c28), (16, .bool y32.1), (17, .int .i64 y32.2)]) (by kernel_rfl) ?_
  refine gl_atE (by kernel_rfl) ?_
  refine ge_seq ?_
  refine gk_seq (by kernel_rfl) ?_
  refine gk_region (by kernel_rfl) ?_
  refine gl_loadB (T' := 24) (xp := (.tmp 6)) (v := .agg #[.string a0.f0, .string a0.f1, .int .i64 a0.f2, .slice A0_3 a0.f3.length n0_3, .slice A0_4 a0.f4.length n0_4]) (g := g1) (off := 0) (cs := #[.string a0.f0, .string a0.f1, .int .i64 a0.f2, .slice A0_3 a0.f3.length n0_3, .slice A0_4 a0.f4.length n0_4]) (e := 24) (fz := (0, 0)) (by kernel_rfl) (by kernel_rfl) (by kernel_rfl) (List.mem_cons_of_mem _ (List.mem_append_right _ (List.mem_append_right _ List.mem_cons_self))) (by kernel_rfl) ?_
  refine gl_pure 5 [4, 5, 6, 13, 14, 15, 16, 17, 41, 42, 43, 44, 45, 46] (K' := [(4, .slice A4_0 a4.length n4_0), (5, .slice A5_0 a5.length n5_0), (6, .pointer (some ⟨g1, 0, none⟩)), (13, .pointer (some ⟨g31, 0, none⟩)), (14, .slice A18 y13.length c19), (15, .slice A27 y22.length c28), (16, .bool y32.1), (17, .int .i64 y32.2), (41, .agg #[.string a0.f0, .string a0.f1, .int .i64 a0.f2, .slice A0_3 a0.f3.length n0_3, .slice A0_4 a0.f4.length n0_4]), (42, .bool a1), (43, .int .i64 a2), (44, .int .i64 a3), (45, .slice A4_0 a4.length n4_0), (46, .slice A5_0 a5.length n5_0)]) (by kernel_rfl) ?_
  obtain ⟨y34, hx35, hr⟩ := bind_some hr
  refine gl_callQ (by kernel_rfl) (tocsinref26_Needs_walk (r := y34) (hf0_3.mono (Imm.trans (Imm.trans hI6 hI17) hI26)) (hf0_4.mono (Imm.trans (Imm.trans hI6 hI17) hI26)) (hf4_0.mono (Imm.trans (Imm.trans hI6 hI17) hI26)) (hf5_0.mono (Imm.trans (Imm.trans hI6 hI17) hI26)) hx35 _) ?_
  refine gl_pure 5 [4, 5, 6, 13, 14, 15, 16, 17, 18, 19] (K' := [(4, .slice A4_0 a4.length n4_0), (5, .slice A5_0 a5.length n5_0), (6, .pointer (some ⟨g1, 0, none⟩)), (13, .pointer (some ⟨g31, 0, none⟩)), (14, .slice A18 y13.length c19), (15, .slice A27 y22.length c28), (16, .bool y32.1), (17, .int .i64 y32.2), (18, .bool y34.1), (19, .int .i64 y34.2)]) (by kernel_rfl) ?_
  refine gl_atE (by kernel_rfl) ?_
  refine ge_seq ?_
  refine gk_seq (by kernel_rfl) ?_
  refine gk_seq (by kernel_rfl) ?_
  obtain ⟨j36, hj37, hr⟩ := bind_some hr
  refine gk_join (fun t I' L' => I24 ≤ I' ∧ (g31, .cells #[.string y2.f0, .string y2.f1, .int .i64 y2.f2, .slice A7 y2.f3.length c8, .slice A9 y2.f4.length c10] 24) :: (C29 ++ (C20 ++ ((g1, .cells #[.string a0.f0, .string a0.f1, .int .i64 a0.f2, .slice A0_3 a0.f3.length n0_3, .slice A0_4 a0.f4.length n0_4] 24) :: L))) = L' ∧ Knows 111 [(4, .slice A4_0 a4.length n4_0), (5, .slice A5_0 a5.length n5_0), (6, .pointer (some ⟨g1, 0, none⟩)), (13, .pointer (some ⟨g31, 0, none⟩)), (14, .slice A18 y13.length c19), (15, .slice A27 y22.length c28), (73, .bool j36)] t) ?_ ?_
  · refine gk_draw 21 [(0, true), (1, true), (2, true), (3, true), (4, true), (5, true), (6, true), (7, true), (8, true), (9, true), (10, true), (11, true), (12, true), (13, true), (14, true), (15, true), (16, true), (17, true), (19, true), (20, true), (18, false)] [(g31, .cells #[.string y2.f0, .string y2.f1, .int .i64 y2.f2, .slice A7 y2.f3.length c8, .slice A9 y2.f4.length c10] 24), (g1, .cells #[.string a0.f0, .string a0.f1, .int .i64 a0.f2, .slice A0_3 a0.f3.length n0_3, .slice A0_4 a0.f4.length n0_4] 24)] (List.forall_mem_cons.2 ⟨List.mem_cons_self, (List.forall_mem_cons.2 ⟨(List.mem_cons_of_mem _ (List.mem_append_right _ (List.mem_append_right _ List.mem_cons_self))), (fun p hp => by cases hp)⟩)⟩) (by kernel_rfl) (by kernel_rfl) (by kernel_rfl) ?_ (by kernel_rfl)
    refine gd_pure 4 [4, 5, 6, 13, 14, 15, 17, 19, 53] (K' := [(4, .slice A4_0 a4.length n4_0), (5, .slice A5_0 a5.length n5_0), (6, .pointer (some ⟨g1, 0, none⟩)), (13, .pointer (some ⟨g31, 0, none⟩)), (14, .slice A18 y13.length c19), (15, .slice A27 y22.length c28), (17, .int .i64 y32.2), (19, .int .i64 y34.2), (53, .bool (!(y32.1 == y34.1)))]) (s' := [(4, true), (5, true), (6, true), (7, true), (8, true), (9, true), (10, true), (11, true), (12, true), (13, true), (14, true), (15, true), (16, true), (17, true), (19, true), (20, true), (18, false)]) (CC.refl (List.forall_mem_cons.2 ⟨List.mem_cons_self, (List.forall_mem_cons.2 ⟨(List.mem_cons_of_mem _ (List.mem_append_right _ (List.mem_append_right _ List.mem_cons_self))), (fun p hp => by cases hp)⟩)⟩)) (by kernel_rfl) ?_
    refine gd_case 53 (b := (!(y32.1 == y34.1))) (by kernel_rfl) (fun hc41 => ?_) (fun hc41 => ?_)
    · have hj37 := cond_t hc41 hj37
      refine gd_pure 16 [4, 5, 6, 13, 14, 15, 65, 66, 67, 69, 70] (K' := [(4, .slice A4_0 a4.length n4_0), (5, .slice A5_0 a5.length n5_0), (6, .pointer (some ⟨g1, 0, none⟩)), (13, .pointer (some ⟨g31, 0, none⟩)), (14, .slice A18 y13.length c19), (15, .slice A27 y22.length c28), (65, .bool true), (66, undef), (67, undef), (69, undef), (70, undef)]) (s' := [(18, false)]) (CC.refl (List.forall_mem_cons.2 ⟨List.mem_cons_self, (List.forall_mem_cons.2 ⟨(List.mem_cons_of_mem _ (List.mem_append_right _ (List.mem_append_right _ List.mem_cons_self))), (fun p hp => by cases hp)⟩)⟩)) (by kernel_rfl) ?_
      refine gd_skip1 (by kernel_rfl) (by kernel_rfl) (CC.refl (List.forall_mem_cons.2 ⟨List.mem_cons_self, (List.forall_mem_cons.2 ⟨(List.mem_cons_of_mem _ (List.mem_append_right _ (List.mem_append_right _ List.mem_cons_self))), (fun p hp => by cases hp)⟩)⟩)) ?_
      refine gd_done ?_
      refine gl_pure 3 [4, 5, 6, 13, 14, 15, 73] (K' := [(4, .slice A4_0 a4.length n4_0), (5, .slice A5_0 a5.length n5_0), (6, .pointer (some ⟨g1, 0, none⟩)), (13, .pointer (some ⟨g31, 0, none⟩)), (14, .slice A18 y13.length c19), (15, .slice A27 y22.length c28), (73, .bool true)]) (by kernel_rfl) ?_
      refine gl_atE (by kernel_rfl) ?_
      obtain rfl := some_inj hj37
      exact ge_mid fun t ht => ⟨(Imm.refl _), rfl, ht.pick (l := [4, 5, 6, 13, 14, 15, 73]) (by kernel_rfl)⟩
    · have hj37 := cond_f hc41 hj37
      refine gd_pure 5 [4, 5, 6, 13, 14, 15, 58] (K' := [(4, .slice A4_0 a4.length n4_0), (5, .slice A5_0 a5.length n5_0), (6, .pointer (some ⟨g1, 0, none⟩)), (13, .pointer (some ⟨g31, 0, none⟩)), (14, .slice A18 y13.length c19), (15, .slice A27 y22.length c28), (58, .bool (y32.2 != y34.2))]) (s' := [(9, true), (10, true), (11, true), (12, true), (13, true), (14, true), (15, true), (16, true), (17, true), (19, true), (20, true), (18, false)]) (CC.refl (List.forall_mem_cons.2 ⟨List.mem_cons_self, (List.forall_mem_cons.2 ⟨(List.mem_cons_of_mem _ (List.mem_append_right _ (List.mem_append_right _ List.mem_cons_self))), (fun p hp => by cases hp)⟩)⟩)) (by kernel_rfl) ?_
      refine gd_case 58 (b := (y32.2 != y34.2)) (by kernel_rfl) (fun hc42 => ?_) (fun hc42 => ?_)
      · have hj37 := cond_t hc42 hj37
        refine gd_pure 11 [4, 5, 6, 13, 14, 15, 65, 66, 67, 69, 70] (K' := [(4, .slice A4_0 a4.length n4_0), (5, .slice A5_0 a5.length n5_0), (6, .pointer (some ⟨g1, 0, none⟩)), (13, .pointer (some ⟨g31, 0, none⟩)), (14, .slice A18 y13.length c19), (15, .slice A27 y22.length c28), (65, .bool true), (66, undef), (67, undef), (69, undef), (70, undef)]) (s' := [(18, false)]) (CC.refl (List.forall_mem_cons.2 ⟨List.mem_cons_self, (List.forall_mem_cons.2 ⟨(List.mem_cons_of_mem _ (List.mem_append_right _ (List.mem_append_right _ List.mem_cons_self))), (fun p hp => by cases hp)⟩)⟩)) (by kernel_rfl) ?_
        refine gd_skip1 (by kernel_rfl) (by kernel_rfl) (CC.refl (List.forall_mem_cons.2 ⟨List.mem_cons_self, (List.forall_mem_cons.2 ⟨(List.mem_cons_of_mem _ (List.mem_append_right _ (List.mem_append_right _ List.mem_cons_self))), (fun p hp => by cases hp)⟩)⟩)) ?_
        refine gd_done ?_
        refine gl_pure 3 [4, 5, 6, 13, 14, 15, 73] (K' := [(4, .slice A4_0 a4.length n4_0), (5, .slice A5_0 a5.length n5_0), (6, .pointer (some ⟨g1, 0, none⟩)), (13, .pointer (some ⟨g31, 0, none⟩)), (14, .slice A18 y13.length c19), (15, .slice A27 y22.length c28), (73, .bool true)]) (by kernel_rfl) ?_
        refine gl_atE (by kernel_rfl) ?_
        obtain rfl := some_inj hj37
        exact ge_mid fun t ht => ⟨(Imm.refl _), rfl, ht.pick (l := [4, 5, 6, 13, 14, 15, 73]) (by kernel_rfl)⟩
      · have hj37 := cond_f hc42 hj37
        refine gd_q (v := .agg #[.string y2.f0, .string y2.f1, .int .i64 y2.f2, .slice A7 y2.f3.length c8, .slice A9 y2.f4.length c10]) (by kernel_rfl) (by kernel_rfl) (CC.refl (List.forall_mem_cons.2 ⟨List.mem_cons_self, (List.forall_mem_cons.2 ⟨(List.mem_cons_of_mem _ (List.mem_append_right _ (List.mem_append_right _ List.mem_cons_self))), (fun p hp => by cases hp)⟩)⟩)) (fun I' L' T hC kk => gl_loadB (T' := 24) (xp := (.tmp 13)) (v := .agg #[.string y2.f0, .string y2.f1, .int .i64 y2.f2, .slice A7 y2.f3.length c8, .slice A9 y2.f4.length c10]) (g := g31) (off := 0) (cs := #[.string y2.f0, .string y2.f1, .int .i64 y2.f2, .slice A7 y2.f3.length c8, .slice A9 y2.f4.length c10]) (e := 24) (fz := (0, 0)) (by kernel_rfl) (by kernel_rfl) (by kernel_rfl) (hC.sub _ List.mem_cons_self) (by kernel_rfl) kk) ?_
        obtain ⟨y43, hx44, hj37⟩ := bind_some hj37
        refine gd_q (v := .int .i64 y43) (by kernel_rfl) (by kernel_rfl) (CC.refl (List.forall_mem_cons.2 ⟨List.mem_cons_self, (List.forall_mem_cons.2 ⟨(List.mem_cons_of_mem _ (List.mem_append_right _ (List.mem_append_right _ List.mem_cons_self))), (fun p hp => by cases hp)⟩)⟩)) (fun I' L' T hC kk => gl_callQ (by kernel_rfl) (nflog_Right_walk (r := y43) ((hG.mono (Imm.trans (Imm.trans hI6 hI17) hI26)).mono hC.le) ((hf11.mono (Imm.trans hI17 hI26)).mono hC.le) ((hf12.mono (Imm.trans hI17 hI26)).mono hC.le) hx44 _) kk) ?_
        refine gd_q (v := .agg #[.string a0.f0, .string a0.f1, .int .i64 a0.f2, .slice A0_3 a0.f3.length n0_3, .slice A0_4 a0.f4.length n0_4]) (by kernel_rfl) (by kernel_rfl) (CC.refl (List.forall_mem_cons.2 ⟨List.mem_cons_self, (List.forall_mem_cons.2 ⟨(List.mem_cons_of_mem _ (List.mem_append_right _ (List.mem_append_right _ List.mem_cons_self))), (fun p hp => by cases hp)⟩)⟩)) (fun I' L' T hC kk => gl_loadB (T' := 24) (xp := (.tmp 6)) (v := .agg #[.string a0.f0, .string a0.f1, .int .i64 a0.f2, .slice A0_3 a0.f3.length n0_3, .slice A0_4 a0.f4.length n0_4]) (g := g1) (off := 0) (cs := #[.string a0.f0, .string a0.f1, .int .i64 a0.f2, .slice A0_3 a0.f3.length n0_3, .slice A0_4 a0.f4.length n0_4]) (e := 24) (fz := (0, 0)) (by kernel_rfl) (by kernel_rfl) (by kernel_rfl) (hC.sub _ (List.mem_cons_of_mem _ List.mem_cons_self)) (by kernel_rfl) kk) ?_
        obtain ⟨y45, hx46, hj37⟩ := bind_some hj37
        refine gd_q (v := .int .i64 y45) (by kernel_rfl) (by kernel_rfl) (CC.refl (List.forall_mem_cons.2 ⟨List.mem_cons_self, (List.forall_mem_cons.2 ⟨(List.mem_cons_of_mem _ (List.mem_append_right _ (List.mem_append_right _ List.mem_cons_self))), (fun p hp => by cases hp)⟩)⟩)) (fun I' L' T hC kk => gl_callQ (by kernel_rfl) (tocsinref26_Right_walk (r := y45) ((hf0_3.mono (Imm.trans (Imm.trans hI6 hI17) hI26)).mono hC.le) ((hf0_4.mono (Imm.trans (Imm.trans hI6 hI17) hI26)).mono hC.le) hx46 _) kk) ?_
        refine gd_pure 3 [4, 5, 6, 13, 14, 15, 65] (K' := [(4, .slice A4_0 a4.length n4_0), (5, .slice A5_0 a5.length n5_0), (6, .pointer (some ⟨g1, 0, none⟩)), (13, .pointer (some ⟨g31, 0, none⟩)), (14, .slice A18 y13.length c19), (15, .slice A27 y22.length c28), (65, .bool (y43 != y45))]) (s' := [(16, true), (17, true), (19, true), (20, true), (18, false)]) (CC.refl (List.forall_mem_cons.2 ⟨List.mem_cons_self, (List.forall_mem_cons.2 ⟨(List.mem_cons_of_mem _ (List.mem_append_right _ (List.mem_append_right _ List.mem_cons_self))), (fun p hp => by cases hp)⟩)⟩)) (by kernel_rfl) ?_
        refine gd_case 65 (b := (y43 != y45)) (by kernel_rfl) (fun hc47 => ?_) (fun hc47 => ?_)
        · have hj37 := cond_t hc47 hj37
          refine gd_pure 4 [4, 5, 6, 13, 14, 15, 65, 66, 67, 69, 70] (K' := [(4, .slice A4_0 a4.length n4_0), (5, .slice A5_0 a5.length n5_0), (6, .pointer (some ⟨g1, 0, none⟩)), (13, .pointer (some ⟨g31, 0, none⟩)), (14, .slice A18 y13.length c19), (15, .slice A27 y22.length c28), (65, .bool true), (66, undef), (67, undef), (69, undef), (70, undef)]) (s' := [(18, false)]) (CC.refl (List.forall_mem_cons.2 ⟨List.mem_cons_self, (List.forall_mem_cons.2 ⟨(List.mem_cons_of_mem _ (List.mem_append_right _ (List.mem_append_right _ List.mem_cons_self))), (fun p hp => by cases hp)⟩)⟩)) (by kernel_rfl) ?_
          refine gd_skip1 (by kernel_rfl) (by kernel_rfl) (CC.refl (List.forall_mem_cons.2 ⟨List.mem_cons_self, (List.forall_mem_cons.2 ⟨(List.mem_cons_of_mem _ (List.mem_append_right _ (List.mem_append_right _ List.mem_cons_self))), (fun p hp => by cases hp)⟩)⟩)) ?_
          refine gd_done ?_
          refine gl_pure 3 [4, 5, 6, 13, 14, 15, 73] (K' := [(4, .slice A4_0 a4.length n4_0), (5, .slice A5_0 a5.length n5_0), (6, .pointer (some ⟨g1, 0, none⟩)), (13, .pointer (some ⟨g31, 0, none⟩)), (14, .slice A18 y13.length c19), (15, .slice A27 y22.length c28), (73, .bool true)]) (by kernel_rfl) ?_
          refine gl_atE (by kernel_rfl) ?_
          obtain rfl := some_inj hj37
          exact ge_mid fun t ht => ⟨(Imm.refl _), rfl, ht.pick (l := [4, 5, 6, 13, 14, 15, 73]) (by kernel_rfl)⟩
        · have hj37 := cond_f hc47 hj37
          refine gd_pure 4 [4, 5, 6, 13, 14, 15, 65, 66, 67, 69, 70] (K' := [(4, .slice A4_0 a4.length n4_0), (5, .slice A5_0 a5.length n5_0), (6, .pointer (some ⟨g1, 0, none⟩)), (13, .pointer (some ⟨g31, 0, none⟩)), (14, .slice A18 y13.length c19), (15, .slice A27 y22.length c28), (65, .bool false), (66, .slice A18 y13.length c19), (67, .slice A27 y22.length c28), (69, .slice A4_0 a4.length n4_0), (70, .slice A5_0 a5.length n5_0)]) (s' := [(18, false)]) (CC.refl (List.forall_mem_cons.2 ⟨List.mem_cons_self, (List.forall_mem_cons.2 ⟨(List.mem_cons_of_mem _ (List.mem_append_right _ (List.mem_append_right _ List.mem_cons_self))), (fun p hp => by cases hp)⟩)⟩)) (by kernel_rfl) ?_
          refine gd_one (by kernel_rfl) ?_
          obtain ⟨y48, hx49, hj37⟩ := bind_some hj37
          refine gl_callB (r := .bool y48) (Tk.step (Upd.one _ (Upd.rmC _ _)) (Tk.step (Upd.one _ (Upd.rmC _ _)) (Tk.nil _))) (by kernel_rfl) (fun J hJ hC => nflog_Within_walk (r := y48) (OwnS.rest (hO21.mono hI26) hJ hC.right.left) (OwnS.rest hO30 hJ hC.left) hx49 _) ?_
          refine gl_toD (by kernel_rfl) ⟨(Imm.refl _), (List.forall_mem_cons.2 ⟨List.mem_cons_self, (List.forall_mem_cons.2 ⟨(List.mem_cons_of_mem _ (List.mem_append_right _ (List.mem_append_right _ List.mem_cons_self))), (fun p hp => by cases hp)⟩)⟩)⟩ ?_
          refine gd_done ?_
          obtain ⟨y50, hx51, hj37⟩ := bind_some hj37
          refine gl_callQ (by kernel_rfl) (tocsinref26_Within_walk (r := y50) (hf4_0.mono (Imm.trans (Imm.trans hI6 hI17) hI26)) (hf5_0.mono (Imm.trans (Imm.trans hI6 hI17) hI26)) hx51 _) ?_
          refine gl_pure 2 [4, 5, 6, 13, 14, 15, 73] (K' := [(4, .slice A4_0 a4.length n4_0), (5, .slice A5_0 a5.length n5_0), (6, .pointer (some ⟨g1, 0, none⟩)), (13, .pointer (some ⟨g31, 0, none⟩)), (14, .slice A18 y13.length c19), (15, .slice A27 y22.length c28), (73, .bool (!(y48 == y50)))]) (by kernel_rfl) ?_
          refine gl_atE (by kernel_rfl) ?_
          obtain rfl := some_inj hj37
          exact ge_mid fun t ht => ⟨(Imm.refl _), rfl, ht.pick (l := [4, 5, 6, 13, 14, 15, 73]) (by kernel_rfl)⟩
  · rintro t I40 L' ⟨hI38, rfl, hK39⟩
    refine ge_at hK39 ?_
    refine ge_seq ?_
    refine gk_cond (b := j36) (by kernel_rfl) (by kernel_rfl) (fun hc52 => ?_) (fun hc52 => ?_)
    · have hr := cond_t hc52 hr
      refine gk_seq (by kernel_rfl) ?_
      refine gk_region (by kernel_rfl) ?_
      refine gl_pure 1 [12] (K' := [(12, .bool false)]) (by kernel_rfl) ?_
      refine gl_atE (by kernel_rfl) ?_
      refine ge_seq ?_
      refine gk_reord (D := L) (Reord.skip (Reord.skipC (Reord.skipC (Reord.skip (Reord.refl _))))) ?_
      refine gk_ret (by kernel_rfl) ?_
      refine ge_seq_ret ?_
      obtain rfl := some_inj hr
      exact ge_result trivial (ResOk.tmp (by kernel_rfl) ResOk.nil) (Imm.trans (Imm.trans (Imm.trans hI6 hI17) hI26) hI38) ⟨rfl, rfl⟩
    · have hr := cond_f hc52 hr
      refine gk_skip (by kernel_rfl) ?_
      refine ge_seq ?_
      refine gk_seq (by kernel_rfl) ?_
      refine gk_region (by kernel_rfl) ?_
      refine gl_pure 1 [4, 5, 6, 13, 14, 15, 75] (K' := [(4, .slice A4_0 a4.length n4_0), (5, .slice A5_0 a5.length n5_0), (6, .pointer (some ⟨g1, 0, none⟩)), (13, .pointer (some ⟨g31, 0, none⟩)), (14, .slice A18 y13.length c19), (15, .slice A27 y22.length c28), (75, .slice A18 y13.length c19)]) (by kernel_rfl) ?_
      refine gl_rest (Tk.step (Upd.one _ (Upd.app _ (Upd.rmC _ _))) (Tk.nil _)) (fun J53 hJ54 hC55 => ?_)
      have hf56 := (OwnS.rest (hO21.mono (Imm.trans hI26 hI38)) hJ54 hC55.left)
      obtain ⟨y57, hx58, hr⟩ := bind_some hr
      refine gl_call (by kernel_rfl) (nflog_Sorted_walk (J0 := J53) (hJ0 := Imm.refl _) (r := y57) (hG.mono (Imm.trans (Imm.trans (Imm.trans (Imm.trans hI6 hI17) hI26) hI38) hJ54)) hf56 hx58 _) ?_
      rintro v I59 L60 hI61 ⟨A62, c63, C64, hO65f, rfl, rfl⟩
      have hO65 := hO65f.ofFr
      refine gl_pure 5 [4, 5, 6, 13, 14, 15, 20, 21] (K' := [(4, .slice A4_0 a4.length n4_0), (5, .slice A5_0 a5.length n5_0), (6, .pointer (some ⟨g1, 0, none⟩)), (13, .pointer (some ⟨g31, 0, none⟩)), (14, .slice A18 y13.length c19), (15, .slice A27 y22.length c28), (20, .slice A62 y57.1.length c63), (21, .int .i64 y57.2)]) (by kernel_rfl) ?_
      refine gl_atE (by kernel_rfl) ?_
      refine ge_seq ?_
      refine gk_seq (by kernel_rfl) ?_
      refine gk_region (by kernel_rfl) ?_
      refine gl_pure 1 [4, 5, 6, 13, 14, 15, 20, 21, 80] (K' := [(4, .slice A4_0 a4.length n4_0), (5, .slice A5_0 a5.length n5_0), (6, .pointer (some ⟨g1, 0, none⟩)), (13, .pointer (some ⟨g31, 0, none⟩)), (14, .slice A18 y13.length c19), (15, .slice A27 y22.length c28), (20, .slice A62 y57.1.length c63), (21, .int .i64 y57.2), (80, .slice A4_0 a4.length n4_0)]) (by kernel_rfl) ?_
      obtain ⟨y66, hx67, hr⟩ := bind_some hr
      refine gl_call (by kernel_rfl) (tocsinref26_Sorted_walk (r := y66) (hf4_0.mono (Imm.trans (Imm.trans (Imm.trans (Imm.trans (Imm.trans hI6 hI17) hI26) hI38) hJ54) hI61)) hx67 _) ?_
      rintro v I68 L69 hI70 ⟨A71, c72, C73, hO74, rfl, rfl⟩
      refine gl_pure 5 [4, 5, 6, 13, 14, 15, 20, 21, 22, 23] (K' := [(4, .slice A4_0 a4.length n4_0), (5, .slice A5_0 a5.length n5_0), (6, .pointer (some ⟨g1, 0, none⟩)), (13, .pointer (some ⟨g31, 0, none⟩)), (14, .slice A18 y13.length c19), (15, .slice A27 y22.length c28), (20, .slice A62 y57.1.length c63), (21, .int .i64 y57.2), (22, .slice A71 y66.1.length c72), (23, .int .i64 y66.2)]) (by kernel_rfl) ?_
      refine gl_atE (by kernel_rfl) ?_
      refine ge_seq ?_
      refine gk_seq (by kernel_rfl) ?_
      refine gk_seq (by kernel_rfl) ?_
      obtain ⟨j75, hj76, hr⟩ := bind_some hr
      refine gk_join (fun t I' L' => I68 ≤ I' ∧ C64 ++ ((g31, .cells #[.string y2.f0, .string y2.f1, .int .i64 y2.f2, .slice A7 y2.f3.length c8, .slice A9 y2.f4.length c10] 24) :: (C29 ++ ((g1, .cells #[.string a0.f0, .string a0.f1, .int .i64 a0.f2, .slice A0_3 a0.f3.length n0_3, .slice A0_4 a0.f4.length n0_4] 24) :: L))) = L' ∧ Knows 111 [(4, .slice A4_0 a4.length n4_0), (5, .slice A5_0 a5.length n5_0), (6, .pointer (some ⟨g1, 0, none⟩)), (13, .pointer (some ⟨g31, 0, none⟩)), (14, .slice A18 y13.length c19), (15, .slice A27 y22.length c28), (20, .slice A62 y57.1.length c63), (92, .bool j75)] t) ?_ ?_
      · refine gk_region (by kernel_rfl) ?_
        refine gl_pure 2 [4, 5, 6, 13, 14, 15, 20, 21, 23, 84, 85] (K' := [(4, .slice A4_0 a4.length n4_0), (5, .slice A5_0 a5.length n5_0), (6, .pointer (some ⟨g1, 0, none⟩)), (13, .pointer (some ⟨g31, 0, none⟩)), (14, .slice A18 y13.length c19), (15, .slice A27 y22.length c28), (20, .slice A62 y57.1.length c63), (21, .int .i64 y57.2), (23, .int .i64 y66.2), (84, .slice A62 y57.1.length c63), (85, .slice A71 y66.1.length c72)]) (by kernel_rfl) ?_
        obtain ⟨y80, hx81, hj76⟩ := bind_some hj76
        refine gl_callB (r := .bool y80) (Tk.step (Upd.rmC _ _) (Tk.step (Upd.rmC _ _) (Tk.nil _))) (by kernel_rfl) (fun J hJ hC => tocsinref26_SameSets_walk (r := y80) (OwnS.rest (hO65.mono hI70) hJ hC.right.left) (OwnS.rest hO74 hJ hC.left) hx81 _) ?_
        refine gl_pure 2 [4, 5, 6, 13, 14, 15, 20, 21, 23, 88] (K' := [(4, .slice A4_0 a4.length n4_0), (5, .slice A5_0 a5.length n5_0), (6, .pointer (some ⟨g1, 0, none⟩)), (13, .pointer (some ⟨g31, 0, none⟩)), (14, .slice A18 y13.length c19), (15, .slice A27 y22.length c28), (20, .slice A62 y57.1.length c63), (21, .int .i64 y57.2), (23, .int .i64 y66.2), (88, .bool (!y80))]) (by kernel_rfl) ?_
        refine gl_case 88 (b := (!y80)) (by kernel_rfl) (fun hc82 => ?_) (fun hc82 => ?_)
        · have hj76 := cond_t hc82 hj76
          refine gl_pure 4 [4, 5, 6, 13, 14, 15, 20, 92] (K' := [(4, .slice A4_0 a4.length n4_0), (5, .slice A5_0 a5.length n5_0), (6, .pointer (some ⟨g1, 0, none⟩)), (13, .pointer (some ⟨g31, 0, none⟩)), (14, .slice A18 y13.length c19), (15, .slice A27 y22.length c28), (20, .slice A62 y57.1.length c63), (92, .bool true)]) (by kernel_rfl) ?_
          refine gl_reord (D := C64 ++ ((g31, .cells #[.string y2.f0, .string y2.f1, .int .i64 y2.f2, .slice A7 y2.f3.length c8, .slice A9 y2.f4.length c10] 24) :: (C29 ++ ((g1, .cells #[.string a0.f0, .string a0.f1, .int .i64 a0.f2, .slice A0_3 a0.f3.length n0_3, .slice A0_4 a0.f4.length n0_4] 24) :: L)))) (Reord.step (Upd.app _ (Upd.rmC _ _)) (Reord.step1 (Upd.app _ (Upd.rm1 _ _)) (Reord.step (Upd.app _ (Upd.rmC _ _)) (Reord.step1 (Upd.app _ (Upd.rm1 _ _)) (Reord.skipC (Reord.refl _)))))) ?_
          refine gl_atE (by kernel_rfl) ?_
          obtain rfl := some_inj hj76
          exact ge_mid fun t ht => ⟨(Imm.refl _), rfl, ht.pick (l := [4, 5, 6, 13, 14, 15, 20, 92]) (by kernel_rfl)⟩
        · have hj76 := cond_f hc82 hj76
          refine gl_pure 4 [4, 5, 6, 13, 14, 15, 20, 92] (K' := [(4, .slice A4_0 a4.length n4_0), (5, .slice A5_0 a5.length n5_0), (6, .pointer (some ⟨g1, 0, none⟩)), (13, .pointer (some ⟨g31, 0, none⟩)), (14, .slice A18 y13.length c19), (15, .slice A27 y22.length c28), (20, .slice A62 y57.1.length c63), (92, .bool (y57.2 != y66.2))]) (by kernel_rfl) ?_
          refine gl_reord (D := C64 ++ ((g31, .cells #[.string y2.f0, .string y2.f1, .int .i64 y2.f2, .slice A7 y2.f3.length c8, .slice A9 y2.f4.length c10] 24) :: (C29 ++ ((g1, .cells #[.string a0.f0, .string a0.f1, .int .i64 a0.f2, .slice A0_3 a0.f3.length n0_3, .slice A0_4 a0.f4.length n0_4] 24) :: L)))) (Reord.step (Upd.app _ (Upd.rmC _ _)) (Reord.step1 (Upd.app _ (Upd.rm1 _ _)) (Reord.step (Upd.app _ (Upd.rmC _ _)) (Reord.step1 (Upd.app _ (Upd.rm1 _ _)) (Reord.skipC (Reord.refl _)))))) ?_
          refine gl_atE (by kernel_rfl) ?_
          obtain rfl := some_inj hj76
          exact ge_mid fun t ht => ⟨(Imm.refl _), rfl, ht.pick (l := [4, 5, 6, 13, 14, 15, 20, 92]) (by kernel_rfl)⟩
      · rintro t I79 L' ⟨hI77, rfl, hK78⟩
        refine ge_at hK78 ?_
        refine ge_seq ?_
        refine gk_cond (b := j75) (by kernel_rfl) (by kernel_rfl) (fun hc83 => ?_) (fun hc83 => ?_)
        · have hr := cond_t hc83 hr
          refine gk_seq (by kernel_rfl) ?_
          refine gk_region (by kernel_rfl) ?_
          refine gl_pure 1 [12] (K' := [(12, .bool false)]) (by kernel_rfl) ?_
          refine gl_atE (by kernel_rfl) ?_
          refine ge_seq ?_
          refine gk_reord (D := L) (Reord.skipC (Reord.skip (Reord.skipC (Reord.skip (Reord.refl _))))) ?_
          refine gk_ret (by kernel_rfl) ?_
          refine ge_seq_ret ?_
          obtain rfl := some_inj hr
          exact ge_result trivial (ResOk.tmp (by kernel_rfl) ResOk.nil) (Imm.trans (Imm.trans (Imm.trans (Imm.trans (Imm.trans (Imm.trans (Imm.trans hI6 hI17) hI26) hI38) hJ54) hI61) hI70) hI77) ⟨rfl, rfl⟩
        · have hr := cond_f hc83 hr
          refine gk_skip (by kernel_rfl) ?_
          refine ge_seq ?_
          refine gk_seq (by kernel_rfl) ?_
          refine gk_region (by kernel_rfl) ?_
          refine gl_pure 1 [4, 5, 6, 13, 14, 15, 93] (K' := [(4, .slice A4_0 a4.length n4_0), (5, .slice A5_0 a5.length n5_0), (6, .pointer (some ⟨g1, 0, none⟩)), (13, .pointer (some ⟨g31, 0, none⟩)), (14, .slice A18 y13.length c19), (15, .slice A27 y22.length c28), (93, .slice A62 y57.1.length c63)]) (by kernel_rfl) ?_
          refine gl_callBack (J0 := J53) (L' := (g31, .cells #[.string y2.f0, .string y2.f1, .int .i64 y2.f2, .slice A7 y2.f3.length c8, .slice A9 y2.f4.length c10] 24) :: (C29 ++ ((g1, .cells #[.string a0.f0, .string a0.f1, .int .i64 a0.f2, .slice A0_3 a0.f3.length n0_3, .slice A0_4 a0.f4.length n0_4] 24) :: L))) (v := .tuple #[]) (by kernel_rfl) (fun W hW => tocsinlaw26_spoil_walkF (Imm.trans (Imm.trans hI61 hI70) hI77) (hO65f.mono (Imm.trans hI70 hI77)) W hW) ?_
          refine gl_atE (by kernel_rfl) ?_
          refine ge_seq ?_
          refine gk_seq (by kernel_rfl) ?_
          obtain ⟨j84, hj85, hr⟩ := bind_some hr
          refine gk_join (fun t I' L' => J53 ≤ I' ∧ L = L' ∧ Knows 111 [(12, .bool j84)] t) ?_ ?_
          · refine gk_region (by kernel_rfl) ?_
            refine gl_loadB (T' := 24) (xp := (.tmp 13)) (v := .agg #[.string y2.f0, .string y2.f1, .int .i64 y2.f2, .slice A7 y2.f3.length c8, .slice A9 y2.f4.length c10]) (g := g31) (off := 0) (cs := #[.string y2.f0, .string y2.f1, .int .i64 y2.f2, .slice A7 y2.f3.length c8, .slice A9 y2.f4.length c10]) (e := 24) (fz := (0, 0)) (by kernel_rfl) (by kernel_rfl) (by kernel_rfl) List.mem_cons_self (by kernel_rfl) ?_
            refine gl_loadB (T' := 24) (xp := (.tmp 6)) (v := .agg #[.string a0.f0, .string a0.f1, .int .i64 a0.f2, .slice A0_3 a0.f3.length n0_3, .slice A0_4 a0.f4.length n0_4]) (g := g1) (off := 0) (cs := #[.string a0.f0, .string a0.f1, .int .i64 a0.f2, .slice A0_3 a0.f3.length n0_3, .slice A0_4 a0.f4.length n0_4]) (e := 24) (fz := (0, 0)) (by kernel_rfl) (by kernel_rfl) (by kernel_rfl) (List.mem_cons_of_mem _ (List.mem_append_right _ List.mem_cons_self)) (by kernel_rfl) ?_
            obtain ⟨y89, hx90, hj85⟩ := bind_some hj85
            refine gl_callQ (by kernel_rfl) (tocsinref26_Same_walk (r := y89) (hf11.mono (Imm.trans (Imm.trans (Imm.trans hI17 hI26) hI38) hJ54)) (hf12.mono (Imm.trans (Imm.trans (Imm.trans hI17 hI26) hI38) hJ54)) (hf0_3.mono (Imm.trans (Imm.trans (Imm.trans (Imm.trans hI6 hI17) hI26) hI38) hJ54)) (hf0_4.mono (Imm.trans (Imm.trans (Imm.trans (Imm.trans hI6 hI17) hI26) hI38) hJ54)) hx90 _) ?_
            refine gl_pure 1 [4, 5, 14, 15, 98] (K' := [(4, .slice A4_0 a4.length n4_0), (5, .slice A5_0 a5.length n5_0), (14, .slice A18 y13.length c19), (15, .slice A27 y22.length c28), (98, .bool y89)]) (by kernel_rfl) ?_
            refine gl_case 98 (b := y89) (by kernel_rfl) (fun hc91 => ?_) (fun hc91 => ?_)
            · have hj85 := cond_t hc91 hj85
              refine gl_pure 2 [5, 15, 98, 99, 100] (K' := [(5, .slice A5_0 a5.length n5_0), (15, .slice A27 y22.length c28), (98, .bool true), (99, .slice A18 y13.length c19), (100, .slice A4_0 a4.length n4_0)]) (by kernel_rfl) ?_
              obtain ⟨y92, hx93, hj85⟩ := bind_some hj85
              refine gl_callQ (by kernel_rfl) (tocsinref26_SameSets_walk (r := y92) hf56 (hf4_0.mono (Imm.trans (Imm.trans (Imm.trans (Imm.trans hI6 hI17) hI26) hI38) hJ54)) hx93 _) ?_
              refine gl_pure 2 [5, 15, 103] (K' := [(5, .slice A5_0 a5.length n5_0), (15, .slice A27 y22.length c28), (103, .bool y92)]) (by kernel_rfl) ?_
              refine gl_case 103 (b := y92) (by kernel_rfl) (fun hc94 => ?_) (fun hc94 => ?_)
              · have hj85 := cond_t hc94 hj85
                refine gl_pure 2 [103, 104, 105] (K' := [(103, .bool true), (104, .slice A27 y22.length c28), (105, .slice A5_0 a5.length n5_0)]) (by kernel_rfl) ?_
                obtain ⟨y95, hx96, hj85⟩ := bind_some hj85
                refine gl_callB (r := .bool y95) (Tk.step (Upd.one _ (Upd.rmC _ _)) (Tk.nil _)) (by kernel_rfl) (fun J hJ hC => tocsinref26_SameSets_walk (r := y95) (OwnS.rest (hO30.mono (Imm.trans hI38 hJ54)) hJ hC.left) (hf5_0.mono (Imm.trans (Imm.trans (Imm.trans (Imm.trans (Imm.trans hI6 hI17) hI26) hI38) hJ54) hJ)) hx96 _) ?_
                refine gl_pure 2 [108] (K' := [(108, .bool y95)]) (by kernel_rfl) ?_
                refine gl_case 108 (b := y95) (by kernel_rfl) (fun hc97 => ?_) (fun hc97 => ?_)
                · have hj85 := cond_t hc97 hj85
                  obtain ⟨y98, hx99, hj85⟩ := bind_some hj85
                  refine gl_callQ (by kernel_rfl) (tocsinlaw26_awake_walk (r := y98) (hG.mono (Imm.trans (Imm.trans (Imm.trans (Imm.trans hI6 hI17) hI26) hI38) hJ54)) hx99 _) ?_
                  refine gl_pure 2 [12] (K' := [(12, .bool y98)]) (by kernel_rfl) ?_
                  refine gl_reord (D := L) (Reord.skip (Reord.skipC (Reord.skip (Reord.refl _)))) ?_
                  refine gl_atE (by kernel_rfl) ?_
                  obtain rfl := some_inj hj85
                  exact ge_mid fun t ht => ⟨(Imm.refl _), rfl, ht.pick (l := [12]) (by kernel_rfl)⟩
                · have hj85 := cond_f hc97 hj85
                  refine gl_pure 3 [12] (K' := [(12, .bool false)]) (by kernel_rfl) ?_
                  refine gl_reord (D := L) (Reord.skip (Reord.skipC (Reord.skip (Reord.refl _)))) ?_
                  refine gl_atE (by kernel_rfl) ?_
                  obtain rfl := some_inj hj85
                  exact ge_mid fun t ht => ⟨(Imm.refl _), rfl, ht.pick (l := [12]) (by kernel_rfl)⟩
              · have hj85 := cond_f hc94 hj85
                refine gl_pure 8 [12] (K' := [(12, .bool false)]) (by kernel_rfl) ?_
                refine gl_reord (D := L) (Reord.skip (Reord.skipC (Reord.skip (Reord.refl _)))) ?_
                refine gl_atE (by kernel_rfl) ?_
                obtain rfl := some_inj hj85
                exact ge_mid fun t ht => ⟨(Imm.refl _), rfl, ht.pick (l := [12]) (by kernel_rfl)⟩
            · have hj85 := cond_f hc91 hj85
              refine gl_pure 13 [12] (K' := [(12, .bool false)]) (by kernel_rfl) ?_
              refine gl_reord (D := L) (Reord.skip (Reord.skipC (Reord.skip (Reord.refl _)))) ?_
              refine gl_atE (by kernel_rfl) ?_
              obtain rfl := some_inj hj85
              exact ge_mid fun t ht => ⟨(Imm.refl _), rfl, ht.pick (l := [12]) (by kernel_rfl)⟩
          · rintro t I88 L' ⟨hI86, rfl, hK87⟩
            refine ge_at hK87 ?_
            refine ge_seq ?_
            refine gk_ret (by kernel_rfl) ?_
            obtain rfl := some_inj hr
            exact ge_result trivial (ResOk.tmp (by kernel_rfl) ResOk.nil) (Imm.trans (Imm.trans (Imm.trans (Imm.trans (Imm.trans hI6 hI17) hI26) hI38) hJ54) hI86) ⟨rfl, rfl⟩
end Go.Proofs.YtcnnbaneoehilaaDoor
