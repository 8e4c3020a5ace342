/- Parts: W4c. -/
import Derived.Test.YtkjkkimnjpodiaaGreatDoorW4bu
set_option linter.unusedVariables false
set_option linter.unusedSimpArgs false
set_option maxRecDepth 100000
namespace Go.Proofs.YtkjkkimnjpodiaaGreatDoor
open Go.GB
noncomputable def tocsinref04_Pick_l28 (a0 : List S76) (a1 : List ByteArray) (a2 : Bool) : ((List S76) × Int) → Option (((List S76) × Int) ⊕ ((List S76))) := fun s11 =>
  bif (decide (s11.2 < (a0.length : Int))) then
  (Option.bind (ix a0 s11.2) fun (x31 : S76) =>
    Option.bind (tocsinref04_has a1 x31.f0) fun (y40 : Bool) =>
    Option.bind (bif (y40 == a2) then
      (Option.bind (app s11.1 [x31]) fun (zs56 : List S76) =>
        some zs56)
      else
      (some s11.1)) fun (j42 : (List S76)) =>
    some (Sum.inl (j42, (IntKind.wrap .i64 (s11.2 + 1)))))
  else
  (some (Sum.inr s11.1))
noncomputable def tocsinref04_Pick (a0 : List S76) (a1 : List ByteArray) (a2 : Bool) : Option (List S76) :=
  Option.bind (loopO (tocsinref04_Pick_l28 a0 a1 a2) ([], 0)) fun (r9 : (List S76)) =>
  some r9
theorem tocsinref04_Pick_walk {a0 : List S76} {A0_0 : Option Addr} {n0_0 : Nat} {a1 : List ByteArray} {A1_0 : Option Addr} {n1_0 : Nat} {a2 : Bool} {I : Imm} {r : (List S76)}  (hf0_0 : RepS kS76 I A0_0 n0_0 a0)  (hf1_0 : RepS Kd.str I A1_0 n1_0 a1) (hr : tocsinref04_Pick a0 a1 a2 = some r) (L : Own) :
    CallsTo Tryz.prog 117 #[.slice A0_0 a0.length n0_0, .slice A1_0 a1.length n1_0, .bool a2] I L (fun v I' L' => ∃ A0 c0 C0, OwnS kS76 77 I' A0 c0 r C0 ∧ v = .slice A0 r.length c0 ∧ C0 ++ L = L') := by
  unfold tocsinref04_Pick at hr
  refine callsTo_body (N := 28) Tryz.func117 (by kernel_rfl) (by kernel_rfl) (by kernel_rfl) ?_
  refine gk_pick [0, 1, 2] (K' := [(0, .slice A0_0 a0.length n0_0), (1, .slice A1_0 a1.length n1_0), (2, .bool a2)]) (by kernel_rfl) ?_
  refine gk_seq (by kernel_rfl) ?_
  refine gk_region (by kernel_rfl) ?_
  refine gl_pure 1 [0, 1, 2] (K' := [(0, .slice A0_0 a0.length n0_0), (1, .slice A1_0 a1.length n1_0), (2, .bool a2)]) (by kernel_rfl) ?_
  refine gl_atE (by kernel_rfl) ?_
  refine ge_seq ?_
  refine gk_seq (by kernel_rfl) ?_
  refine gk_region (by kernel_rfl) ?_
  refine gl_pure 1 [0, 1, 2, 7] (K' := [(0, .slice A0_0 a0.length n0_0), (1, .slice A1_0 a1.length n1_0), (2, .bool a2), (7, .slice none 0 0)]) (by kernel_rfl) ?_
  refine gl_atE (by kernel_rfl) ?_
  refine ge_seq ?_
  refine gk_seq (by kernel_rfl) ?_
  refine gk_seq (by kernel_rfl) ?_
  refine gk_region (by kernel_rfl) ?_
  refine gl_pure 3 [1, 2, 7, 10, 11, 12] (K' := [(1, .slice A1_0 a1.length n1_0), (2, .bool a2), (7, .slice none 0 0), (10, .slice A0_0 a0.length n0_0), (11, .int .i64 (a0.length : Int)), (12, .int .i64 0)]) (by kernel_rfl) ?_
  refine gl_atE (by kernel_rfl) ?_
  refine ge_seq ?_
  obtain ⟨r9, hl10, hr⟩ := bind_some hr
  refine gk_join (fun t I' L' => ∃ A22 n23 C24, OwnS kS76 77 I' A22 n23 r9 C24 ∧ I ≤ I' ∧ C24 ++ L = L' ∧ Knows 28 [(7, .slice A22 r9.length n23)] t) ?_ ?_
  · refine gk_block (by kernel_rfl) ?_
    refine gk_pick [1, 2, 7, 10, 11, 12] (K' := [(1, .slice A1_0 a1.length n1_0), (2, .bool a2), (7, .slice none 0 0), (10, .slice A0_0 a0.length n0_0), (11, .int .i64 (a0.length : Int)), (12, .int .i64 0)]) (by kernel_rfl) ?_
    intro t hK
    refine gc_loop (tocsinref04_Pick_l28 a0 a1 a2) (fun s11 t I' L' => ∃ A15 n16 C17, OwnS kS76 77 I' A15 n16 s11.1 C17 ∧ I ≤ I' ∧ C17 ++ L = L' ∧ Knows 28 [(1, .slice A1_0 a1.length n1_0), (2, .bool a2), (7, .slice A15 s11.1.length n16), (10, .slice A0_0 a0.length n0_0), (11, .int .i64 (a0.length : Int)), (12, .int .i64 s11.2)] t) (by kernel_rfl) ?_ hl10 ⟨none, 0, [], OwnS.nil _ _ _ _, (Imm.refl _), rfl, hK⟩
    rintro s11 o12 t I20 L' hb13 ⟨A15, n16, C17, hO18, hI14, rfl, hK19⟩
    unfold tocsinref04_Pick_l28 at hb13
    refine gk_at hK19 ?_
    refine gk_seq (by kernel_rfl) ?_
    refine gk_region (by kernel_rfl) ?_
    refine gl_pure 1 [1, 2, 7, 10, 11, 12, 13] (K' := [(1, .slice A1_0 a1.length n1_0), (2, .bool a2), (7, .slice A15 s11.1.length n16), (10, .slice A0_0 a0.length n0_0), (11, .int .i64 (a0.length : Int)), (12, .int .i64 s11.2), (13, .bool (decide (s11.2 < (a0.length : Int))))]) (by kernel_rfl) ?_
    refine gl_atE (by kernel_rfl) ?_
    refine ge_seq ?_
    refine gk_seq (by kernel_rfl) ?_
    refine gk_cond (b := (decide (s11.2 < (a0.length : Int)))) (by kernel_rfl) (by kernel_rfl) (fun hc30 => ?_) (fun hc30 => ?_)
    · have hb13 := cond_t hc30 hb13
      refine gk_skip (by kernel_rfl) ?_
      refine ge_seq ?_
      refine gk_seq (by kernel_rfl) ?_
      refine gk_block (by kernel_rfl) ?_
      refine gk_seq (by kernel_rfl) ?_
      refine gk_region (by kernel_rfl) ?_
      obtain ⟨x31, hx32, hb13⟩ := bind_some hb13
      obtain ⟨p33, cs34, hR35, hA36, ha37⟩ := RepS.ixAt hx32 (hf0_0.mono hI14)
      have hi38 := ix_some hx32
      obtain rfl := kS76_open hR35
      refine gl_indexAddrF (c := n0_0) (T' := 36) (e := 77) (xs := (.tmp 10)) (xi := (.tmp 12)) (kd := .i64) ha37 hi38.1 hi38.2.1 (by kernel_rfl) (by kernel_rfl) (by kernel_rfl) (by kernel_rfl) (by kernel_rfl) ?_
      refine gl_loadA (T' := 77) (xp := (.tmp 14)) (p := p33) (cs := [.string x31.f0, .string x31.f1]) (by kernel_rfl) (by kernel_rfl) (by kernel_rfl) (by kernel_rfl) (hA36.take 2) ?_
      refine gl_alloc (T' := 77) (cs := #[.string (⟨#[]⟩ : ByteArray), .string (⟨#[]⟩ : ByteArray)]) (by kernel_rfl) (by kernel_rfl) (by kernel_rfl) (fun g39 => ?_)
      refine gl_storeB (T' := 77) (xp := (.tmp 9)) (xv := (.tmp 15)) (v := .agg #[.string x31.f0, .string x31.f1]) (g := g39) (off := 0) (cs := #[.string (⟨#[]⟩ : ByteArray), .string (⟨#[]⟩ : ByteArray)]) (cs' := #[.string x31.f0, .string x31.f1]) (by kernel_rfl) (by kernel_rfl) (by kernel_rfl) (by kernel_rfl) (by kernel_rfl) (Upd.set _ _ _ _) ?_ (by kernel_rfl)
      refine gl_atE (by kernel_rfl) ?_
      refine ge_seq ?_
      refine gk_seq (by kernel_rfl) ?_
      refine gk_region (by kernel_rfl) ?_
      refine gl_pure 2 [1, 2, 7, 9, 10, 11, 12, 16, 17] (K' := [(1, .slice A1_0 a1.length n1_0), (2, .bool a2), (7, .slice A15 s11.1.length n16), (9, .pointer (some ⟨g39, 0, none⟩)), (10, .slice A0_0 a0.length n0_0), (11, .int .i64 (a0.length : Int)), (12, .int .i64 s11.2), (16, .slice A1_0 a1.length n1_0), (17, .pointer (some ⟨g39, 0, none⟩))]) (by kernel_rfl) ?_
      refine gl_loadB (T' := 9) (xp := (.tmp 17)) (v := .string x31.f0) (g := g39) (off := 0) (cs := #[.string x31.f0, .string x31.f1]) (e := 77) (fz := (0, 0)) (by kernel_rfl) (by kernel_rfl) (by kernel_rfl) List.mem_cons_self (by kernel_rfl) ?_
      obtain ⟨y40, hx41, hb13⟩ := bind_some hb13
      refine gl_callQ (by kernel_rfl) (tocsinref04_has_walk (r := y40) (hf1_0.mono hI14) hx41 _) ?_
      refine gl_pure 2 [1, 2, 7, 9, 10, 11, 12, 21] (K' := [(1, .slice A1_0 a1.length n1_0), (2, .bool a2), (7, .slice A15 s11.1.length n16), (9, .pointer (some ⟨g39, 0, none⟩)), (10, .slice A0_0 a0.length n0_0), (11, .int .i64 (a0.length : Int)), (12, .int .i64 s11.2), (21, .bool (y40 == a2))]) (by kernel_rfl) ?_
      refine gl_atE (by kernel_rfl) ?_
      refine ge_seq ?_
      obtain ⟨j42, hj43, hb13⟩ := bind_some hb13
      refine gk_join (fun t I' L' => ∃ A45 n46 C47, OwnS kS76 77 I' A45 n46 j42 C47 ∧ I20 ≤ I' ∧ C47 ++ L = L' ∧ Knows 28 [(1, .slice A1_0 a1.length n1_0), (2, .bool a2), (7, .slice A45 j42.length n46), (10, .slice A0_0 a0.length n0_0), (11, .int .i64 (a0.length : Int)), (12, .int .i64 s11.2)] t) ?_ ?_
      · refine gk_cond (b := (y40 == a2)) (by kernel_rfl) (by kernel_rfl) (fun hc51 => ?_) (fun hc51 => ?_)
        · have hj43 := cond_t hc51 hj43
          refine gk_region (by kernel_rfl) ?_
          refine gl_pure 1 [1, 2, 9, 10, 11, 12, 22] (K' := [(1, .slice A1_0 a1.length n1_0), (2, .bool a2), (9, .pointer (some ⟨g39, 0, none⟩)), (10, .slice A0_0 a0.length n0_0), (11, .int .i64 (a0.length : Int)), (12, .int .i64 s11.2), (22, .slice A15 s11.1.length n16)]) (by kernel_rfl) ?_
          refine gl_loadB (T' := 77) (xp := (.tmp 9)) (v := .agg #[.string x31.f0, .string x31.f1]) (g := g39) (off := 0) (cs := #[.string x31.f0, .string x31.f1]) (e := 77) (fz := (0, 0)) (by kernel_rfl) (by kernel_rfl) (by kernel_rfl) List.mem_cons_self (by kernel_rfl) ?_
          refine gl_buildSlice (T' := 36) (e := 77) (n := 2) (len := 1) (parts := #[(0, (.tmp 23))]) (l := [(0, .agg #[.string x31.f0, .string x31.f1])]) (cs := #[.string x31.f0, .string x31.f1]) (by kernel_rfl) (by kernel_rfl) (by kernel_rfl) (by kernel_rfl) (by kernel_rfl) (fun g52 => ?_)
          have hO53 : OwnS kS76 77 I20 (some ⟨g52, 0, none⟩) 1 [x31] [(g52, .cells #[.string x31.f0, .string x31.f1] 77)] := OwnS.lit (row_cons (l := [.string x31.f0, .string x31.f1]) (kS76_mk (x := x31) ) (row_nil _ _)) rfl rfl rfl
          refine gl_reord (D := [(g52, .cells #[.string x31.f0, .string x31.f1] 77)] ++ ((g39, .cells #[.string x31.f0, .string x31.f1] 77) :: (C17 ++ L))) (Reord.refl _) ?_
          obtain ⟨zs56, hz57, hj43⟩ := bind_some hj43
          refine gl_append (xv := .slice (some ⟨g52, 0, none⟩) [x31].length 1) (d := kS76) (t := 36) (tx := 36) (e := 77) (s := (.tmp 22)) (x := (.tmp 24)) (xs := s11.1) (fun X => [(g52, .cells #[.string x31.f0, .string x31.f1] 77)] ++ ((g39, .cells #[.string x31.f0, .string x31.f1] 77) :: (X ++ L))) hz57 (by kernel_rfl) (by kernel_rfl) (by kernel_rfl) (by kernel_rfl) (by kernel_rfl) (by kernel_rfl) (fun X => (Upd.app _ (Upd.one _ (Upd.head _ X _)))) hO18 (SrcOk.slice (c := 1) (e := 77) (n := 2) (OwnS.rd hO53 (Upd.selfC _ _)) (by kernel_rfl)) (fun A58 n59 C60 hO61 => ?_)
          refine gl_pure 1 [1, 2, 7, 10, 11, 12] (K' := [(1, .slice A1_0 a1.length n1_0), (2, .bool a2), (7, .slice A58 zs56.length n59), (10, .slice A0_0 a0.length n0_0), (11, .int .i64 (a0.length : Int)), (12, .int .i64 s11.2)]) (by kernel_rfl) ?_
          refine gl_reord (D := C60 ++ L) (Reord.step (Upd.app _ (Upd.one _ (Upd.rmC _ _))) (Reord.skipC (Reord.skip (Reord.refl _)))) ?_
          refine gl_atE (by kernel_rfl) ?_
          obtain rfl := some_inj hj43
          exact ge_mid fun t ht => ⟨A58, n59, C60, hO61, (Imm.refl _), rfl, ht.pick (l := [1, 2, 7, 10, 11, 12]) (by kernel_rfl)⟩
        · have hj43 := cond_f hc51 hj43
          refine gk_reord (D := C17 ++ L) (Reord.step (Upd.one _ (Upd.rmC _ _)) (Reord.skip (Reord.refl _))) ?_
          refine gk_skip (by kernel_rfl) ?_
          obtain rfl := some_inj hj43
          exact ge_mid fun t ht => ⟨A15, n16, C17, hO18, (Imm.refl _), rfl, ht.pick (l := [1, 2, 7, 10, 11, 12]) (by kernel_rfl)⟩
      · rintro t I50 L' ⟨A45, n46, C47, hO48, hI44, rfl, hK49⟩
        refine ge_at hK49 ?_
        refine ge_block_normal ?_
        refine ge_seq ?_
        refine gk_region (by kernel_rfl) ?_
        refine gl_pure 2 [1, 2, 7, 10, 11, 12] (K' := [(1, .slice A1_0 a1.length n1_0), (2, .bool a2), (7, .slice A45 j42.length n46), (10, .slice A0_0 a0.length n0_0), (11, .int .i64 (a0.length : Int)), (12, .int .i64 (IntKind.wrap .i64 (s11.2 + 1)))]) (by kernel_rfl) ?_
        refine gl_atE (by kernel_rfl) ?_
        obtain rfl := some_inj hb13
        exact ge_round fun t ht => ⟨A45, n46, C47, hO48, (Imm.trans hI14 hI44), rfl, ht.pick (l := [1, 2, 7, 10, 11, 12]) (by kernel_rfl)⟩
    · have hb13 := cond_f hc30 hb13
      refine gk_exit (by kernel_rfl) ?_
      refine ge_seq_exit ?_
      obtain rfl := some_inj hb13
      refine ge_round_out (fun hrr => ?_) (by intro h; cases h)
      obtain rfl := hrr
      refine ge_block_hit (by kernel_rfl) ?_
      exact ge_mid fun t ht => ⟨A15, n16, C17, hO18, hI14, rfl, ht.pick (l := [7]) (by kernel_rfl)⟩
  · rintro t I27 L' ⟨A22, n23, C24, hO25, hI21, rfl, hK26⟩
    refine ge_at hK26 ?_
    refine ge_seq ?_
    refine gk_seq (by kernel_rfl) ?_
    refine gk_region (by kernel_rfl) ?_
    refine gl_pure 2 [6] (K' := [(6, .slice A22 r9.length n23)]) (by kernel_rfl) ?_
    refine gl_atE (by kernel_rfl) ?_
    refine ge_seq ?_
    refine gk_ret (by kernel_rfl) ?_
    obtain rfl := some_inj hr
    exact ge_result trivial (ResOk.tmp (by kernel_rfl) ResOk.nil) hI21 ⟨A22, n23, C24, hO25, rfl, rfl⟩
noncomputable def tocsinref16_group (a0 : List S76) (a1 : List ByteArray) (a2 : Bool) : Option (List S76) :=
  bif a2 then
  (Option.bind (app ([] : List ByteArray) a1) fun (zs2 : List ByteArray) =>
    Option.bind (app zs2 [(⟨#[95, 95, 110, 97, 109, 101, 95, 95]⟩ : ByteArray)]) fun (zs12 : List ByteArray) =>
    Option.bind (tocsinref04_Pick a0 zs12 false) fun (y22 : (List S76)) =>
    some y22)
  else
  (Option.bind (tocsinref04_Pick a0 a1 true) fun (y31 : (List S76)) =>
    some y31)
theorem tocsinref16_group_walk {a0 : List S76} {A0_0 : Option Addr} {n0_0 : Nat} {a1 : List ByteArray} {A1_0 : Option Addr} {n1_0 : Nat} {a2 : Bool} {I : Imm} {r : (List S76)}  (hf0_0 : RepS kS76 I A0_0 n0_0 a0)  (hf1_0 : RepS Kd.str I A1_0 n1_0 a1) (hr : tocsinref16_group a0 a1 a2 = some r) (L : Own) :
    CallsTo Tryz.prog 70 #[.slice A0_0 a0.length n0_0, .slice A1_0 a1.length n1_0, .bool a2] I L (fun v I' L' => ∃ A0 c0 C0, OwnS kS76 77 I' A0 c0 r C0 ∧ v = .slice A0 r.length c0 ∧ C0 ++ L = L') := by
  unfold tocsinref16_group at hr
  refine callsTo_body (N := 20) Tryz.func70 (by kernel_rfl) (by kernel_rfl) (by kernel_rfl) ?_
  refine gk_pick [0, 1, 2] (K' := [(0, .slice A0_0 a0.length n0_0), (1, .slice A1_0 a1.length n1_0), (2, .bool a2)]) (by kernel_rfl) ?_
  refine gk_seq (by kernel_rfl) ?_
  refine gk_region (by kernel_rfl) ?_
  refine gl_pure 1 [0, 1, 2] (K' := [(0, .slice A0_0 a0.length n0_0), (1, .slice A1_0 a1.length n1_0), (2, .bool a2)]) (by kernel_rfl) ?_
  refine gl_atE (by kernel_rfl) ?_
  refine ge_seq ?_
  refine gk_seq (by kernel_rfl) ?_
  refine gk_seq (by kernel_rfl) ?_
  refine gk_region (by kernel_rfl) ?_
  refine gl_pure 1 [0, 1, 8] (K' := [(0, .slice A0_0 a0.length n0_0), (1, .slice A1_0 a1.length n1_0), (8, .bool a2)]) (by kernel_rfl) ?_
  refine gl_atE (by kernel_rfl) ?_
  refine ge_seq ?_
  refine gk_cond (b := a2) (by kernel_rfl) (by kernel_rfl) (fun hc1 => ?_) (fun hc1 => ?_)
  · have hr := cond_t hc1 hr
    refine gk_seq (by kernel_rfl) ?_
    refine gk_region (by kernel_rfl) ?_
    refine gl_pure 1 [0, 1, 7] (K' := [(0, .slice A0_0 a0.length n0_0), (1, .slice A1_0 a1.length n1_0), (7, .slice none 0 0)]) (by kernel_rfl) ?_
    refine gl_atE (by kernel_rfl) ?_
    refine ge_seq ?_
    refine gk_seq (by kernel_rfl) ?_
    refine gk_region (by kernel_rfl) ?_
    refine gl_pure 2 [0, 9, 10] (K' := [(0, .slice A0_0 a0.length n0_0), (9, .slice none 0 0), (10, .slice A1_0 a1.length n1_0)]) (by kernel_rfl) ?_
    obtain ⟨zs2, hz3, hr⟩ := bind_some hr
    refine gl_append (xv := .slice A1_0 a1.length n1_0) (d := Kd.str) (t := 23) (tx := 23) (e := 9) (s := (.tmp 9)) (x := (.tmp 10)) (xs := []) (A := none) (c := 0) (C := []) (fun X => X ++ L) hz3 (by kernel_rfl) (by kernel_rfl) (by kernel_rfl) (by kernel_rfl) (by kernel_rfl) (by kernel_rfl) (fun X => Upd.new X _) (OwnS.nil _ _ _ none) (SrcOk.slice (c := n1_0) (e := 9) (n := 1) (RepS.rd hf1_0 _) (by kernel_rfl)) (fun A4 n5 C6 hO7 => ?_)
    refine gl_pure 1 [0, 7] (K' := [(0, .slice A0_0 a0.length n0_0), (7, .slice A4 zs2.length n5)]) (by kernel_rfl) ?_
    refine gl_atE (by kernel_rfl) ?_
    refine ge_seq ?_
    refine gk_seq (by kernel_rfl) ?_
    refine gk_region (by kernel_rfl) ?_
    refine gl_pure 2 [12, 13] (K' := [(12, .slice A0_0 a0.length n0_0), (13, .slice A4 zs2.length n5)]) (by kernel_rfl) ?_
    refine gl_buildSlice (T' := 23) (e := 9) (n := 1) (len := 1) (parts := #[(0, (.const (.string (⟨#[95, 95, 110, 97, 109, 101, 95, 95]⟩ : ByteArray))))]) (l := [(0, .string (⟨#[95, 95, 110, 97, 109, 101, 95, 95]⟩ : ByteArray))]) (cs := #[.string (⟨#[95, 95, 110, 97, 109, 101, 95, 95]⟩ : ByteArray)]) (by kernel_rfl) (by kernel_rfl) (by kernel_rfl) (by kernel_rfl) (by kernel_rfl) (fun g8 => ?_)
    have hO9 : OwnS Kd.str 9 I (some ⟨g8, 0, none⟩) 1 [(⟨#[95, 95, 110, 97, 109, 101, 95, 95]⟩ : ByteArray)] [(g8, .cells #[.string (⟨#[95, 95, 110, 97, 109, 101, 95, 95]⟩ : ByteArray)] 9)] := OwnS.lit (row_cons (l := [.string (⟨#[95, 95, 110, 97, 109, 101, 95, 95]⟩ : ByteArray)]) rfl (row_nil _ _)) rfl rfl rfl
    refine gl_reord (D := [(g8, .cells #[.string (⟨#[95, 95, 110, 97, 109, 101, 95, 95]⟩ : ByteArray)] 9)] ++ (C6 ++ L)) (Reord.refl _) ?_
    obtain ⟨zs12, hz13, hr⟩ := bind_some hr
    refine gl_append (xv := .slice (some ⟨g8, 0, none⟩) [(⟨#[95, 95, 110, 97, 109, 101, 95, 95]⟩ : ByteArray)].length 1) (d := Kd.str) (t := 23) (tx := 23) (e := 9) (s := (.tmp 13)) (x := (.tmp 14)) (xs := zs2) (fun X => [(g8, .cells #[.string (⟨#[95, 95, 110, 97, 109, 101, 95, 95]⟩ : ByteArray)] 9)] ++ (X ++ L)) hz13 (by kernel_rfl) (by kernel_rfl) (by kernel_rfl) (by kernel_rfl) (by kernel_rfl) (by kernel_rfl) (fun X => (Upd.app _ (Upd.head _ X _))) hO7 (SrcOk.slice (c := 1) (e := 9) (n := 1) (OwnS.rd hO9 (Upd.selfC _ _)) (by kernel_rfl)) (fun A14 n15 C16 hO17 => ?_)
    refine gl_rest (Tk.step (Upd.app _ (Upd.rmC _ _)) (Tk.nil _)) (fun J18 hJ19 hC20 => ?_)
    have hf21 := (OwnS.rest hO17 hJ19 hC20.left)
    obtain ⟨y22, hx23, hr⟩ := bind_some hr
    refine gl_call (by kernel_rfl) (tocsinref04_Pick_walk (r := y22) (hf0_0.mono hJ19) hf21 hx23 _) ?_
    rintro v I24 L25 hI26 ⟨A27, c28, C29, hO30, rfl, rfl⟩
    refine gl_pure 1 [6] (K' := [(6, .slice A27 y22.length c28)]) (by kernel_rfl) ?_
    refine gl_atE (by kernel_rfl) ?_
    refine ge_seq ?_
    refine gk_reord (D := C29 ++ L) (Reord.step (Upd.rmC _ _) (Reord.skipC (Reord.refl _))) ?_
    refine gk_ret (by kernel_rfl) ?_
    refine ge_seq_ret ?_
    obtain rfl := some_inj hr
    exact ge_result trivial (ResOk.tmp (by kernel_rfl) ResOk.nil) (Imm.trans hJ19 hI26) ⟨A27, c28, C29, hO30, rfl, rfl⟩
  · have hr := cond_f hc1 hr
    refine gk_skip (by kernel_rfl) ?_
    refine ge_seq ?_
    refine gk_seq (by kernel_rfl) ?_
    refine gk_region (by kernel_rfl) ?_
    refine gl_pure 2 [17, 18] (K' := [(17, .slice A0_0 a0.length n0_0), (18, .slice A1_0 a1.length n1_0)]) (by kernel_rfl) ?_
    obtain ⟨y31, hx32, hr⟩ := bind_some hr
    refine gl_call (by kernel_rfl) (tocsinref04_Pick_walk (r := y31) hf0_0 hf1_0 hx32 _) ?_
    rintro v I33 L34 hI35 ⟨A36, c37, C38, hO39, rfl, rfl⟩
    refine gl_pure 1 [6] (K' := [(6, .slice A36 y31.length c37)]) (by kernel_rfl) ?_
    refine gl_atE (by kernel_rfl) ?_
    refine ge_seq ?_
    refine gk_ret (by kernel_rfl) ?_
    obtain rfl := some_inj hr
    exact ge_result trivial (ResOk.tmp (by kernel_rfl) ResOk.nil) hI35 ⟨A36, c37, C38, hO39, rfl, rfl⟩
structure S61 where
  f0 : List S76
  f1 : List S38
def kS61 : Kd S61 := Kd.iso (Kd.pair (Kd.sl kS76) (Kd.sl kS38)) (fun x => (x.f0, x.f1))
theorem kS61_open {I : Imm} {x : S61} {cs : List Value} (h : kS61.R I x cs) : ∃ A0 c0 A1 c1, RepS kS76 I A0 c0 x.f0 ∧ RepS kS38 I A1 c1 x.f1 ∧ cs = [.slice A0 x.f0.length c0, .slice A1 x.f1.length c1] := by
  obtain ⟨_, _, rfl, ⟨A_0, c_0, rfl, h_0⟩, ⟨A_1, c_1, rfl, h_1⟩⟩ := h
  exact ⟨A_0, c_0, A_1, c_1, h_0, h_1, rfl⟩
def kdS61 : KD S61 := (KD.iso (KD.pairR (Kd.sl kS76) (KD.sl kS38 39)) (fun x : S61 => (x.f0, x.f1)))
theorem kdS61_open {I : Imm} {x : S61} {cs : List Value} {C : Own} (h : kdS61.R I x cs C) : ∃ A1 n1 A2 n2, cs = [.slice A1 x.f0.length n1, .slice A2 x.f1.length n2] ∧ RepS kS76 I A1 n1 x.f0 ∧ OwnS kS38 39 I A2 n2 x.f1 C := KD.part_open (f := fun x : S61 => (x.f0, x.f1)) h
theorem kdS61_mk {I : Imm} {x : S61} {C : Own} {A1 A2 : Option Addr} {n1 n2 : Nat} (h1 : RepS kS76 I A1 n1 x.f0) (h2 : OwnS kS38 39 I A2 n2 x.f1 C) : kdS61.R I x [.slice A1 x.f0.length n1, .slice A2 x.f1.length n2] C := KD.part_mk (f := fun x : S61 => (x.f0, x.f1)) h1 h2
noncomputable def tocsinref16_Parts_l78 (s11 : (List S61) × Int) (y54 : (List S76)) : Int → Option ((Int) ⊕ (Int)) := fun s69 =>
  Option.bind (bif (decide (s69 < (s11.1.length : Int))) then
    (Option.bind (ix s11.1 s69) fun (x86 : S61) =>
      Option.bind (tocsinref04_Compare x86.f0 y54) fun (y105 : Int) =>
      some (decide (y105 < 0)))
    else
    (some false)) fun (j80 : Bool) =>
  bif j80 then
  (some (Sum.inl (IntKind.wrap .i64 (s69 + 1))))
  else
  (some (Sum.inr s69))
noncomputable def tocsinref16_Parts_l28 (a0 : List S38) (a1 : List ByteArray) (a2 : Bool) : ((List S61) × Int) → Option (((List S61) × Int) ⊕ ((List S61))) := fun s11 =>
  bif (decide (s11.2 < (a0.length : Int))) then
  (Option.bind (Option.bind (ix a0 s11.2) fun (x40 : S38) =>
      Option.bind (tocsinref16_group x40.f0 a1 a2) fun (y54 : (List S76)) =>
      Option.bind (loopO (tocsinref16_Parts_l78 s11 y54) 0) fun (r67 : Int) =>
      Option.bind (bif (decide (r67 < (s11.1.length : Int))) then
        (Option.bind (ix s11.1 r67) fun (x114 : S61) =>
          Option.bind (tocsinref04_Same x114.f0 y54) fun (y133 : Bool) =>
          some y133)
        else
        (some false)) fun (j108 : Bool) =>
      bif j108 then
      (Option.bind (ix s11.1 r67) fun (x136 : S61) =>
        Option.bind (app x136.f1 [x40]) fun (zs159 : List S38) =>
        some (lset s11.1 r67 (⟨x136.f0, zs159⟩ : S61)))
      else
      (Option.bind (lx s11.1 0 r67) fun (l169 : List S61) =>
        Option.bind (app ([] : List S61) l169) fun (zs172 : List S61) =>
        Option.bind (app zs172 [(⟨y54, [x40]⟩ : S61)]) fun (zs188 : List S61) =>
        Option.bind (lx s11.1 r67 (s11.1.length : Int)) fun (l196 : List S61) =>
        Option.bind (app zs188 l196) fun (zs199 : List S61) =>
        some zs199)) fun (j31 : (List S61)) =>
    some (Sum.inl (j31, (IntKind.wrap .i64 (s11.2 + 1)))))
  else
  (some (Sum.inr s11.1))
noncomputable def tocsinref16_Parts (a0 : List S38) (a1 : List ByteArray) (a2 : Bool) : Option (List S61) :=
  Option.bind (loopO (tocsinref16_Parts_l28 a0 a1 a2) ([], 0)) fun (r9 : (List S61)) =>
  some r9
theorem tocsinref16_Parts_walk {a0 : List S38} {A0_0 : Option Addr} {n0_0 : Nat} {a1 : List ByteArray} {A1_0 : Option Addr} {n1_0 : Nat} {a2 : Bool} {I : Imm} {r : (List S61)}  (hf0_0 : RepS kS38 I A0_0 n0_0 a0)  (hf1_0 : RepS Kd.str I A1_0 n1_0 a1) (hr : tocsinref16_Parts a0 a1 a2 = some r) (L : Own) :
    CallsTo Tryz.prog 69 #[.slice A0_0 a0.length n0_0, .slice A1_0 a1.length n1_0, .bool a2] I L (fun v I' L' => ∃ A0_0 c0_0, RepS kS61 I' A0_0 c0_0 r ∧ v = .slice A0_0 r.length c0_0 ∧ L = L') := by
  unfold tocsinref16_Parts at hr
  refine callsTo_body (N := 85) Tryz.func69 (by kernel_rfl) (by kernel_rfl) (by kernel_rfl) ?_
  refine gk_pick [0, 1, 2] (K' := [(0, .slice A0_0 a0.length n0_0), (1, .slice A1_0 a1.length n1_0), (2, .bool a2)]) (by kernel_rfl) ?_
  refine gk_seq (by kernel_rfl) ?_
  refine gk_region (by kernel_rfl) ?_
  refine gl_pure 1 [0, 1, 2] (K' := [(0, .slice A0_0 a0.length n0_0), (1, .slice A1_0 a1.length n1_0), (2, .bool a2)]) (by kernel_rfl) ?_
  refine gl_atE (by kernel_rfl) ?_
  refine ge_seq ?_
  refine gk_seq (by kernel_rfl) ?_
  refine gk_region (by kernel_rfl) ?_
  refine gl_pure 1 [0, 1, 2, 7] (K' := [(0, .slice A0_0 a0.length n0_0), (1, .slice A1_0 a1.length n1_0), (2, .bool a2), (7, .slice none 0 0)]) (by kernel_rfl) ?_
  refine gl_atE (by kernel_rfl) ?_
  refine ge_seq ?_
  refine gk_seq (by kernel_rfl) ?_
  refine gk_seq (by kernel_rfl) ?_
  refine gk_region (by kernel_rfl) ?_
  refine gl_pure 3 [1, 2, 7, 13, 14, 15] (K' := [(1, .slice A1_0 a1.length n1_0), (2, .bool a2), (7, .slice none 0 0), (13, .slice A0_0 a0.length n0_0), (14, .int .i64 (a0.length : Int)), (15, .int .i64 0)]) (by kernel_rfl) ?_
  refine gl_atE (by kernel_rfl) ?_
  refine ge_seq ?_
  obtain ⟨r9, hl10, hr⟩ := bind_some hr
  refine gk_join (fun t I' L' => ∃ A22 n23 C24, OwnD kdS61 62 I' A22 n23 r9 C24 ∧ I ≤ I' ∧ C24 ++ L = L' ∧ Knows 85 [(7, .slice A22 r9.length n23)] t) ?_ ?_
  · refine gk_block (by kernel_rfl) ?_
    refine gk_pick [1, 2, 7, 13, 14, 15] (K' := [(1, .slice A1_0 a1.length n1_0), (2, .bool a2), (7, .slice none 0 0), (13, .slice A0_0 a0.length n0_0), (14, .int .i64 (a0.length : Int)), (15, .int .i64 0)]) (by kernel_rfl) ?_
    intro t hK
    refine gc_loop (tocsinref16_Parts_l28 a0 a1 a2) (fun s11 t I' L' => ∃ A15 n16 C17, OwnD kdS61 62 I' A15 n16 s11.1 C17 ∧ I ≤ I' ∧ C17 ++ L = L' ∧ Knows 85 [(1, .slice A1_0 a1.length n1_0), (2, .bool a2), (7, .slice A15 s11.1.length n16), (13, .slice A0_0 a0.length n0_0), (14, .int .i64 (a0.length : Int)), (15, .int .i64 s11.2)] t) (by kernel_rfl) ?_ hl10 ⟨none, 0, [], OwnD.nil _ _ _, (Imm.refl _), rfl, hK⟩
    rintro s11 o12 t I20 L' hb13 ⟨A15, n16, C17, hO18, hI14, rfl, hK19⟩
    unfold tocsinref16_Parts_l28 at hb13
    refine gk_at hK19 ?_
    refine gk_seq (by kernel_rfl) ?_
    refine gk_region (by kernel_rfl) ?_
    refine gl_pure 1 [1, 2, 7, 13, 14, 15, 16] (K' := [(1, .slice A1_0 a1.length n1_0), (2, .bool a2), (7, .slice A15 s11.1.length n16), (13, .slice A0_0 a0.length n0_0), (14, .int .i64 (a0.length : Int)), (15, .int .i64 s11.2), (16, .bool (decide (s11.2 < (a0.length : Int))))]) (by kernel_rfl) ?_
    refine gl_atE (by kernel_rfl) ?_
    refine ge_seq ?_
    refine gk_seq (by kernel_rfl) ?_
    refine gk_cond (b := (decide (s11.2 < (a0.length : Int)))) (by kernel_rfl) (by kernel_rfl) (fun hc30 => ?_) (fun hc30 => ?_)
    · have hb13 := cond_t hc30 hb13
      refine gk_skip (by kernel_rfl) ?_
      refine ge_seq ?_
      refine gk_seq (by kernel_rfl) ?_
      obtain ⟨j31, hj32, hb13⟩ := bind_some hb13
      refine gk_join (fun t I' L' => ∃ A34 n35 C36, OwnD kdS61 62 I' A34 n35 j31 C36 ∧ I20 ≤ I' ∧ C36 ++ L = L' ∧ Knows 85 [(1, .slice A1_0 a1.length n1_0), (2, .bool a2), (7, .slice A34 j31.length n35), (13, .slice A0_0 a0.length n0_0), (14, .int .i64 (a0.length : Int)), (15, .int .i64 s11.2)] t) ?_ ?_
      · refine gk_block (by kernel_rfl) ?_
        refine gk_seq (by kernel_rfl) ?_
        refine gk_region (by kernel_rfl) ?_
        obtain ⟨x40, hx41, hj32⟩ := bind_some hj32
        obtain ⟨p42, cs43, hR44, hA45, ha46⟩ := RepS.ixAt hx41 (hf0_0.mono hI14)
        have hi47 := ix_some hx41
        obtain ⟨A48, n49, b51, hf50, hf52, rfl⟩ := kS38_open hR44
        refine gl_indexAddrF (c := n0_0) (T' := 22) (e := 39) (xs := (.tmp 13)) (xi := (.tmp 15)) (kd := .i64) ha46 hi47.1 hi47.2.1 (by kernel_rfl) (by kernel_rfl) (by kernel_rfl) (by kernel_rfl) (by kernel_rfl) ?_
        refine gl_loadA (T' := 39) (xp := (.tmp 17)) (p := p42) (cs := [.slice A48 x40.f0.length n49, .float .f64 b51]) (by kernel_rfl) (by kernel_rfl) (by kernel_rfl) (by kernel_rfl) (hA45.take 2) ?_
        refine gl_alloc (T' := 39) (cs := #[.slice none 0 0, .float .f64 0]) (by kernel_rfl) (by kernel_rfl) (by kernel_rfl) (fun g53 => ?_)
        refine gl_storeB (T' := 39) (xp := (.tmp 9)) (xv := (.tmp 18)) (v := .agg #[.slice A48 x40.f0.length n49, .float .f64 b51]) (g := g53) (off := 0) (cs := #[.slice none 0 0, .float .f64 0]) (cs' := #[.slice A48 x40.f0.length n49, .float .f64 b51]) (by kernel_rfl) (by kernel_rfl) (by kernel_rfl) (by kernel_rfl) (by kernel_rfl) (Upd.set _ _ _ _) ?_ (by kernel_rfl)
        refine gl_atE (by kernel_rfl) ?_
        refine ge_seq ?_
        refine gk_seq (by kernel_rfl) ?_
        refine gk_region (by kernel_rfl) ?_
        refine gl_pure 1 [1, 2, 7, 9, 13, 14, 15, 19] (K' := [(1, .slice A1_0 a1.length n1_0), (2, .bool a2), (7, .slice A15 s11.1.length n16), (9, .pointer (some ⟨g53, 0, none⟩)), (13, .slice A0_0 a0.length n0_0), (14, .int .i64 (a0.length : Int)), (15, .int .i64 s11.2), (19, .pointer (some ⟨g53, 0, none⟩))]) (by kernel_rfl) ?_
        refine gl_loadB (T' := 36) (xp := (.tmp 19)) (v := .slice A48 x40.f0.length n49) (g := g53) (off := 0) (cs := #[.slice A48 x40.f0.length n49, .float .f64 b51]) (e := 39) (fz := (0, 0)) (by kernel_rfl) (by kernel_rfl) (by kernel_rfl) List.mem_cons_self (by kernel_rfl) ?_
        refine gl_pure 2 [1, 2, 7, 9, 13, 14, 15, 20, 21, 22] (K' := [(1, .slice A1_0 a1.length n1_0), (2, .bool a2), (7, .slice A15 s11.1.length n16), (9, .pointer (some ⟨g53, 0, none⟩)), (13, .slice A0_0 a0.length n0_0), (14, .int .i64 (a0.length : Int)), (15, .int .i64 s11.2), (20, .slice A48 x40.f0.length n49), (21, .slice A1_0 a1.length n1_0), (22, .bool a2)]) (by kernel_rfl) ?_
        obtain ⟨y54, hx55, hj32⟩ := bind_some hj32
        refine gl_call (by kernel_rfl) (tocsinref16_group_walk (r := y54) hf50 (hf1_0.mono hI14) hx55 _) ?_
        rintro v I56 L57 hI58 ⟨A59, c60, C61, hO62, rfl, rfl⟩
        refine gl_pure 1 [1, 2, 7, 9, 10, 13, 14, 15] (K' := [(1, .slice A1_0 a1.length n1_0), (2, .bool a2), (7, .slice A15 s11.1.length n16), (9, .pointer (some ⟨g53, 0, none⟩)), (10, .slice A59 y54.length c60), (13, .slice A0_0 a0.length n0_0), (14, .int .i64 (a0.length : Int)), (15, .int .i64 s11.2)]) (by kernel_rfl) ?_
        refine gl_atE (by kernel_rfl) ?_
        refine ge_seq ?_
        refine gk_seq (by kernel_rfl) ?_
        refine gk_region (by kernel_rfl) ?_
        refine gl_pure 1 [1, 2, 7, 9, 10, 11, 13, 14, 15] (K' := [(1, .slice A1_0 a1.length n1_0), (2, .bool a2), (7, .slice A15 s11.1.length n16), (9, .pointer (some ⟨g53, 0, none⟩)), (10, .slice A59 y54.length c60), (11, .int .i64 0), (13, .slice A0_0 a0.length n0_0), (14, .int .i64 (a0.length : Int)), (15, .int .i64 s11.2)]) (by kernel_rfl) ?_
        refine gl_atE (by kernel_rfl) ?_
        refine ge_seq ?_
        refine gk_seq (by kernel_rfl) ?_
        obtain ⟨r67, hl68, hj32⟩ := bind_some hj32
        refine gk_join (fun t I' L' => I56 ≤ I' ∧ C61 ++ ((g53, .cells #[.slice A48 x40.f0.length n49, .float .f64 b51] 39) :: (C17 ++ L)) = L' ∧ Knows 85 [(1, .slice A1_0 a1.length n1_0), (2, .bool a2), (7, .slice A15 s11.1.length n16), (9, .pointer (some ⟨g53, 0, none⟩)), (10, .slice A59 y54.length c60), (11, .int .i64 r67), (13, .slice A0_0 a0.length n0_0), (14, .int .i64 (a0.length : Int)), (15, .int .i64 s11.2)] t) ?_ ?_
        · refine gk_block (by kernel_rfl) ?_
          refine gk_pick [1, 2, 7, 9, 10, 11, 13, 14, 15] (K' := [(1, .slice A1_0 a1.length n1_0), (2, .bool a2), (7, .slice A15 s11.1.length n16), (9, .pointer (some ⟨g53, 0, none⟩)), (10, .slice A59 y54.length c60), (11, .int .i64 0), (13, .slice A0_0 a0.length n0_0), (14, .int .i64 (a0.length : Int)), (15, .int .i64 s11.2)]) (by kernel_rfl) ?_
          intro t hK
          refine gc_loop (tocsinref16_Parts_l78 s11 y54) (fun s69 t I' L' => I56 ≤ I' ∧ C61 ++ ((g53, .cells #[.slice A48 x40.f0.length n49, .float .f64 b51] 39) :: (C17 ++ L)) = L' ∧ Knows 85 [(1, .slice A1_0 a1.length n1_0), (2, .bool a2), (7, .slice A15 s11.1.length n16), (9, .pointer (some ⟨g53, 0, none⟩)), (10, .slice A59 y54.length c60), (11, .int .i64 s69), (13, .slice A0_0 a0.length n0_0), (14, .int .i64 (a0.length : Int)), (15, .int .i64 s11.2)] t) (by kernel_rfl) ?_ hl68 ⟨(Imm.refl _), rfl, hK⟩
          rintro s69 o70 t I74 L' hb71 ⟨hI72, rfl, hK73⟩
          unfold tocsinref16_Parts_l78 at hb71
          refine gk_at hK73 ?_
          refine gk_seq (by kernel_rfl) ?_
          refine gk_seq (by kernel_rfl) ?_
          obtain ⟨j80, hj81, hb71⟩ := bind_some hb71
          refine gk_join (fun t I' L' => I74 ≤ I' ∧ C61 ++ ((g53, .cells #[.slice A48 x40.f0.length n49, .float .f64 b51] 39) :: (C17 ++ L)) = L' ∧ Knows 85 [(1, .slice A1_0 a1.length n1_0), (2, .bool a2), (7, .slice A15 s11.1.length n16), (9, .pointer (some ⟨g53, 0, none⟩)), (10, .slice A59 y54.length c60), (11, .int .i64 s69), (13, .slice A0_0 a0.length n0_0), (14, .int .i64 (a0.length : Int)), (15, .int .i64 s11.2), (37, .bool j80)] t) ?_ ?_
          · refine gk_region (by kernel_rfl) ?_
            refine gl_pure 5 [1, 2, 7, 9, 10, 11, 13, 14, 15, 28] (K' := [(1, .slice A1_0 a1.length n1_0), (2, .bool a2), (7, .slice A15 s11.1.length n16), (9, .pointer (some ⟨g53, 0, none⟩)), (10, .slice A59 y54.length c60), (11, .int .i64 s69), (13, .slice A0_0 a0.length n0_0), (14, .int .i64 (a0.length : Int)), (15, .int .i64 s11.2), (28, .bool (decide (s69 < (s11.1.length : Int))))]) (by kernel_rfl) ?_
            refine gl_case 28 (b := (decide (s69 < (s11.1.length : Int)))) (by kernel_rfl) (fun hc85 => ?_) (fun hc85 => ?_)
            · have hj81 := cond_t hc85 hj81
              refine gl_pure 2 [1, 2, 7, 9, 10, 11, 13, 14, 15, 28, 29, 30] (K' := [(1, .slice A1_0 a1.length n1_0), (2, .bool a2), (7, .slice A15 s11.1.length n16), (9, .pointer (some ⟨g53, 0, none⟩)), (10, .slice A59 y54.length c60), (11, .int .i64 s69), (13, .slice A0_0 a0.length n0_0), (14, .int .i64 (a0.length : Int)), (15, .int .i64 s11.2), (28, .bool true), (29, .slice A15 s11.1.length n16), (30, .int .i64 s69)]) (by kernel_rfl) ?_
              obtain ⟨x86, hx87, hj81⟩ := bind_some hj81
              obtain ⟨cs88, C89, C90, hR91, hH92, hp93⟩ := OwnD.take (hO18.mono (Imm.trans hI58 hI72)) hx87
              obtain ⟨A102, n103, A99, n100, rfl, hf104, hO101⟩ := kdS61_open hR91
              obtain ⟨p94, hA95, ha96, hg97⟩ := OwnH.at_ hH92
              have hi98 := ix_some hx87
              refine gl_indexAddrF (c := n16) (T' := 58) (e := 62) (xs := (.tmp 29)) (xi := (.tmp 30)) (kd := .i64) ha96 hi98.1 hi98.2.1 (by kernel_rfl) (by kernel_rfl) (by kernel_rfl) (by kernel_rfl) (by kernel_rfl) ?_
              refine gl_pure 1 [1, 2, 7, 9, 10, 11, 13, 14, 15, 28, 32] (K' := [(1, .slice A1_0 a1.length n1_0), (2, .bool a2), (7, .slice A15 s11.1.length n16), (9, .pointer (some ⟨g53, 0, none⟩)), (10, .slice A59 y54.length c60), (11, .int .i64 s69), (13, .slice A0_0 a0.length n0_0), (14, .int .i64 (a0.length : Int)), (15, .int .i64 s11.2), (28, .bool true), (32, .pointer (some (p94.add 0)))]) (by kernel_rfl) ?_
              refine gl_loadO (T' := 36) (xp := (.tmp 32)) (p := (p94.add 0)) (c := .slice A102 x86.f0.length n103) (n := 1) (by kernel_rfl) (by kernel_rfl) (by kernel_rfl) (by kernel_rfl) ((fun I' L' h => ((OwnH.inC hp93 hA95) I' L' h).drop 0) _ _ (fun q hq => (List.mem_append_right _ (List.mem_cons_of_mem _ (List.mem_append_left _ hq))))) ?_
              refine gl_pure 1 [1, 2, 7, 9, 10, 11, 13, 14, 15, 28, 33, 34] (K' := [(1, .slice A1_0 a1.length n1_0), (2, .bool a2), (7, .slice A15 s11.1.length n16), (9, .pointer (some ⟨g53, 0, none⟩)), (10, .slice A59 y54.length c60), (11, .int .i64 s69), (13, .slice A0_0 a0.length n0_0), (14, .int .i64 (a0.length : Int)), (15, .int .i64 s11.2), (28, .bool true), (33, .slice A102 x86.f0.length n103), (34, .slice A59 y54.length c60)]) (by kernel_rfl) ?_
              obtain ⟨y105, hx106, hj81⟩ := bind_some hj81
              refine gl_callB (r := .int .i64 y105) (Tk.step (Upd.rmC _ _) (Tk.nil _)) (by kernel_rfl) (fun J hJ hC => tocsinref04_Compare_walk (r := y105) (hf104.mono hJ) (OwnS.rest (hO62.mono hI72) hJ hC.left) hx106 _) ?_
              refine gl_pure 2 [1, 2, 7, 9, 10, 11, 13, 14, 15, 37] (K' := [(1, .slice A1_0 a1.length n1_0), (2, .bool a2), (7, .slice A15 s11.1.length n16), (9, .pointer (some ⟨g53, 0, none⟩)), (10, .slice A59 y54.length c60), (11, .int .i64 s69), (13, .slice A0_0 a0.length n0_0), (14, .int .i64 (a0.length : Int)), (15, .int .i64 s11.2), (37, .bool (decide (y105 < 0)))]) (by kernel_rfl) ?_
              refine gl_atE (by kernel_rfl) ?_
              obtain rfl := some_inj hj81
              exact ge_mid fun t ht => ⟨(Imm.refl _), rfl, ht.pick (l := [1, 2, 7, 9, 10, 11, 13, 14, 15, 37]) (by kernel_rfl)⟩
            · have hj81 := cond_f hc85 hj81
              refine gl_pure 9 [1, 2, 7, 9, 10, 11, 13, 14, 15, 37] (K' := [(1, .slice A1_0 a1.length n1_0), (2, .bool a2), (7, .slice A15 s11.1.length n16), (9, .pointer (some ⟨g53, 0, none⟩)), (10, .slice A59 y54.length c60), (11, .int .i64 s69), (13, .slice A0_0 a0.length n0_0), (14, .int .i64 (a0.length : Int)), (15, .int .i64 s11.2), (37, .bool false)]) (by kernel_rfl) ?_
              refine gl_atE (by kernel_rfl) ?_
              obtain rfl := some_inj hj81
              exact ge_mid fun t ht => ⟨(Imm.refl _), rfl, ht.pick (l := [1, 2, 7, 9, 10, 11, 13, 14, 15, 37]) (by kernel_rfl)⟩
          · rintro t I84 L' ⟨hI82, rfl, hK83⟩
            refine ge_at hK83 ?_
            refine ge_seq ?_
            refine gk_cond (b := j80) (by kernel_rfl) (by kernel_rfl) (fun hc107 => ?_) (fun hc107 => ?_)
            · have hb71 := cond_t hc107 hb71
              refine gk_skip (by kernel_rfl) ?_
              refine ge_seq ?_
              refine gk_block (by kernel_rfl) ?_
              refine gk_region (by kernel_rfl) ?_
              refine gl_pure 3 [1, 2, 7, 9, 10, 11, 13, 14, 15] (K' := [(1, .slice A1_0 a1.length n1_0), (2, .bool a2), (7, .slice A15 s11.1.length n16), (9, .pointer (some ⟨g53, 0, none⟩)), (10, .slice A59 y54.length c60), (11, .int .i64 (IntKind.wrap .i64 (s69 + 1))), (13, .slice A0_0 a0.length n0_0), (14, .int .i64 (a0.length : Int)), (15, .int .i64 s11.2)]) (by kernel_rfl) ?_
              refine gl_atE (by kernel_rfl) ?_
              refine ge_block_normal ?_
              obtain rfl := some_inj hb71
              exact ge_round fun t ht => ⟨(Imm.trans hI72 hI82), rfl, ht.pick (l := [1, 2, 7, 9, 10, 11, 13, 14, 15]) (by kernel_rfl)⟩
            · have hb71 := cond_f hc107 hb71
              refine gk_exit (by kernel_rfl) ?_
              refine ge_seq_exit ?_
              obtain rfl := some_inj hb71
              refine ge_round_out (fun hrr => ?_) (by intro h; cases h)
              obtain rfl := hrr
              refine ge_block_hit (by kernel_rfl) ?_
              exact ge_mid fun t ht => ⟨(Imm.trans hI72 hI82), rfl, ht.pick (l := [1, 2, 7, 9, 10, 11, 13, 14, 15]) (by kernel_rfl)⟩
        · rintro t I77 L' ⟨hI75, rfl, hK76⟩
          refine ge_at hK76 ?_
          refine ge_seq ?_
          refine gk_seq (by kernel_rfl) ?_
          refine gk_seq (by kernel_rfl) ?_
          obtain ⟨j108, hj109, hj32⟩ := bind_some hj32
          refine gk_join (fun t I' L' => I77 ≤ I' ∧ C61 ++ ((g53, .cells #[.slice A48 x40.f0.length n49, .float .f64 b51] 39) :: (C17 ++ L)) = L' ∧ Knows 85 [(1, .slice A1_0 a1.length n1_0), (2, .bool a2), (7, .slice A15 s11.1.length n16), (9, .pointer (some ⟨g53, 0, none⟩)), (10, .slice A59 y54.length c60), (11, .int .i64 r67), (13, .slice A0_0 a0.length n0_0), (14, .int .i64 (a0.length : Int)), (15, .int .i64 s11.2), (52, .bool j108)] t) ?_ ?_
          · refine gk_region (by kernel_rfl) ?_
            refine gl_pure 5 [1, 2, 7, 9, 10, 11, 13, 14, 15, 44] (K' := [(1, .slice A1_0 a1.length n1_0), (2, .bool a2), (7, .slice A15 s11.1.length n16), (9, .pointer (some ⟨g53, 0, none⟩)), (10, .slice A59 y54.length c60), (11, .int .i64 r67), (13, .slice A0_0 a0.length n0_0), (14, .int .i64 (a0.length : Int)), (15, .int .i64 s11.2), (44, .bool (decide (r67 < (s11.1.length : Int))))]) (by kernel_rfl) ?_
            refine gl_case 44 (b := (decide (r67 < (s11.1.length : Int)))) (by kernel_rfl) (fun hc113 => ?_) (fun hc113 => ?_)
            · have hj109 := cond_t hc113 hj109
              refine gl_pure 2 [1, 2, 7, 9, 10, 11, 13, 14, 15, 44, 45, 46] (K' := [(1, .slice A1_0 a1.length n1_0), (2, .bool a2), (7, .slice A15 s11.1.length n16), (9, .pointer (some ⟨g53, 0, none⟩)), (10, .slice A59 y54.length c60), (11, .int .i64 r67), (13, .slice A0_0 a0.length n0_0), (14, .int .i64 (a0.length : Int)), (15, .int .i64 s11.2), (44, .bool true), (45, .slice A15 s11.1.length n16), (46, .int .i64 r67)]) (by kernel_rfl) ?_
              obtain ⟨x114, hx115, hj109⟩ := bind_some hj109
              obtain ⟨cs116, C117, C118, hR119, hH120, hp121⟩ := OwnD.take (hO18.mono (Imm.trans hI58 hI75)) hx115
              obtain ⟨A130, n131, A127, n128, rfl, hf132, hO129⟩ := kdS61_open hR119
              obtain ⟨p122, hA123, ha124, hg125⟩ := OwnH.at_ hH120
              have hi126 := ix_some hx115
              refine gl_indexAddrF (c := n16) (T' := 58) (e := 62) (xs := (.tmp 45)) (xi := (.tmp 46)) (kd := .i64) ha124 hi126.1 hi126.2.1 (by kernel_rfl) (by kernel_rfl) (by kernel_rfl) (by kernel_rfl) (by kernel_rfl) ?_
              refine gl_pure 1 [1, 2, 7, 9, 10, 11, 13, 14, 15, 44, 48] (K' := [(1, .slice A1_0 a1.length n1_0), (2, .bool a2), (7, .slice A15 s11.1.length n16), (9, .pointer (some ⟨g53, 0, none⟩)), (10, .slice A59 y54.length c60), (11, .int .i64 r67), (13, .slice A0_0 a0.length n0_0), (14, .int .i64 (a0.length : Int)), (15, .int .i64 s11.2), (44, .bool true), (48, .pointer (some (p122.add 0)))]) (by kernel_rfl) ?_
              refine gl_loadO (T' := 36) (xp := (.tmp 48)) (p := (p122.add 0)) (c := .slice A130 x114.f0.length n131) (n := 1) (by kernel_rfl) (by kernel_rfl) (by kernel_rfl) (by kernel_rfl) ((fun I' L' h => ((OwnH.inC hp121 hA123) I' L' h).drop 0) _ _ (fun q hq => (List.mem_append_right _ (List.mem_cons_of_mem _ (List.mem_append_left _ hq))))) ?_
              refine gl_pure 1 [1, 2, 7, 9, 10, 11, 13, 14, 15, 44, 49, 50] (K' := [(1, .slice A1_0 a1.length n1_0), (2, .bool a2), (7, .slice A15 s11.1.length n16), (9, .pointer (some ⟨g53, 0, none⟩)), (10, .slice A59 y54.length c60), (11, .int .i64 r67), (13, .slice A0_0 a0.length n0_0), (14, .int .i64 (a0.length : Int)), (15, .int .i64 s11.2), (44, .bool true), (49, .slice A130 x114.f0.length n131), (50, .slice A59 y54.length c60)]) (by kernel_rfl) ?_
              obtain ⟨y133, hx134, hj109⟩ := bind_some hj109
              refine gl_callB (r := .bool y133) (Tk.step (Upd.rmC _ _) (Tk.nil _)) (by kernel_rfl) (fun J hJ hC => tocsinref04_Same_walk (r := y133) (hf132.mono hJ) (OwnS.rest (hO62.mono hI75) hJ hC.left) hx134 _) ?_
              refine gl_pure 1 [1, 2, 7, 9, 10, 11, 13, 14, 15, 52] (K' := [(1, .slice A1_0 a1.length n1_0), (2, .bool a2), (7, .slice A15 s11.1.length n16), (9, .pointer (some ⟨g53, 0, none⟩)), (10, .slice A59 y54.length c60), (11, .int .i64 r67), (13, .slice A0_0 a0.length n0_0), (14, .int .i64 (a0.length : Int)), (15, .int .i64 s11.2), (52, .bool y133)]) (by kernel_rfl) ?_
              refine gl_atE (by kernel_rfl) ?_
              obtain rfl := some_inj hj109
              exact ge_mid fun t ht => ⟨(Imm.refl _), rfl, ht.pick (l := [1, 2, 7, 9, 10, 11, 13, 14, 15, 52]) (by kernel_rfl)⟩
            · have hj109 := cond_f hc113 hj109
              refine gl_pure 8 [1, 2, 7, 9, 10, 11, 13, 14, 15, 52] (K' := [(1, .slice A1_0 a1.length n1_0), (2, .bool a2), (7, .slice A15 s11.1.length n16), (9, .pointer (some ⟨g53, 0, none⟩)), (10, .slice A59 y54.length c60), (11, .int .i64 r67), (13, .slice A0_0 a0.length n0_0), (14, .int .i64 (a0.length : Int)), (15, .int .i64 s11.2), (52, .bool false)]) (by kernel_rfl) ?_
              refine gl_atE (by kernel_rfl) ?_
              obtain rfl := some_inj hj109
              exact ge_mid fun t ht => ⟨(Imm.refl _), rfl, ht.pick (l := [1, 2, 7, 9, 10, 11, 13, 14, 15, 52]) (by kernel_rfl)⟩
          · rintro t I112 L' ⟨hI110, rfl, hK111⟩
            refine ge_at hK111 ?_
            refine ge_seq ?_
            refine gk_cond (b := j108) (by kernel_rfl) (by kernel_rfl) (fun hc135 => ?_) (fun hc135 => ?_)
            · have hj32 := cond_t hc135 hj32
              refine gk_seq (by kernel_rfl) ?_
              refine gk_drawS 12 [(0, true), (1, true), (2, true), (3, true), (4, true), (5, true), (6, true), (7, true), (8, false), (9, false), (10, false), (11, true)] [6] [(g53, .cells #[.slice A48 x40.f0.length n49, .float .f64 b51] 39)] (C17 ++ [(g53, .cells #[.slice A48 x40.f0.length n49, .float .f64 b51] 39)]) (List.forall_mem_append.2 ⟨fun q hq => (List.mem_append_right _ (List.mem_cons_of_mem _ (List.mem_append_left _ hq))), (List.forall_mem_cons.2 ⟨(List.mem_append_right _ List.mem_cons_self), (fun p hp => by cases hp)⟩)⟩) (fun p hp => List.mem_append_right _ ((fun p hp => hp) p hp)) (by kernel_rfl) (by kernel_rfl) (by kernel_rfl) ?_ (by kernel_rfl)
              refine gd_pure 4 [1, 2, 7, 9, 13, 14, 15, 53, 54, 55, 56] (K' := [(1, .slice A1_0 a1.length n1_0), (2, .bool a2), (7, .slice A15 s11.1.length n16), (9, .pointer (some ⟨g53, 0, none⟩)), (13, .slice A0_0 a0.length n0_0), (14, .int .i64 (a0.length : Int)), (15, .int .i64 s11.2), (53, .slice A15 s11.1.length n16), (54, .int .i64 r67), (55, .slice A15 s11.1.length n16), (56, .int .i64 r67)]) (s' := [(4, true), (5, true), (6, true), (7, true), (8, false), (9, false), (10, false), (11, true)]) (CC.refl (List.forall_mem_append.2 ⟨fun q hq => (List.mem_append_right _ (List.mem_cons_of_mem _ (List.mem_append_left _ hq))), (List.forall_mem_cons.2 ⟨(List.mem_append_right _ List.mem_cons_self), (fun p hp => by cases hp)⟩)⟩)) (by kernel_rfl) ?_
              obtain ⟨x136, hx137, hj32⟩ := bind_some hj32
              obtain ⟨cs138, C139, C140, hR141, hH142, hp143⟩ := OwnD.take (hO18.mono (Imm.trans (Imm.trans hI58 hI75) hI110)) hx137
              obtain ⟨A152, n153, A149, n150, rfl, hf154, hO151⟩ := kdS61_open hR141
              obtain ⟨p144, hA145, ha146, hg147⟩ := OwnH.at_ hH142
              have hi148 := ix_some hx137
              refine gd_q (v := .pointer (some p144)) (by kernel_rfl) (by kernel_rfl) (CC.refl (List.forall_mem_append.2 ⟨fun q hq => (List.mem_append_right _ (List.mem_cons_of_mem _ (List.mem_append_left _ hq))), (List.forall_mem_cons.2 ⟨(List.mem_append_right _ List.mem_cons_self), (fun p hp => by cases hp)⟩)⟩)) (fun I' L' T hC kk => gl_indexAddrF (c := n16) (T' := 58) (e := 62) (xs := (.tmp 55)) (xi := (.tmp 56)) (kd := .i64) ha146 hi148.1 hi148.2.1 (by kernel_rfl) (by kernel_rfl) (by kernel_rfl) (by kernel_rfl) (by kernel_rfl) kk) ?_
              refine gd_pure 1 [1, 2, 7, 9, 13, 14, 15, 53, 54, 58] (K' := [(1, .slice A1_0 a1.length n1_0), (2, .bool a2), (7, .slice A15 s11.1.length n16), (9, .pointer (some ⟨g53, 0, none⟩)), (13, .slice A0_0 a0.length n0_0), (14, .int .i64 (a0.length : Int)), (15, .int .i64 s11.2), (53, .slice A15 s11.1.length n16), (54, .int .i64 r67), (58, .pointer (some (p144.add 1)))]) (s' := [(6, true), (7, true), (8, false), (9, false), (10, false), (11, true)]) (CC.refl (List.forall_mem_append.2 ⟨fun q hq => (List.mem_append_right _ (List.mem_cons_of_mem _ (List.mem_append_left _ hq))), (List.forall_mem_cons.2 ⟨(List.mem_append_right _ List.mem_cons_self), (fun p hp => by cases hp)⟩)⟩)) (by kernel_rfl) ?_
              refine gd_q (v := .slice A149 x136.f1.length n150) (by kernel_rfl) (by kernel_rfl) (CC.refl (List.forall_mem_append.2 ⟨fun q hq => (List.mem_append_right _ (List.mem_cons_of_mem _ (List.mem_append_left _ hq))), (List.forall_mem_cons.2 ⟨(List.mem_append_right _ List.mem_cons_self), (fun p hp => by cases hp)⟩)⟩)) (fun I' L' T hC kk => gl_loadO (T' := 22) (xp := (.tmp 58)) (p := (p144.add 1)) (c := .slice A149 x136.f1.length n150) (n := 1) (by kernel_rfl) (by kernel_rfl) (by kernel_rfl) (by kernel_rfl) ((fun I' L' h => ((OwnH.inC hp143 hA145) I' L' h).drop 1) _ _ (fun q hq => hC.sub _ (List.mem_append_left _ hq))) kk) ?_
              refine gd_q (v := .agg #[.slice A48 x40.f0.length n49, .float .f64 b51]) (by kernel_rfl) (by kernel_rfl) (CC.refl (List.forall_mem_append.2 ⟨fun q hq => (List.mem_append_right _ (List.mem_cons_of_mem _ (List.mem_append_left _ hq))), (List.forall_mem_cons.2 ⟨(List.mem_append_right _ List.mem_cons_self), (fun p hp => by cases hp)⟩)⟩)) (fun I' L' T hC kk => gl_loadB (T' := 39) (xp := (.tmp 9)) (v := .agg #[.slice A48 x40.f0.length n49, .float .f64 b51]) (g := g53) (off := 0) (cs := #[.slice A48 x40.f0.length n49, .float .f64 b51]) (e := 39) (fz := (0, 0)) (by kernel_rfl) (by kernel_rfl) (by kernel_rfl) (hC.sub _ List.mem_cons_self) (by kernel_rfl) kk) ?_
              refine gd_one (by kernel_rfl) ?_
              refine gl_buildSlice (T' := 22) (e := 39) (n := 2) (len := 1) (parts := #[(0, (.tmp 60))]) (l := [(0, .agg #[.slice A48 x40.f0.length n49, .float .f64 b51])]) (cs := #[.slice A48 x40.f0.length n49, .float .f64 b51]) (by kernel_rfl) (by kernel_rfl) (by kernel_rfl) (by kernel_rfl) (by kernel_rfl) (fun g155 => ?_)
              have hO156 : OwnS kS38 39 I112 (some ⟨g155, 0, none⟩) 1 [x40] [(g155, .cells #[.slice A48 x40.f0.length n49, .float .f64 b51] 39)] := OwnS.lit (row_cons (l := [.slice A48 x40.f0.length n49, .float .f64 b51]) (kS38_mk (x := x40) (hf50.mono (Imm.trans (Imm.trans hI58 hI75) hI110)) hf52) (row_nil _ _)) rfl rfl rfl
              refine gl_reord (D := [(g155, .cells #[.slice A48 x40.f0.length n49, .float .f64 b51] 39)] ++ (C61 ++ ((g53, .cells #[.slice A48 x40.f0.length n49, .float .f64 b51] 39) :: (C17 ++ L)))) (Reord.refl _) ?_
              refine gl_toD (by kernel_rfl) ⟨(Imm.refl _), (List.forall_mem_append.2 ⟨fun q hq => (List.mem_append_right _ (List.mem_append_right _ (List.mem_cons_of_mem _ (List.mem_append_left _ hq)))), (List.forall_mem_cons.2 ⟨(List.mem_append_right _ (List.mem_append_right _ List.mem_cons_self)), (fun p hp => by cases hp)⟩)⟩)⟩ ?_
              refine gd_flip (by kernel_rfl) (by kernel_rfl) ?_
              refine gl_reord (D := C17 ++ ([(g155, .cells #[.slice A48 x40.f0.length n49, .float .f64 b51] 39)] ++ (C61 ++ ((g53, .cells #[.slice A48 x40.f0.length n49, .float .f64 b51] 39) :: L)))) (Reord.step (Upd.app _ (Upd.app _ (Upd.one _ (Upd.rmC _ _)))) (Reord.step (Upd.rmC _ _) (Reord.step (Upd.rmC _ _) (Reord.step1 (Upd.rm1 _ _) (Reord.refl _))))) ?_
              refine gl_split hp143 ?_
              obtain ⟨zs159, hz160, hj32⟩ := bind_some hj32
              refine gl_append (xv := .slice (some ⟨g155, 0, none⟩) [x40].length 1) (d := kS38) (t := 22) (tx := 22) (e := 39) (s := (.tmp 59)) (x := (.tmp 61)) (xs := x136.f1) (fun X => C140 ++ (X ++ ([(g155, .cells #[.slice A48 x40.f0.length n49, .float .f64 b51] 39)] ++ (C61 ++ ((g53, .cells #[.slice A48 x40.f0.length n49, .float .f64 b51] 39) :: L))))) hz160 (by kernel_rfl) (by kernel_rfl) (by kernel_rfl) (by kernel_rfl) (by kernel_rfl) (by kernel_rfl) (fun X => (Upd.app _ (Upd.head _ X _))) hO151 (SrcOk.slice (c := 1) (e := 39) (n := 2) (OwnS.rd hO156 (Upd.app _ (Upd.app _ (Upd.selfC _ _)))) (by kernel_rfl)) (fun A161 n162 C163 hO164 => ?_)
              refine gl_toD (by kernel_rfl) ⟨(Imm.refl _), (List.forall_mem_cons.2 ⟨(List.mem_append_right _ (List.mem_append_right _ (List.mem_append_right _ (List.mem_append_right _ List.mem_cons_self)))), (fun p hp => by cases hp)⟩)⟩ ?_
              refine gd_one (by kernel_rfl) ?_
              refine gl_indexAddrF (c := n16) (T' := 58) (e := 62) (xs := (.tmp 53)) (xi := (.tmp 54)) (kd := .i64) ha146 hi148.1 hi148.2.1 (by kernel_rfl) (by kernel_rfl) (by kernel_rfl) (by kernel_rfl) (by kernel_rfl) ?_
              refine gl_toD (by kernel_rfl) ⟨(Imm.refl _), (List.forall_mem_cons.2 ⟨(List.mem_append_right _ (List.mem_append_right _ (List.mem_append_right _ (List.mem_append_right _ List.mem_cons_self)))), (fun p hp => by cases hp)⟩)⟩ ?_
              refine gd_pure 1 [1, 2, 7, 13, 14, 15, 62, 64] (K' := [(1, .slice A1_0 a1.length n1_0), (2, .bool a2), (7, .slice A15 s11.1.length n16), (13, .slice A0_0 a0.length n0_0), (14, .int .i64 (a0.length : Int)), (15, .int .i64 s11.2), (62, .slice A161 zs159.length n162), (64, .pointer (some (p144.add 1)))]) (s' := []) (CC.refl (List.forall_mem_cons.2 ⟨(List.mem_append_right _ (List.mem_append_right _ (List.mem_append_right _ (List.mem_append_right _ List.mem_cons_self)))), (fun p hp => by cases hp)⟩)) (by kernel_rfl) ?_
              refine gd_done ?_
              have hl167 : s11.1.length = (lset s11.1 r67 (⟨x136.f0, zs159⟩ : S61)).length := by simp [lset]
              refine gl_storeD (T' := 22) (xp := (.tmp 64)) (xv := (.tmp 62)) (v := .slice A161 zs159.length n162) (off := 1) (x' := (⟨x136.f0, zs159⟩ : S61)) hH142 (kdS61_mk (x := (⟨x136.f0, zs159⟩ : S61)) hf154 hO164) hg147 (by kernel_rfl) (by kernel_rfl) (by kernel_rfl) (by kernel_rfl) (by kernel_rfl) (by kernel_rfl) (by kernel_rfl) (fun C165 hO166 => ?_)
              try rw [hl167]
              refine gl_atE (by kernel_rfl) ?_
              refine ge_seq ?_
              refine gk_reord (D := C165 ++ L) (Reord.step (Upd.rmC _ _) (Reord.skipC (Reord.skipC (Reord.skip (Reord.refl _))))) ?_
              refine gk_exit (by kernel_rfl) ?_
              refine ge_seq_exit ?_
              refine ge_block_hit (by kernel_rfl) ?_
              obtain rfl := some_inj hj32
              exact ge_mid fun t ht => ⟨A15, n16, C165, hO166, (Imm.trans (Imm.trans hI58 hI75) hI110), rfl, ht.pick (l := [1, 2, 7, 13, 14, 15]) (by kernel_rfl)⟩
            · have hj32 := cond_f hc135 hj32
              refine gk_skip (by kernel_rfl) ?_
              refine ge_seq ?_
              refine gk_seq (by kernel_rfl) ?_
              refine gk_region (by kernel_rfl) ?_
              refine gl_pure 1 [1, 2, 7, 9, 10, 11, 12, 13, 14, 15] (K' := [(1, .slice A1_0 a1.length n1_0), (2, .bool a2), (7, .slice A15 s11.1.length n16), (9, .pointer (some ⟨g53, 0, none⟩)), (10, .slice A59 y54.length c60), (11, .int .i64 r67), (12, .slice none 0 0), (13, .slice A0_0 a0.length n0_0), (14, .int .i64 (a0.length : Int)), (15, .int .i64 s11.2)]) (by kernel_rfl) ?_
              refine gl_atE (by kernel_rfl) ?_
              refine ge_seq ?_
              refine gk_seq (by kernel_rfl) ?_
              refine gk_region (by kernel_rfl) ?_
              refine gl_pure 3 [1, 2, 7, 9, 10, 11, 13, 14, 15, 65, 66, 67] (K' := [(1, .slice A1_0 a1.length n1_0), (2, .bool a2), (7, .slice A15 s11.1.length n16), (9, .pointer (some ⟨g53, 0, none⟩)), (10, .slice A59 y54.length c60), (11, .int .i64 r67), (13, .slice A0_0 a0.length n0_0), (14, .int .i64 (a0.length : Int)), (15, .int .i64 s11.2), (65, .slice none 0 0), (66, .slice A15 s11.1.length n16), (67, .int .i64 r67)]) (by kernel_rfl) ?_
              obtain ⟨l169, hx168, hj32⟩ := bind_some hj32
              have hlc170 := OwnD.lenc (hO18.mono (Imm.trans (Imm.trans hI58 hI75) hI110))
              have hd171 := lx_take hx168
              refine gl_sliceH (A := A15) (c := n16) (n := 2) (T' := 58) (e := 62) (xs := (.tmp 66)) (lo := none) (hi := (some (.tmp 67))) hx168 hlc170 (by kernel_rfl) (by kernel_rfl) (by kernel_rfl) (by kernel_rfl) (by kernel_rfl) (by kernel_rfl) ?_
              obtain ⟨zs172, hz173, hj32⟩ := bind_some hj32
              refine gl_reord (D := C17 ++ (C61 ++ ((g53, .cells #[.slice A48 x40.f0.length n49, .float .f64 b51] 39) :: L))) (Reord.step (Upd.app _ (Upd.one _ (Upd.rmC _ _))) (Reord.step (Upd.rmC _ _) (Reord.step1 (Upd.rm1 _ _) (Reord.refl _)))) ?_
              refine gl_mv1 (kd := kdS61) (A := A15) (c := n16) (xs := s11.1) (b := r67) (C := C17) (e := 62) (t := 58) (tx := 58) (s := (.tmp 65)) (x := (.tmp 68)) hx168 hz173 (by kernel_rfl) (by kernel_rfl) (by kernel_rfl) (by kernel_rfl) (by kernel_rfl) (by kernel_rfl) (by kernel_rfl) (hO18.mono (Imm.trans (Imm.trans hI58 hI75) hI110)) (fun A174 n175 C176 C177 hM178 => ?_)
              refine gl_pure 1 [1, 2, 7, 9, 10, 11, 12, 13, 14, 15] (K' := [(1, .slice A1_0 a1.length n1_0), (2, .bool a2), (7, .slice A15 s11.1.length n16), (9, .pointer (some ⟨g53, 0, none⟩)), (10, .slice A59 y54.length c60), (11, .int .i64 r67), (12, .slice A174 zs172.length n175), (13, .slice A0_0 a0.length n0_0), (14, .int .i64 (a0.length : Int)), (15, .int .i64 s11.2)]) (by kernel_rfl) ?_
              refine gl_atE (by kernel_rfl) ?_
              refine ge_seq ?_
              refine gk_seq (by kernel_rfl) ?_
              refine gk_region (by kernel_rfl) ?_
              refine gl_pure 2 [1, 2, 7, 9, 11, 13, 14, 15, 70, 71] (K' := [(1, .slice A1_0 a1.length n1_0), (2, .bool a2), (7, .slice A15 s11.1.length n16), (9, .pointer (some ⟨g53, 0, none⟩)), (11, .int .i64 r67), (13, .slice A0_0 a0.length n0_0), (14, .int .i64 (a0.length : Int)), (15, .int .i64 s11.2), (70, .slice A174 zs172.length n175), (71, .slice A59 y54.length c60)]) (by kernel_rfl) ?_
              refine gl_loadB (T' := 39) (xp := (.tmp 9)) (v := .agg #[.slice A48 x40.f0.length n49, .float .f64 b51]) (g := g53) (off := 0) (cs := #[.slice A48 x40.f0.length n49, .float .f64 b51]) (e := 39) (fz := (0, 0)) (by kernel_rfl) (by kernel_rfl) (by kernel_rfl) (List.mem_append_right _ (List.mem_append_right _ (List.mem_append_right _ List.mem_cons_self))) (by kernel_rfl) ?_
              refine gl_buildSlice (T' := 22) (e := 39) (n := 2) (len := 1) (parts := #[(0, (.tmp 72))]) (l := [(0, .agg #[.slice A48 x40.f0.length n49, .float .f64 b51])]) (cs := #[.slice A48 x40.f0.length n49, .float .f64 b51]) (by kernel_rfl) (by kernel_rfl) (by kernel_rfl) (by kernel_rfl) (by kernel_rfl) (fun g179 => ?_)
              have hO180 : OwnS kS38 39 I112 (some ⟨g179, 0, none⟩) 1 [x40] [(g179, .cells #[.slice A48 x40.f0.length n49, .float .f64 b51] 39)] := OwnS.lit (row_cons (l := [.slice A48 x40.f0.length n49, .float .f64 b51]) (kS38_mk (x := x40) (hf50.mono (Imm.trans (Imm.trans hI58 hI75) hI110)) hf52) (row_nil _ _)) rfl rfl rfl
              refine gl_reord (D := [(g179, .cells #[.slice A48 x40.f0.length n49, .float .f64 b51] 39)] ++ (C177 ++ (C176 ++ (C61 ++ ((g53, .cells #[.slice A48 x40.f0.length n49, .float .f64 b51] 39) :: L))))) (Reord.refl _) ?_
              refine gl_pure 1 [1, 2, 7, 11, 13, 14, 15, 70, 74] (K' := [(1, .slice A1_0 a1.length n1_0), (2, .bool a2), (7, .slice A15 s11.1.length n16), (11, .int .i64 r67), (13, .slice A0_0 a0.length n0_0), (14, .int .i64 (a0.length : Int)), (15, .int .i64 s11.2), (70, .slice A174 zs172.length n175), (74, .agg #[.slice A59 y54.length c60, .slice (some ⟨g179, 0, none⟩) [x40].length 1])]) (by kernel_rfl) ?_
              refine gl_rest (Tk.step (Upd.app _ (Upd.app _ (Upd.app _ (Upd.rmC _ _)))) (Tk.nil _)) (fun J183 hJ184 hC185 => ?_)
              have hf186 := (OwnS.rest (hO62.mono (Imm.trans hI75 hI110)) hJ184 hC185.left)
              refine gl_buildSlice (T' := 58) (e := 62) (n := 2) (len := 1) (parts := #[(0, (.tmp 74))]) (l := [(0, .agg #[.slice A59 y54.length c60, .slice (some ⟨g179, 0, none⟩) [x40].length 1])]) (cs := #[.slice A59 y54.length c60, .slice (some ⟨g179, 0, none⟩) [x40].length 1]) (by kernel_rfl) (by kernel_rfl) (by kernel_rfl) (by kernel_rfl) (by kernel_rfl) (fun g187 => ?_)
              refine gl_reord (D := [(g187, .cells #[.slice A59 y54.length c60, .slice (some ⟨g179, 0, none⟩) [x40].length 1] 62)] ++ ([(g179, .cells #[.slice A48 x40.f0.length n49, .float .f64 b51] 39)] ++ (C177 ++ (C176 ++ ((g53, .cells #[.slice A48 x40.f0.length n49, .float .f64 b51] 39) :: L))))) (Reord.refl _) ?_
              obtain ⟨zs188, hz189, hj32⟩ := bind_some hj32
              refine gl_reord (D := C177 ++ (C176 ++ ([(g179, .cells #[.slice A48 x40.f0.length n49, .float .f64 b51] 39)] ++ ([(g187, .cells #[.slice A59 y54.length c60, .slice (some ⟨g179, 0, none⟩) [x40].length 1] 62)] ++ ((g53, .cells #[.slice A48 x40.f0.length n49, .float .f64 b51] 39) :: L))))) (Reord.step (Upd.app _ (Upd.app _ (Upd.rmC _ _))) (Reord.step (Upd.app _ (Upd.app _ (Upd.rmC _ _))) (Reord.step (Upd.app _ (Upd.rmC _ _)) (Reord.step (Upd.rmC _ _) (Reord.step1 (Upd.rm1 _ _) (Reord.refl _)))))) ?_
              have hq194 : kdS61.R J183 (⟨y54, [x40]⟩ : S61) [.slice A59 y54.length c60, .slice (some ⟨g179, 0, none⟩) [x40].length 1] [(g179, .cells #[.slice A48 x40.f0.length n49, .float .f64 b51] 39)] := kdS61_mk (x := (⟨y54, [x40]⟩ : S61)) hf186 (hO180.mono hJ184)
              refine gl_mv2 (kd := kdS61) (A := A15) (c := n16) (xs := s11.1) (b := r67) (An := A174) (cn := n175) (zs := zs172) (Co := C176) (Cn := C177) (Cy := [(g179, .cells #[.slice A48 x40.f0.length n49, .float .f64 b51] 39)]) (R := [(g187, .cells #[.slice A59 y54.length c60, .slice (some ⟨g179, 0, none⟩) [x40].length 1] 62)] ++ ((g53, .cells #[.slice A48 x40.f0.length n49, .float .f64 b51] 39) :: L)) (cy := [.slice A59 y54.length c60, .slice (some ⟨g179, 0, none⟩) [x40].length 1]) (xv := .slice (some ⟨g187, 0, none⟩) 1 1) (y := (⟨y54, [x40]⟩ : S61)) (e := 62) (t := 58) (tx := 58) (s := (.tmp 70)) (x := (.tmp 75)) hz189 (by kernel_rfl) (by kernel_rfl) (by kernel_rfl) (by kernel_rfl) (by kernel_rfl) (by kernel_rfl) (hM178.mono hJ184) hq194 (SrcOk.slice (c := 1) (e := 62) (n := 2) (OwnS.rd (OwnS.lit (row_cons (l := [.slice A59 y54.length c60, .slice (some ⟨g179, 0, none⟩) [x40].length 1]) ⟨rfl, rfl, KD.one kdS61 hq194⟩ (row_nil _ _)) rfl rfl rfl : OwnS (Kd.raw 2) 62 J183 (some ⟨g187, 0, none⟩) 1 [[.slice A59 y54.length c60, .slice (some ⟨g179, 0, none⟩) [x40].length 1]] [(g187, .cells #[.slice A59 y54.length c60, .slice (some ⟨g179, 0, none⟩) [x40].length 1] 62)]) (Upd.app _ (Upd.app _ (Upd.app _ (Upd.selfC _ _))))) (by kernel_rfl)) (fun A190 n191 C192 hM193 => ?_)
              refine gl_reord (D := C192 ++ (C176 ++ ((g53, .cells #[.slice A48 x40.f0.length n49, .float .f64 b51] 39) :: L))) (Reord.step (Upd.rmC _ _) (Reord.step (Upd.rmC _ _) (Reord.step1 (Upd.app _ (Upd.rm1 _ _)) (Reord.skipC (Reord.refl _))))) ?_
              refine gl_pure 1 [1, 2, 7, 11, 12, 13, 14, 15] (K' := [(1, .slice A1_0 a1.length n1_0), (2, .bool a2), (7, .slice A15 s11.1.length n16), (11, .int .i64 r67), (12, .slice A190 zs188.length n191), (13, .slice A0_0 a0.length n0_0), (14, .int .i64 (a0.length : Int)), (15, .int .i64 s11.2)]) (by kernel_rfl) ?_
              refine gl_atE (by kernel_rfl) ?_
              refine ge_seq ?_
              refine gk_seq (by kernel_rfl) ?_
              refine gk_region (by kernel_rfl) ?_
              refine gl_pure 3 [1, 2, 13, 14, 15, 77, 78, 79] (K' := [(1, .slice A1_0 a1.length n1_0), (2, .bool a2), (13, .slice A0_0 a0.length n0_0), (14, .int .i64 (a0.length : Int)), (15, .int .i64 s11.2), (77, .slice A190 zs188.length n191), (78, .slice A15 s11.1.length n16), (79, .int .i64 r67)]) (by kernel_rfl) ?_
              obtain ⟨l196, hx195, hj32⟩ := bind_some hj32
              have hlc197 := MV2.lenc hM193
              have hV198 := MV2.view hx195 hM193
              refine gl_sliceT (A := A15) (c := n16) (n := 2) (T' := 58) (e := 62) (xs := (.tmp 78)) (lo := (some (.tmp 79))) hx195 hlc197 (by kernel_rfl) (by kernel_rfl) (by kernel_rfl) (by kernel_rfl) (by kernel_rfl) ?_
              obtain ⟨zs199, hz200, hj32⟩ := bind_some hj32
              refine gl_mv3 (kd := kdS61) (n := 2) (A := A15) (c := n16) (xs := s11.1) (b := r67) (An := A190) (cn := n191) (zs := zs188) (Co := C176) (Cn := C192) (R := (g53, .cells #[.slice A48 x40.f0.length n49, .float .f64 b51] 39) :: L) (A2 := (viewA A15 r67 2 n16)) (c2 := (n16 - (r67).toNat)) (e := 62) (t := 58) (tx := 58) (s := (.tmp 77)) (x := (.tmp 80)) hx195 hz200 (by kernel_rfl) (by kernel_rfl) (by kernel_rfl) (by kernel_rfl) (by kernel_rfl) (by kernel_rfl) (by kernel_rfl) hV198 hM193 (fun A201 n202 C203 hO204 => ?_)
              refine gl_pure 1 [1, 2, 12, 13, 14, 15] (K' := [(1, .slice A1_0 a1.length n1_0), (2, .bool a2), (12, .slice A201 zs199.length n202), (13, .slice A0_0 a0.length n0_0), (14, .int .i64 (a0.length : Int)), (15, .int .i64 s11.2)]) (by kernel_rfl) ?_
              refine gl_atE (by kernel_rfl) ?_
              refine ge_seq ?_
              refine gk_region (by kernel_rfl) ?_
              refine gl_pure 2 [1, 2, 7, 13, 14, 15] (K' := [(1, .slice A1_0 a1.length n1_0), (2, .bool a2), (7, .slice A201 zs199.length n202), (13, .slice A0_0 a0.length n0_0), (14, .int .i64 (a0.length : Int)), (15, .int .i64 s11.2)]) (by kernel_rfl) ?_
              refine gl_reord (D := C203 ++ L) (Reord.step (Upd.rmC _ _) (Reord.skip (Reord.refl _))) ?_
              refine gl_atE (by kernel_rfl) ?_
              refine ge_block_normal ?_
              obtain rfl := some_inj hj32
              exact ge_mid fun t ht => ⟨A201, n202, C203, hO204, (Imm.trans (Imm.trans (Imm.trans hI58 hI75) hI110) hJ184), rfl, ht.pick (l := [1, 2, 7, 13, 14, 15]) (by kernel_rfl)⟩
      · rintro t I39 L' ⟨A34, n35, C36, hO37, hI33, rfl, hK38⟩
        refine ge_at hK38 ?_
        refine ge_seq ?_
        refine gk_region (by kernel_rfl) ?_
        refine gl_pure 2 [1, 2, 7, 13, 14, 15] (K' := [(1, .slice A1_0 a1.length n1_0), (2, .bool a2), (7, .slice A34 j31.length n35), (13, .slice A0_0 a0.length n0_0), (14, .int .i64 (a0.length : Int)), (15, .int .i64 (IntKind.wrap .i64 (s11.2 + 1)))]) (by kernel_rfl) ?_
        refine gl_atE (by kernel_rfl) ?_
        obtain rfl := some_inj hb13
        exact ge_round fun t ht => ⟨A34, n35, C36, hO37, (Imm.trans hI14 hI33), rfl, ht.pick (l := [1, 2, 7, 13, 14, 15]) (by kernel_rfl)⟩
    · have hb13 := cond_f hc30 hb13
      refine gk_exit (by kernel_rfl) ?_
      refine ge_seq_exit ?_
      obtain rfl := some_inj hb13
      refine ge_round_out (fun hrr => ?_) (by intro h; cases h)
      obtain rfl := hrr
      refine ge_block_hit (by kernel_rfl) ?_
      exact ge_mid fun t ht => ⟨A15, n16, C17, hO18, hI14, rfl, ht.pick (l := [7]) (by kernel_rfl)⟩
  · rintro t I27 L' ⟨A22, n23, C24, hO25, hI21, rfl, hK26⟩
    refine ge_at hK26 ?_
    refine ge_seq ?_
    refine gk_seq (by kernel_rfl) ?_
    refine gk_region (by kernel_rfl) ?_
    refine gl_pure 2 [6] (K' := [(6, .slice A22 r9.length n23)]) (by kernel_rfl) ?_
    refine gl_atE (by kernel_rfl) ?_
    refine ge_seq ?_
    refine gk_rest (Tk.step (Upd.rmC _ _) (Tk.nil _)) (fun J205 hJ206 hC207 => ?_)
    have hf208 := (OwnD.rest hO25 hJ206 hC207.left)
    refine gk_ret (by kernel_rfl) ?_
    obtain rfl := some_inj hr
    exact ge_result trivial (ResOk.tmp (by kernel_rfl) ResOk.nil) (Imm.trans hI21 hJ206) ⟨A22, n23, hf208, rfl, rfl⟩
noncomputable def tocsinref16_Groups (a0 : List S38) (a1 : List ByteArray) (a2 : Bool) : Option ((List S61) × Int) :=
  Option.bind (tocsinref15_Vector a0) fun (y1 : (List S38) × Int) =>
  bif (y1.2 != 0) then
  (some ([], y1.2))
  else
  (Option.bind (tocsinref16_Named a1) fun (y11 : Bool) =>
    bif (!y11) then
    (some ([], 40))
    else
    (Option.bind (tocsinref16_Parts y1.1 a1 a2) fun (y18 : (List S61)) =>
      some (y18, 0)))
theorem tocsinref16_Groups_walk {a0 : List S38} {A0_0 : Option Addr} {n0_0 : Nat} {a1 : List ByteArray} {A1_0 : Option Addr} {n1_0 : Nat} {a2 : Bool} {I : Imm} {r : (List S61) × Int}  (hf0_0 : RepS kS38 I A0_0 n0_0 a0)  (hf1_0 : RepS Kd.str I A1_0 n1_0 a1) (hr : tocsinref16_Groups a0 a1 a2 = some r) (L : Own) :
    CallsTo Tryz.prog 31 #[.slice A0_0 a0.length n0_0, .slice A1_0 a1.length n1_0, .bool a2] I L (fun v I' L' => ∃ A0_0 c0_0, RepS kS61 I' A0_0 c0_0 r.1 ∧ v = .tuple #[.slice A0_0 r.1.length c0_0, .int .i64 r.2] ∧ L = L') := by
  unfold tocsinref16_Groups at hr
  refine callsTo_body (N := 25) Tryz.func31 (by kernel_rfl) (by kernel_rfl) (by kernel_rfl) ?_
  refine gk_pick [0, 1, 2] (K' := [(0, .slice A0_0 a0.length n0_0), (1, .slice A1_0 a1.length n1_0), (2, .bool a2)]) (by kernel_rfl) ?_
  refine gk_seq (by kernel_rfl) ?_
  refine gk_region (by kernel_rfl) ?_
  refine gl_pure 2 [0, 1, 2] (K' := [(0, .slice A0_0 a0.length n0_0), (1, .slice A1_0 a1.length n1_0), (2, .bool a2)]) (by kernel_rfl) ?_
  refine gl_atE (by kernel_rfl) ?_
  refine ge_seq ?_
  refine gk_seq (by kernel_rfl) ?_
  refine gk_region (by kernel_rfl) ?_
  refine gl_pure 1 [1, 2, 11] (K' := [(1, .slice A1_0 a1.length n1_0), (2, .bool a2), (11, .slice A0_0 a0.length n0_0)]) (by kernel_rfl) ?_
  obtain ⟨y1, hx2, hr⟩ := bind_some hr
  refine gl_call (by kernel_rfl) (tocsinref15_Vector_walk (r := y1) hf0_0 hx2 _) ?_
  rintro v I3 L4 hI5 ⟨A6, c7, C8, hO9, rfl, rfl⟩
  refine gl_pure 5 [1, 2, 8, 9] (K' := [(1, .slice A1_0 a1.length n1_0), (2, .bool a2), (8, .slice A6 y1.1.length c7), (9, .int .i64 y1.2)]) (by kernel_rfl) ?_
  refine gl_atE (by kernel_rfl) ?_
  refine ge_seq ?_
  refine gk_seq (by kernel_rfl) ?_
  refine gk_seq (by kernel_rfl) ?_
  refine gk_region (by kernel_rfl) ?_
  refine gl_pure 2 [1, 2, 8, 9, 16] (K' := [(1, .slice A1_0 a1.length n1_0), (2, .bool a2), (8, .slice A6 y1.1.length c7), (9, .int .i64 y1.2), (16, .bool (y1.2 != 0))]) (by kernel_rfl) ?_
  refine gl_atE (by kernel_rfl) ?_
  refine ge_seq ?_
  refine gk_cond (b := (y1.2 != 0)) (by kernel_rfl) (by kernel_rfl) (fun hc10 => ?_) (fun hc10 => ?_)
  · have hr := cond_t hc10 hr
    refine gk_seq (by kernel_rfl) ?_
    refine gk_region (by kernel_rfl) ?_
    refine gl_pure 3 [6, 7] (K' := [(6, .slice none 0 0), (7, .int .i64 y1.2)]) (by kernel_rfl) ?_
    refine gl_atE (by kernel_rfl) ?_
    refine ge_seq ?_
    refine gk_reord (D := L) (Reord.skipC (Reord.refl _)) ?_
    refine gk_ret (by kernel_rfl) ?_
    refine ge_seq_ret ?_
    obtain rfl := some_inj hr
    exact ge_result trivial (ResOk.tmp (by kernel_rfl) (ResOk.tmp (by kernel_rfl) ResOk.nil)) hI5 ⟨none, 0, RepS.nil _ _, rfl, rfl⟩
  · have hr := cond_f hc10 hr
    refine gk_skip (by kernel_rfl) ?_
    refine ge_seq ?_
    refine gk_seq (by kernel_rfl) ?_
    refine gk_seq (by kernel_rfl) ?_
    refine gk_region (by kernel_rfl) ?_
    refine gl_pure 1 [1, 2, 8, 18] (K' := [(1, .slice A1_0 a1.length n1_0), (2, .bool a2), (8, .slice A6 y1.1.length c7), (18, .slice A1_0 a1.length n1_0)]) (by kernel_rfl) ?_
    obtain ⟨y11, hx12, hr⟩ := bind_some hr
    refine gl_callQ (by kernel_rfl) (tocsinref16_Named_walk (r := y11) (hf1_0.mono hI5) hx12 _) ?_
    refine gl_pure 1 [1, 2, 8, 20] (K' := [(1, .slice A1_0 a1.length n1_0), (2, .bool a2), (8, .slice A6 y1.1.length c7), (20, .bool (!y11))]) (by kernel_rfl) ?_
    refine gl_atE (by kernel_rfl) ?_
    refine ge_seq ?_
    refine gk_cond (b := (!y11)) (by kernel_rfl) (by kernel_rfl) (fun hc13 => ?_) (fun hc13 => ?_)
    · have hr := cond_t hc13 hr
      refine gk_seq (by kernel_rfl) ?_
      refine gk_region (by kernel_rfl) ?_
      refine gl_pure 2 [6, 7] (K' := [(6, .slice none 0 0), (7, .int .i64 40)]) (by kernel_rfl) ?_
      refine gl_atE (by kernel_rfl) ?_
      refine ge_seq ?_
      refine gk_reord (D := L) (Reord.skipC (Reord.refl _)) ?_
      refine gk_ret (by kernel_rfl) ?_
      refine ge_seq_ret ?_
      obtain rfl := some_inj hr
      exact ge_result trivial (ResOk.tmp (by kernel_rfl) (ResOk.tmp (by kernel_rfl) ResOk.nil)) hI5 ⟨none, 0, RepS.nil _ _, rfl, rfl⟩
    · have hr := cond_f hc13 hr
      refine gk_skip (by kernel_rfl) ?_
      refine ge_seq ?_
      refine gk_seq (by kernel_rfl) ?_
      refine gk_region (by kernel_rfl) ?_
      refine gl_pure 3 [21, 22, 23] (K' := [(21, .slice A6 y1.1.length c7), (22, .slice A1_0 a1.length n1_0), (23, .bool a2)]) (by kernel_rfl) ?_
      refine gl_rest (Tk.step (Upd.rmC _ _) (Tk.nil _)) (fun J14 hJ15 hC16 => ?_)
      have hf17 := (OwnS.rest hO9 hJ15 hC16.left)
      obtain ⟨y18, hx19, hr⟩ := bind_some hr
      refine gl_call (by kernel_rfl) (tocsinref16_Parts_walk (r := y18) hf17 (hf1_0.mono (Imm.trans hI5 hJ15)) hx19 _) ?_
      rintro v I20 L21 hI22 ⟨A23, c24, hf25, rfl, rfl⟩
      refine gl_pure 2 [6, 7] (K' := [(6, .slice A23 y18.length c24), (7, .int .i64 0)]) (by kernel_rfl) ?_
      refine gl_atE (by kernel_rfl) ?_
      refine ge_seq ?_
      refine gk_ret (by kernel_rfl) ?_
      obtain rfl := some_inj hr
      exact ge_result trivial (ResOk.tmp (by kernel_rfl) (ResOk.tmp (by kernel_rfl) ResOk.nil)) (Imm.trans (Imm.trans hI5 hJ15) hI22) ⟨A23, c24, hf25, rfl, rfl⟩
noncomputable def tocsinref11_SamePoints_l18 (a0 : List S38) (a1 : List S38) : Int → Option ((Int) ⊕ ((Unit) ⊕ (Bool))) := fun s8 =>
  bif (decide (s8 < (a0.length : Int))) then
  (Option.bind (Option.bind (ix a0 s8) fun (x26 : S38) =>
      Option.bind (ix a1 s8) fun (x39 : S38) =>
      Option.bind (tocsinref04_Same x26.f0 x39.f0) fun (y52 : Bool) =>
      bif (!y52) then
      (some true)
      else
      (Option.bind (ix a0 s8) fun (x55 : S38) =>
        Option.bind (fbits x55.f1) fun (q68 : Int) =>
        Option.bind (ix a1 s8) fun (x70 : S38) =>
        Option.bind (fbits x70.f1) fun (q83 : Int) =>
        some (q68 != q83))) fun (j21 : Bool) =>
    bif j21 then
    (some (Sum.inr (Sum.inr false)))
    else
    (some (Sum.inl (IntKind.wrap .i64 (s8 + 1)))))
  else
  (some (Sum.inr (Sum.inl ())))
noncomputable def tocsinref11_SamePoints (a0 : List S38) (a1 : List S38) : Option Bool :=
  bif ((a0.length : Int) != (a1.length : Int)) then
  (some false)
  else
  (Option.bind (loopO (tocsinref11_SamePoints_l18 a0 a1) 0) fun (r6 : (Unit) ⊕ (Bool)) =>
    match r6 with
    | Sum.inl r14 => some true
    | Sum.inr v86 => some v86)
theorem tocsinref11_SamePoints_walk {a0 : List S38} {A0_0 : Option Addr} {n0_0 : Nat} {a1 : List S38} {A1_0 : Option Addr} {n1_0 : Nat} {I : Imm} {r : Bool}  (hf0_0 : RepS kS38 I A0_0 n0_0 a0)  (hf1_0 : RepS kS38 I A1_0 n1_0 a1) (hr : tocsinref11_SamePoints a0 a1 = some r) (L : Own) :
    CallsTo Tryz.prog 16 #[.slice A0_0 a0.length n0_0, .slice A1_0 a1.length n1_0] I L (fun v I' L' => v = .bool r ∧ L = L') := by
  unfold tocsinref11_SamePoints at hr
  refine callsTo_body (N := 44) Tryz.func16 (by kernel_rfl) (by kernel_rfl) (by kernel_rfl) ?_
  refine gk_pick [0, 1] (K' := [(0, .slice A0_0 a0.length n0_0), (1, .slice A1_0 a1.length n1_0)]) (by kernel_rfl) ?_
  refine gk_seq (by kernel_rfl) ?_
  refine gk_region (by kernel_rfl) ?_
  refine gl_pure 1 [0, 1] (K' := [(0, .slice A0_0 a0.length n0_0), (1, .slice A1_0 a1.length n1_0)]) (by kernel_rfl) ?_
  refine gl_atE (by kernel_rfl) ?_
  refine ge_seq ?_
  refine gk_seq (by kernel_rfl) ?_
  refine gk_seq (by kernel_rfl) ?_
  refine gk_region (by kernel_rfl) ?_
  refine gl_pure 5 [0, 1, 10] (K' := [(0, .slice A0_0 a0.length n0_0), (1, .slice A1_0 a1.length n1_0), (10, .bool ((a0.length : Int) != (a1.length : Int)))]) (by kernel_rfl) ?_
  refine gl_atE (by kernel_rfl) ?_
  refine ge_seq ?_
  refine gk_cond (b := ((a0.length : Int) != (a1.length : Int))) (by kernel_rfl) (by kernel_rfl) (fun hc1 => ?_) (fun hc1 => ?_)
  · have hr := cond_t hc1 hr
    refine gk_seq (by kernel_rfl) ?_
    refine gk_region (by kernel_rfl) ?_
    refine gl_pure 1 [4] (K' := [(4, .bool false)]) (by kernel_rfl) ?_
    refine gl_atE (by kernel_rfl) ?_
    refine ge_seq ?_
    refine gk_ret (by kernel_rfl) ?_
    refine ge_seq_ret ?_
    obtain rfl := some_inj hr
    exact ge_result trivial (ResOk.tmp (by kernel_rfl) ResOk.nil) (Imm.refl _) ⟨rfl, rfl⟩
  · have hr := cond_f hc1 hr
    refine gk_skip (by kernel_rfl) ?_
    refine ge_seq ?_
    refine gk_seq (by kernel_rfl) ?_
    refine gk_seq (by kernel_rfl) ?_
    refine gk_region (by kernel_rfl) ?_
    refine gl_pure 1 [0, 1, 5] (K' := [(0, .slice A0_0 a0.length n0_0), (1, .slice A1_0 a1.length n1_0), (5, .int .i64 0)]) (by kernel_rfl) ?_
    refine gl_atE (by kernel_rfl) ?_
    refine ge_seq ?_
    obtain ⟨r6, hl7, hr⟩ := bind_some hr
    refine gk_join (fun t I' L' => ∃ r14, r6 = Sum.inl r14 ∧ I ≤ I' ∧ L = L' ∧ Knows 44 [] t) ?_ ?_
    · refine gk_block (by kernel_rfl) ?_
      refine gk_pick [0, 1, 5] (K' := [(0, .slice A0_0 a0.length n0_0), (1, .slice A1_0 a1.length n1_0), (5, .int .i64 0)]) (by kernel_rfl) ?_
      intro t hK
      refine gc_loop (tocsinref11_SamePoints_l18 a0 a1) (fun s8 t I' L' => I ≤ I' ∧ L = L' ∧ Knows 44 [(0, .slice A0_0 a0.length n0_0), (1, .slice A1_0 a1.length n1_0), (5, .int .i64 s8)] t) (by kernel_rfl) ?_ hl7 ⟨(Imm.refl _), rfl, hK⟩
      rintro s8 o9 t I13 L' hb10 ⟨hI11, rfl, hK12⟩
      unfold tocsinref11_SamePoints_l18 at hb10
      refine gk_at hK12 ?_
      refine gk_seq (by kernel_rfl) ?_
      refine gk_seq (by kernel_rfl) ?_
      refine gk_region (by kernel_rfl) ?_
      refine gl_pure 4 [0, 1, 5, 14] (K' := [(0, .slice A0_0 a0.length n0_0), (1, .slice A1_0 a1.length n1_0), (5, .int .i64 s8), (14, .bool (decide (s8 < (a0.length : Int))))]) (by kernel_rfl) ?_
      refine gl_atE (by kernel_rfl) ?_
      refine ge_seq ?_
      refine gk_cond (b := (decide (s8 < (a0.length : Int)))) (by kernel_rfl) (by kernel_rfl) (fun hc20 => ?_) (fun hc20 => ?_)
      · have hb10 := cond_t hc20 hb10
        refine gk_skip (by kernel_rfl) ?_
        refine ge_seq ?_
        refine gk_seq (by kernel_rfl) ?_
        refine gk_block (by kernel_rfl) ?_
        refine gk_seq (by kernel_rfl) ?_
        obtain ⟨j21, hj22, hb10⟩ := bind_some hb10
        refine gk_join (fun t I' L' => I13 ≤ I' ∧ L = L' ∧ Knows 44 [(0, .slice A0_0 a0.length n0_0), (1, .slice A1_0 a1.length n1_0), (5, .int .i64 s8), (43, .bool j21)] t) ?_ ?_
        · refine gk_draw 24 [(0, true), (1, true), (2, true), (3, true), (4, true), (5, true), (6, true), (7, true), (8, true), (9, true), (10, true), (11, true), (12, true), (13, true), (14, true), (15, true), (16, true), (17, true), (18, true), (19, true), (20, true), (21, true), (22, true), (23, true)] [] (fun p hp => by cases hp) (by kernel_rfl) (by kernel_rfl) (by kernel_rfl) ?_ (by kernel_rfl)
          refine gd_pure 2 [0, 1, 5, 17, 18] (K' := [(0, .slice A0_0 a0.length n0_0), (1, .slice A1_0 a1.length n1_0), (5, .int .i64 s8), (17, .slice A0_0 a0.length n0_0), (18, .int .i64 s8)]) (s' := [(2, true), (3, true), (4, true), (5, true), (6, true), (7, true), (8, true), (9, true), (10, true), (11, true), (12, true), (13, true), (14, true), (15, true), (16, true), (17, true), (18, true), (19, true), (20, true), (21, true), (22, true), (23, true)]) (CC.refl (fun p hp => by cases hp)) (by kernel_rfl) ?_
          obtain ⟨x26, hx27, hj22⟩ := bind_some hj22
          obtain ⟨p28, cs29, hR30, hA31, ha32⟩ := RepS.ixAt hx27 (hf0_0.mono hI11)
          have hi33 := ix_some hx27
          obtain ⟨A34, n35, b37, hf36, hf38, rfl⟩ := kS38_open hR30
          refine gd_q (v := .pointer (some p28)) (by kernel_rfl) (by kernel_rfl) (CC.refl (fun p hp => by cases hp)) (fun I' L' T hC kk => gl_indexAddrF (c := n0_0) (T' := 22) (e := 39) (xs := (.tmp 17)) (xi := (.tmp 18)) (kd := .i64) ha32 hi33.1 hi33.2.1 (by kernel_rfl) (by kernel_rfl) (by kernel_rfl) (by kernel_rfl) (by kernel_rfl) kk) ?_
          refine gd_pure 1 [0, 1, 5, 20] (K' := [(0, .slice A0_0 a0.length n0_0), (1, .slice A1_0 a1.length n1_0), (5, .int .i64 s8), (20, .pointer (some (p28.add 0)))]) (s' := [(4, true), (5, true), (6, true), (7, true), (8, true), (9, true), (10, true), (11, true), (12, true), (13, true), (14, true), (15, true), (16, true), (17, true), (18, true), (19, true), (20, true), (21, true), (22, true), (23, true)]) (CC.refl (fun p hp => by cases hp)) (by kernel_rfl) ?_
          refine gd_q (v := .slice A34 x26.f0.length n35) (by kernel_rfl) (by kernel_rfl) (CC.refl (fun p hp => by cases hp)) (fun I' L' T hC kk => gl_load (T' := 36) (xp := (.tmp 20)) (p := (p28.add 0)) (c := .slice A34 x26.f0.length n35) (n := 1) (by kernel_rfl) (by kernel_rfl) (by kernel_rfl) (by kernel_rfl) ((hA31.drop 0).mono hC.le) kk) ?_
          refine gd_pure 2 [0, 1, 5, 21, 22, 23] (K' := [(0, .slice A0_0 a0.length n0_0), (1, .slice A1_0 a1.length n1_0), (5, .int .i64 s8), (21, .slice A34 x26.f0.length n35), (22, .slice A1_0 a1.length n1_0), (23, .int .i64 s8)]) (s' := [(7, true), (8, true), (9, true), (10, true), (11, true), (12, true), (13, true), (14, true), (15, true), (16, true), (17, true), (18, true), (19, true), (20, true), (21, true), (22, true), (23, true)]) (CC.refl (fun p hp => by cases hp)) (by kernel_rfl) ?_
          obtain ⟨x39, hx40, hj22⟩ := bind_some hj22
          obtain ⟨p41, cs42, hR43, hA44, ha45⟩ := RepS.ixAt hx40 (hf1_0.mono hI11)
          have hi46 := ix_some hx40
          obtain ⟨A47, n48, b50, hf49, hf51, rfl⟩ := kS38_open hR43
          refine gd_q (v := .pointer (some p41)) (by kernel_rfl) (by kernel_rfl) (CC.refl (fun p hp => by cases hp)) (fun I' L' T hC kk => gl_indexAddrF (c := n1_0) (T' := 22) (e := 39) (xs := (.tmp 22)) (xi := (.tmp 23)) (kd := .i64) ha45 hi46.1 hi46.2.1 (by kernel_rfl) (by kernel_rfl) (by kernel_rfl) (by kernel_rfl) (by kernel_rfl) kk) ?_
          refine gd_pure 1 [0, 1, 5, 21, 25] (K' := [(0, .slice A0_0 a0.length n0_0), (1, .slice A1_0 a1.length n1_0), (5, .int .i64 s8), (21, .slice A34 x26.f0.length n35), (25, .pointer (some (p41.add 0)))]) (s' := [(9, true), (10, true), (11, true), (12, true), (13, true), (14, true), (15, true), (16, true), (17, true), (18, true), (19, true), (20, true), (21, true), (22, true), (23, true)]) (CC.refl (fun p hp => by cases hp)) (by kernel_rfl) ?_
          refine gd_q (v := .slice A47 x39.f0.length n48) (by kernel_rfl) (by kernel_rfl) (CC.refl (fun p hp => by cases hp)) (fun I' L' T hC kk => gl_load (T' := 36) (xp := (.tmp 25)) (p := (p41.add 0)) (c := .slice A47 x39.f0.length n48) (n := 1) (by kernel_rfl) (by kernel_rfl) (by kernel_rfl) (by kernel_rfl) ((hA44.drop 0).mono hC.le) kk) ?_
          obtain ⟨y52, hx53, hj22⟩ := bind_some hj22
          refine gd_q (v := .bool y52) (by kernel_rfl) (by kernel_rfl) (CC.refl (fun p hp => by cases hp)) (fun I' L' T hC kk => gl_callQ (by kernel_rfl) (tocsinref04_Same_walk (r := y52) (hf36.mono hC.le) (hf49.mono hC.le) hx53 _) kk) ?_
          refine gd_pure 2 [0, 1, 5, 29] (K' := [(0, .slice A0_0 a0.length n0_0), (1, .slice A1_0 a1.length n1_0), (5, .int .i64 s8), (29, .bool (!y52))]) (s' := [(13, true), (14, true), (15, true), (16, true), (17, true), (18, true), (19, true), (20, true), (21, true), (22, true), (23, true)]) (CC.refl (fun p hp => by cases hp)) (by kernel_rfl) ?_
          refine gd_case 29 (b := (!y52)) (by kernel_rfl) (fun hc54 => ?_) (fun hc54 => ?_)
          · have hj22 := cond_t hc54 hj22
            refine gd_pure 11 [0, 1, 5, 29, 35, 40] (K' := [(0, .slice A0_0 a0.length n0_0), (1, .slice A1_0 a1.length n1_0), (5, .int .i64 s8), (29, .bool true), (35, undef), (40, undef)]) (s' := []) (CC.refl (fun p hp => by cases hp)) (by kernel_rfl) ?_
            refine gd_done ?_
            refine gl_pure 3 [0, 1, 5, 43] (K' := [(0, .slice A0_0 a0.length n0_0), (1, .slice A1_0 a1.length n1_0), (5, .int .i64 s8), (43, .bool true)]) (by kernel_rfl) ?_
            refine gl_atE (by kernel_rfl) ?_
            obtain rfl := some_inj hj22
            exact ge_mid fun t ht => ⟨(Imm.refl _), rfl, ht.pick (l := [0, 1, 5, 43]) (by kernel_rfl)⟩
          · have hj22 := cond_f hc54 hj22
            refine gd_pure 2 [0, 1, 5, 29, 30, 31] (K' := [(0, .slice A0_0 a0.length n0_0), (1, .slice A1_0 a1.length n1_0), (5, .int .i64 s8), (29, .bool false), (30, .slice A0_0 a0.length n0_0), (31, .int .i64 s8)]) (s' := [(15, true), (16, true), (17, true), (18, true), (19, true), (20, true), (21, true), (22, true), (23, true)]) (CC.refl (fun p hp => by cases hp)) (by kernel_rfl) ?_
            obtain ⟨x55, hx56, hj22⟩ := bind_some hj22
            obtain ⟨p57, cs58, hR59, hA60, ha61⟩ := RepS.ixAt hx56 (hf0_0.mono hI11)
            have hi62 := ix_some hx56
            obtain ⟨A63, n64, b66, hf65, hf67, rfl⟩ := kS38_open hR59
            refine gd_q (v := .pointer (some p57)) (by kernel_rfl) (by kernel_rfl) (CC.refl (fun p hp => by cases hp)) (fun I' L' T hC kk => gl_indexAddrF (c := n0_0) (T' := 22) (e := 39) (xs := (.tmp 30)) (xi := (.tmp 31)) (kd := .i64) ha61 hi62.1 hi62.2.1 (by kernel_rfl) (by kernel_rfl) (by kernel_rfl) (by kernel_rfl) (by kernel_rfl) kk) ?_
            refine gd_pure 1 [0, 1, 5, 29, 33] (K' := [(0, .slice A0_0 a0.length n0_0), (1, .slice A1_0 a1.length n1_0), (5, .int .i64 s8), (29, .bool false), (33, .pointer (some (p57.add 1)))]) (s' := [(17, true), (18, true), (19, true), (20, true), (21, true), (22, true), (23, true)]) (CC.refl (fun p hp => by cases hp)) (by kernel_rfl) ?_
            refine gd_q (v := .float .f64 b66) (by kernel_rfl) (by kernel_rfl) (CC.refl (fun p hp => by cases hp)) (fun I' L' T hC kk => gl_load (T' := 37) (xp := (.tmp 33)) (p := (p57.add 1)) (c := .float .f64 b66) (n := 1) (by kernel_rfl) (by kernel_rfl) (by kernel_rfl) (by kernel_rfl) ((hA60.drop 1).mono hC.le) kk) ?_
            obtain ⟨q68, hx69, hj22⟩ := bind_some hj22
            refine gd_q (v := .int .u64 q68) (by kernel_rfl) (by kernel_rfl) (CC.refl (fun p hp => by cases hp)) (fun I' L' T hC kk => gl_f64bits hx69 hf67 Tryz.func46 (by kernel_rfl) (by kernel_rfl) (by kernel_rfl) (by kernel_rfl) (by kernel_rfl) (by kernel_rfl) kk) ?_
            refine gd_pure 2 [0, 1, 5, 29, 35, 36, 37] (K' := [(0, .slice A0_0 a0.length n0_0), (1, .slice A1_0 a1.length n1_0), (5, .int .i64 s8), (29, .bool false), (35, .int .u64 q68), (36, .slice A1_0 a1.length n1_0), (37, .int .i64 s8)]) (s' := [(21, true), (22, true), (23, true)]) (CC.refl (fun p hp => by cases hp)) (by kernel_rfl) ?_
            obtain ⟨x70, hx71, hj22⟩ := bind_some hj22
            obtain ⟨p72, cs73, hR74, hA75, ha76⟩ := RepS.ixAt hx71 (hf1_0.mono hI11)
            have hi77 := ix_some hx71
            obtain ⟨A78, n79, b81, hf80, hf82, rfl⟩ := kS38_open hR74
            refine gd_q (v := .pointer (some p72)) (by kernel_rfl) (by kernel_rfl) (CC.refl (fun p hp => by cases hp)) (fun I' L' T hC kk => gl_indexAddrF (c := n1_0) (T' := 22) (e := 39) (xs := (.tmp 36)) (xi := (.tmp 37)) (kd := .i64) ha76 hi77.1 hi77.2.1 (by kernel_rfl) (by kernel_rfl) (by kernel_rfl) (by kernel_rfl) (by kernel_rfl) kk) ?_
            refine gd_pure 1 [0, 1, 5, 29, 35, 39] (K' := [(0, .slice A0_0 a0.length n0_0), (1, .slice A1_0 a1.length n1_0), (5, .int .i64 s8), (29, .bool false), (35, .int .u64 q68), (39, .pointer (some (p72.add 1)))]) (s' := [(23, true)]) (CC.refl (fun p hp => by cases hp)) (by kernel_rfl) ?_
            refine gd_q (v := .float .f64 b81) (by kernel_rfl) (by kernel_rfl) (CC.refl (fun p hp => by cases hp)) (fun I' L' T hC kk => gl_load (T' := 37) (xp := (.tmp 39)) (p := (p72.add 1)) (c := .float .f64 b81) (n := 1) (by kernel_rfl) (by kernel_rfl) (by kernel_rfl) (by kernel_rfl) ((hA75.drop 1).mono hC.le) kk) ?_
            refine gd_done ?_
            obtain ⟨q83, hx84, hj22⟩ := bind_some hj22
            refine gl_f64bits hx84 hf82 Tryz.func46 (by kernel_rfl) (by kernel_rfl) (by kernel_rfl) (by kernel_rfl) (by kernel_rfl) (by kernel_rfl) ?_
            refine gl_pure 2 [0, 1, 5, 43] (K' := [(0, .slice A0_0 a0.length n0_0), (1, .slice A1_0 a1.length n1_0), (5, .int .i64 s8), (43, .bool (q68 != q83))]) (by kernel_rfl) ?_
            refine gl_atE (by kernel_rfl) ?_
            obtain rfl := some_inj hj22
            exact ge_mid fun t ht => ⟨(Imm.refl _), rfl, ht.pick (l := [0, 1, 5, 43]) (by kernel_rfl)⟩
        · rintro t I25 L' ⟨hI23, rfl, hK24⟩
          refine ge_at hK24 ?_
          refine ge_seq ?_
          refine gk_cond (b := j21) (by kernel_rfl) (by kernel_rfl) (fun hc85 => ?_) (fun hc85 => ?_)
          · have hb10 := cond_t hc85 hb10
            refine gk_seq (by kernel_rfl) ?_
            refine gk_region (by kernel_rfl) ?_
            refine gl_pure 1 [4] (K' := [(4, .bool false)]) (by kernel_rfl) ?_
            refine gl_atE (by kernel_rfl) ?_
            refine ge_seq ?_
            refine gk_ret (by kernel_rfl) ?_
            refine ge_block_ret ?_
            refine ge_seq_ret ?_
            obtain rfl := some_inj hb10
            refine ge_round_out (fun hrr => ?_) (by intro h; cases h)
            obtain rfl := hrr
            refine ge_block_ret ?_
            refine ge_seq_ret ?_
            refine ge_seq_ret ?_
            obtain rfl := some_inj hr
            exact ge_result trivial (ResOk.tmp (by kernel_rfl) ResOk.nil) (Imm.trans hI11 hI23) ⟨rfl, rfl⟩
          · have hb10 := cond_f hc85 hb10
            refine gk_skip (by kernel_rfl) ?_
            refine ge_block_normal ?_
            refine ge_seq ?_
            refine gk_region (by kernel_rfl) ?_
            refine gl_pure 3 [0, 1, 5] (K' := [(0, .slice A0_0 a0.length n0_0), (1, .slice A1_0 a1.length n1_0), (5, .int .i64 (IntKind.wrap .i64 (s8 + 1)))]) (by kernel_rfl) ?_
            refine gl_atE (by kernel_rfl) ?_
            obtain rfl := some_inj hb10
            exact ge_round fun t ht => ⟨(Imm.trans hI11 hI23), rfl, ht.pick (l := [0, 1, 5]) (by kernel_rfl)⟩
      · have hb10 := cond_f hc20 hb10
        refine gk_exit (by kernel_rfl) ?_
        refine ge_seq_exit ?_
        obtain rfl := some_inj hb10
        refine ge_round_out (fun hrr => ?_) (by intro h; cases h)
        obtain rfl := hrr
        refine ge_block_hit (by kernel_rfl) ?_
        exact ge_mid fun t ht => ⟨_, rfl, hI11, rfl, ht.pick (l := []) (by kernel_rfl)⟩
    · rintro t I17 L' ⟨r14, rfl, hI15, rfl, hK16⟩
      refine ge_at hK16 ?_
      refine ge_seq ?_
      refine gk_seq (by kernel_rfl) ?_
      refine gk_region (by kernel_rfl) ?_
      refine gl_pure 1 [4] (K' := [(4, .bool true)]) (by kernel_rfl) ?_
      refine gl_atE (by kernel_rfl) ?_
      refine ge_seq ?_
      refine gk_ret (by kernel_rfl) ?_
      obtain rfl := some_inj hr
      exact ge_result trivial (ResOk.tmp (by kernel_rfl) ResOk.nil) hI15 ⟨rfl, rfl⟩
noncomputable def aggr_Group (a0 : List S76) (a1 : List ByteArray) (a2 : Bool) : Option ((List S76) × Int) :=
  Option.bind (labels_Right a0) fun (y1 : Int × Int) =>
  bif (y1.1 != 0) then
  (some ([], y1.1))
  else
  (Option.bind (aggr_wrong a1) fun (y4 : Int) =>
    bif (y4 != 0) then
    (some ([], y4))
    else
    (Option.bind (aggr_group a0 a1 a2) fun (y7 : (List S76)) =>
      some (y7, 0)))
theorem aggr_Group_walk {a0 : List S76} {A0_0 : Option Addr} {n0_0 : Nat} {a1 : List ByteArray} {A1_0 : Option Addr} {n1_0 : Nat} {a2 : Bool} {I : Imm} {r : (List S76) × Int} (hG : Gl I)  (hf0_0 : RepS kS76 I A0_0 n0_0 a0)  (hf1_0 : RepS Kd.str I A1_0 n1_0 a1) (hr : aggr_Group a0 a1 a2 = some r) (L : Own) :
    CallsTo Tryz.prog 32 #[.slice A0_0 a0.length n0_0, .slice A1_0 a1.length n1_0, .bool a2] I L (fun v I' L' => ∃ A0 c0 C0, OwnS kS76 77 I' A0 c0 r.1 C0 ∧ v = .tuple #[.slice A0 r.1.length c0, .int .i64 r.2] ∧ C0 ++ L = L') := by
  unfold aggr_Group at hr
  refine callsTo_body (N := 28) Tryz.func32 (by kernel_rfl) (by kernel_rfl) (by kernel_rfl) ?_
  refine gk_pick [0, 1, 2] (K' := [(0, .slice A0_0 a0.length n0_0), (1, .slice A1_0 a1.length n1_0), (2, .bool a2)]) (by kernel_rfl) ?_
  refine gk_seq (by kernel_rfl) ?_
  refine gk_region (by kernel_rfl) ?_
  refine gl_pure 2 [0, 1, 2] (K' := [(0, .slice A0_0 a0.length n0_0), (1, .slice A1_0 a1.length n1_0), (2, .bool a2)]) (by kernel_rfl) ?_
  refine gl_atE (by kernel_rfl) ?_
  refine ge_seq ?_
  refine gk_seq (by kernel_rfl) ?_
  refine gk_seq (by kernel_rfl) ?_
  refine gk_region (by kernel_rfl) ?_
  refine gl_pure 1 [0, 1, 2, 12] (K' := [(0, .slice A0_0 a0.length n0_0), (1, .slice A1_0 a1.length n1_0), (2, .bool a2), (12, .slice A0_0 a0.length n0_0)]) (by kernel_rfl) ?_
  obtain ⟨y1, hx2, hr⟩ := bind_some hr
  refine gl_callQ (by kernel_rfl) (labels_Right_walk (r := y1) hG hf0_0 hx2 _) ?_
  refine gl_pure 5 [0, 1, 2, 8] (K' := [(0, .slice A0_0 a0.length n0_0), (1, .slice A1_0 a1.length n1_0), (2, .bool a2), (8, .int .i64 y1.1)]) (by kernel_rfl) ?_
  refine gl_atE (by kernel_rfl) ?_
  refine ge_seq ?_
  refine gk_seq (by kernel_rfl) ?_
  refine gk_region (by kernel_rfl) ?_
  refine gl_pure 2 [0, 1, 2, 8, 17] (K' := [(0, .slice A0_0 a0.length n0_0), (1, .slice A1_0 a1.length n1_0), (2, .bool a2), (8, .int .i64 y1.1), (17, .bool (y1.1 != 0))]) (by kernel_rfl) ?_
  refine gl_atE (by kernel_rfl) ?_
  refine ge_seq ?_
  refine gk_cond (b := (y1.1 != 0)) (by kernel_rfl) (by kernel_rfl) (fun hc3 => ?_) (fun hc3 => ?_)
  · have hr := cond_t hc3 hr
    refine gk_seq (by kernel_rfl) ?_
    refine gk_region (by kernel_rfl) ?_
    refine gl_pure 3 [6, 7] (K' := [(6, .slice none 0 0), (7, .int .i64 y1.1)]) (by kernel_rfl) ?_
    refine gl_atE (by kernel_rfl) ?_
    refine ge_seq ?_
    refine gk_ret (by kernel_rfl) ?_
    refine ge_seq_ret ?_
    obtain rfl := some_inj hr
    exact ge_result trivial (ResOk.tmp (by kernel_rfl) (ResOk.tmp (by kernel_rfl) ResOk.nil)) (Imm.refl _) ⟨none, 0, [], OwnS.nil _ _ _ _, rfl, rfl⟩
  · have hr := cond_f hc3 hr
    refine gk_skip (by kernel_rfl) ?_
    refine ge_seq ?_
    refine gk_seq (by kernel_rfl) ?_
    refine gk_seq (by kernel_rfl) ?_
    refine gk_region (by kernel_rfl) ?_
    refine gl_pure 1 [0, 1, 2, 19] (K' := [(0, .slice A0_0 a0.length n0_0), (1, .slice A1_0 a1.length n1_0), (2, .bool a2), (19, .slice A1_0 a1.length n1_0)]) (by kernel_rfl) ?_
    obtain ⟨y4, hx5, hr⟩ := bind_some hr
    refine gl_callQ (by kernel_rfl) (aggr_wrong_walk (r := y4) hf1_0 hx5 _) ?_
    refine gl_pure 1 [0, 1, 2, 10] (K' := [(0, .slice A0_0 a0.length n0_0), (1, .slice A1_0 a1.length n1_0), (2, .bool a2), (10, .int .i64 y4)]) (by kernel_rfl) ?_
    refine gl_atE (by kernel_rfl) ?_
    refine ge_seq ?_
    refine gk_seq (by kernel_rfl) ?_
    refine gk_region (by kernel_rfl) ?_
    refine gl_pure 2 [0, 1, 2, 10, 22] (K' := [(0, .slice A0_0 a0.length n0_0), (1, .slice A1_0 a1.length n1_0), (2, .bool a2), (10, .int .i64 y4), (22, .bool (y4 != 0))]) (by kernel_rfl) ?_
    refine gl_atE (by kernel_rfl) ?_
    refine ge_seq ?_
    refine gk_cond (b := (y4 != 0)) (by kernel_rfl) (by kernel_rfl) (fun hc6 => ?_) (fun hc6 => ?_)
    · have hr := cond_t hc6 hr
      refine gk_seq (by kernel_rfl) ?_
      refine gk_region (by kernel_rfl) ?_
      refine gl_pure 3 [6, 7] (K' := [(6, .slice none 0 0), (7, .int .i64 y4)]) (by kernel_rfl) ?_
      refine gl_atE (by kernel_rfl) ?_
      refine ge_seq ?_
      refine gk_ret (by kernel_rfl) ?_
      refine ge_seq_ret ?_
      obtain rfl := some_inj hr
      exact ge_result trivial (ResOk.tmp (by kernel_rfl) (ResOk.tmp (by kernel_rfl) ResOk.nil)) (Imm.refl _) ⟨none, 0, [], OwnS.nil _ _ _ _, rfl, rfl⟩
    · have hr := cond_f hc6 hr
      refine gk_skip (by kernel_rfl) ?_
      refine ge_seq ?_
      refine gk_seq (by kernel_rfl) ?_
      refine gk_region (by kernel_rfl) ?_
      refine gl_pure 3 [24, 25, 26] (K' := [(24, .slice A0_0 a0.length n0_0), (25, .slice A1_0 a1.length n1_0), (26, .bool a2)]) (by kernel_rfl) ?_
      obtain ⟨y7, hx8, hr⟩ := bind_some hr
      refine gl_call (by kernel_rfl) (aggr_group_walk (r := y7) hG hf0_0 hf1_0 hx8 _) ?_
      rintro v I9 L10 hI11 ⟨A12, c13, C14, hO15, rfl, rfl⟩
      refine gl_pure 2 [6, 7] (K' := [(6, .slice A12 y7.length c13), (7, .int .i64 0)]) (by kernel_rfl) ?_
      refine gl_atE (by kernel_rfl) ?_
      refine ge_seq ?_
      refine gk_ret (by kernel_rfl) ?_
      obtain rfl := some_inj hr
      exact ge_result trivial (ResOk.tmp (by kernel_rfl) (ResOk.tmp (by kernel_rfl) ResOk.nil)) hI11 ⟨A12, c13, C14, hO15, rfl, rfl⟩
noncomputable def aggr_Words : (List ByteArray) :=
  [(⟨#[97, 118, 103]⟩ : ByteArray), (⟨#[98, 111, 116, 116, 111, 109, 107]⟩ : ByteArray), (⟨#[99, 111, 117, 110, 116]⟩ : ByteArray), (⟨#[103, 114, 111, 117, 112]⟩ : ByteArray), (⟨#[109, 97, 120]⟩ : ByteArray), (⟨#[109, 105, 110]⟩ : ByteArray), (⟨#[113, 117, 97, 110, 116, 105, 108, 101]⟩ : ByteArray), (⟨#[115, 116, 100, 100, 101, 118]⟩ : ByteArray), (⟨#[115, 116, 100, 118, 97, 114]⟩ : ByteArray), (⟨#[115, 117, 109]⟩ : ByteArray), (⟨#[116, 111, 112, 107]⟩ : ByteArray)]
theorem aggr_Words_walk  {I : Imm} {r : (List ByteArray)}  (hr : aggr_Words = r) (L : Own) :
    CallsTo Tryz.prog 29 #[] I L (fun v I' L' => ∃ A0 c0 C0, OwnS Kd.str 9 I' A0 c0 r C0 ∧ v = .slice A0 r.length c0 ∧ C0 ++ L = L') := by
  replace hr : some (aggr_Words) = some r := congrArg some hr
  unfold aggr_Words at hr
  refine callsTo_body (N := 2) Tryz.func29 (by kernel_rfl) (by kernel_rfl) (by kernel_rfl) ?_
  refine gk_pick [] (K' := []) (by kernel_rfl) ?_
  refine gk_seq (by kernel_rfl) ?_
  refine gk_region (by kernel_rfl) ?_
  refine gl_pure 1 [] (K' := []) (by kernel_rfl) ?_
  refine gl_atE (by kernel_rfl) ?_
  refine ge_seq ?_
  refine gk_seq (by kernel_rfl) ?_
  refine gk_region (by kernel_rfl) ?_
  refine gl_buildSlice (T' := 23) (e := 9) (n := 1) (len := 11) (parts := #[(0, (.const (.string (⟨#[97, 118, 103]⟩ : ByteArray)))), (1, (.const (.string (⟨#[98, 111, 116, 116, 111, 109, 107]⟩ : ByteArray)))), (2, (.const (.string (⟨#[99, 111, 117, 110, 116]⟩ : ByteArray)))), (3, (.const (.string (⟨#[103, 114, 111, 117, 112]⟩ : ByteArray)))), (4, (.const (.string (⟨#[109, 97, 120]⟩ : ByteArray)))), (5, (.const (.string (⟨#[109, 105, 110]⟩ : ByteArray)))), (6, (.const (.string (⟨#[113, 117, 97, 110, 116, 105, 108, 101]⟩ : ByteArray)))), (7, (.const (.string (⟨#[115, 116, 100, 100, 101, 118]⟩ : ByteArray)))), (8, (.const (.string (⟨#[115, 116, 100, 118, 97, 114]⟩ : ByteArray)))), (9, (.const (.string (⟨#[115, 117, 109]⟩ : ByteArray)))), (10, (.const (.string (⟨#[116, 111, 112, 107]⟩ : ByteArray))))]) (l := [(0, .string (⟨#[97, 118, 103]⟩ : ByteArray)), (1, .string (⟨#[98, 111, 116, 116, 111, 109, 107]⟩ : ByteArray)), (2, .string (⟨#[99, 111, 117, 110, 116]⟩ : ByteArray)), (3, .string (⟨#[103, 114, 111, 117, 112]⟩ : ByteArray)), (4, .string (⟨#[109, 97, 120]⟩ : ByteArray)), (5, .string (⟨#[109, 105, 110]⟩ : ByteArray)), (6, .string (⟨#[113, 117, 97, 110, 116, 105, 108, 101]⟩ : ByteArray)), (7, .string (⟨#[115, 116, 100, 100, 101, 118]⟩ : ByteArray)), (8, .string (⟨#[115, 116, 100, 118, 97, 114]⟩ : ByteArray)), (9, .string (⟨#[115, 117, 109]⟩ : ByteArray)), (10, .string (⟨#[116, 111, 112, 107]⟩ : ByteArray))]) (cs := #[.string (⟨#[97, 118, 103]⟩ : ByteArray), .string (⟨#[98, 111, 116, 116, 111, 109, 107]⟩ : ByteArray), .string (⟨#[99, 111, 117, 110, 116]⟩ : ByteArray), .string (⟨#[103, 114, 111, 117, 112]⟩ : ByteArray), .string (⟨#[109, 97, 120]⟩ : ByteArray), .string (⟨#[109, 105, 110]⟩ : ByteArray), .string (⟨#[113, 117, 97, 110, 116, 105, 108, 101]⟩ : ByteArray), .string (⟨#[115, 116, 100, 100, 101, 118]⟩ : ByteArray), .string (⟨#[115, 116, 100, 118, 97, 114]⟩ : ByteArray), .string (⟨#[115, 117, 109]⟩ : ByteArray), .string (⟨#[116, 111, 112, 107]⟩ : ByteArray)]) (by kernel_rfl) (by kernel_rfl) (by kernel_rfl) (by kernel_rfl) (by kernel_rfl) (fun g1 => ?_)
  have hO2 : OwnS Kd.str 9 I (some ⟨g1, 0, none⟩) 11 [(⟨#[97, 118, 103]⟩ : ByteArray), (⟨#[98, 111, 116, 116, 111, 109, 107]⟩ : ByteArray), (⟨#[99, 111, 117, 110, 116]⟩ : ByteArray), (⟨#[103, 114, 111, 117, 112]⟩ : ByteArray), (⟨#[109, 97, 120]⟩ : ByteArray), (⟨#[109, 105, 110]⟩ : ByteArray), (⟨#[113, 117, 97, 110, 116, 105, 108, 101]⟩ : ByteArray), (⟨#[115, 116, 100, 100, 101, 118]⟩ : ByteArray), (⟨#[115, 116, 100, 118, 97, 114]⟩ : ByteArray), (⟨#[115, 117, 109]⟩ : ByteArray), (⟨#[116, 111, 112, 107]⟩ : ByteArray)] [(g1, .cells #[.string (⟨#[97, 118, 103]⟩ : ByteArray), .string (⟨#[98, 111, 116, 116, 111, 109, 107]⟩ : ByteArray), .string (⟨#[99, 111, 117, 110, 116]⟩ : ByteArray), .string (⟨#[103, 114, 111, 117, 112]⟩ : ByteArray), .string (⟨#[109, 97, 120]⟩ : ByteArray), .string (⟨#[109, 105, 110]⟩ : ByteArray), .string (⟨#[113, 117, 97, 110, 116, 105, 108, 101]⟩ : ByteArray), .string (⟨#[115, 116, 100, 100, 101, 118]⟩ : ByteArray), .string (⟨#[115, 116, 100, 118, 97, 114]⟩ : ByteArray), .string (⟨#[115, 117, 109]⟩ : ByteArray), .string (⟨#[116, 111, 112, 107]⟩ : ByteArray)] 9)] := OwnS.lit (row_cons (l := [.string (⟨#[97, 118, 103]⟩ : ByteArray)]) rfl (row_cons (l := [.string (⟨#[98, 111, 116, 116, 111, 109, 107]⟩ : ByteArray)]) rfl (row_cons (l := [.string (⟨#[99, 111, 117, 110, 116]⟩ : ByteArray)]) rfl (row_cons (l := [.string (⟨#[103, 114, 111, 117, 112]⟩ : ByteArray)]) rfl (row_cons (l := [.string (⟨#[109, 97, 120]⟩ : ByteArray)]) rfl (row_cons (l := [.string (⟨#[109, 105, 110]⟩ : ByteArray)]) rfl (row_cons (l := [.string (⟨#[113, 117, 97, 110, 116, 105, 108, 101]⟩ : ByteArray)]) rfl (row_cons (l := [.string (⟨#[115, 116, 100, 100, 101, 118]⟩ : ByteArray)]) rfl (row_cons (l := [.string (⟨#[115, 116, 100, 118, 97, 114]⟩ : ByteArray)]) rfl (row_cons (l := [.string (⟨#[115, 117, 109]⟩ : ByteArray)]) rfl (row_cons (l := [.string (⟨#[116, 111, 112, 107]⟩ : ByteArray)]) rfl (row_nil _ _)))))))))))) rfl rfl rfl
  refine gl_reord (D := [(g1, .cells #[.string (⟨#[97, 118, 103]⟩ : ByteArray), .string (⟨#[98, 111, 116, 116, 111, 109, 107]⟩ : ByteArray), .string (⟨#[99, 111, 117, 110, 116]⟩ : ByteArray), .string (⟨#[103, 114, 111, 117, 112]⟩ : ByteArray), .string (⟨#[109, 97, 120]⟩ : ByteArray), .string (⟨#[109, 105, 110]⟩ : ByteArray), .string (⟨#[113, 117, 97, 110, 116, 105, 108, 101]⟩ : ByteArray), .string (⟨#[115, 116, 100, 100, 101, 118]⟩ : ByteArray), .string (⟨#[115, 116, 100, 118, 97, 114]⟩ : ByteArray), .string (⟨#[115, 117, 109]⟩ : ByteArray), .string (⟨#[116, 111, 112, 107]⟩ : ByteArray)] 9)] ++ L) (Reord.refl _) ?_
  refine gl_pure 1 [0] (K' := [(0, .slice (some ⟨g1, 0, none⟩) [(⟨#[97, 118, 103]⟩ : ByteArray), (⟨#[98, 111, 116, 116, 111, 109, 107]⟩ : ByteArray), (⟨#[99, 111, 117, 110, 116]⟩ : ByteArray), (⟨#[103, 114, 111, 117, 112]⟩ : ByteArray), (⟨#[109, 97, 120]⟩ : ByteArray), (⟨#[109, 105, 110]⟩ : ByteArray), (⟨#[113, 117, 97, 110, 116, 105, 108, 101]⟩ : ByteArray), (⟨#[115, 116, 100, 100, 101, 118]⟩ : ByteArray), (⟨#[115, 116, 100, 118, 97, 114]⟩ : ByteArray), (⟨#[115, 117, 109]⟩ : ByteArray), (⟨#[116, 111, 112, 107]⟩ : ByteArray)].length 11)]) (by kernel_rfl) ?_
  refine gl_atE (by kernel_rfl) ?_
  refine ge_seq ?_
  refine gk_ret (by kernel_rfl) ?_
  obtain rfl := some_inj hr
  exact ge_result trivial (ResOk.tmp (by kernel_rfl) ResOk.nil) (Imm.refl _) ⟨(some ⟨g1, 0, none⟩), 11, [(g1, .cells #[.string (⟨#[97, 118, 103]⟩ : ByteArray), .string (⟨#[98, 111, 116, 116, 111, 109, 107]⟩ : ByteArray), .string (⟨#[99, 111, 117, 110, 116]⟩ : ByteArray), .string (⟨#[103, 114, 111, 117, 112]⟩ : ByteArray), .string (⟨#[109, 97, 120]⟩ : ByteArray), .string (⟨#[109, 105, 110]⟩ : ByteArray), .string (⟨#[113, 117, 97, 110, 116, 105, 108, 101]⟩ : ByteArray), .string (⟨#[115, 116, 100, 100, 101, 118]⟩ : ByteArray), .string (⟨#[115, 116, 100, 118, 97, 114]⟩ : ByteArray), .string (⟨#[115, 117, 109]⟩ : ByteArray), .string (⟨#[116, 111, 112, 107]⟩ : ByteArray)] 9)], hO2, rfl, rfl⟩
def tabv_48 : Nat → Value
  | 0 => .nilFunc
  | 1 => .func (.func 94) #[] #[]
  | 2 => .func (.func 95) #[] #[]
  | 3 => .func (.func 96) #[] #[]
  | 4 => .func (.func 97) #[] #[]
  | 5 => .func (.func 98) #[] #[]
  | 6 => .func (.func 99) #[] #[]
  | 7 => .func (.func 100) #[] #[]
  | 8 => .func (.func 101) #[] #[]
  | _ + 9 => .func (.func 102) #[] #[]
theorem tabv_48_cases : ∀ k : Nat, ((k == 0) = true ∧ tabv_48 k = .nilFunc) ∨ ((k == 0) = false ∧ ∃ f, tabv_48 k = .func (.func f) #[] #[])
  | 0 => .inl ⟨rfl, rfl⟩
  | 1 => .inr ⟨rfl, _, rfl⟩
  | 2 => .inr ⟨rfl, _, rfl⟩
  | 3 => .inr ⟨rfl, _, rfl⟩
  | 4 => .inr ⟨rfl, _, rfl⟩
  | 5 => .inr ⟨rfl, _, rfl⟩
  | 6 => .inr ⟨rfl, _, rfl⟩
  | 7 => .inr ⟨rfl, _, rfl⟩
  | 8 => .inr ⟨rfl, _, rfl⟩
  | _ + 9 => .inr ⟨rfl, _, rfl⟩
noncomputable def aggr_fold (a0 : ByteArray) : Nat :=
  bif (a0.toList == (⟨#[115, 117, 109]⟩ : ByteArray).toList) then
  (1)
  else
  (bif (a0.toList == (⟨#[97, 118, 103]⟩ : ByteArray).toList) then
    (2)
    else
    (bif (a0.toList == (⟨#[109, 105, 110]⟩ : ByteArray).toList) then
      (3)
      else
      (bif (a0.toList == (⟨#[109, 97, 120]⟩ : ByteArray).toList) then
        (4)
        else
        (bif (a0.toList == (⟨#[99, 111, 117, 110, 116]⟩ : ByteArray).toList) then
          (5)
          else
          (bif (a0.toList == (⟨#[103, 114, 111, 117, 112]⟩ : ByteArray).toList) then
            (6)
            else
            (bif (a0.toList == (⟨#[115, 116, 100, 118, 97, 114]⟩ : ByteArray).toList) then
              (7)
              else
              (bif (a0.toList == (⟨#[115, 116, 100, 100, 101, 118]⟩ : ByteArray).toList) then
                (8)
                else
                (bif (a0.toList == (⟨#[113, 117, 97, 110, 116, 105, 108, 101]⟩ : ByteArray).toList) then
                  (9)
                  else
                  (0)))))))))
theorem aggr_fold_walk {a0 : ByteArray} {I : Imm} {r : Nat}  (hr : aggr_fold a0 = r) (L : Own) :
    CallsTo Tryz.prog 48 #[.string a0] I L (fun v I' L' => v = (tabv_48 r) ∧ L = L') := by
  replace hr : some (aggr_fold a0) = some r := congrArg some hr
  unfold aggr_fold at hr
  refine callsTo_body (N := 22) Tryz.func48 (by kernel_rfl) (by kernel_rfl) (by kernel_rfl) ?_
  refine gk_pick [0] (K' := [(0, .string a0)]) (by kernel_rfl) ?_
  refine gk_seq (by kernel_rfl) ?_
  refine gk_region (by kernel_rfl) ?_
  refine gl_pure 1 [0] (K' := [(0, .string a0)]) (by kernel_rfl) ?_
  refine gl_atE (by kernel_rfl) ?_
  refine ge_seq ?_
  refine gk_seq (by kernel_rfl) ?_
  refine gk_seq (by kernel_rfl) ?_
  refine gk_region (by kernel_rfl) ?_
  refine gl_pure 1 [3] (K' := [(3, .string a0)]) (by kernel_rfl) ?_
  refine gl_atE (by kernel_rfl) ?_
  refine ge_seq ?_
  refine gk_block (by kernel_rfl) ?_
  refine gk_seq (by kernel_rfl) ?_
  refine gk_region (by kernel_rfl) ?_
  refine gl_pure 2 [3, 4] (K' := [(3, .string a0), (4, .bool (a0.toList == (⟨#[115, 117, 109]⟩ : ByteArray).toList))]) (by kernel_rfl) ?_
  refine gl_atE (by kernel_rfl) ?_
  refine ge_seq ?_
  refine gk_cond (b := (a0.toList == (⟨#[115, 117, 109]⟩ : ByteArray).toList)) (by kernel_rfl) (by kernel_rfl) (fun hc1 => ?_) (fun hc1 => ?_)
  · have hr := scond_t hc1 hr
    refine gk_seq (by kernel_rfl) ?_
    refine gk_region (by kernel_rfl) ?_
    refine gl_pure 1 [2] (K' := [(2, .func (.func 94) #[] #[])]) (by kernel_rfl) ?_
    refine gl_atE (by kernel_rfl) ?_
    refine ge_seq ?_
    refine gk_ret (by kernel_rfl) ?_
    refine ge_block_ret ?_
    refine ge_seq_ret ?_
    obtain rfl := some_inj hr
    exact ge_result trivial (ResOk.tmp (by kernel_rfl) ResOk.nil) (Imm.refl _) ⟨rfl, rfl⟩
  · have hr := scond_f hc1 hr
    refine gk_seq (by kernel_rfl) ?_
    refine gk_region (by kernel_rfl) ?_
    refine gl_pure 2 [3, 6] (K' := [(3, .string a0), (6, .bool (a0.toList == (⟨#[97, 118, 103]⟩ : ByteArray).toList))]) (by kernel_rfl) ?_
    refine gl_atE (by kernel_rfl) ?_
    refine ge_seq ?_
    refine gk_cond (b := (a0.toList == (⟨#[97, 118, 103]⟩ : ByteArray).toList)) (by kernel_rfl) (by kernel_rfl) (fun hc2 => ?_) (fun hc2 => ?_)
    · have hr := scond_t hc2 hr
      refine gk_seq (by kernel_rfl) ?_
      refine gk_region (by kernel_rfl) ?_
      refine gl_pure 1 [2] (K' := [(2, .func (.func 95) #[] #[])]) (by kernel_rfl) ?_
      refine gl_atE (by kernel_rfl) ?_
      refine ge_seq ?_
      refine gk_ret (by kernel_rfl) ?_
      refine ge_block_ret ?_
      refine ge_seq_ret ?_
      obtain rfl := some_inj hr
      exact ge_result trivial (ResOk.tmp (by kernel_rfl) ResOk.nil) (Imm.refl _) ⟨rfl, rfl⟩
    · have hr := scond_f hc2 hr
      refine gk_seq (by kernel_rfl) ?_
      refine gk_region (by kernel_rfl) ?_
      refine gl_pure 2 [3, 8] (K' := [(3, .string a0), (8, .bool (a0.toList == (⟨#[109, 105, 110]⟩ : ByteArray).toList))]) (by kernel_rfl) ?_
      refine gl_atE (by kernel_rfl) ?_
      refine ge_seq ?_
      refine gk_cond (b := (a0.toList == (⟨#[109, 105, 110]⟩ : ByteArray).toList)) (by kernel_rfl) (by kernel_rfl) (fun hc3 => ?_) (fun hc3 => ?_)
      · have hr := scond_t hc3 hr
        refine gk_seq (by kernel_rfl) ?_
        refine gk_region (by kernel_rfl) ?_
        refine gl_pure 1 [2] (K' := [(2, .func (.func 96) #[] #[])]) (by kernel_rfl) ?_
        refine gl_atE (by kernel_rfl) ?_
        refine ge_seq ?_
        refine gk_ret (by kernel_rfl) ?_
        refine ge_block_ret ?_
        refine ge_seq_ret ?_
        obtain rfl := some_inj hr
        exact ge_result trivial (ResOk.tmp (by kernel_rfl) ResOk.nil) (Imm.refl _) ⟨rfl, rfl⟩
      · have hr := scond_f hc3 hr
        refine gk_seq (by kernel_rfl) ?_
        refine gk_region (by kernel_rfl) ?_
        refine gl_pure 2 [3, 10] (K' := [(3, .string a0), (10, .bool (a0.toList == (⟨#[109, 97, 120]⟩ : ByteArray).toList))]) (by kernel_rfl) ?_
        refine gl_atE (by kernel_rfl) ?_
        refine ge_seq ?_
        refine gk_cond (b := (a0.toList == (⟨#[109, 97, 120]⟩ : ByteArray).toList)) (by kernel_rfl) (by kernel_rfl) (fun hc4 => ?_) (fun hc4 => ?_)
        · have hr := scond_t hc4 hr
          refine gk_seq (by kernel_rfl) ?_
          refine gk_region (by kernel_rfl) ?_
          refine gl_pure 1 [2] (K' := [(2, .func (.func 97) #[] #[])]) (by kernel_rfl) ?_
          refine gl_atE (by kernel_rfl) ?_
          refine ge_seq ?_
          refine gk_ret (by kernel_rfl) ?_
          refine ge_block_ret ?_
          refine ge_seq_ret ?_
          obtain rfl := some_inj hr
          exact ge_result trivial (ResOk.tmp (by kernel_rfl) ResOk.nil) (Imm.refl _) ⟨rfl, rfl⟩
        · have hr := scond_f hc4 hr
          refine gk_seq (by kernel_rfl) ?_
          refine gk_region (by kernel_rfl) ?_
          refine gl_pure 2 [3, 12] (K' := [(3, .string a0), (12, .bool (a0.toList == (⟨#[99, 111, 117, 110, 116]⟩ : ByteArray).toList))]) (by kernel_rfl) ?_
          refine gl_atE (by kernel_rfl) ?_
          refine ge_seq ?_
          refine gk_cond (b := (a0.toList == (⟨#[99, 111, 117, 110, 116]⟩ : ByteArray).toList)) (by kernel_rfl) (by kernel_rfl) (fun hc5 => ?_) (fun hc5 => ?_)
          · have hr := scond_t hc5 hr
            refine gk_seq (by kernel_rfl) ?_
            refine gk_region (by kernel_rfl) ?_
            refine gl_pure 1 [2] (K' := [(2, .func (.func 98) #[] #[])]) (by kernel_rfl) ?_
            refine gl_atE (by kernel_rfl) ?_
            refine ge_seq ?_
            refine gk_ret (by kernel_rfl) ?_
            refine ge_block_ret ?_
            refine ge_seq_ret ?_
            obtain rfl := some_inj hr
            exact ge_result trivial (ResOk.tmp (by kernel_rfl) ResOk.nil) (Imm.refl _) ⟨rfl, rfl⟩
          · have hr := scond_f hc5 hr
            refine gk_seq (by kernel_rfl) ?_
            refine gk_region (by kernel_rfl) ?_
            refine gl_pure 2 [3, 14] (K' := [(3, .string a0), (14, .bool (a0.toList == (⟨#[103, 114, 111, 117, 112]⟩ : ByteArray).toList))]) (by kernel_rfl) ?_
            refine gl_atE (by kernel_rfl) ?_
            refine ge_seq ?_
            refine gk_cond (b := (a0.toList == (⟨#[103, 114, 111, 117, 112]⟩ : ByteArray).toList)) (by kernel_rfl) (by kernel_rfl) (fun hc6 => ?_) (fun hc6 => ?_)
            · have hr := scond_t hc6 hr
              refine gk_seq (by kernel_rfl) ?_
              refine gk_region (by kernel_rfl) ?_
              refine gl_pure 1 [2] (K' := [(2, .func (.func 99) #[] #[])]) (by kernel_rfl) ?_
              refine gl_atE (by kernel_rfl) ?_
              refine ge_seq ?_
              refine gk_ret (by kernel_rfl) ?_
              refine ge_block_ret ?_
              refine ge_seq_ret ?_
              obtain rfl := some_inj hr
              exact ge_result trivial (ResOk.tmp (by kernel_rfl) ResOk.nil) (Imm.refl _) ⟨rfl, rfl⟩
            · have hr := scond_f hc6 hr
              refine gk_seq (by kernel_rfl) ?_
              refine gk_region (by kernel_rfl) ?_
              refine gl_pure 2 [3, 16] (K' := [(3, .string a0), (16, .bool (a0.toList == (⟨#[115, 116, 100, 118, 97, 114]⟩ : ByteArray).toList))]) (by kernel_rfl) ?_
              refine gl_atE (by kernel_rfl) ?_
              refine ge_seq ?_
              refine gk_cond (b := (a0.toList == (⟨#[115, 116, 100, 118, 97, 114]⟩ : ByteArray).toList)) (by kernel_rfl) (by kernel_rfl) (fun hc7 => ?_) (fun hc7 => ?_)
              · have hr := scond_t hc7 hr
                refine gk_seq (by kernel_rfl) ?_
                refine gk_region (by kernel_rfl) ?_
                refine gl_pure 1 [2] (K' := [(2, .func (.func 100) #[] #[])]) (by kernel_rfl) ?_
                refine gl_atE (by kernel_rfl) ?_
                refine ge_seq ?_
                refine gk_ret (by kernel_rfl) ?_
                refine ge_block_ret ?_
                refine ge_seq_ret ?_
                obtain rfl := some_inj hr
                exact ge_result trivial (ResOk.tmp (by kernel_rfl) ResOk.nil) (Imm.refl _) ⟨rfl, rfl⟩
              · have hr := scond_f hc7 hr
                refine gk_seq (by kernel_rfl) ?_
                refine gk_region (by kernel_rfl) ?_
                refine gl_pure 2 [3, 18] (K' := [(3, .string a0), (18, .bool (a0.toList == (⟨#[115, 116, 100, 100, 101, 118]⟩ : ByteArray).toList))]) (by kernel_rfl) ?_
                refine gl_atE (by kernel_rfl) ?_
                refine ge_seq ?_
                refine gk_cond (b := (a0.toList == (⟨#[115, 116, 100, 100, 101, 118]⟩ : ByteArray).toList)) (by kernel_rfl) (by kernel_rfl) (fun hc8 => ?_) (fun hc8 => ?_)
                · have hr := scond_t hc8 hr
                  refine gk_seq (by kernel_rfl) ?_
                  refine gk_region (by kernel_rfl) ?_
                  refine gl_pure 1 [2] (K' := [(2, .func (.func 101) #[] #[])]) (by kernel_rfl) ?_
                  refine gl_atE (by kernel_rfl) ?_
                  refine ge_seq ?_
                  refine gk_ret (by kernel_rfl) ?_
                  refine ge_block_ret ?_
                  refine ge_seq_ret ?_
                  obtain rfl := some_inj hr
                  exact ge_result trivial (ResOk.tmp (by kernel_rfl) ResOk.nil) (Imm.refl _) ⟨rfl, rfl⟩
                · have hr := scond_f hc8 hr
                  refine gk_seq (by kernel_rfl) ?_
                  refine gk_region (by kernel_rfl) ?_
                  refine gl_pure 2 [20] (K' := [(20, .bool (a0.toList == (⟨#[113, 117, 97, 110, 116, 105, 108, 101]⟩ : ByteArray).toList))]) (by kernel_rfl) ?_
                  refine gl_atE (by kernel_rfl) ?_
                  refine ge_seq ?_
                  refine gk_cond (b := (a0.toList == (⟨#[113, 117, 97, 110, 116, 105, 108, 101]⟩ : ByteArray).toList)) (by kernel_rfl) (by kernel_rfl) (fun hc9 => ?_) (fun hc9 => ?_)
                  · have hr := scond_t hc9 hr
                    refine gk_seq (by kernel_rfl) ?_
                    refine gk_region (by kernel_rfl) ?_
                    refine gl_pure 1 [2] (K' := [(2, .func (.func 102) #[] #[])]) (by kernel_rfl) ?_
                    refine gl_atE (by kernel_rfl) ?_
                    refine ge_seq ?_
                    refine gk_ret (by kernel_rfl) ?_
                    refine ge_block_ret ?_
                    refine ge_seq_ret ?_
                    obtain rfl := some_inj hr
                    exact ge_result trivial (ResOk.tmp (by kernel_rfl) ResOk.nil) (Imm.refl _) ⟨rfl, rfl⟩
                  · have hr := scond_f hc9 hr
                    refine gk_skip (by kernel_rfl) ?_
                    refine ge_block_normal ?_
                    refine ge_seq ?_
                    refine gk_seq (by kernel_rfl) ?_
                    refine gk_region (by kernel_rfl) ?_
                    refine gl_pure 1 [2] (K' := [(2, .nilFunc)]) (by kernel_rfl) ?_
                    refine gl_atE (by kernel_rfl) ?_
                    refine ge_seq ?_
                    refine gk_ret (by kernel_rfl) ?_
                    obtain rfl := some_inj hr
                    exact ge_result trivial (ResOk.tmp (by kernel_rfl) ResOk.nil) (Imm.refl _) ⟨rfl, rfl⟩
structure Fn88 (I : Imm) (fv : Value) (f : (List Fl) → Fl → Option Fl) : Prop where
  out : ∀ I', I ≤ I' → ∀ (x0 : List Fl) (x1 : Fl) (r : Fl), f x0 x1 = some r → ∀ A0_0 c0_0 b1_0, RepS Kd.flt I' A0_0 c0_0 x0 → FRep x1 b1_0 → ∀ L, CallsV Tryz.prog fv [.slice A0_0 x0.length c0_0, .float .f64 b1_0] I' L (fun v I' L' => ∃ b0_0, FRep r b0_0 ∧ v = .float .f64 b0_0 ∧ L = L')
theorem Fn88.mono {I J : Imm} {fv : Value} {f : (List Fl) → Fl → Option Fl} (h : Fn88 I fv f) (hI : I ≤ J) : Fn88 J fv f := ⟨fun I' hI' => h.out I' (Imm.trans hI hI')⟩
noncomputable def aggr_values_sum_l37 (l12 : List Fl) : (Fl × Int) → Option ((Fl × Int) ⊕ (Fl)) := fun s24 =>
  bif (decide (s24.2 < (l12.length : Int))) then
  (Option.bind (ix l12 s24.2) fun (x40 : Fl) =>
    some (Sum.inl ((farith .add s24.1 x40), (IntKind.wrap .i64 (s24.2 + 1)))))
  else
  (some (Sum.inr s24.1))
noncomputable def aggr_values_sum (a0 : List Fl) (a1 : Fl) : Option Fl :=
  Option.bind (ix a0 0) fun (x1 : Fl) =>
  Option.bind (lx a0 1 (a0.length : Int)) fun (l12 : List Fl) =>
  Option.bind (loopO (aggr_values_sum_l37 l12) (x1, 0)) fun (r22 : Fl) =>
  some r22
theorem aggr_values_sum_walk {a0 : List Fl} {A0_0 : Option Addr} {n0_0 : Nat} {a1 : Fl} {b1_0 : Nat} {I : Imm} {r : Fl}  (hf0_0 : RepS Kd.flt I A0_0 n0_0 a0)  (hf1_0 : FRep a1 b1_0) (hr : aggr_values_sum a0 a1 = some r) (L : Own) :
    CallsTo Tryz.prog 94 #[.slice A0_0 a0.length n0_0, .float .f64 b1_0] I L (fun v I' L' => ∃ b0_0, FRep r b0_0 ∧ v = .float .f64 b0_0 ∧ L = L') := by
  unfold aggr_values_sum at hr
  refine callsTo_body (N := 23) Tryz.func94 (by kernel_rfl) (by kernel_rfl) (by kernel_rfl) ?_
  refine gk_pick [0, 1] (K' := [(0, .slice A0_0 a0.length n0_0), (1, .float .f64 b1_0)]) (by kernel_rfl) ?_
  refine gk_seq (by kernel_rfl) ?_
  refine gk_region (by kernel_rfl) ?_
  refine gl_pure 1 [0] (K' := [(0, .slice A0_0 a0.length n0_0)]) (by kernel_rfl) ?_
  refine gl_atE (by kernel_rfl) ?_
  refine ge_seq ?_
  refine gk_seq (by kernel_rfl) ?_
  refine gk_region (by kernel_rfl) ?_
  refine gl_pure 1 [0, 8] (K' := [(0, .slice A0_0 a0.length n0_0), (8, .slice A0_0 a0.length n0_0)]) (by kernel_rfl) ?_
  obtain ⟨x1, hx2, hr⟩ := bind_some hr
  obtain ⟨p3, cs4, hR5, hA6, ha7⟩ := RepS.ixAt hx2 hf0_0
  have hi8 := ix_some hx2
  obtain ⟨b9, rfl, hf10⟩ := hR5
  refine gl_indexAddrF (c := n0_0) (T' := 92) (e := 37) (xs := (.tmp 8)) (xi := (.const (.int .i64 0))) (kd := .i64) ha7 hi8.1 hi8.2.1 (by kernel_rfl) (by kernel_rfl) (by kernel_rfl) (by kernel_rfl) (by kernel_rfl) ?_
  refine gl_load (T' := 37) (xp := (.tmp 9)) (p := p3) (c := .float .f64 b9) (n := 1) (by kernel_rfl) (by kernel_rfl) (by kernel_rfl) (by kernel_rfl) hA6 ?_
  refine gl_pure 1 [0, 5] (K' := [(0, .slice A0_0 a0.length n0_0), (5, .float .f64 b9)]) (by kernel_rfl) ?_
  refine gl_atE (by kernel_rfl) ?_
  refine ge_seq ?_
  refine gk_seq (by kernel_rfl) ?_
  refine gk_seq (by kernel_rfl) ?_
  refine gk_region (by kernel_rfl) ?_
  refine gl_pure 1 [5, 11] (K' := [(5, .float .f64 b9), (11, .slice A0_0 a0.length n0_0)]) (by kernel_rfl) ?_
  obtain ⟨l12, hx11, hr⟩ := bind_some hr
  refine gl_sliceR (d := Kd.flt) (T' := 92) (e := 37) (xs := (.tmp 11)) (lo := (some (.const (.int .i64 1)))) (hi := none) hx11 hf0_0 (by kernel_rfl) (by kernel_rfl) (by kernel_rfl) (by kernel_rfl) (by kernel_rfl) (by kernel_rfl) (fun A13 n14 hf15 => ?_)
  refine gl_pure 2 [5, 12, 13, 14] (K' := [(5, .float .f64 b9), (12, .slice A13 l12.length n14), (13, .int .i64 (l12.length : Int)), (14, .int .i64 0)]) (by kernel_rfl) ?_
  refine gl_atE (by kernel_rfl) ?_
  refine ge_seq ?_
  obtain ⟨r22, hl23, hr⟩ := bind_some hr
  refine gk_join (fun t I' L' => ∃ b33, FRep r22 b33 ∧ I ≤ I' ∧ L = L' ∧ Knows 23 [(5, .float .f64 b33)] t) ?_ ?_
  · refine gk_block (by kernel_rfl) ?_
    refine gk_pick [5, 12, 13, 14] (K' := [(5, .float .f64 b9), (12, .slice A13 l12.length n14), (13, .int .i64 (l12.length : Int)), (14, .int .i64 0)]) (by kernel_rfl) ?_
    intro t hK
    refine gc_loop (aggr_values_sum_l37 l12) (fun s24 t I' L' => ∃ b28, FRep s24.1 b28 ∧ I ≤ I' ∧ L = L' ∧ Knows 23 [(5, .float .f64 b28), (12, .slice A13 l12.length n14), (13, .int .i64 (l12.length : Int)), (14, .int .i64 s24.2)] t) (by kernel_rfl) ?_ hl23 ⟨b9, hf10, (Imm.refl _), rfl, hK⟩
    rintro s24 o25 t I31 L' hb26 ⟨b28, hb29, hI27, rfl, hK30⟩
    unfold aggr_values_sum_l37 at hb26
    refine gk_at hK30 ?_
    refine gk_seq (by kernel_rfl) ?_
    refine gk_region (by kernel_rfl) ?_
    refine gl_pure 1 [5, 12, 13, 14, 15] (K' := [(5, .float .f64 b28), (12, .slice A13 l12.length n14), (13, .int .i64 (l12.length : Int)), (14, .int .i64 s24.2), (15, .bool (decide (s24.2 < (l12.length : Int))))]) (by kernel_rfl) ?_
    refine gl_atE (by kernel_rfl) ?_
    refine ge_seq ?_
    refine gk_seq (by kernel_rfl) ?_
    refine gk_cond (b := (decide (s24.2 < (l12.length : Int)))) (by kernel_rfl) (by kernel_rfl) (fun hc39 => ?_) (fun hc39 => ?_)
    · have hb26 := cond_t hc39 hb26
      refine gk_skip (by kernel_rfl) ?_
      refine ge_seq ?_
      refine gk_seq (by kernel_rfl) ?_
      refine gk_block (by kernel_rfl) ?_
      refine gk_seq (by kernel_rfl) ?_
      refine gk_region (by kernel_rfl) ?_
      obtain ⟨x40, hx41, hb26⟩ := bind_some hb26
      obtain ⟨p42, cs43, hR44, hA45, ha46⟩ := RepS.ixAt hx41 (hf15.mono hI27)
      have hi47 := ix_some hx41
      obtain ⟨b48, rfl, hf49⟩ := hR44
      refine gl_indexAddrF (c := n14) (T' := 92) (e := 37) (xs := (.tmp 12)) (xi := (.tmp 14)) (kd := .i64) ha46 hi47.1 hi47.2.1 (by kernel_rfl) (by kernel_rfl) (by kernel_rfl) (by kernel_rfl) (by kernel_rfl) ?_
      refine gl_load (T' := 37) (xp := (.tmp 16)) (p := p42) (c := .float .f64 b48) (n := 1) (by kernel_rfl) (by kernel_rfl) (by kernel_rfl) (by kernel_rfl) hA45 ?_
      refine gl_pure 1 [5, 7, 12, 13, 14] (K' := [(5, .float .f64 b28), (7, .float .f64 b48), (12, .slice A13 l12.length n14), (13, .int .i64 (l12.length : Int)), (14, .int .i64 s24.2)]) (by kernel_rfl) ?_
      refine gl_atE (by kernel_rfl) ?_
      refine ge_seq ?_
      refine gk_region (by kernel_rfl) ?_
      refine gl_pure 2 [12, 13, 14, 18, 19] (K' := [(12, .slice A13 l12.length n14), (13, .int .i64 (l12.length : Int)), (14, .int .i64 s24.2), (18, .float .f64 b28), (19, .float .f64 b48)]) (by kernel_rfl) ?_
      refine gl_farith (op := .add) (t := 37) (t' := 37) (xx := (.tmp 18)) (yy := (.tmp 19)) hb29 hf49 (by kernel_rfl) (by kernel_rfl) rfl (by kernel_rfl) (by kernel_rfl) (fun b50 hf51 => ?_)
      refine gl_pure 1 [5, 12, 13, 14] (K' := [(5, .float .f64 b50), (12, .slice A13 l12.length n14), (13, .int .i64 (l12.length : Int)), (14, .int .i64 s24.2)]) (by kernel_rfl) ?_
      refine gl_atE (by kernel_rfl) ?_
      refine ge_block_normal ?_
      refine ge_seq ?_
      refine gk_region (by kernel_rfl) ?_
      refine gl_pure 2 [5, 12, 13, 14] (K' := [(5, .float .f64 b50), (12, .slice A13 l12.length n14), (13, .int .i64 (l12.length : Int)), (14, .int .i64 (IntKind.wrap .i64 (s24.2 + 1)))]) (by kernel_rfl) ?_
      refine gl_atE (by kernel_rfl) ?_
      obtain rfl := some_inj hb26
      exact ge_round fun t ht => ⟨b50, hf51, hI27, rfl, ht.pick (l := [5, 12, 13, 14]) (by kernel_rfl)⟩
    · have hb26 := cond_f hc39 hb26
      refine gk_exit (by kernel_rfl) ?_
      refine ge_seq_exit ?_
      obtain rfl := some_inj hb26
      refine ge_round_out (fun hrr => ?_) (by intro h; cases h)
      obtain rfl := hrr
      refine ge_block_hit (by kernel_rfl) ?_
      exact ge_mid fun t ht => ⟨b28, hb29, hI27, rfl, ht.pick (l := [5]) (by kernel_rfl)⟩
  · rintro t I36 L' ⟨b33, hb34, hI32, rfl, hK35⟩
    refine ge_at hK35 ?_
    refine ge_seq ?_
    refine gk_seq (by kernel_rfl) ?_
    refine gk_region (by kernel_rfl) ?_
    refine gl_pure 2 [4] (K' := [(4, .float .f64 b33)]) (by kernel_rfl) ?_
    refine gl_atE (by kernel_rfl) ?_
    refine ge_seq ?_
    refine gk_ret (by kernel_rfl) ?_
    obtain rfl := some_inj hr
    exact ge_result trivial (ResOk.tmp (by kernel_rfl) ResOk.nil) hI32 ⟨b33, hb34, rfl, rfl⟩
theorem aggr_values_sum_impl88  {I : Imm}  : Fn88 I (.func (.func 94) #[] #[]) aggr_values_sum := ⟨fun I' hI x0 x1 r hr A0_0 c0_0 b1_0 h0_0 h1_0 L => ⟨94, #[], #[], rfl, ⟨_, Tryz.func94, by kernel_rfl, by kernel_rfl⟩, by
  simp only [List.append_toArray, List.nil_append, List.append_nil, Array.append_empty, Array.empty_append, List.push_append_toArray, List.cons_append]
  exact aggr_values_sum_walk  h0_0 h1_0  hr L⟩⟩
noncomputable def aggr_values_avg (a0 : List Fl) (a1 : Fl) : Option Fl :=
  Option.bind (aggr_values_sum a0 a1) fun (y1 : Fl) =>
  some (farith .quo y1 (some (FloatKind.nearest .f64 (a0.length : Int)) : Fl))
theorem aggr_values_avg_walk {a0 : List Fl} {A0_0 : Option Addr} {n0_0 : Nat} {a1 : Fl} {b1_0 : Nat} {I : Imm} {r : Fl}  (hf0_0 : RepS Kd.flt I A0_0 n0_0 a0)  (hf1_0 : FRep a1 b1_0) (hr : aggr_values_avg a0 a1 = some r) (L : Own) :
    CallsTo Tryz.prog 95 #[.slice A0_0 a0.length n0_0, .float .f64 b1_0] I L (fun v I' L' => ∃ b0_0, FRep r b0_0 ∧ v = .float .f64 b0_0 ∧ L = L') := by
  unfold aggr_values_avg at hr
  refine callsTo_body (N := 12) Tryz.func95 (by kernel_rfl) (by kernel_rfl) (by kernel_rfl) ?_
  refine gk_pick [0, 1] (K' := [(0, .slice A0_0 a0.length n0_0), (1, .float .f64 b1_0)]) (by kernel_rfl) ?_
  refine gk_seq (by kernel_rfl) ?_
  refine gk_region (by kernel_rfl) ?_
  refine gl_pure 1 [0, 1] (K' := [(0, .slice A0_0 a0.length n0_0), (1, .float .f64 b1_0)]) (by kernel_rfl) ?_
  refine gl_atE (by kernel_rfl) ?_
  refine ge_seq ?_
  refine gk_seq (by kernel_rfl) ?_
  refine gk_region (by kernel_rfl) ?_
  refine gl_pure 2 [0, 5, 6] (K' := [(0, .slice A0_0 a0.length n0_0), (5, .slice A0_0 a0.length n0_0), (6, .float .f64 b1_0)]) (by kernel_rfl) ?_
  obtain ⟨y1, hx2, hr⟩ := bind_some hr
  refine gl_call (by kernel_rfl) (aggr_values_sum_walk (r := y1) hf0_0 hf1_0 hx2 _) ?_
  rintro v I3 L4 hI5 ⟨z6, hO7, rfl, rfl⟩
  refine gl_pure 3 [7, 10] (K' := [(7, .float .f64 z6), (10, .float .f64 (FloatKind.nearest .f64 (a0.length : Int)))]) (by kernel_rfl) ?_
  refine gl_farith (op := .quo) (t := 37) (t' := 37) (xx := (.tmp 7)) (yy := (.tmp 10)) hO7 (FRep.of (FloatKind.nearest .f64 (a0.length : Int))) (by kernel_rfl) (by kernel_rfl) rfl (by kernel_rfl) (by kernel_rfl) (fun b8 hf9 => ?_)
  refine gl_pure 1 [4] (K' := [(4, .float .f64 b8)]) (by kernel_rfl) ?_
  refine gl_atE (by kernel_rfl) ?_
  refine ge_seq ?_
  refine gk_ret (by kernel_rfl) ?_
  obtain rfl := some_inj hr
  exact ge_result trivial (ResOk.tmp (by kernel_rfl) ResOk.nil) hI5 ⟨b8, hf9, rfl, rfl⟩
theorem aggr_values_avg_impl88  {I : Imm}  : Fn88 I (.func (.func 95) #[] #[]) aggr_values_avg := ⟨fun I' hI x0 x1 r hr A0_0 c0_0 b1_0 h0_0 h1_0 L => ⟨95, #[], #[], rfl, ⟨_, Tryz.func95, by kernel_rfl, by kernel_rfl⟩, by
  simp only [List.append_toArray, List.nil_append, List.append_nil, Array.append_empty, Array.empty_append, List.push_append_toArray, List.cons_append]
  exact aggr_values_avg_walk  h0_0 h1_0  hr L⟩⟩
noncomputable def math_IsNaN (a0 : Fl) : Bool :=
  (fcmp .neq a0 a0)
theorem math_IsNaN_walk {a0 : Fl} {b0_0 : Nat} {I : Imm} {r : Bool}  (hf0_0 : FRep a0 b0_0) (hr : math_IsNaN a0 = r) (L : Own) :
    CallsTo Tryz.prog 104 #[.float .f64 b0_0] I L (fun v I' L' => v = .bool r ∧ L = L') := by
  replace hr : some (math_IsNaN a0) = some r := congrArg some hr
  unfold math_IsNaN at hr
  refine callsTo_body (N := 6) Tryz.func104 (by kernel_rfl) (by kernel_rfl) (by kernel_rfl) ?_
  refine gk_pick [0] (K' := [(0, .float .f64 b0_0)]) (by kernel_rfl) ?_
  refine gk_seq (by kernel_rfl) ?_
  refine gk_region (by kernel_rfl) ?_
  refine gl_pure 1 [0] (K' := [(0, .float .f64 b0_0)]) (by kernel_rfl) ?_
  refine gl_atE (by kernel_rfl) ?_
  refine ge_seq ?_
  refine gk_seq (by kernel_rfl) ?_
  refine gk_region (by kernel_rfl) ?_
  refine gl_pure 2 [3, 4] (K' := [(3, .float .f64 b0_0), (4, .float .f64 b0_0)]) (by kernel_rfl) ?_
  refine gl_fcmp (op := .neq) (t := 37) (t' := 37) (xx := (.tmp 3)) (yy := (.tmp 4)) hf0_0 hf0_0 (by kernel_rfl) (by kernel_rfl) rfl (by kernel_rfl) (by kernel_rfl) ?_
  refine gl_pure 1 [2] (K' := [(2, .bool (fcmp .neq a0 a0))]) (by kernel_rfl) ?_
  refine gl_atE (by kernel_rfl) ?_
  refine ge_seq ?_
  refine gk_ret (by kernel_rfl) ?_
  obtain rfl := some_inj hr
  exact ge_result trivial (ResOk.tmp (by kernel_rfl) ResOk.nil) (Imm.refl _) ⟨rfl, rfl⟩
noncomputable def aggr_values_min_l32 (a0 : List Fl) : (Fl × Int) → Option ((Fl × Int) ⊕ (Fl)) := fun s19 =>
  bif (decide (s19.2 < (a0.length : Int))) then
  (Option.bind (ix a0 s19.2) fun (x35 : Fl) =>
    Option.bind (bif (fcmp .lss x35 s19.1) then
      (some true)
      else
      (some (math_IsNaN s19.1))) fun (j45 : Bool) =>
    Option.bind (bif j45 then
      (some x35)
      else
      (some s19.1)) fun (j51 : Fl) =>
    some (Sum.inl (j51, (IntKind.wrap .i64 (s19.2 + 1)))))
  else
  (some (Sum.inr s19.1))
noncomputable def aggr_values_min (a0 : List Fl) (a1 : Fl) : Option Fl :=
  Option.bind (ix a0 0) fun (x1 : Fl) =>
  Option.bind (loopO (aggr_values_min_l32 a0) (x1, 0)) fun (r17 : Fl) =>
  some r17
theorem aggr_values_min_walk {a0 : List Fl} {A0_0 : Option Addr} {n0_0 : Nat} {a1 : Fl} {b1_0 : Nat} {I : Imm} {r : Fl}  (hf0_0 : RepS Kd.flt I A0_0 n0_0 a0)  (hf1_0 : FRep a1 b1_0) (hr : aggr_values_min a0 a1 = some r) (L : Own) :
    CallsTo Tryz.prog 96 #[.slice A0_0 a0.length n0_0, .float .f64 b1_0] I L (fun v I' L' => ∃ b0_0, FRep r b0_0 ∧ v = .float .f64 b0_0 ∧ L = L') := by
  unfold aggr_values_min at hr
  refine callsTo_body (N := 27) Tryz.func96 (by kernel_rfl) (by kernel_rfl) (by kernel_rfl) ?_
  refine gk_pick [0, 1] (K' := [(0, .slice A0_0 a0.length n0_0), (1, .float .f64 b1_0)]) (by kernel_rfl) ?_
  refine gk_seq (by kernel_rfl) ?_
  refine gk_region (by kernel_rfl) ?_
  refine gl_pure 1 [0] (K' := [(0, .slice A0_0 a0.length n0_0)]) (by kernel_rfl) ?_
  refine gl_atE (by kernel_rfl) ?_
  refine ge_seq ?_
  refine gk_seq (by kernel_rfl) ?_
  refine gk_region (by kernel_rfl) ?_
  refine gl_pure 1 [0, 8] (K' := [(0, .slice A0_0 a0.length n0_0), (8, .slice A0_0 a0.length n0_0)]) (by kernel_rfl) ?_
  obtain ⟨x1, hx2, hr⟩ := bind_some hr
  obtain ⟨p3, cs4, hR5, hA6, ha7⟩ := RepS.ixAt hx2 hf0_0
  have hi8 := ix_some hx2
  obtain ⟨b9, rfl, hf10⟩ := hR5
  refine gl_indexAddrF (c := n0_0) (T' := 92) (e := 37) (xs := (.tmp 8)) (xi := (.const (.int .i64 0))) (kd := .i64) ha7 hi8.1 hi8.2.1 (by kernel_rfl) (by kernel_rfl) (by kernel_rfl) (by kernel_rfl) (by kernel_rfl) ?_
  refine gl_load (T' := 37) (xp := (.tmp 9)) (p := p3) (c := .float .f64 b9) (n := 1) (by kernel_rfl) (by kernel_rfl) (by kernel_rfl) (by kernel_rfl) hA6 ?_
  refine gl_pure 1 [0, 5] (K' := [(0, .slice A0_0 a0.length n0_0), (5, .float .f64 b9)]) (by kernel_rfl) ?_
  refine gl_atE (by kernel_rfl) ?_
  refine ge_seq ?_
  refine gk_seq (by kernel_rfl) ?_
  refine gk_seq (by kernel_rfl) ?_
  refine gk_region (by kernel_rfl) ?_
  refine gl_pure 3 [5, 11, 12, 13] (K' := [(5, .float .f64 b9), (11, .slice A0_0 a0.length n0_0), (12, .int .i64 (a0.length : Int)), (13, .int .i64 0)]) (by kernel_rfl) ?_
  refine gl_atE (by kernel_rfl) ?_
  refine ge_seq ?_
  obtain ⟨r17, hl18, hr⟩ := bind_some hr
  refine gk_join (fun t I' L' => ∃ b28, FRep r17 b28 ∧ I ≤ I' ∧ L = L' ∧ Knows 27 [(5, .float .f64 b28)] t) ?_ ?_
  · refine gk_block (by kernel_rfl) ?_
    refine gk_pick [5, 11, 12, 13] (K' := [(5, .float .f64 b9), (11, .slice A0_0 a0.length n0_0), (12, .int .i64 (a0.length : Int)), (13, .int .i64 0)]) (by kernel_rfl) ?_
    intro t hK
    refine gc_loop (aggr_values_min_l32 a0) (fun s19 t I' L' => ∃ b23, FRep s19.1 b23 ∧ I ≤ I' ∧ L = L' ∧ Knows 27 [(5, .float .f64 b23), (11, .slice A0_0 a0.length n0_0), (12, .int .i64 (a0.length : Int)), (13, .int .i64 s19.2)] t) (by kernel_rfl) ?_ hl18 ⟨b9, hf10, (Imm.refl _), rfl, hK⟩
    rintro s19 o20 t I26 L' hb21 ⟨b23, hb24, hI22, rfl, hK25⟩
    unfold aggr_values_min_l32 at hb21
    refine gk_at hK25 ?_
    refine gk_seq (by kernel_rfl) ?_
    refine gk_region (by kernel_rfl) ?_
    refine gl_pure 1 [5, 11, 12, 13, 14] (K' := [(5, .float .f64 b23), (11, .slice A0_0 a0.length n0_0), (12, .int .i64 (a0.length : Int)), (13, .int .i64 s19.2), (14, .bool (decide (s19.2 < (a0.length : Int))))]) (by kernel_rfl) ?_
    refine gl_atE (by kernel_rfl) ?_
    refine ge_seq ?_
    refine gk_seq (by kernel_rfl) ?_
    refine gk_cond (b := (decide (s19.2 < (a0.length : Int)))) (by kernel_rfl) (by kernel_rfl) (fun hc34 => ?_) (fun hc34 => ?_)
    · have hb21 := cond_t hc34 hb21
      refine gk_skip (by kernel_rfl) ?_
      refine ge_seq ?_
      refine gk_seq (by kernel_rfl) ?_
      refine gk_block (by kernel_rfl) ?_
      refine gk_seq (by kernel_rfl) ?_
      refine gk_region (by kernel_rfl) ?_
      obtain ⟨x35, hx36, hb21⟩ := bind_some hb21
      obtain ⟨p37, cs38, hR39, hA40, ha41⟩ := RepS.ixAt hx36 (hf0_0.mono hI22)
      have hi42 := ix_some hx36
      obtain ⟨b43, rfl, hf44⟩ := hR39
      refine gl_indexAddrF (c := n0_0) (T' := 92) (e := 37) (xs := (.tmp 11)) (xi := (.tmp 13)) (kd := .i64) ha41 hi42.1 hi42.2.1 (by kernel_rfl) (by kernel_rfl) (by kernel_rfl) (by kernel_rfl) (by kernel_rfl) ?_
      refine gl_load (T' := 37) (xp := (.tmp 15)) (p := p37) (c := .float .f64 b43) (n := 1) (by kernel_rfl) (by kernel_rfl) (by kernel_rfl) (by kernel_rfl) hA40 ?_
      refine gl_pure 1 [5, 7, 11, 12, 13] (K' := [(5, .float .f64 b23), (7, .float .f64 b43), (11, .slice A0_0 a0.length n0_0), (12, .int .i64 (a0.length : Int)), (13, .int .i64 s19.2)]) (by kernel_rfl) ?_
      refine gl_atE (by kernel_rfl) ?_
      refine ge_seq ?_
      refine gk_seq (by kernel_rfl) ?_
      obtain ⟨j45, hj46, hb21⟩ := bind_some hb21
      refine gk_join (fun t I' L' => I26 ≤ I' ∧ L = L' ∧ Knows 27 [(5, .float .f64 b23), (7, .float .f64 b43), (11, .slice A0_0 a0.length n0_0), (12, .int .i64 (a0.length : Int)), (13, .int .i64 s19.2), (23, .bool j45)] t) ?_ ?_
      · refine gk_region (by kernel_rfl) ?_
        refine gl_pure 2 [5, 7, 11, 12, 13, 17, 18] (K' := [(5, .float .f64 b23), (7, .float .f64 b43), (11, .slice A0_0 a0.length n0_0), (12, .int .i64 (a0.length : Int)), (13, .int .i64 s19.2), (17, .float .f64 b43), (18, .float .f64 b23)]) (by kernel_rfl) ?_
        refine gl_fcmp (op := .lss) (t := 37) (t' := 37) (xx := (.tmp 17)) (yy := (.tmp 18)) hf44 hb24 (by kernel_rfl) (by kernel_rfl) rfl (by kernel_rfl) (by kernel_rfl) ?_
        refine gl_pure 1 [5, 7, 11, 12, 13, 20] (K' := [(5, .float .f64 b23), (7, .float .f64 b43), (11, .slice A0_0 a0.length n0_0), (12, .int .i64 (a0.length : Int)), (13, .int .i64 s19.2), (20, .bool (fcmp .lss x35 s19.1))]) (by kernel_rfl) ?_
        refine gl_case 20 (b := (fcmp .lss x35 s19.1)) (by kernel_rfl) (fun hc50 => ?_) (fun hc50 => ?_)
        · have hj46 := cond_t hc50 hj46
          refine gl_pure 3 [5, 7, 11, 12, 13, 23] (K' := [(5, .float .f64 b23), (7, .float .f64 b43), (11, .slice A0_0 a0.length n0_0), (12, .int .i64 (a0.length : Int)), (13, .int .i64 s19.2), (23, .bool true)]) (by kernel_rfl) ?_
          refine gl_atE (by kernel_rfl) ?_
          obtain rfl := some_inj hj46
          exact ge_mid fun t ht => ⟨(Imm.refl _), rfl, ht.pick (l := [5, 7, 11, 12, 13, 23]) (by kernel_rfl)⟩
        · have hj46 := cond_f hc50 hj46
          refine gl_pure 1 [5, 7, 11, 12, 13, 20, 21] (K' := [(5, .float .f64 b23), (7, .float .f64 b43), (11, .slice A0_0 a0.length n0_0), (12, .int .i64 (a0.length : Int)), (13, .int .i64 s19.2), (20, .bool false), (21, .float .f64 b23)]) (by kernel_rfl) ?_
          refine gl_callQ (by kernel_rfl) (math_IsNaN_walk (r := (math_IsNaN s19.1)) hb24 rfl _) ?_
          refine gl_pure 1 [5, 7, 11, 12, 13, 23] (K' := [(5, .float .f64 b23), (7, .float .f64 b43), (11, .slice A0_0 a0.length n0_0), (12, .int .i64 (a0.length : Int)), (13, .int .i64 s19.2), (23, .bool (math_IsNaN s19.1))]) (by kernel_rfl) ?_
          refine gl_atE (by kernel_rfl) ?_
          obtain rfl := some_inj hj46
          exact ge_mid fun t ht => ⟨(Imm.refl _), rfl, ht.pick (l := [5, 7, 11, 12, 13, 23]) (by kernel_rfl)⟩
      · rintro t I49 L' ⟨hI47, rfl, hK48⟩
        refine ge_at hK48 ?_
        refine ge_seq ?_
        obtain ⟨j51, hj52, hb21⟩ := bind_some hb21
        refine gk_join (fun t I' L' => ∃ b54, FRep j51 b54 ∧ I49 ≤ I' ∧ L = L' ∧ Knows 27 [(5, .float .f64 b54), (11, .slice A0_0 a0.length n0_0), (12, .int .i64 (a0.length : Int)), (13, .int .i64 s19.2)] t) ?_ ?_
        · refine gk_cond (b := j45) (by kernel_rfl) (by kernel_rfl) (fun hc58 => ?_) (fun hc58 => ?_)
          · have hj52 := cond_t hc58 hj52
            refine gk_region (by kernel_rfl) ?_
            refine gl_pure 2 [5, 11, 12, 13] (K' := [(5, .float .f64 b43), (11, .slice A0_0 a0.length n0_0), (12, .int .i64 (a0.length : Int)), (13, .int .i64 s19.2)]) (by kernel_rfl) ?_
            refine gl_atE (by kernel_rfl) ?_
            obtain rfl := some_inj hj52
            exact ge_mid fun t ht => ⟨b43, hf44, (Imm.refl _), rfl, ht.pick (l := [5, 11, 12, 13]) (by kernel_rfl)⟩
          · have hj52 := cond_f hc58 hj52
            refine gk_skip (by kernel_rfl) ?_
            obtain rfl := some_inj hj52
            exact ge_mid fun t ht => ⟨b23, hb24, (Imm.refl _), rfl, ht.pick (l := [5, 11, 12, 13]) (by kernel_rfl)⟩
        · rintro t I57 L' ⟨b54, hb55, hI53, rfl, hK56⟩
          refine ge_at hK56 ?_
          refine ge_block_normal ?_
          refine ge_seq ?_
          refine gk_region (by kernel_rfl) ?_
          refine gl_pure 2 [5, 11, 12, 13] (K' := [(5, .float .f64 b54), (11, .slice A0_0 a0.length n0_0), (12, .int .i64 (a0.length : Int)), (13, .int .i64 (IntKind.wrap .i64 (s19.2 + 1)))]) (by kernel_rfl) ?_
          refine gl_atE (by kernel_rfl) ?_
          obtain rfl := some_inj hb21
          exact ge_round fun t ht => ⟨b54, hb55, (Imm.trans (Imm.trans hI22 hI47) hI53), rfl, ht.pick (l := [5, 11, 12, 13]) (by kernel_rfl)⟩
    · have hb21 := cond_f hc34 hb21
      refine gk_exit (by kernel_rfl) ?_
      refine ge_seq_exit ?_
      obtain rfl := some_inj hb21
      refine ge_round_out (fun hrr => ?_) (by intro h; cases h)
      obtain rfl := hrr
      refine ge_block_hit (by kernel_rfl) ?_
      exact ge_mid fun t ht => ⟨b23, hb24, hI22, rfl, ht.pick (l := [5]) (by kernel_rfl)⟩
  · rintro t I31 L' ⟨b28, hb29, hI27, rfl, hK30⟩
    refine ge_at hK30 ?_
    refine ge_seq ?_
    refine gk_seq (by kernel_rfl) ?_
    refine gk_region (by kernel_rfl) ?_
    refine gl_pure 2 [4] (K' := [(4, .float .f64 b28)]) (by kernel_rfl) ?_
    refine gl_atE (by kernel_rfl) ?_
    refine ge_seq ?_
    refine gk_ret (by kernel_rfl) ?_
    obtain rfl := some_inj hr
    exact ge_result trivial (ResOk.tmp (by kernel_rfl) ResOk.nil) hI27 ⟨b28, hb29, rfl, rfl⟩
theorem aggr_values_min_impl88  {I : Imm}  : Fn88 I (.func (.func 96) #[] #[]) aggr_values_min := ⟨fun I' hI x0 x1 r hr A0_0 c0_0 b1_0 h0_0 h1_0 L => ⟨96, #[], #[], rfl, ⟨_, Tryz.func96, by kernel_rfl, by kernel_rfl⟩, by
  simp only [List.append_toArray, List.nil_append, List.append_nil, Array.append_empty, Array.empty_append, List.push_append_toArray, List.cons_append]
  exact aggr_values_min_walk  h0_0 h1_0  hr L⟩⟩
noncomputable def aggr_values_max_l32 (a0 : List Fl) : (Fl × Int) → Option ((Fl × Int) ⊕ (Fl)) := fun s19 =>
  bif (decide (s19.2 < (a0.length : Int))) then
  (Option.bind (ix a0 s19.2) fun (x35 : Fl) =>
    Option.bind (bif (fcmp .gtr x35 s19.1) then
      (some true)
      else
      (some (math_IsNaN s19.1))) fun (j45 : Bool) =>
    Option.bind (bif j45 then
      (some x35)
      else
      (some s19.1)) fun (j51 : Fl) =>
    some (Sum.inl (j51, (IntKind.wrap .i64 (s19.2 + 1)))))
  else
  (some (Sum.inr s19.1))
noncomputable def aggr_values_max (a0 : List Fl) (a1 : Fl) : Option Fl :=
  Option.bind (ix a0 0) fun (x1 : Fl) =>
  Option.bind (loopO (aggr_values_max_l32 a0) (x1, 0)) fun (r17 : Fl) =>
  some r17
theorem aggr_values_max_walk {a0 : List Fl} {A0_0 : Option Addr} {n0_0 : Nat} {a1 : Fl} {b1_0 : Nat} {I : Imm} {r : Fl}  (hf0_0 : RepS Kd.flt I A0_0 n0_0 a0)  (hf1_0 : FRep a1 b1_0) (hr : aggr_values_max a0 a1 = some r) (L : Own) :
    CallsTo Tryz.prog 97 #[.slice A0_0 a0.length n0_0, .float .f64 b1_0] I L (fun v I' L' => ∃ b0_0, FRep r b0_0 ∧ v = .float .f64 b0_0 ∧ L = L') := by
  unfold aggr_values_max at hr
  refine callsTo_body (N := 27) Tryz.func97 (by kernel_rfl) (by kernel_rfl) (by kernel_rfl) ?_
  refine gk_pick [0, 1] (K' := [(0, .slice A0_0 a0.length n0_0), (1, .float .f64 b1_0)]) (by kernel_rfl) ?_
  refine gk_seq (by kernel_rfl) ?_
  refine gk_region (by kernel_rfl) ?_
  refine gl_pure 1 [0] (K' := [(0, .slice A0_0 a0.length n0_0)]) (by kernel_rfl) ?_
  refine gl_atE (by kernel_rfl) ?_
  refine ge_seq ?_
  refine gk_seq (by kernel_rfl) ?_
  refine gk_region (by kernel_rfl) ?_
  refine gl_pure 1 [0, 8] (K' := [(0, .slice A0_0 a0.length n0_0), (8, .slice A0_0 a0.length n0_0)]) (by kernel_rfl) ?_
  obtain ⟨x1, hx2, hr⟩ := bind_some hr
  obtain ⟨p3, cs4, hR5, hA6, ha7⟩ := RepS.ixAt hx2 hf0_0
  have hi8 := ix_some hx2
  obtain ⟨b9, rfl, hf10⟩ := hR5
  refine gl_indexAddrF (c := n0_0) (T' := 92) (e := 37) (xs := (.tmp 8)) (xi := (.const (.int .i64 0))) (kd := .i64) ha7 hi8.1 hi8.2.1 (by kernel_rfl) (by kernel_rfl) (by kernel_rfl) (by kernel_rfl) (by kernel_rfl) ?_
  refine gl_load (T' := 37) (xp := (.tmp 9)) (p := p3) (c := .float .f64 b9) (n := 1) (by kernel_rfl) (by kernel_rfl) (by kernel_rfl) (by kernel_rfl) hA6 ?_
  refine gl_pure 1 [0, 5] (K' := [(0, .slice A0_0 a0.length n0_0), (5, .float .f64 b9)]) (by kernel_rfl) ?_
  refine gl_atE (by kernel_rfl) ?_
  refine ge_seq ?_
  refine gk_seq (by kernel_rfl) ?_
  refine gk_seq (by kernel_rfl) ?_
  refine gk_region (by kernel_rfl) ?_
  refine gl_pure 3 [5, 11, 12, 13] (K' := [(5, .float .f64 b9), (11, .slice A0_0 a0.length n0_0), (12, .int .i64 (a0.length : Int)), (13, .int .i64 0)]) (by kernel_rfl) ?_
  refine gl_atE (by kernel_rfl) ?_
  refine ge_seq ?_
  obtain ⟨r17, hl18, hr⟩ := bind_some hr
  refine gk_join (fun t I' L' => ∃ b28, FRep r17 b28 ∧ I ≤ I' ∧ L = L' ∧ Knows 27 [(5, .float .f64 b28)] t) ?_ ?_
  · refine gk_block (by kernel_rfl) ?_
    refine gk_pick [5, 11, 12, 13] (K' := [(5, .float .f64 b9), (11, .slice A0_0 a0.length n0_0), (12, .int .i64 (a0.length : Int)), (13, .int .i64 0)]) (by kernel_rfl) ?_
    intro t hK
    refine gc_loop (aggr_values_max_l32 a0) (fun s19 t I' L' => ∃ b23, FRep s19.1 b23 ∧ I ≤ I' ∧ L = L' ∧ Knows 27 [(5, .float .f64 b23), (11, .slice A0_0 a0.length n0_0), (12, .int .i64 (a0.length : Int)), (13, .int .i64 s19.2)] t) (by kernel_rfl) ?_ hl18 ⟨b9, hf10, (Imm.refl _), rfl, hK⟩
    rintro s19 o20 t I26 L' hb21 ⟨b23, hb24, hI22, rfl, hK25⟩
    unfold aggr_values_max_l32 at hb21
    refine gk_at hK25 ?_
    refine gk_seq (by kernel_rfl) ?_
    refine gk_region (by kernel_rfl) ?_
    refine gl_pure 1 [5, 11, 12, 13, 14] (K' := [(5, .float .f64 b23), (11, .slice A0_0 a0.length n0_0), (12, .int .i64 (a0.length : Int)), (13, .int .i64 s19.2), (14, .bool (decide (s19.2 < (a0.length : Int))))]) (by kernel_rfl) ?_
    refine gl_atE (by kernel_rfl) ?_
    refine ge_seq ?_
    refine gk_seq (by kernel_rfl) ?_
    refine gk_cond (b := (decide (s19.2 < (a0.length : Int)))) (by kernel_rfl) (by kernel_rfl) (fun hc34 => ?_) (fun hc34 => ?_)
    · have hb21 := cond_t hc34 hb21
      refine gk_skip (by kernel_rfl) ?_
      refine ge_seq ?_
      refine gk_seq (by kernel_rfl) ?_
      refine gk_block (by kernel_rfl) ?_
      refine gk_seq (by kernel_rfl) ?_
      refine gk_region (by kernel_rfl) ?_
      obtain ⟨x35, hx36, hb21⟩ := bind_some hb21
      obtain ⟨p37, cs38, hR39, hA40, ha41⟩ := RepS.ixAt hx36 (hf0_0.mono hI22)
      have hi42 := ix_some hx36
      obtain ⟨b43, rfl, hf44⟩ := hR39
      refine gl_indexAddrF (c := n0_0) (T' := 92) (e := 37) (xs := (.tmp 11)) (xi := (.tmp 13)) (kd := .i64) ha41 hi42.1 hi42.2.1 (by kernel_rfl) (by kernel_rfl) (by kernel_rfl) (by kernel_rfl) (by kernel_rfl) ?_
      refine gl_load (T' := 37) (xp := (.tmp 15)) (p := p37) (c := .float .f64 b43) (n := 1) (by kernel_rfl) (by kernel_rfl) (by kernel_rfl) (by kernel_rfl) hA40 ?_
      refine gl_pure 1 [5, 7, 11, 12, 13] (K' := [(5, .float .f64 b23), (7, .float .f64 b43), (11, .slice A0_0 a0.length n0_0), (12, .int .i64 (a0.length : Int)), (13, .int .i64 s19.2)]) (by kernel_rfl) ?_
      refine gl_atE (by kernel_rfl) ?_
      refine ge_seq ?_
      refine gk_seq (by kernel_rfl) ?_
      obtain ⟨j45, hj46, hb21⟩ := bind_some hb21
      refine gk_join (fun t I' L' => I26 ≤ I' ∧ L = L' ∧ Knows 27 [(5, .float .f64 b23), (7, .float .f64 b43), (11, .slice A0_0 a0.length n0_0), (12, .int .i64 (a0.length : Int)), (13, .int .i64 s19.2), (23, .bool j45)] t) ?_ ?_
      · refine gk_region (by kernel_rfl) ?_
        refine gl_pure 2 [5, 7, 11, 12, 13, 17, 18] (K' := [(5, .float .f64 b23), (7, .float .f64 b43), (11, .slice A0_0 a0.length n0_0), (12, .int .i64 (a0.length : Int)), (13, .int .i64 s19.2), (17, .float .f64 b43), (18, .float .f64 b23)]) (by kernel_rfl) ?_
        refine gl_fcmp (op := .gtr) (t := 37) (t' := 37) (xx := (.tmp 17)) (yy := (.tmp 18)) hf44 hb24 (by kernel_rfl) (by kernel_rfl) rfl (by kernel_rfl) (by kernel_rfl) ?_
        refine gl_pure 1 [5, 7, 11, 12, 13, 20] (K' := [(5, .float .f64 b23), (7, .float .f64 b43), (11, .slice A0_0 a0.length n0_0), (12, .int .i64 (a0.length : Int)), (13, .int .i64 s19.2), (20, .bool (fcmp .gtr x35 s19.1))]) (by kernel_rfl) ?_
        refine gl_case 20 (b := (fcmp .gtr x35 s19.1)) (by kernel_rfl) (fun hc50 => ?_) (fun hc50 => ?_)
        · have hj46 := cond_t hc50 hj46
          refine gl_pure 3 [5, 7, 11, 12, 13, 23] (K' := [(5, .float .f64 b23), (7, .float .f64 b43), (11, .slice A0_0 a0.length n0_0), (12, .int .i64 (a0.length : Int)), (13, .int .i64 s19.2), (23, .bool true)]) (by kernel_rfl) ?_
          refine gl_atE (by kernel_rfl) ?_
          obtain rfl := some_inj hj46
          exact ge_mid fun t ht => ⟨(Imm.refl _), rfl, ht.pick (l := [5, 7, 11, 12, 13, 23]) (by kernel_rfl)⟩
        · have hj46 := cond_f hc50 hj46
          refine gl_pure 1 [5, 7, 11, 12, 13, 20, 21] (K' := [(5, .float .f64 b23), (7, .float .f64 b43), (11, .slice A0_0 a0.length n0_0), (12, .int .i64 (a0.length : Int)), (13, .int .i64 s19.2), (20, .bool false), (21, .float .f64 b23)]) (by kernel_rfl) ?_
          refine gl_callQ (by kernel_rfl) (math_IsNaN_walk (r := (math_IsNaN s19.1)) hb24 rfl _) ?_
          refine gl_pure 1 [5, 7, 11, 12, 13, 23] (K' := [(5, .float .f64 b23), (7, .float .f64 b43), (11, .slice A0_0 a0.length n0_0), (12, .int .i64 (a0.length : Int)), (13, .int .i64 s19.2), (23, .bool (math_IsNaN s19.1))]) (by kernel_rfl) ?_
          refine gl_atE (by kernel_rfl) ?_
          obtain rfl := some_inj hj46
          exact ge_mid fun t ht => ⟨(Imm.refl _), rfl, ht.pick (l := [5, 7, 11, 12, 13, 23]) (by kernel_rfl)⟩
      · rintro t I49 L' ⟨hI47, rfl, hK48⟩
        refine ge_at hK48 ?_
        refine ge_seq ?_
        obtain ⟨j51, hj52, hb21⟩ := bind_some hb21
        refine gk_join (fun t I' L' => ∃ b54, FRep j51 b54 ∧ I49 ≤ I' ∧ L = L' ∧ Knows 27 [(5, .float .f64 b54), (11, .slice A0_0 a0.length n0_0), (12, .int .i64 (a0.length : Int)), (13, .int .i64 s19.2)] t) ?_ ?_
        · refine gk_cond (b := j45) (by kernel_rfl) (by kernel_rfl) (fun hc58 => ?_) (fun hc58 => ?_)
          · have hj52 := cond_t hc58 hj52
            refine gk_region (by kernel_rfl) ?_
            refine gl_pure 2 [5, 11, 12, 13] (K' := [(5, .float .f64 b43), (11, .slice A0_0 a0.length n0_0), (12, .int .i64 (a0.length : Int)), (13, .int .i64 s19.2)]) (by kernel_rfl) ?_
            refine gl_atE (by kernel_rfl) ?_
            obtain rfl := some_inj hj52
            exact ge_mid fun t ht => ⟨b43, hf44, (Imm.refl _), rfl, ht.pick (l := [5, 11, 12, 13]) (by kernel_rfl)⟩
          · have hj52 := cond_f hc58 hj52
            refine gk_skip (by kernel_rfl) ?_
            obtain rfl := some_inj hj52
            exact ge_mid fun t ht => ⟨b23, hb24, (Imm.refl _), rfl, ht.pick (l := [5, 11, 12, 13]) (by kernel_rfl)⟩
        · rintro t I57 L' ⟨b54, hb55, hI53, rfl, hK56⟩
          refine ge_at hK56 ?_
          refine ge_block_normal ?_
          refine ge_seq ?_
          refine gk_region (by kernel_rfl) ?_
          refine gl_pure 2 [5, 11, 12, 13] (K' := [(5, .float .f64 b54), (11, .slice A0_0 a0.length n0_0), (12, .int .i64 (a0.length : Int)), (13, .int .i64 (IntKind.wrap .i64 (s19.2 + 1)))]) (by kernel_rfl) ?_
          refine gl_atE (by kernel_rfl) ?_
          obtain rfl := some_inj hb21
          exact ge_round fun t ht => ⟨b54, hb55, (Imm.trans (Imm.trans hI22 hI47) hI53), rfl, ht.pick (l := [5, 11, 12, 13]) (by kernel_rfl)⟩
    · have hb21 := cond_f hc34 hb21
      refine gk_exit (by kernel_rfl) ?_
      refine ge_seq_exit ?_
      obtain rfl := some_inj hb21
      refine ge_round_out (fun hrr => ?_) (by intro h; cases h)
      obtain rfl := hrr
      refine ge_block_hit (by kernel_rfl) ?_
      exact ge_mid fun t ht => ⟨b23, hb24, hI22, rfl, ht.pick (l := [5]) (by kernel_rfl)⟩
  · rintro t I31 L' ⟨b28, hb29, hI27, rfl, hK30⟩
    refine ge_at hK30 ?_
    refine ge_seq ?_
    refine gk_seq (by kernel_rfl) ?_
    refine gk_region (by kernel_rfl) ?_
    refine gl_pure 2 [4] (K' := [(4, .float .f64 b28)]) (by kernel_rfl) ?_
    refine gl_atE (by kernel_rfl) ?_
    refine ge_seq ?_
    refine gk_ret (by kernel_rfl) ?_
    obtain rfl := some_inj hr
    exact ge_result trivial (ResOk.tmp (by kernel_rfl) ResOk.nil) hI27 ⟨b28, hb29, rfl, rfl⟩
theorem aggr_values_max_impl88  {I : Imm}  : Fn88 I (.func (.func 97) #[] #[]) aggr_values_max := ⟨fun I' hI x0 x1 r hr A0_0 c0_0 b1_0 h0_0 h1_0 L => ⟨97, #[], #[], rfl, ⟨_, Tryz.func97, by kernel_rfl, by kernel_rfl⟩, by
  simp only [List.append_toArray, List.nil_append, List.append_nil, Array.append_empty, Array.empty_append, List.push_append_toArray, List.cons_append]
  exact aggr_values_max_walk  h0_0 h1_0  hr L⟩⟩
noncomputable def aggr_values_count (a0 : List Fl) (a1 : Fl) : Fl :=
  (some (FloatKind.nearest .f64 (a0.length : Int)) : Fl)
theorem aggr_values_count_walk {a0 : List Fl} {A0_0 : Option Addr} {n0_0 : Nat} {a1 : Fl} {b1_0 : Nat} {I : Imm} {r : Fl}  (hf0_0 : RepS Kd.flt I A0_0 n0_0 a0)  (hf1_0 : FRep a1 b1_0) (hr : aggr_values_count a0 a1 = r) (L : Own) :
    CallsTo Tryz.prog 98 #[.slice A0_0 a0.length n0_0, .float .f64 b1_0] I L (fun v I' L' => ∃ b0_0, FRep r b0_0 ∧ v = .float .f64 b0_0 ∧ L = L') := by
  replace hr : some (aggr_values_count a0 a1) = some r := congrArg some hr
  unfold aggr_values_count at hr
  refine callsTo_body (N := 8) Tryz.func98 (by kernel_rfl) (by kernel_rfl) (by kernel_rfl) ?_
  refine gk_pick [0, 1] (K' := [(0, .slice A0_0 a0.length n0_0), (1, .float .f64 b1_0)]) (by kernel_rfl) ?_
  refine gk_seq (by kernel_rfl) ?_
  refine gk_region (by kernel_rfl) ?_
  refine gl_pure 1 [0] (K' := [(0, .slice A0_0 a0.length n0_0)]) (by kernel_rfl) ?_
  refine gl_atE (by kernel_rfl) ?_
  refine ge_seq ?_
  refine gk_seq (by kernel_rfl) ?_
  refine gk_region (by kernel_rfl) ?_
  refine gl_pure 4 [4] (K' := [(4, .float .f64 (FloatKind.nearest .f64 (a0.length : Int)))]) (by kernel_rfl) ?_
  refine gl_atE (by kernel_rfl) ?_
  refine ge_seq ?_
  refine gk_ret (by kernel_rfl) ?_
  obtain rfl := some_inj hr
  exact ge_result trivial (ResOk.tmp (by kernel_rfl) ResOk.nil) (Imm.refl _) ⟨(FloatKind.nearest .f64 (a0.length : Int)), (FRep.of (FloatKind.nearest .f64 (a0.length : Int))), rfl, rfl⟩
theorem aggr_values_count_impl88  {I : Imm}  : Fn88 I (.func (.func 98) #[] #[]) (fun x0 x1 => some (aggr_values_count x0 x1)) := ⟨fun I' hI x0 x1 r hr A0_0 c0_0 b1_0 h0_0 h1_0 L => ⟨98, #[], #[], rfl, ⟨_, Tryz.func98, by kernel_rfl, by kernel_rfl⟩, by
  simp only [List.append_toArray, List.nil_append, List.append_nil, Array.append_empty, Array.empty_append, List.push_append_toArray, List.cons_append]
  exact aggr_values_count_walk  h0_0 h1_0  (some_inj hr) L⟩⟩
noncomputable def aggr_values_group (a0 : List Fl) (a1 : Fl) : Fl :=
  (some 4607182418800017408 : Fl)
theorem aggr_values_group_walk {a0 : List Fl} {A0_0 : Option Addr} {n0_0 : Nat} {a1 : Fl} {b1_0 : Nat} {I : Imm} {r : Fl}  (hf0_0 : RepS Kd.flt I A0_0 n0_0 a0)  (hf1_0 : FRep a1 b1_0) (hr : aggr_values_group a0 a1 = r) (L : Own) :
    CallsTo Tryz.prog 99 #[.slice A0_0 a0.length n0_0, .float .f64 b1_0] I L (fun v I' L' => ∃ b0_0, FRep r b0_0 ∧ v = .float .f64 b0_0 ∧ L = L') := by
  replace hr : some (aggr_values_group a0 a1) = some r := congrArg some hr
  unfold aggr_values_group at hr
  refine callsTo_body (N := 5) Tryz.func99 (by kernel_rfl) (by kernel_rfl) (by kernel_rfl) ?_
  refine gk_pick [0, 1] (K' := [(0, .slice A0_0 a0.length n0_0), (1, .float .f64 b1_0)]) (by kernel_rfl) ?_
  refine gk_seq (by kernel_rfl) ?_
  refine gk_region (by kernel_rfl) ?_
  refine gl_pure 1 [] (K' := []) (by kernel_rfl) ?_
  refine gl_atE (by kernel_rfl) ?_
  refine ge_seq ?_
  refine gk_seq (by kernel_rfl) ?_
  refine gk_region (by kernel_rfl) ?_
  refine gl_pure 1 [4] (K' := [(4, .float .f64 4607182418800017408)]) (by kernel_rfl) ?_
  refine gl_atE (by kernel_rfl) ?_
  refine ge_seq ?_
  refine gk_ret (by kernel_rfl) ?_
  obtain rfl := some_inj hr
  exact ge_result trivial (ResOk.tmp (by kernel_rfl) ResOk.nil) (Imm.refl _) ⟨4607182418800017408, (FRep.of 4607182418800017408), rfl, rfl⟩
theorem aggr_values_group_impl88  {I : Imm}  : Fn88 I (.func (.func 99) #[] #[]) (fun x0 x1 => some (aggr_values_group x0 x1)) := ⟨fun I' hI x0 x1 r hr A0_0 c0_0 b1_0 h0_0 h1_0 L => ⟨99, #[], #[], rfl, ⟨_, Tryz.func99, by kernel_rfl, by kernel_rfl⟩, by
  simp only [List.append_toArray, List.nil_append, List.append_nil, Array.append_empty, Array.empty_append, List.push_append_toArray, List.cons_append]
  exact aggr_values_group_walk  h0_0 h1_0  (some_inj hr) L⟩⟩
noncomputable def aggr_values_stdvar_l35 (a0 : List Fl) (y1 : Fl) : ((List Fl) × Int) → Option (((List Fl) × Int) ⊕ ((List Fl))) := fun s18 =>
  bif (decide (s18.2 < (a0.length : Int))) then
  (Option.bind (ix a0 s18.2) fun (x38 : Fl) =>
    Option.bind (app s18.1 [(farith .mul (farith .sub x38 y1) (farith .sub x38 y1))]) fun (zs56 : List Fl) =>
    some (Sum.inl (zs56, (IntKind.wrap .i64 (s18.2 + 1)))))
  else
  (some (Sum.inr s18.1))
noncomputable def aggr_values_stdvar (a0 : List Fl) (a1 : Fl) : Option Fl :=
  Option.bind (aggr_values_avg a0 a1) fun (y1 : Fl) =>
  Option.bind (loopO (aggr_values_stdvar_l35 a0 y1) ([], 0)) fun (r16 : (List Fl)) =>
  Option.bind (aggr_values_sum r16 a1) fun (y66 : Fl) =>
  some (farith .quo y66 (some (FloatKind.nearest .f64 (a0.length : Int)) : Fl))
theorem aggr_values_stdvar_walk {a0 : List Fl} {A0_0 : Option Addr} {n0_0 : Nat} {a1 : Fl} {b1_0 : Nat} {I : Imm} {r : Fl}  (hf0_0 : RepS Kd.flt I A0_0 n0_0 a0)  (hf1_0 : FRep a1 b1_0) (hr : aggr_values_stdvar a0 a1 = some r) (L : Own) :
    CallsTo Tryz.prog 100 #[.slice A0_0 a0.length n0_0, .float .f64 b1_0] I L (fun v I' L' => ∃ b0_0, FRep r b0_0 ∧ v = .float .f64 b0_0 ∧ L = L') := by
  unfold aggr_values_stdvar at hr
  refine callsTo_body (N := 36) Tryz.func100 (by kernel_rfl) (by kernel_rfl) (by kernel_rfl) ?_
  refine gk_pick [0, 1] (K' := [(0, .slice A0_0 a0.length n0_0), (1, .float .f64 b1_0)]) (by kernel_rfl) ?_
  refine gk_seq (by kernel_rfl) ?_
  refine gk_region (by kernel_rfl) ?_
  refine gl_pure 1 [0, 1] (K' := [(0, .slice A0_0 a0.length n0_0), (1, .float .f64 b1_0)]) (by kernel_rfl) ?_
  refine gl_atE (by kernel_rfl) ?_
  refine ge_seq ?_
  refine gk_seq (by kernel_rfl) ?_
  refine gk_region (by kernel_rfl) ?_
  refine gl_pure 2 [0, 1, 10, 11] (K' := [(0, .slice A0_0 a0.length n0_0), (1, .float .f64 b1_0), (10, .slice A0_0 a0.length n0_0), (11, .float .f64 b1_0)]) (by kernel_rfl) ?_
  obtain ⟨y1, hx2, hr⟩ := bind_some hr
  refine gl_call (by kernel_rfl) (aggr_values_avg_walk (r := y1) hf0_0 hf1_0 hx2 _) ?_
  rintro v I3 L4 hI5 ⟨z6, hO7, rfl, rfl⟩
  refine gl_pure 1 [0, 1, 5] (K' := [(0, .slice A0_0 a0.length n0_0), (1, .float .f64 b1_0), (5, .float .f64 z6)]) (by kernel_rfl) ?_
  refine gl_atE (by kernel_rfl) ?_
  refine ge_seq ?_
  refine gk_seq (by kernel_rfl) ?_
  refine gk_region (by kernel_rfl) ?_
  refine gl_pure 1 [0, 1, 5, 6] (K' := [(0, .slice A0_0 a0.length n0_0), (1, .float .f64 b1_0), (5, .float .f64 z6), (6, .slice none 0 0)]) (by kernel_rfl) ?_
  refine gl_atE (by kernel_rfl) ?_
  refine ge_seq ?_
  refine gk_seq (by kernel_rfl) ?_
  refine gk_seq (by kernel_rfl) ?_
  refine gk_region (by kernel_rfl) ?_
  refine gl_pure 3 [0, 1, 5, 6, 13, 14, 15] (K' := [(0, .slice A0_0 a0.length n0_0), (1, .float .f64 b1_0), (5, .float .f64 z6), (6, .slice none 0 0), (13, .slice A0_0 a0.length n0_0), (14, .int .i64 (a0.length : Int)), (15, .int .i64 0)]) (by kernel_rfl) ?_
  refine gl_atE (by kernel_rfl) ?_
  refine ge_seq ?_
  obtain ⟨r16, hl17, hr⟩ := bind_some hr
  refine gk_join (fun t I' L' => ∃ A29 n30 C31, OwnS Kd.flt 37 I' A29 n30 r16 C31 ∧ I3 ≤ I' ∧ C31 ++ L = L' ∧ Knows 36 [(0, .slice A0_0 a0.length n0_0), (1, .float .f64 b1_0), (6, .slice A29 r16.length n30)] t) ?_ ?_
  · refine gk_block (by kernel_rfl) ?_
    refine gk_pick [0, 1, 5, 6, 13, 14, 15] (K' := [(0, .slice A0_0 a0.length n0_0), (1, .float .f64 b1_0), (5, .float .f64 z6), (6, .slice none 0 0), (13, .slice A0_0 a0.length n0_0), (14, .int .i64 (a0.length : Int)), (15, .int .i64 0)]) (by kernel_rfl) ?_
    intro t hK
    refine gc_loop (aggr_values_stdvar_l35 a0 y1) (fun s18 t I' L' => ∃ A22 n23 C24, OwnS Kd.flt 37 I' A22 n23 s18.1 C24 ∧ I3 ≤ I' ∧ C24 ++ L = L' ∧ Knows 36 [(0, .slice A0_0 a0.length n0_0), (1, .float .f64 b1_0), (5, .float .f64 z6), (6, .slice A22 s18.1.length n23), (13, .slice A0_0 a0.length n0_0), (14, .int .i64 (a0.length : Int)), (15, .int .i64 s18.2)] t) (by kernel_rfl) ?_ hl17 ⟨none, 0, [], OwnS.nil _ _ _ _, (Imm.refl _), rfl, hK⟩
    rintro s18 o19 t I27 L' hb20 ⟨A22, n23, C24, hO25, hI21, rfl, hK26⟩
    unfold aggr_values_stdvar_l35 at hb20
    refine gk_at hK26 ?_
    refine gk_seq (by kernel_rfl) ?_
    refine gk_region (by kernel_rfl) ?_
    refine gl_pure 1 [0, 1, 5, 6, 13, 14, 15, 16] (K' := [(0, .slice A0_0 a0.length n0_0), (1, .float .f64 b1_0), (5, .float .f64 z6), (6, .slice A22 s18.1.length n23), (13, .slice A0_0 a0.length n0_0), (14, .int .i64 (a0.length : Int)), (15, .int .i64 s18.2), (16, .bool (decide (s18.2 < (a0.length : Int))))]) (by kernel_rfl) ?_
    refine gl_atE (by kernel_rfl) ?_
    refine ge_seq ?_
    refine gk_seq (by kernel_rfl) ?_
    refine gk_cond (b := (decide (s18.2 < (a0.length : Int)))) (by kernel_rfl) (by kernel_rfl) (fun hc37 => ?_) (fun hc37 => ?_)
    · have hb20 := cond_t hc37 hb20
      refine gk_skip (by kernel_rfl) ?_
      refine ge_seq ?_
      refine gk_seq (by kernel_rfl) ?_
      refine gk_block (by kernel_rfl) ?_
      refine gk_seq (by kernel_rfl) ?_
      refine gk_region (by kernel_rfl) ?_
      obtain ⟨x38, hx39, hb20⟩ := bind_some hb20
      obtain ⟨p40, cs41, hR42, hA43, ha44⟩ := RepS.ixAt hx39 (hf0_0.mono (Imm.trans hI5 hI21))
      have hi45 := ix_some hx39
      obtain ⟨b46, rfl, hf47⟩ := hR42
      refine gl_indexAddrF (c := n0_0) (T' := 92) (e := 37) (xs := (.tmp 13)) (xi := (.tmp 15)) (kd := .i64) ha44 hi45.1 hi45.2.1 (by kernel_rfl) (by kernel_rfl) (by kernel_rfl) (by kernel_rfl) (by kernel_rfl) ?_
      refine gl_load (T' := 37) (xp := (.tmp 17)) (p := p40) (c := .float .f64 b46) (n := 1) (by kernel_rfl) (by kernel_rfl) (by kernel_rfl) (by kernel_rfl) hA43 ?_
      refine gl_pure 1 [0, 1, 5, 6, 8, 13, 14, 15] (K' := [(0, .slice A0_0 a0.length n0_0), (1, .float .f64 b1_0), (5, .float .f64 z6), (6, .slice A22 s18.1.length n23), (8, .float .f64 b46), (13, .slice A0_0 a0.length n0_0), (14, .int .i64 (a0.length : Int)), (15, .int .i64 s18.2)]) (by kernel_rfl) ?_
      refine gl_atE (by kernel_rfl) ?_
      refine ge_seq ?_
      refine gk_seq (by kernel_rfl) ?_
      refine gk_region (by kernel_rfl) ?_
      refine gl_pure 2 [0, 1, 5, 6, 13, 14, 15, 19, 20] (K' := [(0, .slice A0_0 a0.length n0_0), (1, .float .f64 b1_0), (5, .float .f64 z6), (6, .slice A22 s18.1.length n23), (13, .slice A0_0 a0.length n0_0), (14, .int .i64 (a0.length : Int)), (15, .int .i64 s18.2), (19, .float .f64 b46), (20, .float .f64 z6)]) (by kernel_rfl) ?_
      refine gl_farith (op := .sub) (t := 37) (t' := 37) (xx := (.tmp 19)) (yy := (.tmp 20)) hf47 hO7 (by kernel_rfl) (by kernel_rfl) rfl (by kernel_rfl) (by kernel_rfl) (fun b48 hf49 => ?_)
      refine gl_pure 1 [0, 1, 5, 6, 9, 13, 14, 15] (K' := [(0, .slice A0_0 a0.length n0_0), (1, .float .f64 b1_0), (5, .float .f64 z6), (6, .slice A22 s18.1.length n23), (9, .float .f64 b48), (13, .slice A0_0 a0.length n0_0), (14, .int .i64 (a0.length : Int)), (15, .int .i64 s18.2)]) (by kernel_rfl) ?_
      refine gl_atE (by kernel_rfl) ?_
      refine ge_seq ?_
      refine gk_region (by kernel_rfl) ?_
      refine gl_pure 3 [0, 1, 5, 13, 14, 15, 22, 23, 24] (K' := [(0, .slice A0_0 a0.length n0_0), (1, .float .f64 b1_0), (5, .float .f64 z6), (13, .slice A0_0 a0.length n0_0), (14, .int .i64 (a0.length : Int)), (15, .int .i64 s18.2), (22, .slice A22 s18.1.length n23), (23, .float .f64 b48), (24, .float .f64 b48)]) (by kernel_rfl) ?_
      refine gl_farith (op := .mul) (t := 37) (t' := 37) (xx := (.tmp 23)) (yy := (.tmp 24)) hf49 hf49 (by kernel_rfl) (by kernel_rfl) rfl (by kernel_rfl) (by kernel_rfl) (fun b50 hf51 => ?_)
      refine gl_buildSlice (T' := 92) (e := 37) (n := 1) (len := 1) (parts := #[(0, (.tmp 25))]) (l := [(0, .float .f64 b50)]) (cs := #[.float .f64 b50]) (by kernel_rfl) (by kernel_rfl) (by kernel_rfl) (by kernel_rfl) (by kernel_rfl) (fun g52 => ?_)
      have hO53 : OwnS Kd.flt 37 I27 (some ⟨g52, 0, none⟩) 1 [(farith .mul (farith .sub x38 y1) (farith .sub x38 y1))] [(g52, .cells #[.float .f64 b50] 37)] := OwnS.lit (row_cons (l := [.float .f64 b50]) ⟨_, rfl, hf51⟩ (row_nil _ _)) rfl rfl rfl
      refine gl_reord (D := [(g52, .cells #[.float .f64 b50] 37)] ++ (C24 ++ L)) (Reord.refl _) ?_
      obtain ⟨zs56, hz57, hb20⟩ := bind_some hb20
      refine gl_append (xv := .slice (some ⟨g52, 0, none⟩) [(farith .mul (farith .sub x38 y1) (farith .sub x38 y1))].length 1) (d := Kd.flt) (t := 92) (tx := 92) (e := 37) (s := (.tmp 22)) (x := (.tmp 26)) (xs := s18.1) (fun X => [(g52, .cells #[.float .f64 b50] 37)] ++ (X ++ L)) hz57 (by kernel_rfl) (by kernel_rfl) (by kernel_rfl) (by kernel_rfl) (by kernel_rfl) (by kernel_rfl) (fun X => (Upd.app _ (Upd.head _ X _))) hO25 (SrcOk.slice (c := 1) (e := 37) (n := 1) (OwnS.rd hO53 (Upd.selfC _ _)) (by kernel_rfl)) (fun A58 n59 C60 hO61 => ?_)
      refine gl_pure 1 [0, 1, 5, 6, 13, 14, 15] (K' := [(0, .slice A0_0 a0.length n0_0), (1, .float .f64 b1_0), (5, .float .f64 z6), (6, .slice A58 zs56.length n59), (13, .slice A0_0 a0.length n0_0), (14, .int .i64 (a0.length : Int)), (15, .int .i64 s18.2)]) (by kernel_rfl) ?_
      refine gl_atE (by kernel_rfl) ?_
      refine ge_block_normal ?_
      refine ge_seq ?_
      refine gk_region (by kernel_rfl) ?_
      refine gl_pure 2 [0, 1, 5, 6, 13, 14, 15] (K' := [(0, .slice A0_0 a0.length n0_0), (1, .float .f64 b1_0), (5, .float .f64 z6), (6, .slice A58 zs56.length n59), (13, .slice A0_0 a0.length n0_0), (14, .int .i64 (a0.length : Int)), (15, .int .i64 (IntKind.wrap .i64 (s18.2 + 1)))]) (by kernel_rfl) ?_
      refine gl_reord (D := C60 ++ L) (Reord.step (Upd.app _ (Upd.rmC _ _)) (Reord.skipC (Reord.refl _))) ?_
      refine gl_atE (by kernel_rfl) ?_
      obtain rfl := some_inj hb20
      exact ge_round fun t ht => ⟨A58, n59, C60, hO61, hI21, rfl, ht.pick (l := [0, 1, 5, 6, 13, 14, 15]) (by kernel_rfl)⟩
    · have hb20 := cond_f hc37 hb20
      refine gk_exit (by kernel_rfl) ?_
      refine ge_seq_exit ?_
      obtain rfl := some_inj hb20
      refine ge_round_out (fun hrr => ?_) (by intro h; cases h)
      obtain rfl := hrr
      refine ge_block_hit (by kernel_rfl) ?_
      exact ge_mid fun t ht => ⟨A22, n23, C24, hO25, hI21, rfl, ht.pick (l := [0, 1, 6]) (by kernel_rfl)⟩
  · rintro t I34 L' ⟨A29, n30, C31, hO32, hI28, rfl, hK33⟩
    refine ge_at hK33 ?_
    refine ge_seq ?_
    refine gk_seq (by kernel_rfl) ?_
    refine gk_region (by kernel_rfl) ?_
    refine gl_pure 2 [0, 29, 30] (K' := [(0, .slice A0_0 a0.length n0_0), (29, .slice A29 r16.length n30), (30, .float .f64 b1_0)]) (by kernel_rfl) ?_
    refine gl_rest (Tk.step (Upd.rmC _ _) (Tk.nil _)) (fun J62 hJ63 hC64 => ?_)
    have hf65 := (OwnS.rest hO32 hJ63 hC64.left)
    obtain ⟨y66, hx67, hr⟩ := bind_some hr
    refine gl_call (by kernel_rfl) (aggr_values_sum_walk (r := y66) hf65 hf1_0 hx67 _) ?_
    rintro v I68 L69 hI70 ⟨z71, hO72, rfl, rfl⟩
    refine gl_pure 3 [31, 34] (K' := [(31, .float .f64 z71), (34, .float .f64 (FloatKind.nearest .f64 (a0.length : Int)))]) (by kernel_rfl) ?_
    refine gl_farith (op := .quo) (t := 37) (t' := 37) (xx := (.tmp 31)) (yy := (.tmp 34)) hO72 (FRep.of (FloatKind.nearest .f64 (a0.length : Int))) (by kernel_rfl) (by kernel_rfl) rfl (by kernel_rfl) (by kernel_rfl) (fun b73 hf74 => ?_)
    refine gl_pure 1 [4] (K' := [(4, .float .f64 b73)]) (by kernel_rfl) ?_
    refine gl_atE (by kernel_rfl) ?_
    refine ge_seq ?_
    refine gk_ret (by kernel_rfl) ?_
    obtain rfl := some_inj hr
    exact ge_result trivial (ResOk.tmp (by kernel_rfl) ResOk.nil) (Imm.trans (Imm.trans (Imm.trans hI5 hI28) hJ63) hI70) ⟨b73, hf74, rfl, rfl⟩
theorem aggr_values_stdvar_impl88  {I : Imm}  : Fn88 I (.func (.func 100) #[] #[]) aggr_values_stdvar := ⟨fun I' hI x0 x1 r hr A0_0 c0_0 b1_0 h0_0 h1_0 L => ⟨100, #[], #[], rfl, ⟨_, Tryz.func100, by kernel_rfl, by kernel_rfl⟩, by
  simp only [List.append_toArray, List.nil_append, List.append_nil, Array.append_empty, Array.empty_append, List.push_append_toArray, List.cons_append]
  exact aggr_values_stdvar_walk  h0_0 h1_0  hr L⟩⟩
noncomputable def math_Sqrt (a0 : Fl) : Fl :=
  (fsqrt a0)
theorem math_Sqrt_walk {a0 : Fl} {b0_0 : Nat} {I : Imm} {r : Fl}  (hf0_0 : FRep a0 b0_0) (hr : math_Sqrt a0 = r) (L : Own) :
    CallsTo Tryz.prog 65 #[.float .f64 b0_0] I L (fun v I' L' => ∃ b0_0, FRep r b0_0 ∧ v = .float .f64 b0_0 ∧ L = L') := by
  replace hr : some (math_Sqrt a0) = some r := congrArg some hr
  unfold math_Sqrt at hr
  refine callsTo_body (N := 5) Tryz.func65 (by kernel_rfl) (by kernel_rfl) (by kernel_rfl) ?_
  refine gk_pick [0] (K' := [(0, .float .f64 b0_0)]) (by kernel_rfl) ?_
  refine gk_seq (by kernel_rfl) ?_
  refine gk_region (by kernel_rfl) ?_
  refine gl_pure 1 [0] (K' := [(0, .float .f64 b0_0)]) (by kernel_rfl) ?_
  refine gl_atE (by kernel_rfl) ?_
  refine ge_seq ?_
  refine gk_seq (by kernel_rfl) ?_
  refine gk_region (by kernel_rfl) ?_
  refine gl_pure 1 [3] (K' := [(3, .float .f64 b0_0)]) (by kernel_rfl) ?_
  refine gl_fsqrt hf0_0 Tryz.func113 (by kernel_rfl) (by kernel_rfl) (by kernel_rfl) (by kernel_rfl) (by kernel_rfl) (by kernel_rfl) (fun b1 hf2 => ?_)
  refine gl_pure 1 [2] (K' := [(2, .float .f64 b1)]) (by kernel_rfl) ?_
  refine gl_atE (by kernel_rfl) ?_
  refine ge_seq ?_
  refine gk_ret (by kernel_rfl) ?_
  obtain rfl := some_inj hr
  exact ge_result trivial (ResOk.tmp (by kernel_rfl) ResOk.nil) (Imm.refl _) ⟨b1, hf2, rfl, rfl⟩
noncomputable def aggr_values_stddev (a0 : List Fl) (a1 : Fl) : Option Fl :=
  Option.bind (aggr_values_stdvar a0 a1) fun (y1 : Fl) =>
  some (math_Sqrt y1)
theorem aggr_values_stddev_walk {a0 : List Fl} {A0_0 : Option Addr} {n0_0 : Nat} {a1 : Fl} {b1_0 : Nat} {I : Imm} {r : Fl}  (hf0_0 : RepS Kd.flt I A0_0 n0_0 a0)  (hf1_0 : FRep a1 b1_0) (hr : aggr_values_stddev a0 a1 = some r) (L : Own) :
    CallsTo Tryz.prog 101 #[.slice A0_0 a0.length n0_0, .float .f64 b1_0] I L (fun v I' L' => ∃ b0_0, FRep r b0_0 ∧ v = .float .f64 b0_0 ∧ L = L') := by
  unfold aggr_values_stddev at hr
  refine callsTo_body (N := 9) Tryz.func101 (by kernel_rfl) (by kernel_rfl) (by kernel_rfl) ?_
  refine gk_pick [0, 1] (K' := [(0, .slice A0_0 a0.length n0_0), (1, .float .f64 b1_0)]) (by kernel_rfl) ?_
  refine gk_seq (by kernel_rfl) ?_
  refine gk_region (by kernel_rfl) ?_
  refine gl_pure 1 [0, 1] (K' := [(0, .slice A0_0 a0.length n0_0), (1, .float .f64 b1_0)]) (by kernel_rfl) ?_
  refine gl_atE (by kernel_rfl) ?_
  refine ge_seq ?_
  refine gk_seq (by kernel_rfl) ?_
  refine gk_region (by kernel_rfl) ?_
  refine gl_pure 2 [5, 6] (K' := [(5, .slice A0_0 a0.length n0_0), (6, .float .f64 b1_0)]) (by kernel_rfl) ?_
  obtain ⟨y1, hx2, hr⟩ := bind_some hr
  refine gl_call (by kernel_rfl) (aggr_values_stdvar_walk (r := y1) hf0_0 hf1_0 hx2 _) ?_
  rintro v I3 L4 hI5 ⟨z6, hO7, rfl, rfl⟩
  refine gl_call (by kernel_rfl) (math_Sqrt_walk (r := (math_Sqrt y1)) hO7 rfl _) ?_
  rintro v I8 L9 hI10 ⟨z11, hO12, rfl, rfl⟩
  refine gl_pure 1 [4] (K' := [(4, .float .f64 z11)]) (by kernel_rfl) ?_
  refine gl_atE (by kernel_rfl) ?_
  refine ge_seq ?_
  refine gk_ret (by kernel_rfl) ?_
  obtain rfl := some_inj hr
  exact ge_result trivial (ResOk.tmp (by kernel_rfl) ResOk.nil) (Imm.trans hI5 hI10) ⟨z11, hO12, rfl, rfl⟩
theorem aggr_values_stddev_impl88  {I : Imm}  : Fn88 I (.func (.func 101) #[] #[]) aggr_values_stddev := ⟨fun I' hI x0 x1 r hr A0_0 c0_0 b1_0 h0_0 h1_0 L => ⟨101, #[], #[], rfl, ⟨_, Tryz.func101, by kernel_rfl, by kernel_rfl⟩, by
  simp only [List.append_toArray, List.nil_append, List.append_nil, Array.append_empty, Array.empty_append, List.push_append_toArray, List.cons_append]
  exact aggr_values_stddev_walk  h0_0 h1_0  hr L⟩⟩
noncomputable def math_Inf (a0 : Int) : Option Fl :=
  Option.bind (bif (decide (a0 ≥ 0)) then
    (some 9218868437227405312)
    else
    (some 18442240474082181120)) fun (j1 : Int) =>
  some (some (j1 : Int).toNat : Fl)
theorem math_Inf_walk {a0 : Int} {I : Imm} {r : Fl}  (hr : math_Inf a0 = some r) (L : Own) :
    CallsTo Tryz.prog 114 #[.int .i64 a0] I L (fun v I' L' => ∃ b0_0, FRep r b0_0 ∧ v = .float .f64 b0_0 ∧ L = L') := by
  unfold math_Inf at hr
  refine callsTo_body (N := 8) Tryz.func114 (by kernel_rfl) (by kernel_rfl) (by kernel_rfl) ?_
  refine gk_pick [0] (K' := [(0, .int .i64 a0)]) (by kernel_rfl) ?_
  refine gk_seq (by kernel_rfl) ?_
  refine gk_region (by kernel_rfl) ?_
  refine gl_pure 1 [0] (K' := [(0, .int .i64 a0)]) (by kernel_rfl) ?_
  refine gl_atE (by kernel_rfl) ?_
  refine ge_seq ?_
  refine gk_seq (by kernel_rfl) ?_
  refine gk_region (by kernel_rfl) ?_
  refine gl_pure 1 [0] (K' := [(0, .int .i64 a0)]) (by kernel_rfl) ?_
  refine gl_atE (by kernel_rfl) ?_
  refine ge_seq ?_
  refine gk_seq (by kernel_rfl) ?_
  refine gk_seq (by kernel_rfl) ?_
  refine gk_region (by kernel_rfl) ?_
  refine gl_pure 2 [5] (K' := [(5, .bool (decide (a0 ≥ 0)))]) (by kernel_rfl) ?_
  refine gl_atE (by kernel_rfl) ?_
  refine ge_seq ?_
  obtain ⟨j1, hj2, hr⟩ := bind_some hr
  refine gk_join (fun t I' L' => I ≤ I' ∧ L = L' ∧ Knows 8 [(3, .int .u64 j1)] t) ?_ ?_
  · refine gk_cond (b := (decide (a0 ≥ 0))) (by kernel_rfl) (by kernel_rfl) (fun hc6 => ?_) (fun hc6 => ?_)
    · have hj2 := cond_t hc6 hj2
      refine gk_region (by kernel_rfl) ?_
      refine gl_pure 1 [3] (K' := [(3, .int .u64 9218868437227405312)]) (by kernel_rfl) ?_
      refine gl_atE (by kernel_rfl) ?_
      obtain rfl := some_inj hj2
      exact ge_mid fun t ht => ⟨(Imm.refl _), rfl, ht.pick (l := [3]) (by kernel_rfl)⟩
    · have hj2 := cond_f hc6 hj2
      refine gk_region (by kernel_rfl) ?_
      refine gl_pure 1 [3] (K' := [(3, .int .u64 18442240474082181120)]) (by kernel_rfl) ?_
      refine gl_atE (by kernel_rfl) ?_
      obtain rfl := some_inj hj2
      exact ge_mid fun t ht => ⟨(Imm.refl _), rfl, ht.pick (l := [3]) (by kernel_rfl)⟩
  · rintro t I5 L' ⟨hI3, rfl, hK4⟩
    refine ge_at hK4 ?_
    refine ge_seq ?_
    refine gk_seq (by kernel_rfl) ?_
    refine gk_region (by kernel_rfl) ?_
    refine gl_pure 1 [6] (K' := [(6, .int .u64 j1)]) (by kernel_rfl) ?_
    refine gl_f64from (n := j1) Tryz.func105 (by kernel_rfl) (by kernel_rfl) (by kernel_rfl) (by kernel_rfl) (by kernel_rfl) (by kernel_rfl) ?_
    refine gl_pure 1 [2] (K' := [(2, .float .f64 ((j1 : Int).toNat))]) (by kernel_rfl) ?_
    refine gl_atE (by kernel_rfl) ?_
    refine ge_seq ?_
    refine gk_ret (by kernel_rfl) ?_
    obtain rfl := some_inj hr
    exact ge_result trivial (ResOk.tmp (by kernel_rfl) ResOk.nil) hI3 ⟨(j1 : Int).toNat, (FRep.of (j1 : Int).toNat), rfl, rfl⟩
noncomputable def slices_Clone_f143 (a0 : List Fl) : Option (List Fl) :=
  Option.bind (app ([] : List Fl) a0) fun (zs3 : List Fl) =>
  some zs3
theorem slices_Clone_f143_walk {a0 : List Fl} {A0_0 : Option Addr} {n0_0 : Nat} {I : Imm} {r : (List Fl)}  (hf0_0 : RepS Kd.flt I A0_0 n0_0 a0) (hr : slices_Clone_f143 a0 = some r) (L : Own) :
    CallsTo Tryz.prog 143 #[.slice A0_0 a0.length n0_0] I L (fun v I' L' => ∃ A0 c0 C0, OwnS Kd.flt 37 I' A0 c0 r C0 ∧ v = .slice A0 r.length c0 ∧ C0 ++ L = L') := by
  unfold slices_Clone_f143 at hr
  refine callsTo_body (N := 8) Tryz.func143 (by kernel_rfl) (by kernel_rfl) (by kernel_rfl) ?_
  refine gk_pick [0] (K' := [(0, .slice A0_0 a0.length n0_0)]) (by kernel_rfl) ?_
  refine gk_seq (by kernel_rfl) ?_
  refine gk_region (by kernel_rfl) ?_
  refine gl_pure 1 [0] (K' := [(0, .slice A0_0 a0.length n0_0)]) (by kernel_rfl) ?_
  refine gl_atE (by kernel_rfl) ?_
  refine ge_seq ?_
  refine gk_seq (by kernel_rfl) ?_
  refine gk_seq (by kernel_rfl) ?_
  refine gk_region (by kernel_rfl) ?_
  refine gl_pure 1 [0, 3] (K' := [(0, .slice A0_0 a0.length n0_0), (3, .slice A0_0 a0.length n0_0)]) (by kernel_rfl) ?_
  refine gl_eqNil (A := A0_0) (len := a0.length) (c := n0_0) (a := 0) (b := 0) (t := 92) (t' := 92) (x := (.tmp 3)) (y := (.const (.slice none 0 0))) (by kernel_rfl) (by kernel_rfl) (by kernel_rfl) (by kernel_rfl) (by kernel_rfl) ?_
  refine gl_atE (by kernel_rfl) ?_
  refine ge_seq ?_
  refine gk_cond (b := A0_0.isNone) (by kernel_rfl) (by kernel_rfl) (fun hc1 => ?_) (fun hc1 => ?_)
  · have hr := clone_nil hr (RepS.isNil hf0_0 hc1)
    refine gk_seq (by kernel_rfl) ?_
    refine gk_region (by kernel_rfl) ?_
    refine gl_pure 1 [2] (K' := [(2, .slice none 0 0)]) (by kernel_rfl) ?_
    refine gl_atE (by kernel_rfl) ?_
    refine ge_seq ?_
    refine gk_ret (by kernel_rfl) ?_
    refine ge_seq_ret ?_
    obtain rfl := some_inj hr
    exact ge_result trivial (ResOk.tmp (by kernel_rfl) ResOk.nil) (Imm.refl _) ⟨none, 0, [], OwnS.nil _ _ _ _, rfl, rfl⟩
  · refine gk_skip (by kernel_rfl) ?_
    refine ge_seq ?_
    refine gk_seq (by kernel_rfl) ?_
    refine gk_region (by kernel_rfl) ?_
    refine gl_buildSlice0 (T' := 92) (e := 37) (n := 1) (by kernel_rfl) (by kernel_rfl) (by kernel_rfl) (fun g2 => ?_)
    refine gl_reord (D := [(g2, .cells #[] 37)] ++ L) (Reord.refl _) ?_
    refine gl_pure 1 [5, 6] (K' := [(5, .slice (some ⟨g2, 0, none⟩) ([] : List Fl).length 0), (6, .slice A0_0 a0.length n0_0)]) (by kernel_rfl) ?_
    obtain ⟨zs3, hz4, hr⟩ := bind_some hr
    refine gl_append (xv := .slice A0_0 a0.length n0_0) (d := Kd.flt) (t := 92) (tx := 92) (e := 37) (s := (.tmp 5)) (x := (.tmp 6)) (xs := ([] : List Fl)) (fun X => X ++ L) hz4 (by kernel_rfl) (by kernel_rfl) (by kernel_rfl) (by kernel_rfl) (by kernel_rfl) (by kernel_rfl) (fun X => (Upd.head _ X _)) (OwnS.empty _ _ _ _) (SrcOk.slice (c := n0_0) (e := 37) (n := 1) (RepS.rd hf0_0 _) (by kernel_rfl)) (fun A5 n6 C7 hO8 => ?_)
    refine gl_pure 1 [2] (K' := [(2, .slice A5 zs3.length n6)]) (by kernel_rfl) ?_
    refine gl_atE (by kernel_rfl) ?_
    refine ge_seq ?_
    refine gk_ret (by kernel_rfl) ?_
    obtain rfl := some_inj hr
    exact ge_result trivial (ResOk.tmp (by kernel_rfl) ResOk.nil) (Imm.refl _) ⟨A5, n6, C7, hO8, rfl, rfl⟩
noncomputable def cmp_isNaN (a0 : Fl) : Bool :=
  (fcmp .neq a0 a0)
theorem cmp_isNaN_walk {a0 : Fl} {b0_0 : Nat} {I : Imm} {r : Bool}  (hf0_0 : FRep a0 b0_0) (hr : cmp_isNaN a0 = r) (L : Own) :
    CallsTo Tryz.prog 195 #[.float .f64 b0_0] I L (fun v I' L' => v = .bool r ∧ L = L') := by
  replace hr : some (cmp_isNaN a0) = some r := congrArg some hr
  unfold cmp_isNaN at hr
  refine callsTo_body (N := 6) Tryz.func195 (by kernel_rfl) (by kernel_rfl) (by kernel_rfl) ?_
  refine gk_pick [0] (K' := [(0, .float .f64 b0_0)]) (by kernel_rfl) ?_
  refine gk_seq (by kernel_rfl) ?_
  refine gk_region (by kernel_rfl) ?_
  refine gl_pure 1 [0] (K' := [(0, .float .f64 b0_0)]) (by kernel_rfl) ?_
  refine gl_atE (by kernel_rfl) ?_
  refine ge_seq ?_
  refine gk_seq (by kernel_rfl) ?_
  refine gk_region (by kernel_rfl) ?_
  refine gl_pure 2 [3, 4] (K' := [(3, .float .f64 b0_0), (4, .float .f64 b0_0)]) (by kernel_rfl) ?_
  refine gl_fcmp (op := .neq) (t := 37) (t' := 37) (xx := (.tmp 3)) (yy := (.tmp 4)) hf0_0 hf0_0 (by kernel_rfl) (by kernel_rfl) rfl (by kernel_rfl) (by kernel_rfl) ?_
  refine gl_pure 1 [2] (K' := [(2, .bool (fcmp .neq a0 a0))]) (by kernel_rfl) ?_
  refine gl_atE (by kernel_rfl) ?_
  refine ge_seq ?_
  refine gk_ret (by kernel_rfl) ?_
  obtain rfl := some_inj hr
  exact ge_result trivial (ResOk.tmp (by kernel_rfl) ResOk.nil) (Imm.refl _) ⟨rfl, rfl⟩
noncomputable def cmp_Compare (a0 : Fl) (a1 : Fl) : Int :=
  bif (cmp_isNaN a0) then
  (bif (cmp_isNaN a1) then
    (0)
    else
    ((-1)))
  else
  (bif (cmp_isNaN a1) then
    (1)
    else
    (bif (fcmp .lss a0 a1) then
      ((-1))
      else
      (bif (fcmp .gtr a0 a1) then
        (1)
        else
        (0))))
theorem cmp_Compare_walk {a0 : Fl} {b0_0 : Nat} {a1 : Fl} {b1_0 : Nat} {I : Imm} {r : Int}  (hf0_0 : FRep a0 b0_0)  (hf1_0 : FRep a1 b1_0) (hr : cmp_Compare a0 a1 = r) (L : Own) :
    CallsTo Tryz.prog 175 #[.float .f64 b0_0, .float .f64 b1_0] I L (fun v I' L' => v = .int .i64 r ∧ L = L') := by
  replace hr : some (cmp_Compare a0 a1) = some r := congrArg some hr
  unfold cmp_Compare at hr
  refine callsTo_body (N := 20) Tryz.func175 (by kernel_rfl) (by kernel_rfl) (by kernel_rfl) ?_
  refine gk_pick [0, 1] (K' := [(0, .float .f64 b0_0), (1, .float .f64 b1_0)]) (by kernel_rfl) ?_
  refine gk_seq (by kernel_rfl) ?_
  refine gk_region (by kernel_rfl) ?_
  refine gl_pure 1 [0, 1] (K' := [(0, .float .f64 b0_0), (1, .float .f64 b1_0)]) (by kernel_rfl) ?_
  refine gl_atE (by kernel_rfl) ?_
  refine ge_seq ?_
  refine gk_seq (by kernel_rfl) ?_
  refine gk_region (by kernel_rfl) ?_
  refine gl_pure 1 [0, 1, 7] (K' := [(0, .float .f64 b0_0), (1, .float .f64 b1_0), (7, .float .f64 b0_0)]) (by kernel_rfl) ?_
  refine gl_callQ (by kernel_rfl) (cmp_isNaN_walk (r := (cmp_isNaN a0)) hf0_0 rfl _) ?_
  refine gl_pure 1 [0, 1, 5] (K' := [(0, .float .f64 b0_0), (1, .float .f64 b1_0), (5, .bool (cmp_isNaN a0))]) (by kernel_rfl) ?_
  refine gl_atE (by kernel_rfl) ?_
  refine ge_seq ?_
  refine gk_seq (by kernel_rfl) ?_
  refine gk_region (by kernel_rfl) ?_
  refine gl_pure 1 [0, 1, 5, 9] (K' := [(0, .float .f64 b0_0), (1, .float .f64 b1_0), (5, .bool (cmp_isNaN a0)), (9, .float .f64 b1_0)]) (by kernel_rfl) ?_
  refine gl_callQ (by kernel_rfl) (cmp_isNaN_walk (r := (cmp_isNaN a1)) hf1_0 rfl _) ?_
  refine gl_pure 1 [0, 1, 5, 6] (K' := [(0, .float .f64 b0_0), (1, .float .f64 b1_0), (5, .bool (cmp_isNaN a0)), (6, .bool (cmp_isNaN a1))]) (by kernel_rfl) ?_
  refine gl_atE (by kernel_rfl) ?_
  refine ge_seq ?_
  refine gk_seq (by kernel_rfl) ?_
  refine gk_seq (by kernel_rfl) ?_
  refine gk_region (by kernel_rfl) ?_
  refine gl_pure 1 [0, 1, 6, 11] (K' := [(0, .float .f64 b0_0), (1, .float .f64 b1_0), (6, .bool (cmp_isNaN a1)), (11, .bool (cmp_isNaN a0))]) (by kernel_rfl) ?_
  refine gl_atE (by kernel_rfl) ?_
  refine ge_seq ?_
  refine gk_cond (b := (cmp_isNaN a0)) (by kernel_rfl) (by kernel_rfl) (fun hc1 => ?_) (fun hc1 => ?_)
  · have hr := scond_t hc1 hr
    refine gk_seq (by kernel_rfl) ?_
    refine gk_seq (by kernel_rfl) ?_
    refine gk_region (by kernel_rfl) ?_
    refine gl_pure 1 [12] (K' := [(12, .bool (cmp_isNaN a1))]) (by kernel_rfl) ?_
    refine gl_atE (by kernel_rfl) ?_
    refine ge_seq ?_
    refine gk_cond (b := (cmp_isNaN a1)) (by kernel_rfl) (by kernel_rfl) (fun hc2 => ?_) (fun hc2 => ?_)
    · have hr := scond_t hc2 hr
      refine gk_seq (by kernel_rfl) ?_
      refine gk_region (by kernel_rfl) ?_
      refine gl_pure 1 [4] (K' := [(4, .int .i64 0)]) (by kernel_rfl) ?_
      refine gl_atE (by kernel_rfl) ?_
      refine ge_seq ?_
      refine gk_ret (by kernel_rfl) ?_
      refine ge_seq_ret ?_
      refine ge_seq_ret ?_
      obtain rfl := some_inj hr
      exact ge_result trivial (ResOk.tmp (by kernel_rfl) ResOk.nil) (Imm.refl _) ⟨rfl, rfl⟩
    · have hr := scond_f hc2 hr
      refine gk_skip (by kernel_rfl) ?_
      refine ge_seq ?_
      refine gk_seq (by kernel_rfl) ?_
      refine gk_region (by kernel_rfl) ?_
      refine gl_pure 1 [4] (K' := [(4, .int .i64 (-1))]) (by kernel_rfl) ?_
      refine gl_atE (by kernel_rfl) ?_
      refine ge_seq ?_
      refine gk_ret (by kernel_rfl) ?_
      refine ge_seq_ret ?_
      obtain rfl := some_inj hr
      exact ge_result trivial (ResOk.tmp (by kernel_rfl) ResOk.nil) (Imm.refl _) ⟨rfl, rfl⟩
  · have hr := scond_f hc1 hr
    refine gk_skip (by kernel_rfl) ?_
    refine ge_seq ?_
    refine gk_seq (by kernel_rfl) ?_
    refine gk_seq (by kernel_rfl) ?_
    refine gk_region (by kernel_rfl) ?_
    refine gl_pure 1 [0, 1, 13] (K' := [(0, .float .f64 b0_0), (1, .float .f64 b1_0), (13, .bool (cmp_isNaN a1))]) (by kernel_rfl) ?_
    refine gl_atE (by kernel_rfl) ?_
    refine ge_seq ?_
    refine gk_cond (b := (cmp_isNaN a1)) (by kernel_rfl) (by kernel_rfl) (fun hc3 => ?_) (fun hc3 => ?_)
    · have hr := scond_t hc3 hr
      refine gk_seq (by kernel_rfl) ?_
      refine gk_region (by kernel_rfl) ?_
      refine gl_pure 1 [4] (K' := [(4, .int .i64 1)]) (by kernel_rfl) ?_
      refine gl_atE (by kernel_rfl) ?_
      refine ge_seq ?_
      refine gk_ret (by kernel_rfl) ?_
      refine ge_seq_ret ?_
      obtain rfl := some_inj hr
      exact ge_result trivial (ResOk.tmp (by kernel_rfl) ResOk.nil) (Imm.refl _) ⟨rfl, rfl⟩
    · have hr := scond_f hc3 hr
      refine gk_skip (by kernel_rfl) ?_
      refine ge_seq ?_
      refine gk_seq (by kernel_rfl) ?_
      refine gk_seq (by kernel_rfl) ?_
      refine gk_region (by kernel_rfl) ?_
      refine gl_pure 2 [0, 1, 14, 15] (K' := [(0, .float .f64 b0_0), (1, .float .f64 b1_0), (14, .float .f64 b0_0), (15, .float .f64 b1_0)]) (by kernel_rfl) ?_
      refine gl_fcmp (op := .lss) (t := 37) (t' := 37) (xx := (.tmp 14)) (yy := (.tmp 15)) hf0_0 hf1_0 (by kernel_rfl) (by kernel_rfl) rfl (by kernel_rfl) (by kernel_rfl) ?_
      refine gl_atE (by kernel_rfl) ?_
      refine ge_seq ?_
      refine gk_cond (b := (fcmp .lss a0 a1)) (by kernel_rfl) (by kernel_rfl) (fun hc4 => ?_) (fun hc4 => ?_)
      · have hr := scond_t hc4 hr
        refine gk_seq (by kernel_rfl) ?_
        refine gk_region (by kernel_rfl) ?_
        refine gl_pure 1 [4] (K' := [(4, .int .i64 (-1))]) (by kernel_rfl) ?_
        refine gl_atE (by kernel_rfl) ?_
        refine ge_seq ?_
        refine gk_ret (by kernel_rfl) ?_
        refine ge_seq_ret ?_
        obtain rfl := some_inj hr
        exact ge_result trivial (ResOk.tmp (by kernel_rfl) ResOk.nil) (Imm.refl _) ⟨rfl, rfl⟩
      · have hr := scond_f hc4 hr
        refine gk_skip (by kernel_rfl) ?_
        refine ge_seq ?_
        refine gk_seq (by kernel_rfl) ?_
        refine gk_seq (by kernel_rfl) ?_
        refine gk_region (by kernel_rfl) ?_
        refine gl_pure 2 [17, 18] (K' := [(17, .float .f64 b0_0), (18, .float .f64 b1_0)]) (by kernel_rfl) ?_
        refine gl_fcmp (op := .gtr) (t := 37) (t' := 37) (xx := (.tmp 17)) (yy := (.tmp 18)) hf0_0 hf1_0 (by kernel_rfl) (by kernel_rfl) rfl (by kernel_rfl) (by kernel_rfl) ?_
        refine gl_atE (by kernel_rfl) ?_
        refine ge_seq ?_
        refine gk_cond (b := (fcmp .gtr a0 a1)) (by kernel_rfl) (by kernel_rfl) (fun hc5 => ?_) (fun hc5 => ?_)
        · have hr := scond_t hc5 hr
          refine gk_seq (by kernel_rfl) ?_
          refine gk_region (by kernel_rfl) ?_
          refine gl_pure 1 [4] (K' := [(4, .int .i64 1)]) (by kernel_rfl) ?_
          refine gl_atE (by kernel_rfl) ?_
          refine ge_seq ?_
          refine gk_ret (by kernel_rfl) ?_
          refine ge_seq_ret ?_
          obtain rfl := some_inj hr
          exact ge_result trivial (ResOk.tmp (by kernel_rfl) ResOk.nil) (Imm.refl _) ⟨rfl, rfl⟩
        · have hr := scond_f hc5 hr
          refine gk_skip (by kernel_rfl) ?_
          refine ge_seq ?_
          refine gk_seq (by kernel_rfl) ?_
          refine gk_region (by kernel_rfl) ?_
          refine gl_pure 1 [4] (K' := [(4, .int .i64 0)]) (by kernel_rfl) ?_
          refine gl_atE (by kernel_rfl) ?_
          refine ge_seq ?_
          refine gk_ret (by kernel_rfl) ?_
          obtain rfl := some_inj hr
          exact ge_result trivial (ResOk.tmp (by kernel_rfl) ResOk.nil) (Imm.refl _) ⟨rfl, rfl⟩
noncomputable def cmp_isNaN_f196 (a0 : Int) : Bool :=
  (a0 != a0)
theorem cmp_isNaN_f196_walk {a0 : Int} {I : Imm} {r : Bool}  (hr : cmp_isNaN_f196 a0 = r) (L : Own) :
    CallsTo Tryz.prog 196 #[.int .u64 a0] I L (fun v I' L' => v = .bool r ∧ L = L') := by
  replace hr : some (cmp_isNaN_f196 a0) = some r := congrArg some hr
  unfold cmp_isNaN_f196 at hr
  refine callsTo_body (N := 6) Tryz.func196 (by kernel_rfl) (by kernel_rfl) (by kernel_rfl) ?_
  refine gk_pick [0] (K' := [(0, .int .u64 a0)]) (by kernel_rfl) ?_
  refine gk_seq (by kernel_rfl) ?_
  refine gk_region (by kernel_rfl) ?_
  refine gl_pure 1 [0] (K' := [(0, .int .u64 a0)]) (by kernel_rfl) ?_
  refine gl_atE (by kernel_rfl) ?_
  refine ge_seq ?_
  refine gk_seq (by kernel_rfl) ?_
  refine gk_region (by kernel_rfl) ?_
  refine gl_pure 4 [2] (K' := [(2, .bool (a0 != a0))]) (by kernel_rfl) ?_
  refine gl_atE (by kernel_rfl) ?_
  refine ge_seq ?_
  refine gk_ret (by kernel_rfl) ?_
  obtain rfl := some_inj hr
  exact ge_result trivial (ResOk.tmp (by kernel_rfl) ResOk.nil) (Imm.refl _) ⟨rfl, rfl⟩
noncomputable def cmp_Compare_f176 (a0 : Int) (a1 : Int) : Int :=
  bif (cmp_isNaN_f196 a0) then
  (bif (cmp_isNaN_f196 a1) then
    (0)
    else
    ((-1)))
  else
  (bif (cmp_isNaN_f196 a1) then
    (1)
    else
    (bif (decide (a0 < a1)) then
      ((-1))
      else
      (bif (decide (a0 > a1)) then
        (1)
        else
        (0))))
theorem cmp_Compare_f176_walk {a0 : Int} {a1 : Int} {I : Imm} {r : Int}  (hr : cmp_Compare_f176 a0 a1 = r) (L : Own) :
    CallsTo Tryz.prog 176 #[.int .u64 a0, .int .u64 a1] I L (fun v I' L' => v = .int .i64 r ∧ L = L') := by
  replace hr : some (cmp_Compare_f176 a0 a1) = some r := congrArg some hr
  unfold cmp_Compare_f176 at hr
  refine callsTo_body (N := 20) Tryz.func176 (by kernel_rfl) (by kernel_rfl) (by kernel_rfl) ?_
  refine gk_pick [0, 1] (K' := [(0, .int .u64 a0), (1, .int .u64 a1)]) (by kernel_rfl) ?_
  refine gk_seq (by kernel_rfl) ?_
  refine gk_region (by kernel_rfl) ?_
  refine gl_pure 1 [0, 1] (K' := [(0, .int .u64 a0), (1, .int .u64 a1)]) (by kernel_rfl) ?_
  refine gl_atE (by kernel_rfl) ?_
  refine ge_seq ?_
  refine gk_seq (by kernel_rfl) ?_
  refine gk_region (by kernel_rfl) ?_
  refine gl_pure 1 [0, 1, 7] (K' := [(0, .int .u64 a0), (1, .int .u64 a1), (7, .int .u64 a0)]) (by kernel_rfl) ?_
  refine gl_callQ (by kernel_rfl) (cmp_isNaN_f196_walk (r := (cmp_isNaN_f196 a0))  rfl _) ?_
  refine gl_pure 1 [0, 1, 5] (K' := [(0, .int .u64 a0), (1, .int .u64 a1), (5, .bool (cmp_isNaN_f196 a0))]) (by kernel_rfl) ?_
  refine gl_atE (by kernel_rfl) ?_
  refine ge_seq ?_
  refine gk_seq (by kernel_rfl) ?_
  refine gk_region (by kernel_rfl) ?_
  refine gl_pure 1 [0, 1, 5, 9] (K' := [(0, .int .u64 a0), (1, .int .u64 a1), (5, .bool (cmp_isNaN_f196 a0)), (9, .int .u64 a1)]) (by kernel_rfl) ?_
  refine gl_callQ (by kernel_rfl) (cmp_isNaN_f196_walk (r := (cmp_isNaN_f196 a1))  rfl _) ?_
  refine gl_pure 1 [0, 1, 5, 6] (K' := [(0, .int .u64 a0), (1, .int .u64 a1), (5, .bool (cmp_isNaN_f196 a0)), (6, .bool (cmp_isNaN_f196 a1))]) (by kernel_rfl) ?_
  refine gl_atE (by kernel_rfl) ?_
  refine ge_seq ?_
  refine gk_seq (by kernel_rfl) ?_
  refine gk_seq (by kernel_rfl) ?_
  refine gk_region (by kernel_rfl) ?_
  refine gl_pure 1 [0, 1, 6, 11] (K' := [(0, .int .u64 a0), (1, .int .u64 a1), (6, .bool (cmp_isNaN_f196 a1)), (11, .bool (cmp_isNaN_f196 a0))]) (by kernel_rfl) ?_
  refine gl_atE (by kernel_rfl) ?_
  refine ge_seq ?_
  refine gk_cond (b := (cmp_isNaN_f196 a0)) (by kernel_rfl) (by kernel_rfl) (fun hc1 => ?_) (fun hc1 => ?_)
  · have hr := scond_t hc1 hr
    refine gk_seq (by kernel_rfl) ?_
    refine gk_seq (by kernel_rfl) ?_
    refine gk_region (by kernel_rfl) ?_
    refine gl_pure 1 [12] (K' := [(12, .bool (cmp_isNaN_f196 a1))]) (by kernel_rfl) ?_
    refine gl_atE (by kernel_rfl) ?_
    refine ge_seq ?_
    refine gk_cond (b := (cmp_isNaN_f196 a1)) (by kernel_rfl) (by kernel_rfl) (fun hc2 => ?_) (fun hc2 => ?_)
    · have hr := scond_t hc2 hr
      refine gk_seq (by kernel_rfl) ?_
      refine gk_region (by kernel_rfl) ?_
      refine gl_pure 1 [4] (K' := [(4, .int .i64 0)]) (by kernel_rfl) ?_
      refine gl_atE (by kernel_rfl) ?_
      refine ge_seq ?_
      refine gk_ret (by kernel_rfl) ?_
      refine ge_seq_ret ?_
      refine ge_seq_ret ?_
      obtain rfl := some_inj hr
      exact ge_result trivial (ResOk.tmp (by kernel_rfl) ResOk.nil) (Imm.refl _) ⟨rfl, rfl⟩
    · have hr := scond_f hc2 hr
      refine gk_skip (by kernel_rfl) ?_
      refine ge_seq ?_
      refine gk_seq (by kernel_rfl) ?_
      refine gk_region (by kernel_rfl) ?_
      refine gl_pure 1 [4] (K' := [(4, .int .i64 (-1))]) (by kernel_rfl) ?_
      refine gl_atE (by kernel_rfl) ?_
      refine ge_seq ?_
      refine gk_ret (by kernel_rfl) ?_
      refine ge_seq_ret ?_
      obtain rfl := some_inj hr
      exact ge_result trivial (ResOk.tmp (by kernel_rfl) ResOk.nil) (Imm.refl _) ⟨rfl, rfl⟩
  · have hr := scond_f hc1 hr
    refine gk_skip (by kernel_rfl) ?_
    refine ge_seq ?_
    refine gk_seq (by kernel_rfl) ?_
    refine gk_seq (by kernel_rfl) ?_
    refine gk_region (by kernel_rfl) ?_
    refine gl_pure 1 [0, 1, 13] (K' := [(0, .int .u64 a0), (1, .int .u64 a1), (13, .bool (cmp_isNaN_f196 a1))]) (by kernel_rfl) ?_
    refine gl_atE (by kernel_rfl) ?_
    refine ge_seq ?_
    refine gk_cond (b := (cmp_isNaN_f196 a1)) (by kernel_rfl) (by kernel_rfl) (fun hc3 => ?_) (fun hc3 => ?_)
    · have hr := scond_t hc3 hr
      refine gk_seq (by kernel_rfl) ?_
      refine gk_region (by kernel_rfl) ?_
      refine gl_pure 1 [4] (K' := [(4, .int .i64 1)]) (by kernel_rfl) ?_
      refine gl_atE (by kernel_rfl) ?_
      refine ge_seq ?_
      refine gk_ret (by kernel_rfl) ?_
      refine ge_seq_ret ?_
      obtain rfl := some_inj hr
      exact ge_result trivial (ResOk.tmp (by kernel_rfl) ResOk.nil) (Imm.refl _) ⟨rfl, rfl⟩
    · have hr := scond_f hc3 hr
      refine gk_skip (by kernel_rfl) ?_
      refine ge_seq ?_
      refine gk_seq (by kernel_rfl) ?_
      refine gk_seq (by kernel_rfl) ?_
      refine gk_region (by kernel_rfl) ?_
      refine gl_pure 3 [0, 1, 16] (K' := [(0, .int .u64 a0), (1, .int .u64 a1), (16, .bool (decide (a0 < a1)))]) (by kernel_rfl) ?_
      refine gl_atE (by kernel_rfl) ?_
      refine ge_seq ?_
      refine gk_cond (b := (decide (a0 < a1))) (by kernel_rfl) (by kernel_rfl) (fun hc4 => ?_) (fun hc4 => ?_)
      · have hr := scond_t hc4 hr
        refine gk_seq (by kernel_rfl) ?_
        refine gk_region (by kernel_rfl) ?_
        refine gl_pure 1 [4] (K' := [(4, .int .i64 (-1))]) (by kernel_rfl) ?_
        refine gl_atE (by kernel_rfl) ?_
        refine ge_seq ?_
        refine gk_ret (by kernel_rfl) ?_
        refine ge_seq_ret ?_
        obtain rfl := some_inj hr
        exact ge_result trivial (ResOk.tmp (by kernel_rfl) ResOk.nil) (Imm.refl _) ⟨rfl, rfl⟩
      · have hr := scond_f hc4 hr
        refine gk_skip (by kernel_rfl) ?_
        refine ge_seq ?_
        refine gk_seq (by kernel_rfl) ?_
        refine gk_seq (by kernel_rfl) ?_
        refine gk_region (by kernel_rfl) ?_
        refine gl_pure 3 [19] (K' := [(19, .bool (decide (a0 > a1)))]) (by kernel_rfl) ?_
        refine gl_atE (by kernel_rfl) ?_
        refine ge_seq ?_
        refine gk_cond (b := (decide (a0 > a1))) (by kernel_rfl) (by kernel_rfl) (fun hc5 => ?_) (fun hc5 => ?_)
        · have hr := scond_t hc5 hr
          refine gk_seq (by kernel_rfl) ?_
          refine gk_region (by kernel_rfl) ?_
          refine gl_pure 1 [4] (K' := [(4, .int .i64 1)]) (by kernel_rfl) ?_
          refine gl_atE (by kernel_rfl) ?_
          refine ge_seq ?_
          refine gk_ret (by kernel_rfl) ?_
          refine ge_seq_ret ?_
          obtain rfl := some_inj hr
          exact ge_result trivial (ResOk.tmp (by kernel_rfl) ResOk.nil) (Imm.refl _) ⟨rfl, rfl⟩
        · have hr := scond_f hc5 hr
          refine gk_skip (by kernel_rfl) ?_
          refine ge_seq ?_
          refine gk_seq (by kernel_rfl) ?_
          refine gk_region (by kernel_rfl) ?_
          refine gl_pure 1 [4] (K' := [(4, .int .i64 0)]) (by kernel_rfl) ?_
          refine gl_atE (by kernel_rfl) ?_
          refine ge_seq ?_
          refine gk_ret (by kernel_rfl) ?_
          obtain rfl := some_inj hr
          exact ge_result trivial (ResOk.tmp (by kernel_rfl) ResOk.nil) (Imm.refl _) ⟨rfl, rfl⟩
noncomputable def aggr_ahead (a0 : Fl) (a1 : Fl) : Option Int :=
  bif ((cmp_Compare a0 a1) != 0) then
  (some (cmp_Compare a0 a1))
  else
  (Option.bind (fbits a1) fun (q2 : Int) =>
    Option.bind (fbits a0) fun (q4 : Int) =>
    some (cmp_Compare_f176 (shr .u64 q2 63) (shr .u64 q4 63)))
theorem aggr_ahead_walk {a0 : Fl} {b0_0 : Nat} {a1 : Fl} {b1_0 : Nat} {I : Imm} {r : Int}  (hf0_0 : FRep a0 b0_0)  (hf1_0 : FRep a1 b1_0) (hr : aggr_ahead a0 a1 = some r) (L : Own) :
    CallsTo Tryz.prog 145 #[.float .f64 b0_0, .float .f64 b1_0] I L (fun v I' L' => v = .int .i64 r ∧ L = L') := by
  unfold aggr_ahead at hr
  refine callsTo_body (N := 19) Tryz.func145 (by kernel_rfl) (by kernel_rfl) (by kernel_rfl) ?_
  refine gk_pick [0, 1] (K' := [(0, .float .f64 b0_0), (1, .float .f64 b1_0)]) (by kernel_rfl) ?_
  refine gk_seq (by kernel_rfl) ?_
  refine gk_region (by kernel_rfl) ?_
  refine gl_pure 1 [0, 1] (K' := [(0, .float .f64 b0_0), (1, .float .f64 b1_0)]) (by kernel_rfl) ?_
  refine gl_atE (by kernel_rfl) ?_
  refine ge_seq ?_
  refine gk_seq (by kernel_rfl) ?_
  refine gk_seq (by kernel_rfl) ?_
  refine gk_region (by kernel_rfl) ?_
  refine gl_pure 2 [0, 1, 6, 7] (K' := [(0, .float .f64 b0_0), (1, .float .f64 b1_0), (6, .float .f64 b0_0), (7, .float .f64 b1_0)]) (by kernel_rfl) ?_
  refine gl_callQ (by kernel_rfl) (cmp_Compare_walk (r := (cmp_Compare a0 a1)) hf0_0 hf1_0 rfl _) ?_
  refine gl_pure 1 [0, 1, 5] (K' := [(0, .float .f64 b0_0), (1, .float .f64 b1_0), (5, .int .i64 (cmp_Compare a0 a1))]) (by kernel_rfl) ?_
  refine gl_atE (by kernel_rfl) ?_
  refine ge_seq ?_
  refine gk_seq (by kernel_rfl) ?_
  refine gk_region (by kernel_rfl) ?_
  refine gl_pure 2 [0, 1, 5, 10] (K' := [(0, .float .f64 b0_0), (1, .float .f64 b1_0), (5, .int .i64 (cmp_Compare a0 a1)), (10, .bool ((cmp_Compare a0 a1) != 0))]) (by kernel_rfl) ?_
  refine gl_atE (by kernel_rfl) ?_
  refine ge_seq ?_
  refine gk_cond (b := ((cmp_Compare a0 a1) != 0)) (by kernel_rfl) (by kernel_rfl) (fun hc1 => ?_) (fun hc1 => ?_)
  · have hr := cond_t hc1 hr
    refine gk_seq (by kernel_rfl) ?_
    refine gk_region (by kernel_rfl) ?_
    refine gl_pure 2 [4] (K' := [(4, .int .i64 (cmp_Compare a0 a1))]) (by kernel_rfl) ?_
    refine gl_atE (by kernel_rfl) ?_
    refine ge_seq ?_
    refine gk_ret (by kernel_rfl) ?_
    refine ge_seq_ret ?_
    obtain rfl := some_inj hr
    exact ge_result trivial (ResOk.tmp (by kernel_rfl) ResOk.nil) (Imm.refl _) ⟨rfl, rfl⟩
  · have hr := cond_f hc1 hr
    refine gk_skip (by kernel_rfl) ?_
    refine ge_seq ?_
    refine gk_seq (by kernel_rfl) ?_
    refine gk_region (by kernel_rfl) ?_
    refine gl_pure 1 [0, 12] (K' := [(0, .float .f64 b0_0), (12, .float .f64 b1_0)]) (by kernel_rfl) ?_
    obtain ⟨q2, hx3, hr⟩ := bind_some hr
    refine gl_f64bits hx3 hf1_0 Tryz.func46 (by kernel_rfl) (by kernel_rfl) (by kernel_rfl) (by kernel_rfl) (by kernel_rfl) (by kernel_rfl) ?_
    refine gl_pure 2 [14, 15] (K' := [(14, .int .u64 (shr .u64 q2 63)), (15, .float .f64 b0_0)]) (by kernel_rfl) ?_
    obtain ⟨q4, hx5, hr⟩ := bind_some hr
    refine gl_f64bits hx5 hf0_0 Tryz.func46 (by kernel_rfl) (by kernel_rfl) (by kernel_rfl) (by kernel_rfl) (by kernel_rfl) (by kernel_rfl) ?_
    refine gl_pure 1 [14, 17] (K' := [(14, .int .u64 (shr .u64 q2 63)), (17, .int .u64 (shr .u64 q4 63))]) (by kernel_rfl) ?_
    refine gl_callQ (by kernel_rfl) (cmp_Compare_f176_walk (r := (cmp_Compare_f176 (shr .u64 q2 63) (shr .u64 q4 63)))  rfl _) ?_
    refine gl_pure 1 [4] (K' := [(4, .int .i64 (cmp_Compare_f176 (shr .u64 q2 63) (shr .u64 q4 63)))]) (by kernel_rfl) ?_
    refine gl_atE (by kernel_rfl) ?_
    refine ge_seq ?_
    refine gk_ret (by kernel_rfl) ?_
    obtain rfl := some_inj hr
    exact ge_result trivial (ResOk.tmp (by kernel_rfl) ResOk.nil) (Imm.refl _) ⟨rfl, rfl⟩
noncomputable def slices_insertionSortCmpFunc_l52 (a1 : Int) : ((List Fl) × Int) → Option (((List Fl) × Int) ⊕ ((List Fl))) := fun s37 =>
  Option.bind (bif (decide (s37.2 > a1)) then
    (Option.bind (ix s37.1 s37.2) fun (x60 : Fl) =>
      Option.bind (ix s37.1 (IntKind.wrap .i64 (s37.2 - 1))) fun (x71 : Fl) =>
      Option.bind (aggr_ahead x60 x71) fun (y82 : Int) =>
      some (decide (y82 < 0)))
    else
    (some false)) fun (j54 : Bool) =>
  bif j54 then
  (Option.bind (ix s37.1 (IntKind.wrap .i64 (s37.2 - 1))) fun (x85 : Fl) =>
    Option.bind (ix s37.1 s37.2) fun (x96 : Fl) =>
    Option.bind (ix s37.1 s37.2) fun (x107 : Fl) =>
    Option.bind (ix (lset s37.1 s37.2 x85) (IntKind.wrap .i64 (s37.2 - 1))) fun (x121 : Fl) =>
    some (Sum.inl ((lset (lset s37.1 s37.2 x85) (IntKind.wrap .i64 (s37.2 - 1)) x96), (IntKind.wrap .i64 (s37.2 - 1)))))
  else
  (some (Sum.inr s37.1))
noncomputable def slices_insertionSortCmpFunc_l25 (a1 : Int) (a2 : Int) : ((List Fl) × Int) → Option (((List Fl) × Int) ⊕ ((List Fl))) := fun s10 =>
  bif (decide (s10.2 < a2)) then
  (Option.bind (loopO (slices_insertionSortCmpFunc_l52 a1) (s10.1, s10.2)) fun (r35 : (List Fl)) =>
    some (Sum.inl (r35, (IntKind.wrap .i64 (s10.2 + 1)))))
  else
  (some (Sum.inr s10.1))
noncomputable def slices_insertionSortCmpFunc (a0 : List Fl) (a1 : Int) (a2 : Int) : Option (List Fl) :=
  Option.bind (loopO (slices_insertionSortCmpFunc_l25 a1 a2) (a0, (IntKind.wrap .i64 (a1 + 1)))) fun (r8 : (List Fl)) =>
  some r8
theorem slices_insertionSortCmpFunc_walk {a0 : List Fl} {A0 : Option Addr} {c0 : Nat} {C0 : Own} {a1 : Int} {a2 : Int} {I : Imm} {r : (List Fl)} (hO0 : OwnS Kd.flt 37 I A0 c0 a0 C0) (hr : slices_insertionSortCmpFunc a0 a1 a2 = some r) (L : Own) :
    CallsTo Tryz.prog 193 #[.slice A0 a0.length c0, .int .i64 a1, .int .i64 a2, .func (.func 145) #[] #[]] I (C0 ++ L) (fun v I' L' => ∃ C0, OwnS Kd.flt 37 I' A0 c0 r C0 ∧ r.length = a0.length ∧ v = .tuple #[] ∧ C0 ++ L = L') := by
  unfold slices_insertionSortCmpFunc at hr
  refine callsTo_body (N := 53) Tryz.func193 (by kernel_rfl) (by kernel_rfl) (by kernel_rfl) ?_
  refine gk_pick [0, 1, 2, 3] (K' := [(0, .slice A0 a0.length c0), (1, .int .i64 a1), (2, .int .i64 a2), (3, .func (.func 145) #[] #[])]) (by kernel_rfl) ?_
  refine gk_seq (by kernel_rfl) ?_
  refine gk_region (by kernel_rfl) ?_
  refine gl_pure 3 [0, 1, 2, 3, 8] (K' := [(0, .slice A0 a0.length c0), (1, .int .i64 a1), (2, .int .i64 a2), (3, .func (.func 145) #[] #[]), (8, .int .i64 (IntKind.wrap .i64 (a1 + 1)))]) (by kernel_rfl) ?_
  refine gl_atE (by kernel_rfl) ?_
  refine ge_seq ?_
  obtain ⟨r8, hl9, hr⟩ := bind_some hr
  refine gk_join (fun t I' L' => ∃ C20, OwnS Kd.flt 37 I' A0 c0 r8 C20 ∧ (r8.length = a0.length) ∧ I ≤ I' ∧ C20 ++ L = L' ∧ Knows 53 [(0, .slice A0 r8.length c0)] t) ?_ ?_
  · refine gk_block (by kernel_rfl) ?_
    refine gk_pick [0, 1, 2, 3, 8] (K' := [(0, .slice A0 a0.length c0), (1, .int .i64 a1), (2, .int .i64 a2), (3, .func (.func 145) #[] #[]), (8, .int .i64 (IntKind.wrap .i64 (a1 + 1)))]) (by kernel_rfl) ?_
    intro t hK
    refine gc_loop (slices_insertionSortCmpFunc_l25 a1 a2) (fun s10 t I' L' => ∃ C14, OwnS Kd.flt 37 I' A0 c0 s10.1 C14 ∧ (s10.1.length = a0.length) ∧ I ≤ I' ∧ C14 ++ L = L' ∧ Knows 53 [(0, .slice A0 s10.1.length c0), (1, .int .i64 a1), (2, .int .i64 a2), (3, .func (.func 145) #[] #[]), (8, .int .i64 s10.2)] t) (by kernel_rfl) ?_ hl9 ⟨C0, hO0, rfl, (Imm.refl _), rfl, hK⟩
    rintro s10 o11 t I18 L' hb12 ⟨C14, hO15, hL16, hI13, rfl, hK17⟩
    unfold slices_insertionSortCmpFunc_l25 at hb12
    refine gk_at hK17 ?_
    refine gk_seq (by kernel_rfl) ?_
    refine gk_seq (by kernel_rfl) ?_
    refine gk_region (by kernel_rfl) ?_
    refine gl_pure 3 [0, 1, 2, 3, 8, 14] (K' := [(0, .slice A0 s10.1.length c0), (1, .int .i64 a1), (2, .int .i64 a2), (3, .func (.func 145) #[] #[]), (8, .int .i64 s10.2), (14, .bool (decide (s10.2 < a2)))]) (by kernel_rfl) ?_
    refine gl_atE (by kernel_rfl) ?_
    refine ge_seq ?_
    refine gk_cond (b := (decide (s10.2 < a2))) (by kernel_rfl) (by kernel_rfl) (fun hc27 => ?_) (fun hc27 => ?_)
    · have hb12 := cond_t hc27 hb12
      refine gk_skip (by kernel_rfl) ?_
      refine ge_seq ?_
      refine gk_seq (by kernel_rfl) ?_
      refine gk_block (by kernel_rfl) ?_
      refine gk_seq (by kernel_rfl) ?_
      refine gk_region (by kernel_rfl) ?_
      refine gl_pure 2 [0, 1, 2, 3, 8, 9] (K' := [(0, .slice A0 s10.1.length c0), (1, .int .i64 a1), (2, .int .i64 a2), (3, .func (.func 145) #[] #[]), (8, .int .i64 s10.2), (9, .int .i64 s10.2)]) (by kernel_rfl) ?_
      refine gl_atE (by kernel_rfl) ?_
      refine ge_seq ?_
      obtain ⟨r35, hl36, hb12⟩ := bind_some hb12
      refine gk_join (fun t I' L' => ∃ C47, OwnS Kd.flt 37 I' A0 c0 r35 C47 ∧ (r35.length = a0.length) ∧ I18 ≤ I' ∧ C47 ++ L = L' ∧ Knows 53 [(0, .slice A0 r35.length c0), (1, .int .i64 a1), (2, .int .i64 a2), (3, .func (.func 145) #[] #[]), (8, .int .i64 s10.2)] t) ?_ ?_
      · refine gk_block (by kernel_rfl) ?_
        refine gk_pick [0, 1, 2, 3, 8, 9] (K' := [(0, .slice A0 s10.1.length c0), (1, .int .i64 a1), (2, .int .i64 a2), (3, .func (.func 145) #[] #[]), (8, .int .i64 s10.2), (9, .int .i64 s10.2)]) (by kernel_rfl) ?_
        intro t hK
        refine gc_loop (slices_insertionSortCmpFunc_l52 a1) (fun s37 t I' L' => ∃ C41, OwnS Kd.flt 37 I' A0 c0 s37.1 C41 ∧ (s37.1.length = a0.length) ∧ I18 ≤ I' ∧ C41 ++ L = L' ∧ Knows 53 [(0, .slice A0 s37.1.length c0), (1, .int .i64 a1), (2, .int .i64 a2), (3, .func (.func 145) #[] #[]), (8, .int .i64 s10.2), (9, .int .i64 s37.2)] t) (by kernel_rfl) ?_ hl36 ⟨C14, hO15, hL16, (Imm.refl _), rfl, hK⟩
        rintro s37 o38 t I45 L' hb39 ⟨C41, hO42, hL43, hI40, rfl, hK44⟩
        unfold slices_insertionSortCmpFunc_l52 at hb39
        refine gk_at hK44 ?_
        refine gk_seq (by kernel_rfl) ?_
        refine gk_seq (by kernel_rfl) ?_
        obtain ⟨j54, hj55, hb39⟩ := bind_some hb39
        refine gk_join (fun t I' L' => I45 ≤ I' ∧ C41 ++ L = L' ∧ Knows 53 [(0, .slice A0 s37.1.length c0), (1, .int .i64 a1), (2, .int .i64 a2), (3, .func (.func 145) #[] #[]), (8, .int .i64 s10.2), (9, .int .i64 s37.2), (34, .bool j54)] t) ?_ ?_
        · refine gk_draw 14 [(0, true), (1, true), (2, true), (3, true), (4, true), (5, true), (6, true), (7, true), (8, true), (9, true), (10, true), (11, true), (12, true), (13, true)] (C41 ++ []) (List.forall_mem_append.2 ⟨fun q hq => (List.mem_append_left _ hq), (fun p hp => by cases hp)⟩) (by kernel_rfl) (by kernel_rfl) (by kernel_rfl) ?_ (by kernel_rfl)
          refine gd_pure 4 [0, 1, 2, 3, 8, 9, 21] (K' := [(0, .slice A0 s37.1.length c0), (1, .int .i64 a1), (2, .int .i64 a2), (3, .func (.func 145) #[] #[]), (8, .int .i64 s10.2), (9, .int .i64 s37.2), (21, .bool (decide (s37.2 > a1)))]) (s' := [(4, true), (5, true), (6, true), (7, true), (8, true), (9, true), (10, true), (11, true), (12, true), (13, true)]) (CC.refl (List.forall_mem_append.2 ⟨fun q hq => (List.mem_append_left _ hq), (fun p hp => by cases hp)⟩)) (by kernel_rfl) ?_
          refine gd_case 21 (b := (decide (s37.2 > a1))) (by kernel_rfl) (fun hc59 => ?_) (fun hc59 => ?_)
          · have hj55 := cond_t hc59 hj55
            refine gd_pure 3 [0, 1, 2, 3, 8, 9, 21, 22, 23, 24] (K' := [(0, .slice A0 s37.1.length c0), (1, .int .i64 a1), (2, .int .i64 a2), (3, .func (.func 145) #[] #[]), (8, .int .i64 s10.2), (9, .int .i64 s37.2), (21, .bool true), (22, .func (.func 145) #[] #[]), (23, .slice A0 s37.1.length c0), (24, .int .i64 s37.2)]) (s' := [(7, true), (8, true), (9, true), (10, true), (11, true), (12, true), (13, true)]) (CC.refl (List.forall_mem_append.2 ⟨fun q hq => (List.mem_append_left _ hq), (fun p hp => by cases hp)⟩)) (by kernel_rfl) ?_
            obtain ⟨x60, hx61, hj55⟩ := bind_some hj55
            obtain ⟨p62, cs63, hR64, hA65, ha66, hg70⟩ := OwnS.ixAtG hx61 hO42
            have hi67 := ix_some hx61
            obtain ⟨b68, rfl, hf69⟩ := hR64
            refine gd_q (v := .pointer (some p62)) (by kernel_rfl) (by kernel_rfl) (CC.refl (List.forall_mem_append.2 ⟨fun q hq => (List.mem_append_left _ hq), (fun p hp => by cases hp)⟩)) (fun I' L' T hC kk => gl_indexAddrF (c := c0) (T' := 43) (e := 37) (xs := (.tmp 23)) (xi := (.tmp 24)) (kd := .i64) ha66 hi67.1 hi67.2.1 (by kernel_rfl) (by kernel_rfl) (by kernel_rfl) (by kernel_rfl) (by kernel_rfl) kk) ?_
            refine gd_q (v := .float .f64 b68) (by kernel_rfl) (by kernel_rfl) (CC.refl (List.forall_mem_append.2 ⟨fun q hq => (List.mem_append_left _ hq), (fun p hp => by cases hp)⟩)) (fun I' L' T hC kk => gl_loadO (T' := 37) (xp := (.tmp 25)) (p := p62) (c := .float .f64 b68) (n := 1) (by kernel_rfl) (by kernel_rfl) (by kernel_rfl) (by kernel_rfl) (hA65 _ _ (fun q hq => hC.sub _ (List.mem_append_left _ hq))) kk) ?_
            refine gd_pure 3 [0, 1, 2, 3, 8, 9, 21, 22, 26, 27, 29] (K' := [(0, .slice A0 s37.1.length c0), (1, .int .i64 a1), (2, .int .i64 a2), (3, .func (.func 145) #[] #[]), (8, .int .i64 s10.2), (9, .int .i64 s37.2), (21, .bool true), (22, .func (.func 145) #[] #[]), (26, .float .f64 b68), (27, .slice A0 s37.1.length c0), (29, .int .i64 (IntKind.wrap .i64 (s37.2 - 1)))]) (s' := [(12, true), (13, true)]) (CC.refl (List.forall_mem_append.2 ⟨fun q hq => (List.mem_append_left _ hq), (fun p hp => by cases hp)⟩)) (by kernel_rfl) ?_
            obtain ⟨x71, hx72, hj55⟩ := bind_some hj55
            obtain ⟨p73, cs74, hR75, hA76, ha77, hg81⟩ := OwnS.ixAtG hx72 hO42
            have hi78 := ix_some hx72
            obtain ⟨b79, rfl, hf80⟩ := hR75
            refine gd_q (v := .pointer (some p73)) (by kernel_rfl) (by kernel_rfl) (CC.refl (List.forall_mem_append.2 ⟨fun q hq => (List.mem_append_left _ hq), (fun p hp => by cases hp)⟩)) (fun I' L' T hC kk => gl_indexAddrF (c := c0) (T' := 43) (e := 37) (xs := (.tmp 27)) (xi := (.tmp 29)) (kd := .i64) ha77 hi78.1 hi78.2.1 (by kernel_rfl) (by kernel_rfl) (by kernel_rfl) (by kernel_rfl) (by kernel_rfl) kk) ?_
            refine gd_q (v := .float .f64 b79) (by kernel_rfl) (by kernel_rfl) (CC.refl (List.forall_mem_append.2 ⟨fun q hq => (List.mem_append_left _ hq), (fun p hp => by cases hp)⟩)) (fun I' L' T hC kk => gl_loadO (T' := 37) (xp := (.tmp 30)) (p := p73) (c := .float .f64 b79) (n := 1) (by kernel_rfl) (by kernel_rfl) (by kernel_rfl) (by kernel_rfl) (hA76 _ _ (fun q hq => hC.sub _ (List.mem_append_left _ hq))) kk) ?_
            refine gd_done ?_
            obtain ⟨y82, hx83, hj55⟩ := bind_some hj55
            refine gl_callQ (by kernel_rfl) (aggr_ahead_walk (r := y82) hf69 hf80 hx83 _) ?_
            refine gl_pure 2 [0, 1, 2, 3, 8, 9, 34] (K' := [(0, .slice A0 s37.1.length c0), (1, .int .i64 a1), (2, .int .i64 a2), (3, .func (.func 145) #[] #[]), (8, .int .i64 s10.2), (9, .int .i64 s37.2), (34, .bool (decide (y82 < 0)))]) (by kernel_rfl) ?_
            refine gl_atE (by kernel_rfl) ?_
            obtain rfl := some_inj hj55
            exact ge_mid fun t ht => ⟨(Imm.refl _), rfl, ht.pick (l := [0, 1, 2, 3, 8, 9, 34]) (by kernel_rfl)⟩
          · have hj55 := cond_f hc59 hj55
            refine gd_pure 10 [0, 1, 2, 3, 8, 9, 21, 22, 26, 31] (K' := [(0, .slice A0 s37.1.length c0), (1, .int .i64 a1), (2, .int .i64 a2), (3, .func (.func 145) #[] #[]), (8, .int .i64 s10.2), (9, .int .i64 s37.2), (21, .bool false), (22, undef), (26, undef), (31, undef)]) (s' := []) (CC.refl (List.forall_mem_append.2 ⟨fun q hq => (List.mem_append_left _ hq), (fun p hp => by cases hp)⟩)) (by kernel_rfl) ?_
            refine gd_done ?_
            refine gl_pure 3 [0, 1, 2, 3, 8, 9, 34] (K' := [(0, .slice A0 s37.1.length c0), (1, .int .i64 a1), (2, .int .i64 a2), (3, .func (.func 145) #[] #[]), (8, .int .i64 s10.2), (9, .int .i64 s37.2), (34, .bool false)]) (by kernel_rfl) ?_
            refine gl_atE (by kernel_rfl) ?_
            obtain rfl := some_inj hj55
            exact ge_mid fun t ht => ⟨(Imm.refl _), rfl, ht.pick (l := [0, 1, 2, 3, 8, 9, 34]) (by kernel_rfl)⟩
        · rintro t I58 L' ⟨hI56, rfl, hK57⟩
          refine ge_at hK57 ?_
          refine ge_seq ?_
          refine gk_cond (b := j54) (by kernel_rfl) (by kernel_rfl) (fun hc84 => ?_) (fun hc84 => ?_)
          · have hb39 := cond_t hc84 hb39
            refine gk_skip (by kernel_rfl) ?_
            refine ge_seq ?_
            refine gk_seq (by kernel_rfl) ?_
            refine gk_block (by kernel_rfl) ?_
            refine gk_drawS 17 [(0, true), (1, true), (2, true), (3, true), (4, true), (5, true), (6, true), (7, true), (8, true), (9, true), (10, true), (11, true), (12, true), (13, true), (14, false), (15, false), (16, false)] [9, 13] [] (C41 ++ []) (List.forall_mem_append.2 ⟨fun q hq => (List.mem_append_left _ hq), (fun p hp => by cases hp)⟩) (fun p hp => List.mem_append_right _ ((fun p hp => hp) p hp)) (by kernel_rfl) (by kernel_rfl) (by kernel_rfl) ?_ (by kernel_rfl)
            refine gd_pure 8 [0, 1, 2, 3, 8, 9, 37, 38, 39, 41, 42, 44] (K' := [(0, .slice A0 s37.1.length c0), (1, .int .i64 a1), (2, .int .i64 a2), (3, .func (.func 145) #[] #[]), (8, .int .i64 s10.2), (9, .int .i64 s37.2), (37, .slice A0 s37.1.length c0), (38, .int .i64 s37.2), (39, .slice A0 s37.1.length c0), (41, .int .i64 (IntKind.wrap .i64 (s37.2 - 1))), (42, .slice A0 s37.1.length c0), (44, .int .i64 (IntKind.wrap .i64 (s37.2 - 1)))]) (s' := [(8, true), (9, true), (10, true), (11, true), (12, true), (13, true), (14, false), (15, false), (16, false)]) (CC.refl (List.forall_mem_append.2 ⟨fun q hq => (List.mem_append_left _ hq), (fun p hp => by cases hp)⟩)) (by kernel_rfl) ?_
            obtain ⟨x85, hx86, hb39⟩ := bind_some hb39
            obtain ⟨p87, cs88, hR89, hA90, ha91, hg95⟩ := OwnS.ixAtG hx86 (hO42.mono hI56)
            have hi92 := ix_some hx86
            obtain ⟨b93, rfl, hf94⟩ := hR89
            refine gd_q (v := .pointer (some p87)) (by kernel_rfl) (by kernel_rfl) (CC.refl (List.forall_mem_append.2 ⟨fun q hq => (List.mem_append_left _ hq), (fun p hp => by cases hp)⟩)) (fun I' L' T hC kk => gl_indexAddrF (c := c0) (T' := 43) (e := 37) (xs := (.tmp 42)) (xi := (.tmp 44)) (kd := .i64) ha91 hi92.1 hi92.2.1 (by kernel_rfl) (by kernel_rfl) (by kernel_rfl) (by kernel_rfl) (by kernel_rfl) kk) ?_
            refine gd_q (v := .float .f64 b93) (by kernel_rfl) (by kernel_rfl) (CC.refl (List.forall_mem_append.2 ⟨fun q hq => (List.mem_append_left _ hq), (fun p hp => by cases hp)⟩)) (fun I' L' T hC kk => gl_loadO (T' := 37) (xp := (.tmp 45)) (p := p87) (c := .float .f64 b93) (n := 1) (by kernel_rfl) (by kernel_rfl) (by kernel_rfl) (by kernel_rfl) (hA90 _ _ (fun q hq => hC.sub _ (List.mem_append_left _ hq))) kk) ?_
            refine gd_pure 2 [0, 1, 2, 3, 8, 9, 37, 38, 39, 41, 46, 47, 48] (K' := [(0, .slice A0 s37.1.length c0), (1, .int .i64 a1), (2, .int .i64 a2), (3, .func (.func 145) #[] #[]), (8, .int .i64 s10.2), (9, .int .i64 s37.2), (37, .slice A0 s37.1.length c0), (38, .int .i64 s37.2), (39, .slice A0 s37.1.length c0), (41, .int .i64 (IntKind.wrap .i64 (s37.2 - 1))), (46, .float .f64 b93), (47, .slice A0 s37.1.length c0), (48, .int .i64 s37.2)]) (s' := [(12, true), (13, true), (14, false), (15, false), (16, false)]) (CC.refl (List.forall_mem_append.2 ⟨fun q hq => (List.mem_append_left _ hq), (fun p hp => by cases hp)⟩)) (by kernel_rfl) ?_
            obtain ⟨x96, hx97, hb39⟩ := bind_some hb39
            obtain ⟨p98, cs99, hR100, hA101, ha102, hg106⟩ := OwnS.ixAtG hx97 (hO42.mono hI56)
            have hi103 := ix_some hx97
            obtain ⟨b104, rfl, hf105⟩ := hR100
            refine gd_q (v := .pointer (some p98)) (by kernel_rfl) (by kernel_rfl) (CC.refl (List.forall_mem_append.2 ⟨fun q hq => (List.mem_append_left _ hq), (fun p hp => by cases hp)⟩)) (fun I' L' T hC kk => gl_indexAddrF (c := c0) (T' := 43) (e := 37) (xs := (.tmp 47)) (xi := (.tmp 48)) (kd := .i64) ha102 hi103.1 hi103.2.1 (by kernel_rfl) (by kernel_rfl) (by kernel_rfl) (by kernel_rfl) (by kernel_rfl) kk) ?_
            refine gd_q (v := .float .f64 b104) (by kernel_rfl) (by kernel_rfl) (CC.refl (List.forall_mem_append.2 ⟨fun q hq => (List.mem_append_left _ hq), (fun p hp => by cases hp)⟩)) (fun I' L' T hC kk => gl_loadO (T' := 37) (xp := (.tmp 49)) (p := p98) (c := .float .f64 b104) (n := 1) (by kernel_rfl) (by kernel_rfl) (by kernel_rfl) (by kernel_rfl) (hA101 _ _ (fun q hq => hC.sub _ (List.mem_append_left _ hq))) kk) ?_
            refine gd_one (by kernel_rfl) ?_
            obtain ⟨x107, hx108, hb39⟩ := bind_some hb39
            refine gl_indexAddrW (d := Kd.flt) (c := c0) (T' := 43) (e := 37) (xs := (.tmp 37)) (xi := (.tmp 38)) (kd := .i64) hx108 (hO42.mono hI56) (Upd.selfC _ _) (by kernel_rfl) (by kernel_rfl) (by kernel_rfl) (by kernel_rfl) (by kernel_rfl) (fun p109 cs110 hR111 hA112 hp117 => ?_)
            obtain ⟨b115, rfl, hf116⟩ := hR111
            refine gl_toD (by kernel_rfl) ⟨(Imm.refl _), (List.forall_mem_append.2 ⟨fun q hq => (List.mem_append_left _ hq), (fun p hp => by cases hp)⟩)⟩ ?_
            refine gd_flip (by kernel_rfl) (by kernel_rfl) ?_
            have hl120 : s37.1.length = (lset s37.1 s37.2 x85).length := by simp [lset]
            refine gl_storeE (d := Kd.flt) (T' := 37) (xp := (.tmp 51)) (xv := (.tmp 46)) (v := .float .f64 b93) (off := 0) (y := x85) (fun X => X ++ L) hx108 (hO42.mono hI56) (fun X => (Upd.head _ X _)) hp117 (by kernel_rfl) (by kernel_rfl) (by kernel_rfl) (by kernel_rfl) (by kernel_rfl) (by kernel_rfl) (fun cs h => by obtain ⟨b', rfl, _⟩ := h; exact ⟨_, rfl, hf94⟩) (by kernel_rfl) (fun C118 hO119 => ?_)
            try rw [hl120]
            refine gl_toD (by kernel_rfl) ⟨(Imm.refl _), (fun p hp => by cases hp)⟩ ?_
            refine gd_one (by kernel_rfl) ?_
            obtain ⟨x121, hx122, hb39⟩ := bind_some hb39
            refine gl_indexAddrW (d := Kd.flt) (c := c0) (T' := 43) (e := 37) (xs := (.tmp 39)) (xi := (.tmp 41)) (kd := .i64) hx122 hO119 (Upd.selfC _ _) (by kernel_rfl) (by kernel_rfl) (by kernel_rfl) (by kernel_rfl) (by kernel_rfl) (fun p123 cs124 hR125 hA126 hp131 => ?_)
            obtain ⟨b129, rfl, hf130⟩ := hR125
            refine gl_toD (by kernel_rfl) ⟨(Imm.refl _), (fun p hp => by cases hp)⟩ ?_
            refine gd_done ?_
            have hl134 : (lset s37.1 s37.2 x85).length = (lset (lset s37.1 s37.2 x85) (IntKind.wrap .i64 (s37.2 - 1)) x96).length := by simp [lset]
            refine gl_storeE (d := Kd.flt) (T' := 37) (xp := (.tmp 52)) (xv := (.tmp 50)) (v := .float .f64 b104) (off := 0) (y := x96) (fun X => X ++ L) hx122 hO119 (fun X => (Upd.head _ X _)) hp131 (by kernel_rfl) (by kernel_rfl) (by kernel_rfl) (by kernel_rfl) (by kernel_rfl) (by kernel_rfl) (fun cs h => by obtain ⟨b', rfl, _⟩ := h; exact ⟨_, rfl, hf105⟩) (by kernel_rfl) (fun C132 hO133 => ?_)
            try rw [hl134]
            refine gl_atE (by kernel_rfl) ?_
            refine ge_block_normal ?_
            refine ge_seq ?_
            refine gk_region (by kernel_rfl) ?_
            refine gl_pure 3 [0, 1, 2, 3, 8, 9] (K' := [(0, .slice A0 (lset (lset s37.1 s37.2 x85) (IntKind.wrap .i64 (s37.2 - 1)) x96).length c0), (1, .int .i64 a1), (2, .int .i64 a2), (3, .func (.func 145) #[] #[]), (8, .int .i64 s10.2), (9, .int .i64 (IntKind.wrap .i64 (s37.2 - 1)))]) (by kernel_rfl) ?_
            refine gl_atE (by kernel_rfl) ?_
            obtain rfl := some_inj hb39
            exact ge_round fun t ht => ⟨C132, hO133, (Eq.trans (lset_length _ _ _) (Eq.trans (lset_length _ _ _) hL43)), (Imm.trans hI40 hI56), rfl, ht.pick (l := [0, 1, 2, 3, 8, 9]) (by kernel_rfl)⟩
          · have hb39 := cond_f hc84 hb39
            refine gk_exit (by kernel_rfl) ?_
            refine ge_seq_exit ?_
            obtain rfl := some_inj hb39
            refine ge_round_out (fun hrr => ?_) (by intro h; cases h)
            obtain rfl := hrr
            refine ge_block_hit (by kernel_rfl) ?_
            exact ge_mid fun t ht => ⟨C41, (hO42.mono hI56), hL43, (Imm.trans hI40 hI56), rfl, ht.pick (l := [0, 1, 2, 3, 8]) (by kernel_rfl)⟩
      · rintro t I51 L' ⟨C47, hO48, hL49, hI46, rfl, hK50⟩
        refine ge_at hK50 ?_
        refine ge_block_normal ?_
        refine ge_seq ?_
        refine gk_region (by kernel_rfl) ?_
        refine gl_pure 3 [0, 1, 2, 3, 8] (K' := [(0, .slice A0 r35.length c0), (1, .int .i64 a1), (2, .int .i64 a2), (3, .func (.func 145) #[] #[]), (8, .int .i64 (IntKind.wrap .i64 (s10.2 + 1)))]) (by kernel_rfl) ?_
        refine gl_atE (by kernel_rfl) ?_
        obtain rfl := some_inj hb12
        exact ge_round fun t ht => ⟨C47, hO48, hL49, (Imm.trans hI13 hI46), rfl, ht.pick (l := [0, 1, 2, 3, 8]) (by kernel_rfl)⟩
    · have hb12 := cond_f hc27 hb12
      refine gk_exit (by kernel_rfl) ?_
      refine ge_seq_exit ?_
      obtain rfl := some_inj hb12
      refine ge_round_out (fun hrr => ?_) (by intro h; cases h)
      obtain rfl := hrr
      refine ge_block_hit (by kernel_rfl) ?_
      exact ge_mid fun t ht => ⟨C14, hO15, hL16, hI13, rfl, ht.pick (l := [0]) (by kernel_rfl)⟩
  · rintro t I24 L' ⟨C20, hO21, hL22, hI19, rfl, hK23⟩
    refine ge_at hK23 ?_
    obtain rfl := some_inj hr
    exact ge_result trivial ResOk.nil hI19 ⟨C20, hO21, hL22, rfl, rfl⟩
noncomputable def slices_swapRangeCmpFunc_l25 (a1 : Int) (a2 : Int) (a3 : Int) : ((List Fl) × Int) → Option (((List Fl) × Int) ⊕ ((List Fl))) := fun s10 =>
  bif (decide (s10.2 < a3)) then
  (Option.bind (ix s10.1 (IntKind.wrap .i64 (a2 + s10.2))) fun (x28 : Fl) =>
    Option.bind (ix s10.1 (IntKind.wrap .i64 (a1 + s10.2))) fun (x39 : Fl) =>
    Option.bind (ix s10.1 (IntKind.wrap .i64 (a1 + s10.2))) fun (x50 : Fl) =>
    Option.bind (ix (lset s10.1 (IntKind.wrap .i64 (a1 + s10.2)) x28) (IntKind.wrap .i64 (a2 + s10.2))) fun (x64 : Fl) =>
    some (Sum.inl ((lset (lset s10.1 (IntKind.wrap .i64 (a1 + s10.2)) x28) (IntKind.wrap .i64 (a2 + s10.2)) x39), (IntKind.wrap .i64 (s10.2 + 1)))))
  else
  (some (Sum.inr s10.1))
noncomputable def slices_swapRangeCmpFunc (a0 : List Fl) (a1 : Int) (a2 : Int) (a3 : Int) : Option (List Fl) :=
  Option.bind (loopO (slices_swapRangeCmpFunc_l25 a1 a2 a3) (a0, 0)) fun (r8 : (List Fl)) =>
  some r8
theorem slices_swapRangeCmpFunc_walk {a0 : List Fl} {A0 : Option Addr} {c0 : Nat} {C0 : Own} {a1 : Int} {a2 : Int} {a3 : Int} {I : Imm} {r : (List Fl)} (hO0 : OwnS Kd.flt 37 I A0 c0 a0 C0) (hr : slices_swapRangeCmpFunc a0 a1 a2 a3 = some r) (L : Own) :
    CallsTo Tryz.prog 211 #[.slice A0 a0.length c0, .int .i64 a1, .int .i64 a2, .int .i64 a3, .func (.func 145) #[] #[]] I (C0 ++ L) (fun v I' L' => ∃ C0, OwnS Kd.flt 37 I' A0 c0 r C0 ∧ r.length = a0.length ∧ v = .tuple #[] ∧ C0 ++ L = L') := by
  unfold slices_swapRangeCmpFunc at hr
  refine callsTo_body (N := 38) Tryz.func211 (by kernel_rfl) (by kernel_rfl) (by kernel_rfl) ?_
  refine gk_pick [0, 1, 2, 3, 4] (K' := [(0, .slice A0 a0.length c0), (1, .int .i64 a1), (2, .int .i64 a2), (3, .int .i64 a3), (4, .func (.func 145) #[] #[])]) (by kernel_rfl) ?_
  refine gk_seq (by kernel_rfl) ?_
  refine gk_region (by kernel_rfl) ?_
  refine gl_pure 1 [0, 1, 2, 3, 10] (K' := [(0, .slice A0 a0.length c0), (1, .int .i64 a1), (2, .int .i64 a2), (3, .int .i64 a3), (10, .int .i64 0)]) (by kernel_rfl) ?_
  refine gl_atE (by kernel_rfl) ?_
  refine ge_seq ?_
  obtain ⟨r8, hl9, hr⟩ := bind_some hr
  refine gk_join (fun t I' L' => ∃ C20, OwnS Kd.flt 37 I' A0 c0 r8 C20 ∧ (r8.length = a0.length) ∧ I ≤ I' ∧ C20 ++ L = L' ∧ Knows 38 [(0, .slice A0 r8.length c0)] t) ?_ ?_
  · refine gk_block (by kernel_rfl) ?_
    refine gk_pick [0, 1, 2, 3, 10] (K' := [(0, .slice A0 a0.length c0), (1, .int .i64 a1), (2, .int .i64 a2), (3, .int .i64 a3), (10, .int .i64 0)]) (by kernel_rfl) ?_
    intro t hK
    refine gc_loop (slices_swapRangeCmpFunc_l25 a1 a2 a3) (fun s10 t I' L' => ∃ C14, OwnS Kd.flt 37 I' A0 c0 s10.1 C14 ∧ (s10.1.length = a0.length) ∧ I ≤ I' ∧ C14 ++ L = L' ∧ Knows 38 [(0, .slice A0 s10.1.length c0), (1, .int .i64 a1), (2, .int .i64 a2), (3, .int .i64 a3), (10, .int .i64 s10.2)] t) (by kernel_rfl) ?_ hl9 ⟨C0, hO0, rfl, (Imm.refl _), rfl, hK⟩
    rintro s10 o11 t I18 L' hb12 ⟨C14, hO15, hL16, hI13, rfl, hK17⟩
    unfold slices_swapRangeCmpFunc_l25 at hb12
    refine gk_at hK17 ?_
    refine gk_seq (by kernel_rfl) ?_
    refine gk_seq (by kernel_rfl) ?_
    refine gk_region (by kernel_rfl) ?_
    refine gl_pure 3 [0, 1, 2, 3, 10, 13] (K' := [(0, .slice A0 s10.1.length c0), (1, .int .i64 a1), (2, .int .i64 a2), (3, .int .i64 a3), (10, .int .i64 s10.2), (13, .bool (decide (s10.2 < a3)))]) (by kernel_rfl) ?_
    refine gl_atE (by kernel_rfl) ?_
    refine ge_seq ?_
    refine gk_cond (b := (decide (s10.2 < a3))) (by kernel_rfl) (by kernel_rfl) (fun hc27 => ?_) (fun hc27 => ?_)
    · have hb12 := cond_t hc27 hb12
      refine gk_skip (by kernel_rfl) ?_
      refine ge_seq ?_
      refine gk_seq (by kernel_rfl) ?_
      refine gk_block (by kernel_rfl) ?_
      refine gk_drawS 23 [(0, true), (1, true), (2, true), (3, true), (4, true), (5, true), (6, true), (7, true), (8, true), (9, true), (10, true), (11, true), (12, true), (13, true), (14, true), (15, true), (16, true), (17, true), (18, true), (19, true), (20, false), (21, false), (22, false)] [13, 19] [] (C14 ++ []) (List.forall_mem_append.2 ⟨fun q hq => (List.mem_append_left _ hq), (fun p hp => by cases hp)⟩) (fun p hp => List.mem_append_right _ ((fun p hp => hp) p hp)) (by kernel_rfl) (by kernel_rfl) (by kernel_rfl) ?_ (by kernel_rfl)
      refine gd_pure 12 [0, 1, 2, 3, 10, 16, 19, 20, 23, 24, 27] (K' := [(0, .slice A0 s10.1.length c0), (1, .int .i64 a1), (2, .int .i64 a2), (3, .int .i64 a3), (10, .int .i64 s10.2), (16, .slice A0 s10.1.length c0), (19, .int .i64 (IntKind.wrap .i64 (a1 + s10.2))), (20, .slice A0 s10.1.length c0), (23, .int .i64 (IntKind.wrap .i64 (a2 + s10.2))), (24, .slice A0 s10.1.length c0), (27, .int .i64 (IntKind.wrap .i64 (a2 + s10.2)))]) (s' := [(12, true), (13, true), (14, true), (15, true), (16, true), (17, true), (18, true), (19, true), (20, false), (21, false), (22, false)]) (CC.refl (List.forall_mem_append.2 ⟨fun q hq => (List.mem_append_left _ hq), (fun p hp => by cases hp)⟩)) (by kernel_rfl) ?_
      obtain ⟨x28, hx29, hb12⟩ := bind_some hb12
      obtain ⟨p30, cs31, hR32, hA33, ha34, hg38⟩ := OwnS.ixAtG hx29 hO15
      have hi35 := ix_some hx29
      obtain ⟨b36, rfl, hf37⟩ := hR32
      refine gd_q (v := .pointer (some p30)) (by kernel_rfl) (by kernel_rfl) (CC.refl (List.forall_mem_append.2 ⟨fun q hq => (List.mem_append_left _ hq), (fun p hp => by cases hp)⟩)) (fun I' L' T hC kk => gl_indexAddrF (c := c0) (T' := 43) (e := 37) (xs := (.tmp 24)) (xi := (.tmp 27)) (kd := .i64) ha34 hi35.1 hi35.2.1 (by kernel_rfl) (by kernel_rfl) (by kernel_rfl) (by kernel_rfl) (by kernel_rfl) kk) ?_
      refine gd_q (v := .float .f64 b36) (by kernel_rfl) (by kernel_rfl) (CC.refl (List.forall_mem_append.2 ⟨fun q hq => (List.mem_append_left _ hq), (fun p hp => by cases hp)⟩)) (fun I' L' T hC kk => gl_loadO (T' := 37) (xp := (.tmp 28)) (p := p30) (c := .float .f64 b36) (n := 1) (by kernel_rfl) (by kernel_rfl) (by kernel_rfl) (by kernel_rfl) (hA33 _ _ (fun q hq => hC.sub _ (List.mem_append_left _ hq))) kk) ?_
      refine gd_pure 4 [0, 1, 2, 3, 10, 16, 19, 20, 23, 29, 30, 33] (K' := [(0, .slice A0 s10.1.length c0), (1, .int .i64 a1), (2, .int .i64 a2), (3, .int .i64 a3), (10, .int .i64 s10.2), (16, .slice A0 s10.1.length c0), (19, .int .i64 (IntKind.wrap .i64 (a1 + s10.2))), (20, .slice A0 s10.1.length c0), (23, .int .i64 (IntKind.wrap .i64 (a2 + s10.2))), (29, .float .f64 b36), (30, .slice A0 s10.1.length c0), (33, .int .i64 (IntKind.wrap .i64 (a1 + s10.2)))]) (s' := [(18, true), (19, true), (20, false), (21, false), (22, false)]) (CC.refl (List.forall_mem_append.2 ⟨fun q hq => (List.mem_append_left _ hq), (fun p hp => by cases hp)⟩)) (by kernel_rfl) ?_
      obtain ⟨x39, hx40, hb12⟩ := bind_some hb12
      obtain ⟨p41, cs42, hR43, hA44, ha45, hg49⟩ := OwnS.ixAtG hx40 hO15
      have hi46 := ix_some hx40
      obtain ⟨b47, rfl, hf48⟩ := hR43
      refine gd_q (v := .pointer (some p41)) (by kernel_rfl) (by kernel_rfl) (CC.refl (List.forall_mem_append.2 ⟨fun q hq => (List.mem_append_left _ hq), (fun p hp => by cases hp)⟩)) (fun I' L' T hC kk => gl_indexAddrF (c := c0) (T' := 43) (e := 37) (xs := (.tmp 30)) (xi := (.tmp 33)) (kd := .i64) ha45 hi46.1 hi46.2.1 (by kernel_rfl) (by kernel_rfl) (by kernel_rfl) (by kernel_rfl) (by kernel_rfl) kk) ?_
      refine gd_q (v := .float .f64 b47) (by kernel_rfl) (by kernel_rfl) (CC.refl (List.forall_mem_append.2 ⟨fun q hq => (List.mem_append_left _ hq), (fun p hp => by cases hp)⟩)) (fun I' L' T hC kk => gl_loadO (T' := 37) (xp := (.tmp 34)) (p := p41) (c := .float .f64 b47) (n := 1) (by kernel_rfl) (by kernel_rfl) (by kernel_rfl) (by kernel_rfl) (hA44 _ _ (fun q hq => hC.sub _ (List.mem_append_left _ hq))) kk) ?_
      refine gd_one (by kernel_rfl) ?_
      obtain ⟨x50, hx51, hb12⟩ := bind_some hb12
      refine gl_indexAddrW (d := Kd.flt) (c := c0) (T' := 43) (e := 37) (xs := (.tmp 16)) (xi := (.tmp 19)) (kd := .i64) hx51 hO15 (Upd.selfC _ _) (by kernel_rfl) (by kernel_rfl) (by kernel_rfl) (by kernel_rfl) (by kernel_rfl) (fun p52 cs53 hR54 hA55 hp60 => ?_)
      obtain ⟨b58, rfl, hf59⟩ := hR54
      refine gl_toD (by kernel_rfl) ⟨(Imm.refl _), (List.forall_mem_append.2 ⟨fun q hq => (List.mem_append_left _ hq), (fun p hp => by cases hp)⟩)⟩ ?_
      refine gd_flip (by kernel_rfl) (by kernel_rfl) ?_
      have hl63 : s10.1.length = (lset s10.1 (IntKind.wrap .i64 (a1 + s10.2)) x28).length := by simp [lset]
      refine gl_storeE (d := Kd.flt) (T' := 37) (xp := (.tmp 36)) (xv := (.tmp 29)) (v := .float .f64 b36) (off := 0) (y := x28) (fun X => X ++ L) hx51 hO15 (fun X => (Upd.head _ X _)) hp60 (by kernel_rfl) (by kernel_rfl) (by kernel_rfl) (by kernel_rfl) (by kernel_rfl) (by kernel_rfl) (fun cs h => by obtain ⟨b', rfl, _⟩ := h; exact ⟨_, rfl, hf37⟩) (by kernel_rfl) (fun C61 hO62 => ?_)
      try rw [hl63]
      refine gl_toD (by kernel_rfl) ⟨(Imm.refl _), (fun p hp => by cases hp)⟩ ?_
      refine gd_one (by kernel_rfl) ?_
      obtain ⟨x64, hx65, hb12⟩ := bind_some hb12
      refine gl_indexAddrW (d := Kd.flt) (c := c0) (T' := 43) (e := 37) (xs := (.tmp 20)) (xi := (.tmp 23)) (kd := .i64) hx65 hO62 (Upd.selfC _ _) (by kernel_rfl) (by kernel_rfl) (by kernel_rfl) (by kernel_rfl) (by kernel_rfl) (fun p66 cs67 hR68 hA69 hp74 => ?_)
      obtain ⟨b72, rfl, hf73⟩ := hR68
      refine gl_toD (by kernel_rfl) ⟨(Imm.refl _), (fun p hp => by cases hp)⟩ ?_
      refine gd_done ?_
      have hl77 : (lset s10.1 (IntKind.wrap .i64 (a1 + s10.2)) x28).length = (lset (lset s10.1 (IntKind.wrap .i64 (a1 + s10.2)) x28) (IntKind.wrap .i64 (a2 + s10.2)) x39).length := by simp [lset]
      refine gl_storeE (d := Kd.flt) (T' := 37) (xp := (.tmp 37)) (xv := (.tmp 35)) (v := .float .f64 b47) (off := 0) (y := x39) (fun X => X ++ L) hx65 hO62 (fun X => (Upd.head _ X _)) hp74 (by kernel_rfl) (by kernel_rfl) (by kernel_rfl) (by kernel_rfl) (by kernel_rfl) (by kernel_rfl) (fun cs h => by obtain ⟨b', rfl, _⟩ := h; exact ⟨_, rfl, hf48⟩) (by kernel_rfl) (fun C75 hO76 => ?_)
      try rw [hl77]
      refine gl_atE (by kernel_rfl) ?_
      refine ge_block_normal ?_
      refine ge_seq ?_
      refine gk_region (by kernel_rfl) ?_
      refine gl_pure 3 [0, 1, 2, 3, 10] (K' := [(0, .slice A0 (lset (lset s10.1 (IntKind.wrap .i64 (a1 + s10.2)) x28) (IntKind.wrap .i64 (a2 + s10.2)) x39).length c0), (1, .int .i64 a1), (2, .int .i64 a2), (3, .int .i64 a3), (10, .int .i64 (IntKind.wrap .i64 (s10.2 + 1)))]) (by kernel_rfl) ?_
      refine gl_atE (by kernel_rfl) ?_
      obtain rfl := some_inj hb12
      exact ge_round fun t ht => ⟨C75, hO76, (Eq.trans (lset_length _ _ _) (Eq.trans (lset_length _ _ _) hL16)), hI13, rfl, ht.pick (l := [0, 1, 2, 3, 10]) (by kernel_rfl)⟩
    · have hb12 := cond_f hc27 hb12
      refine gk_exit (by kernel_rfl) ?_
      refine ge_seq_exit ?_
      obtain rfl := some_inj hb12
      refine ge_round_out (fun hrr => ?_) (by intro h; cases h)
      obtain rfl := hrr
      refine ge_block_hit (by kernel_rfl) ?_
      exact ge_mid fun t ht => ⟨C14, hO15, hL16, hI13, rfl, ht.pick (l := [0]) (by kernel_rfl)⟩
  · rintro t I24 L' ⟨C20, hO21, hL22, hI19, rfl, hK23⟩
    refine ge_at hK23 ?_
    obtain rfl := some_inj hr
    exact ge_result trivial ResOk.nil hI19 ⟨C20, hO21, hL22, rfl, rfl⟩
end Go.Proofs.YtkjkkimnjpodiaaGreatDoor
