import Derived.Test.YtlkmfhccpcncnaaDoorH7a
set_option linter.unusedVariables false
set_option linter.unusedSimpArgs false
set_option maxRecDepth 100000
namespace Go.Proofs.YtlkmfhccpcncnaaDoor
open Go.GB
/-! 118 tocsinref04_Name  -/
noncomputable def tocsinref04_Name_l24 (a0 : ByteArray) : Int → Option ((Int) ⊕ ((Unit) ⊕ (Bool))) := fun s14 =>
  bif (decide (s14 < (a0.size : Int))) then
  (Option.bind (Option.bind (bx a0 s14) fun (c32 : Int) =>
      bif (!(tocsinref04_letter c32)) then
      (bif (s14 == 0) then
        (some true)
        else
        (Option.bind (bx a0 s14) fun (c36 : Int) =>
          some (!(tocsinref04_digit c36))))
      else
      (some false)) fun (j27 : Bool) =>
    bif j27 then
    (some (Sum.inr (Sum.inr false)))
    else
    (some (Sum.inl (IntKind.wrap .i64 (s14 + 1)))))
  else
  (some (Sum.inr (Sum.inl ())))
noncomputable def tocsinref04_Name (a0 : ByteArray) : Option Bool :=
  bif ((a0.toList == (⟨#[]⟩ : ByteArray).toList) || (decide ((a0.size : Int) > 64))) then
  (some false)
  else
  (Option.bind (loopO (tocsinref04_Name_l24 a0) 0) fun (r12 : (Unit) ⊕ (Bool)) =>
    match r12 with
    | Sum.inl r20 => some true
    | Sum.inr v39 => some v39)
theorem tocsinref04_Name_walk {a0 : ByteArray} {I : Imm} {r : Bool}  (hr : tocsinref04_Name a0 = some r) (L : Own) :
    CallsTo Tryd.prog 118 #[.string a0] I L (fun v I' L' => v = .bool r ∧ L = L') := by
  unfold tocsinref04_Name at hr
  refine callsTo_body (N := 33) Tryd.func118 (by kernel_rfl) (by kernel_rfl) (by kernel_rfl) ?_
  refine gk_pick [0] (K' := [(0, .string a0)]) (by kernel_rfl) ?_
  refine gk_seq (by kernel_rfl) ?_
  refine gk_region (by kernel_rfl) ?_
  refine gl_pure 1 [0] (K' := [(0, .string a0)]) (by kernel_rfl) ?_
  refine gl_atE (by kernel_rfl) ?_
  refine ge_seq ?_
  refine gk_seq (by kernel_rfl) ?_
  refine gk_seq (by kernel_rfl) ?_
  obtain ⟨b3, hb4⟩ : ∃ z, z = ((a0.toList == (⟨#[]⟩ : ByteArray).toList) || (decide ((a0.size : Int) > 64))) := ⟨_, rfl⟩
  refine gk_join (fun t I' L' => I ≤ I' ∧ L = L' ∧ Knows 33 [(0, .string a0), (10, .bool b3)] t) ?_ ?_
  · refine gk_region (by kernel_rfl) ?_
    refine gl_pure 3 [0, 6] (K' := [(0, .string a0), (6, .bool (a0.toList == (⟨#[]⟩ : ByteArray).toList))]) (by kernel_rfl) ?_
    refine gl_case 6 (b := (a0.toList == (⟨#[]⟩ : ByteArray).toList)) (by kernel_rfl) (fun hc6 => ?_) (fun hc6 => ?_)
    · refine gl_pure 4 [0, 10] (K' := [(0, .string a0), (10, .bool true)]) (by kernel_rfl) ?_
      refine gl_atE (by kernel_rfl) ?_
      exact ge_mid fun t ht => ⟨(Imm.refl _), rfl, by rw [(show b3 = true from hb4.trans (by rw [hc6]; try rfl))]; exact ht.pick (l := [0, 10]) (by kernel_rfl)⟩
    · refine gl_pure 4 [0, 10] (K' := [(0, .string a0), (10, .bool (decide ((a0.size : Int) > 64)))]) (by kernel_rfl) ?_
      refine gl_atE (by kernel_rfl) ?_
      exact ge_mid fun t ht => ⟨(Imm.refl _), rfl, by rw [(show b3 = (decide ((a0.size : Int) > 64)) from hb4.trans (by rw [hc6]; try rfl))]; exact ht.pick (l := [0, 10]) (by kernel_rfl)⟩
  · rintro t I5 L' ⟨hI1, rfl, hK2⟩
    subst hb4
    refine ge_at hK2 ?_
    refine ge_seq ?_
    refine gk_cond (b := ((a0.toList == (⟨#[]⟩ : ByteArray).toList) || (decide ((a0.size : Int) > 64)))) (by kernel_rfl) (by kernel_rfl) (fun hc7 => ?_) (fun hc7 => ?_)
    · have hr := cond_t hc7 hr
      refine gk_seq (by kernel_rfl) ?_
      refine gk_region (by kernel_rfl) ?_
      refine gl_pure 1 [2] (K' := [(2, .bool false)]) (by kernel_rfl) ?_
      refine gl_atE (by kernel_rfl) ?_
      refine ge_seq ?_
      refine gk_ret (by kernel_rfl) ?_
      refine ge_seq_ret ?_
      obtain rfl := some_inj hr
      exact ge_result trivial (ResOk.tmp (by kernel_rfl) ResOk.nil) hI1 ⟨rfl, rfl⟩
    · have hr := cond_f hc7 hr
      refine gk_skip (by kernel_rfl) ?_
      refine ge_seq ?_
      refine gk_seq (by kernel_rfl) ?_
      refine gk_seq (by kernel_rfl) ?_
      refine gk_region (by kernel_rfl) ?_
      refine gl_pure 3 [0, 12, 13] (K' := [(0, .string a0), (12, .int .i64 (a0.size : Int)), (13, .int .i64 0)]) (by kernel_rfl) ?_
      refine gl_atE (by kernel_rfl) ?_
      refine ge_seq ?_
      obtain ⟨r12, hl13, hr⟩ := bind_some hr
      refine gk_join (fun t I' L' => ∃ r20, r12 = Sum.inl r20 ∧ I5 ≤ I' ∧ L = L' ∧ Knows 33 [] t) ?_ ?_
      · refine gk_block (by kernel_rfl) ?_
        refine gk_pick [0, 12, 13] (K' := [(0, .string a0), (12, .int .i64 (a0.size : Int)), (13, .int .i64 0)]) (by kernel_rfl) ?_
        intro t hK
        refine gc_loop (tocsinref04_Name_l24 a0) (fun s14 t I' L' => I5 ≤ I' ∧ L = L' ∧ Knows 33 [(0, .string a0), (12, .int .i64 (a0.size : Int)), (13, .int .i64 s14)] t) (by kernel_rfl) ?_ hl13 ⟨(Imm.refl _), rfl, hK⟩
        rintro s14 o15 t I19 L' hb16 ⟨hI17, rfl, hK18⟩
        unfold tocsinref04_Name_l24 at hb16
        refine gk_at hK18 ?_
        refine gk_seq (by kernel_rfl) ?_
        refine gk_region (by kernel_rfl) ?_
        refine gl_pure 1 [0, 12, 13, 14] (K' := [(0, .string a0), (12, .int .i64 (a0.size : Int)), (13, .int .i64 s14), (14, .bool (decide (s14 < (a0.size : Int))))]) (by kernel_rfl) ?_
        refine gl_atE (by kernel_rfl) ?_
        refine ge_seq ?_
        refine gk_seq (by kernel_rfl) ?_
        refine gk_cond (b := (decide (s14 < (a0.size : Int)))) (by kernel_rfl) (by kernel_rfl) (fun hc26 => ?_) (fun hc26 => ?_)
        · have hb16 := cond_t hc26 hb16
          refine gk_skip (by kernel_rfl) ?_
          refine ge_seq ?_
          refine gk_seq (by kernel_rfl) ?_
          refine gk_block (by kernel_rfl) ?_
          refine gk_seq (by kernel_rfl) ?_
          refine gk_region (by kernel_rfl) ?_
          refine gl_pure 2 [0, 3, 12, 13] (K' := [(0, .string a0), (3, .int .i64 s14), (12, .int .i64 (a0.size : Int)), (13, .int .i64 s14)]) (by kernel_rfl) ?_
          refine gl_atE (by kernel_rfl) ?_
          refine ge_seq ?_
          refine gk_seq (by kernel_rfl) ?_
          obtain ⟨j27, hj28, hb16⟩ := bind_some hb16
          refine gk_join (fun t I' L' => I19 ≤ I' ∧ L = L' ∧ Knows 33 [(0, .string a0), (12, .int .i64 (a0.size : Int)), (13, .int .i64 s14), (31, .bool j27)] t) ?_ ?_
          · refine gk_region (by kernel_rfl) ?_
            refine gl_pure 2 [0, 3, 12, 13, 16, 17] (K' := [(0, .string a0), (3, .int .i64 s14), (12, .int .i64 (a0.size : Int)), (13, .int .i64 s14), (16, .string a0), (17, .int .i64 s14)]) (by kernel_rfl) ?_
            obtain ⟨c32, hx33, hj28⟩ := bind_some hj28
            refine gl_index' (T' := 9) (xs := (.tmp 16)) (xi := (.tmp 17)) (kd := .i64) hx33 (by kernel_rfl) (by kernel_rfl) (by kernel_rfl) (by kernel_rfl) (by kernel_rfl) ?_
            refine gl_callQ (by kernel_rfl) (tocsinref04_letter_walk (r := (tocsinref04_letter c32))  rfl _) ?_
            refine gl_pure 2 [0, 3, 12, 13, 21] (K' := [(0, .string a0), (3, .int .i64 s14), (12, .int .i64 (a0.size : Int)), (13, .int .i64 s14), (21, .bool (!(tocsinref04_letter c32)))]) (by kernel_rfl) ?_
            refine gl_case 21 (b := (!(tocsinref04_letter c32))) (by kernel_rfl) (fun hc34 => ?_) (fun hc34 => ?_)
            · have hj28 := cond_t hc34 hj28
              refine gl_pure 3 [0, 3, 12, 13, 21, 24] (K' := [(0, .string a0), (3, .int .i64 s14), (12, .int .i64 (a0.size : Int)), (13, .int .i64 s14), (21, .bool true), (24, .bool (s14 == 0))]) (by kernel_rfl) ?_
              refine gl_case 24 (b := (s14 == 0)) (by kernel_rfl) (fun hc35 => ?_) (fun hc35 => ?_)
              · have hj28 := cond_t hc35 hj28
                refine gl_pure 7 [0, 12, 13, 31] (K' := [(0, .string a0), (12, .int .i64 (a0.size : Int)), (13, .int .i64 s14), (31, .bool true)]) (by kernel_rfl) ?_
                refine gl_atE (by kernel_rfl) ?_
                obtain rfl := some_inj hj28
                exact ge_mid fun t ht => ⟨(Imm.refl _), rfl, ht.pick (l := [0, 12, 13, 31]) (by kernel_rfl)⟩
              · have hj28 := cond_f hc35 hj28
                refine gl_pure 2 [0, 12, 13, 21, 24, 25, 26] (K' := [(0, .string a0), (12, .int .i64 (a0.size : Int)), (13, .int .i64 s14), (21, .bool true), (24, .bool false), (25, .string a0), (26, .int .i64 s14)]) (by kernel_rfl) ?_
                obtain ⟨c36, hx37, hj28⟩ := bind_some hj28
                refine gl_index' (T' := 9) (xs := (.tmp 25)) (xi := (.tmp 26)) (kd := .i64) hx37 (by kernel_rfl) (by kernel_rfl) (by kernel_rfl) (by kernel_rfl) (by kernel_rfl) ?_
                refine gl_callQ (by kernel_rfl) (tocsinref04_digit_walk (r := (tocsinref04_digit c36))  rfl _) ?_
                refine gl_pure 3 [0, 12, 13, 31] (K' := [(0, .string a0), (12, .int .i64 (a0.size : Int)), (13, .int .i64 s14), (31, .bool (!(tocsinref04_digit c36)))]) (by kernel_rfl) ?_
                refine gl_atE (by kernel_rfl) ?_
                obtain rfl := some_inj hj28
                exact ge_mid fun t ht => ⟨(Imm.refl _), rfl, ht.pick (l := [0, 12, 13, 31]) (by kernel_rfl)⟩
            · have hj28 := cond_f hc34 hj28
              refine gl_pure 10 [0, 12, 13, 31] (K' := [(0, .string a0), (12, .int .i64 (a0.size : Int)), (13, .int .i64 s14), (31, .bool false)]) (by kernel_rfl) ?_
              refine gl_atE (by kernel_rfl) ?_
              obtain rfl := some_inj hj28
              exact ge_mid fun t ht => ⟨(Imm.refl _), rfl, ht.pick (l := [0, 12, 13, 31]) (by kernel_rfl)⟩
          · rintro t I31 L' ⟨hI29, rfl, hK30⟩
            refine ge_at hK30 ?_
            refine ge_seq ?_
            refine gk_cond (b := j27) (by kernel_rfl) (by kernel_rfl) (fun hc38 => ?_) (fun hc38 => ?_)
            · have hb16 := cond_t hc38 hb16
              refine gk_seq (by kernel_rfl) ?_
              refine gk_region (by kernel_rfl) ?_
              refine gl_pure 1 [2] (K' := [(2, .bool false)]) (by kernel_rfl) ?_
              refine gl_atE (by kernel_rfl) ?_
              refine ge_seq ?_
              refine gk_ret (by kernel_rfl) ?_
              refine ge_block_ret ?_
              refine ge_seq_ret ?_
              obtain rfl := some_inj hb16
              refine ge_round_out (fun hrr => ?_) (by intro h; cases h)
              obtain rfl := hrr
              refine ge_block_ret ?_
              refine ge_seq_ret ?_
              refine ge_seq_ret ?_
              obtain rfl := some_inj hr
              exact ge_result trivial (ResOk.tmp (by kernel_rfl) ResOk.nil) (Imm.trans (Imm.trans hI1 hI17) hI29) ⟨rfl, rfl⟩
            · have hb16 := cond_f hc38 hb16
              refine gk_skip (by kernel_rfl) ?_
              refine ge_block_normal ?_
              refine ge_seq ?_
              refine gk_region (by kernel_rfl) ?_
              refine gl_pure 2 [0, 12, 13] (K' := [(0, .string a0), (12, .int .i64 (a0.size : Int)), (13, .int .i64 (IntKind.wrap .i64 (s14 + 1)))]) (by kernel_rfl) ?_
              refine gl_atE (by kernel_rfl) ?_
              obtain rfl := some_inj hb16
              exact ge_round fun t ht => ⟨(Imm.trans hI17 hI29), rfl, ht.pick (l := [0, 12, 13]) (by kernel_rfl)⟩
        · have hb16 := cond_f hc26 hb16
          refine gk_exit (by kernel_rfl) ?_
          refine ge_seq_exit ?_
          obtain rfl := some_inj hb16
          refine ge_round_out (fun hrr => ?_) (by intro h; cases h)
          obtain rfl := hrr
          refine ge_block_hit (by kernel_rfl) ?_
          exact ge_mid fun t ht => ⟨_, rfl, hI17, rfl, ht.pick (l := []) (by kernel_rfl)⟩
      · rintro t I23 L' ⟨r20, rfl, hI21, rfl, hK22⟩
        refine ge_at hK22 ?_
        refine ge_seq ?_
        refine gk_seq (by kernel_rfl) ?_
        refine gk_region (by kernel_rfl) ?_
        refine gl_pure 1 [2] (K' := [(2, .bool true)]) (by kernel_rfl) ?_
        refine gl_atE (by kernel_rfl) ?_
        refine ge_seq ?_
        refine gk_ret (by kernel_rfl) ?_
        obtain rfl := some_inj hr
        exact ge_result trivial (ResOk.tmp (by kernel_rfl) ResOk.nil) (Imm.trans hI1 hI21) ⟨rfl, rfl⟩
/-! 87 tocsinref04_one  -/
noncomputable def tocsinref04_one (a0 : S79) : Option Int :=
  Option.bind (tocsinref04_Name a0.f0) fun (y2 : Bool) =>
  bif (!y2) then
  (some 40)
  else
  (bif (a0.f1.toList == (⟨#[]⟩ : ByteArray).toList) then
    (some 41)
    else
    (bif (decide ((a0.f1.size : Int) > 256)) then
      (some 4)
      else
      (Option.bind (tocsinref01_Utf8 a0.f1) fun (y7 : Bool) =>
        bif (!y7) then
        (some 12)
        else
        (some 0))))
theorem tocsinref04_one_walk {a0 : S79} {I : Imm} {r : Int}  (hr : tocsinref04_one a0 = some r) (L : Own) :
    CallsTo Tryd.prog 87 #[.agg #[.string a0.f0, .string a0.f1]] I L (fun v I' L' => v = .int .i64 r ∧ L = L') := by
  unfold tocsinref04_one at hr
  refine callsTo_body (N := 22) Tryd.func87 (by kernel_rfl) (by kernel_rfl) (by kernel_rfl) ?_
  refine gk_pick [0] (K' := [(0, .agg #[.string a0.f0, .string a0.f1])]) (by kernel_rfl) ?_
  refine gk_seq (by kernel_rfl) ?_
  refine gk_region (by kernel_rfl) ?_
  refine gl_box (T' := 80) (x := (.tmp 0)) (v := .agg #[.string a0.f0, .string a0.f1]) (cs := #[.string a0.f0, .string a0.f1]) (by kernel_rfl) (by kernel_rfl) (by kernel_rfl) (by kernel_rfl) (fun g1 => ?_)
  refine gl_pure 1 [1] (K' := [(1, .pointer (some ⟨g1, 0, none⟩))]) (by kernel_rfl) ?_
  refine gl_atE (by kernel_rfl) ?_
  refine ge_seq ?_
  refine gk_seq (by kernel_rfl) ?_
  refine gk_block (by kernel_rfl) ?_
  refine gk_seq (by kernel_rfl) ?_
  refine gk_region (by kernel_rfl) ?_
  refine gl_pure 1 [1, 4] (K' := [(1, .pointer (some ⟨g1, 0, none⟩)), (4, .pointer (some ⟨g1, 0, none⟩))]) (by kernel_rfl) ?_
  refine gl_loadB (T' := 9) (xp := (.tmp 4)) (v := .string a0.f0) (g := g1) (off := 0) (cs := #[.string a0.f0, .string a0.f1]) (e := 80) (fz := (0, 0)) (by kernel_rfl) (by kernel_rfl) (by kernel_rfl) List.mem_cons_self (by kernel_rfl) ?_
  obtain ⟨y2, hx3, hr⟩ := bind_some hr
  refine gl_callQ (by kernel_rfl) (tocsinref04_Name_walk (r := y2)  hx3 _) ?_
  refine gl_pure 2 [1, 3] (K' := [(1, .pointer (some ⟨g1, 0, none⟩)), (3, .bool (!y2))]) (by kernel_rfl) ?_
  refine gl_atE (by kernel_rfl) ?_
  refine ge_seq ?_
  refine gk_cond (b := (!y2)) (by kernel_rfl) (by kernel_rfl) (fun hc4 => ?_) (fun hc4 => ?_)
  · have hr := cond_t hc4 hr
    refine gk_seq (by kernel_rfl) ?_
    refine gk_region (by kernel_rfl) ?_
    refine gl_pure 1 [2] (K' := [(2, .int .i64 40)]) (by kernel_rfl) ?_
    refine gl_atE (by kernel_rfl) ?_
    refine ge_seq ?_
    refine gk_reord (D := L) (Reord.skip (Reord.refl _)) ?_
    refine gk_ret (by kernel_rfl) ?_
    refine ge_block_ret ?_
    refine ge_seq_ret ?_
    obtain rfl := some_inj hr
    exact ge_result trivial (ResOk.tmp (by kernel_rfl) ResOk.nil) (Imm.refl _) ⟨rfl, rfl⟩
  · have hr := cond_f hc4 hr
    refine gk_seq (by kernel_rfl) ?_
    refine gk_region (by kernel_rfl) ?_
    refine gl_pure 1 [1, 9] (K' := [(1, .pointer (some ⟨g1, 0, none⟩)), (9, .pointer (some ⟨g1, 1, none⟩))]) (by kernel_rfl) ?_
    refine gl_loadB (T' := 9) (xp := (.tmp 9)) (v := .string a0.f1) (g := g1) (off := 1) (cs := #[.string a0.f0, .string a0.f1]) (e := 80) (fz := (0, 0)) (by kernel_rfl) (by kernel_rfl) (by kernel_rfl) List.mem_cons_self (by kernel_rfl) ?_
    refine gl_pure 2 [1, 8] (K' := [(1, .pointer (some ⟨g1, 0, none⟩)), (8, .bool (a0.f1.toList == (⟨#[]⟩ : ByteArray).toList))]) (by kernel_rfl) ?_
    refine gl_atE (by kernel_rfl) ?_
    refine ge_seq ?_
    refine gk_cond (b := (a0.f1.toList == (⟨#[]⟩ : ByteArray).toList)) (by kernel_rfl) (by kernel_rfl) (fun hc5 => ?_) (fun hc5 => ?_)
    · have hr := cond_t hc5 hr
      refine gk_seq (by kernel_rfl) ?_
      refine gk_region (by kernel_rfl) ?_
      refine gl_pure 1 [2] (K' := [(2, .int .i64 41)]) (by kernel_rfl) ?_
      refine gl_atE (by kernel_rfl) ?_
      refine ge_seq ?_
      refine gk_reord (D := L) (Reord.skip (Reord.refl _)) ?_
      refine gk_ret (by kernel_rfl) ?_
      refine ge_block_ret ?_
      refine ge_seq_ret ?_
      obtain rfl := some_inj hr
      exact ge_result trivial (ResOk.tmp (by kernel_rfl) ResOk.nil) (Imm.refl _) ⟨rfl, rfl⟩
    · have hr := cond_f hc5 hr
      refine gk_seq (by kernel_rfl) ?_
      refine gk_region (by kernel_rfl) ?_
      refine gl_pure 1 [1, 13] (K' := [(1, .pointer (some ⟨g1, 0, none⟩)), (13, .pointer (some ⟨g1, 1, none⟩))]) (by kernel_rfl) ?_
      refine gl_loadB (T' := 9) (xp := (.tmp 13)) (v := .string a0.f1) (g := g1) (off := 1) (cs := #[.string a0.f0, .string a0.f1]) (e := 80) (fz := (0, 0)) (by kernel_rfl) (by kernel_rfl) (by kernel_rfl) List.mem_cons_self (by kernel_rfl) ?_
      refine gl_pure 3 [1, 12] (K' := [(1, .pointer (some ⟨g1, 0, none⟩)), (12, .bool (decide ((a0.f1.size : Int) > 256)))]) (by kernel_rfl) ?_
      refine gl_atE (by kernel_rfl) ?_
      refine ge_seq ?_
      refine gk_cond (b := (decide ((a0.f1.size : Int) > 256))) (by kernel_rfl) (by kernel_rfl) (fun hc6 => ?_) (fun hc6 => ?_)
      · have hr := cond_t hc6 hr
        refine gk_seq (by kernel_rfl) ?_
        refine gk_region (by kernel_rfl) ?_
        refine gl_pure 1 [2] (K' := [(2, .int .i64 4)]) (by kernel_rfl) ?_
        refine gl_atE (by kernel_rfl) ?_
        refine ge_seq ?_
        refine gk_reord (D := L) (Reord.skip (Reord.refl _)) ?_
        refine gk_ret (by kernel_rfl) ?_
        refine ge_block_ret ?_
        refine ge_seq_ret ?_
        obtain rfl := some_inj hr
        exact ge_result trivial (ResOk.tmp (by kernel_rfl) ResOk.nil) (Imm.refl _) ⟨rfl, rfl⟩
      · have hr := cond_f hc6 hr
        refine gk_seq (by kernel_rfl) ?_
        refine gk_region (by kernel_rfl) ?_
        refine gl_pure 1 [18] (K' := [(18, .pointer (some ⟨g1, 1, none⟩))]) (by kernel_rfl) ?_
        refine gl_loadB (T' := 9) (xp := (.tmp 18)) (v := .string a0.f1) (g := g1) (off := 1) (cs := #[.string a0.f0, .string a0.f1]) (e := 80) (fz := (0, 0)) (by kernel_rfl) (by kernel_rfl) (by kernel_rfl) List.mem_cons_self (by kernel_rfl) ?_
        obtain ⟨y7, hx8, hr⟩ := bind_some hr
        refine gl_callQ (by kernel_rfl) (tocsinref01_Utf8_walk (r := y7)  hx8 _) ?_
        refine gl_pure 2 [17] (K' := [(17, .bool (!y7))]) (by kernel_rfl) ?_
        refine gl_atE (by kernel_rfl) ?_
        refine ge_seq ?_
        refine gk_cond (b := (!y7)) (by kernel_rfl) (by kernel_rfl) (fun hc9 => ?_) (fun hc9 => ?_)
        · have hr := cond_t hc9 hr
          refine gk_seq (by kernel_rfl) ?_
          refine gk_region (by kernel_rfl) ?_
          refine gl_pure 1 [2] (K' := [(2, .int .i64 12)]) (by kernel_rfl) ?_
          refine gl_atE (by kernel_rfl) ?_
          refine ge_seq ?_
          refine gk_reord (D := L) (Reord.skip (Reord.refl _)) ?_
          refine gk_ret (by kernel_rfl) ?_
          refine ge_block_ret ?_
          refine ge_seq_ret ?_
          obtain rfl := some_inj hr
          exact ge_result trivial (ResOk.tmp (by kernel_rfl) ResOk.nil) (Imm.refl _) ⟨rfl, rfl⟩
        · have hr := cond_f hc9 hr
          refine gk_skip (by kernel_rfl) ?_
          refine ge_block_normal ?_
          refine ge_seq ?_
          refine gk_seq (by kernel_rfl) ?_
          refine gk_region (by kernel_rfl) ?_
          refine gl_pure 1 [2] (K' := [(2, .int .i64 0)]) (by kernel_rfl) ?_
          refine gl_atE (by kernel_rfl) ?_
          refine ge_seq ?_
          refine gk_reord (D := L) (Reord.skip (Reord.refl _)) ?_
          refine gk_ret (by kernel_rfl) ?_
          obtain rfl := some_inj hr
          exact ge_result trivial (ResOk.tmp (by kernel_rfl) ResOk.nil) (Imm.refl _) ⟨rfl, rfl⟩
/-! 43 tocsinref04_Right  -/
noncomputable def tocsinref04_Right_l18 (a0 : List S79) : Int → Option ((Int) ⊕ ((Unit) ⊕ (Int × Int))) := fun s8 =>
  bif (decide (s8 < (a0.length : Int))) then
  (Option.bind (ix a0 s8) fun (x21 : S79) =>
    Option.bind (tocsinref04_one x21) fun (y30 : Int) =>
    bif (y30 != 0) then
    (some (Sum.inr (Sum.inr (y30, s8))))
    else
    (Option.bind (bif (decide (s8 > 0)) then
        (Option.bind (ix a0 (IntKind.wrap .i64 (s8 - 1))) fun (x39 : S79) =>
          some (!(Op.bytesLess x39.f0.toList x21.f0.toList)))
        else
        (some false)) fun (j33 : Bool) =>
      bif j33 then
      (some (Sum.inr (Sum.inr (3, s8))))
      else
      (some (Sum.inl (IntKind.wrap .i64 (s8 + 1))))))
  else
  (some (Sum.inr (Sum.inl ())))
noncomputable def tocsinref04_Right (a0 : List S79) : Option (Int × Int) :=
  bif (decide ((a0.length : Int) > 16)) then
  (some (8, 0))
  else
  (Option.bind (loopO (tocsinref04_Right_l18 a0) 0) fun (r6 : (Unit) ⊕ (Int × Int)) =>
    match r6 with
    | Sum.inl r14 => some (0, 0)
    | Sum.inr v48 => some v48)
theorem tocsinref04_Right_walk {a0 : List S79} {A0_0 : Option Addr} {n0_0 : Nat} {I : Imm} {r : Int × Int}  (hf0_0 : RepS kS79 I A0_0 n0_0 a0) (hr : tocsinref04_Right a0 = some r) (L : Own) :
    CallsTo Tryd.prog 43 #[.slice A0_0 a0.length n0_0] I L (fun v I' L' => v = .tuple #[.int .i64 r.1, .int .i64 r.2] ∧ L = L') := by
  unfold tocsinref04_Right at hr
  refine callsTo_body (N := 38) Tryd.func43 (by kernel_rfl) (by kernel_rfl) (by kernel_rfl) ?_
  refine gk_pick [0] (K' := [(0, .slice A0_0 a0.length n0_0)]) (by kernel_rfl) ?_
  refine gk_seq (by kernel_rfl) ?_
  refine gk_region (by kernel_rfl) ?_
  refine gl_pure 2 [0] (K' := [(0, .slice A0_0 a0.length n0_0)]) (by kernel_rfl) ?_
  refine gl_atE (by kernel_rfl) ?_
  refine ge_seq ?_
  refine gk_seq (by kernel_rfl) ?_
  refine gk_seq (by kernel_rfl) ?_
  refine gk_region (by kernel_rfl) ?_
  refine gl_pure 3 [0, 9] (K' := [(0, .slice A0_0 a0.length n0_0), (9, .bool (decide ((a0.length : Int) > 16)))]) (by kernel_rfl) ?_
  refine gl_atE (by kernel_rfl) ?_
  refine ge_seq ?_
  refine gk_cond (b := (decide ((a0.length : Int) > 16))) (by kernel_rfl) (by kernel_rfl) (fun hc1 => ?_) (fun hc1 => ?_)
  · have hr := cond_t hc1 hr
    refine gk_seq (by kernel_rfl) ?_
    refine gk_region (by kernel_rfl) ?_
    refine gl_pure 2 [2, 3] (K' := [(2, .int .i64 8), (3, .int .i64 0)]) (by kernel_rfl) ?_
    refine gl_atE (by kernel_rfl) ?_
    refine ge_seq ?_
    refine gk_ret (by kernel_rfl) ?_
    refine ge_seq_ret ?_
    obtain rfl := some_inj hr
    exact ge_result trivial (ResOk.tmp (by kernel_rfl) (ResOk.tmp (by kernel_rfl) ResOk.nil)) (Imm.refl _) ⟨rfl, rfl⟩
  · have hr := cond_f hc1 hr
    refine gk_skip (by kernel_rfl) ?_
    refine ge_seq ?_
    refine gk_seq (by kernel_rfl) ?_
    refine gk_seq (by kernel_rfl) ?_
    refine gk_region (by kernel_rfl) ?_
    refine gl_pure 3 [0, 10, 11, 12] (K' := [(0, .slice A0_0 a0.length n0_0), (10, .slice A0_0 a0.length n0_0), (11, .int .i64 (a0.length : Int)), (12, .int .i64 0)]) (by kernel_rfl) ?_
    refine gl_atE (by kernel_rfl) ?_
    refine ge_seq ?_
    obtain ⟨r6, hl7, hr⟩ := bind_some hr
    refine gk_join (fun t I' L' => ∃ r14, r6 = Sum.inl r14 ∧ I ≤ I' ∧ L = L' ∧ Knows 38 [] t) ?_ ?_
    · refine gk_block (by kernel_rfl) ?_
      refine gk_pick [0, 10, 11, 12] (K' := [(0, .slice A0_0 a0.length n0_0), (10, .slice A0_0 a0.length n0_0), (11, .int .i64 (a0.length : Int)), (12, .int .i64 0)]) (by kernel_rfl) ?_
      intro t hK
      refine gc_loop (tocsinref04_Right_l18 a0) (fun s8 t I' L' => I ≤ I' ∧ L = L' ∧ Knows 38 [(0, .slice A0_0 a0.length n0_0), (10, .slice A0_0 a0.length n0_0), (11, .int .i64 (a0.length : Int)), (12, .int .i64 s8)] t) (by kernel_rfl) ?_ hl7 ⟨(Imm.refl _), rfl, hK⟩
      rintro s8 o9 t I13 L' hb10 ⟨hI11, rfl, hK12⟩
      unfold tocsinref04_Right_l18 at hb10
      refine gk_at hK12 ?_
      refine gk_seq (by kernel_rfl) ?_
      refine gk_region (by kernel_rfl) ?_
      refine gl_pure 1 [0, 10, 11, 12, 13] (K' := [(0, .slice A0_0 a0.length n0_0), (10, .slice A0_0 a0.length n0_0), (11, .int .i64 (a0.length : Int)), (12, .int .i64 s8), (13, .bool (decide (s8 < (a0.length : Int))))]) (by kernel_rfl) ?_
      refine gl_atE (by kernel_rfl) ?_
      refine ge_seq ?_
      refine gk_seq (by kernel_rfl) ?_
      refine gk_cond (b := (decide (s8 < (a0.length : Int)))) (by kernel_rfl) (by kernel_rfl) (fun hc20 => ?_) (fun hc20 => ?_)
      · have hb10 := cond_t hc20 hb10
        refine gk_skip (by kernel_rfl) ?_
        refine ge_seq ?_
        refine gk_seq (by kernel_rfl) ?_
        refine gk_block (by kernel_rfl) ?_
        refine gk_seq (by kernel_rfl) ?_
        refine gk_region (by kernel_rfl) ?_
        refine gl_pure 1 [0, 10, 11, 12, 14] (K' := [(0, .slice A0_0 a0.length n0_0), (10, .slice A0_0 a0.length n0_0), (11, .int .i64 (a0.length : Int)), (12, .int .i64 s8), (14, .int .i64 s8)]) (by kernel_rfl) ?_
        obtain ⟨x21, hx22, hb10⟩ := bind_some hb10
        obtain ⟨p23, cs24, hR25, hA26, ha27⟩ := RepS.ixAt hx22 (hf0_0.mono hI11)
        have hi28 := ix_some hx22
        obtain rfl := kS79_open hR25
        refine gl_indexAddrF (c := n0_0) (T' := 36) (e := 80) (xs := (.tmp 10)) (xi := (.tmp 12)) (kd := .i64) ha27 hi28.1 hi28.2.1 (by kernel_rfl) (by kernel_rfl) (by kernel_rfl) (by kernel_rfl) (by kernel_rfl) ?_
        refine gl_loadA (T' := 80) (xp := (.tmp 15)) (p := p23) (cs := [.string x21.f0, .string x21.f1]) (by kernel_rfl) (by kernel_rfl) (by kernel_rfl) (by kernel_rfl) (hA26.take 2) ?_
        refine gl_alloc (T' := 80) (cs := #[.string (⟨#[]⟩ : ByteArray), .string (⟨#[]⟩ : ByteArray)]) (by kernel_rfl) (by kernel_rfl) (by kernel_rfl) (fun g29 => ?_)
        refine gl_pure 1 [0, 4, 5, 10, 11, 12, 16] (K' := [(0, .slice A0_0 a0.length n0_0), (4, .int .i64 s8), (5, .pointer (some ⟨g29, 0, none⟩)), (10, .slice A0_0 a0.length n0_0), (11, .int .i64 (a0.length : Int)), (12, .int .i64 s8), (16, .agg #[.string x21.f0, .string x21.f1])]) (by kernel_rfl) ?_
        refine gl_storeB (T' := 80) (xp := (.tmp 5)) (xv := (.tmp 16)) (v := .agg #[.string x21.f0, .string x21.f1]) (g := g29) (off := 0) (cs := #[.string (⟨#[]⟩ : ByteArray), .string (⟨#[]⟩ : ByteArray)]) (cs' := #[.string x21.f0, .string x21.f1]) (by kernel_rfl) (by kernel_rfl) (by kernel_rfl) (by kernel_rfl) (by kernel_rfl) (Upd.set _ _ _ _) ?_ (by kernel_rfl)
        refine gl_atE (by kernel_rfl) ?_
        refine ge_seq ?_
        refine gk_seq (by kernel_rfl) ?_
        refine gk_seq (by kernel_rfl) ?_
        refine gk_region (by kernel_rfl) ?_
        refine gl_loadB (T' := 80) (xp := (.tmp 5)) (v := .agg #[.string x21.f0, .string x21.f1]) (g := g29) (off := 0) (cs := #[.string x21.f0, .string x21.f1]) (e := 80) (fz := (0, 0)) (by kernel_rfl) (by kernel_rfl) (by kernel_rfl) List.mem_cons_self (by kernel_rfl) ?_
        obtain ⟨y30, hx31, hb10⟩ := bind_some hb10
        refine gl_callQ (by kernel_rfl) (tocsinref04_one_walk (r := y30)  hx31 _) ?_
        refine gl_pure 1 [0, 4, 5, 6, 10, 11, 12] (K' := [(0, .slice A0_0 a0.length n0_0), (4, .int .i64 s8), (5, .pointer (some ⟨g29, 0, none⟩)), (6, .int .i64 y30), (10, .slice A0_0 a0.length n0_0), (11, .int .i64 (a0.length : Int)), (12, .int .i64 s8)]) (by kernel_rfl) ?_
        refine gl_atE (by kernel_rfl) ?_
        refine ge_seq ?_
        refine gk_seq (by kernel_rfl) ?_
        refine gk_region (by kernel_rfl) ?_
        refine gl_pure 2 [0, 4, 5, 6, 10, 11, 12, 20] (K' := [(0, .slice A0_0 a0.length n0_0), (4, .int .i64 s8), (5, .pointer (some ⟨g29, 0, none⟩)), (6, .int .i64 y30), (10, .slice A0_0 a0.length n0_0), (11, .int .i64 (a0.length : Int)), (12, .int .i64 s8), (20, .bool (y30 != 0))]) (by kernel_rfl) ?_
        refine gl_atE (by kernel_rfl) ?_
        refine ge_seq ?_
        refine gk_cond (b := (y30 != 0)) (by kernel_rfl) (by kernel_rfl) (fun hc32 => ?_) (fun hc32 => ?_)
        · have hb10 := cond_t hc32 hb10
          refine gk_seq (by kernel_rfl) ?_
          refine gk_region (by kernel_rfl) ?_
          refine gl_pure 4 [2, 3] (K' := [(2, .int .i64 y30), (3, .int .i64 s8)]) (by kernel_rfl) ?_
          refine gl_atE (by kernel_rfl) ?_
          refine ge_seq ?_
          refine gk_reord (D := L) (Reord.skip (Reord.refl _)) ?_
          refine gk_ret (by kernel_rfl) ?_
          refine ge_seq_ret ?_
          refine ge_block_ret ?_
          refine ge_seq_ret ?_
          obtain rfl := some_inj hb10
          refine ge_round_out (fun hrr => ?_) (by intro h; cases h)
          obtain rfl := hrr
          refine ge_block_ret ?_
          refine ge_seq_ret ?_
          refine ge_seq_ret ?_
          obtain rfl := some_inj hr
          exact ge_result trivial (ResOk.tmp (by kernel_rfl) (ResOk.tmp (by kernel_rfl) ResOk.nil)) hI11 ⟨rfl, rfl⟩
        · have hb10 := cond_f hc32 hb10
          refine gk_skip (by kernel_rfl) ?_
          refine ge_seq ?_
          refine gk_seq (by kernel_rfl) ?_
          obtain ⟨j33, hj34, hb10⟩ := bind_some hb10
          refine gk_join (fun t I' L' => I13 ≤ I' ∧ L = L' ∧ Knows 38 [(0, .slice A0_0 a0.length n0_0), (4, .int .i64 s8), (10, .slice A0_0 a0.length n0_0), (11, .int .i64 (a0.length : Int)), (12, .int .i64 s8), (35, .bool j33)] t) ?_ ?_
          · refine gk_draw 13 [(0, true), (1, true), (2, true), (3, true), (4, true), (5, true), (6, true), (7, true), (8, true), (9, true), (10, true), (11, true), (12, true)] [(g29, .cells #[.string x21.f0, .string x21.f1] 80)] (List.forall_mem_cons.2 ⟨List.mem_cons_self, (fun p hp => by cases hp)⟩) (by kernel_rfl) (by kernel_rfl) (by kernel_rfl) ?_ (by kernel_rfl)
            refine gd_pure 3 [0, 4, 5, 10, 11, 12, 25] (K' := [(0, .slice A0_0 a0.length n0_0), (4, .int .i64 s8), (5, .pointer (some ⟨g29, 0, none⟩)), (10, .slice A0_0 a0.length n0_0), (11, .int .i64 (a0.length : Int)), (12, .int .i64 s8), (25, .bool (decide (s8 > 0)))]) (s' := [(3, true), (4, true), (5, true), (6, true), (7, true), (8, true), (9, true), (10, true), (11, true), (12, true)]) (CC.refl (List.forall_mem_cons.2 ⟨List.mem_cons_self, (fun p hp => by cases hp)⟩)) (by kernel_rfl) ?_
            refine gd_case 25 (b := (decide (s8 > 0))) (by kernel_rfl) (fun hc38 => ?_) (fun hc38 => ?_)
            · have hj34 := cond_t hc38 hj34
              refine gd_pure 3 [0, 4, 5, 10, 11, 12, 25, 26, 28] (K' := [(0, .slice A0_0 a0.length n0_0), (4, .int .i64 s8), (5, .pointer (some ⟨g29, 0, none⟩)), (10, .slice A0_0 a0.length n0_0), (11, .int .i64 (a0.length : Int)), (12, .int .i64 s8), (25, .bool true), (26, .slice A0_0 a0.length n0_0), (28, .int .i64 (IntKind.wrap .i64 (s8 - 1)))]) (s' := [(6, true), (7, true), (8, true), (9, true), (10, true), (11, true), (12, true)]) (CC.refl (List.forall_mem_cons.2 ⟨List.mem_cons_self, (fun p hp => by cases hp)⟩)) (by kernel_rfl) ?_
              obtain ⟨x39, hx40, hj34⟩ := bind_some hj34
              obtain ⟨p41, cs42, hR43, hA44, ha45⟩ := RepS.ixAt hx40 (hf0_0.mono hI11)
              have hi46 := ix_some hx40
              obtain rfl := kS79_open hR43
              refine gd_q (v := .pointer (some p41)) (by kernel_rfl) (by kernel_rfl) (CC.refl (List.forall_mem_cons.2 ⟨List.mem_cons_self, (fun p hp => by cases hp)⟩)) (fun I' L' T hC kk => gl_indexAddrF (c := n0_0) (T' := 36) (e := 80) (xs := (.tmp 26)) (xi := (.tmp 28)) (kd := .i64) ha45 hi46.1 hi46.2.1 (by kernel_rfl) (by kernel_rfl) (by kernel_rfl) (by kernel_rfl) (by kernel_rfl) kk) ?_
              refine gd_pure 1 [0, 4, 5, 10, 11, 12, 25, 30] (K' := [(0, .slice A0_0 a0.length n0_0), (4, .int .i64 s8), (5, .pointer (some ⟨g29, 0, none⟩)), (10, .slice A0_0 a0.length n0_0), (11, .int .i64 (a0.length : Int)), (12, .int .i64 s8), (25, .bool true), (30, .pointer (some (p41.add 0)))]) (s' := [(8, true), (9, true), (10, true), (11, true), (12, true)]) (CC.refl (List.forall_mem_cons.2 ⟨List.mem_cons_self, (fun p hp => by cases hp)⟩)) (by kernel_rfl) ?_
              refine gd_q (v := .string x39.f0) (by kernel_rfl) (by kernel_rfl) (CC.refl (List.forall_mem_cons.2 ⟨List.mem_cons_self, (fun p hp => by cases hp)⟩)) (fun I' L' T hC kk => gl_load (T' := 9) (xp := (.tmp 30)) (p := (p41.add 0)) (c := .string x39.f0) (n := 1) (by kernel_rfl) (by kernel_rfl) (by kernel_rfl) (by kernel_rfl) ((hA44.drop 0).mono hC.le) kk) ?_
              refine gd_pure 1 [0, 4, 10, 11, 12, 25, 31, 32] (K' := [(0, .slice A0_0 a0.length n0_0), (4, .int .i64 s8), (10, .slice A0_0 a0.length n0_0), (11, .int .i64 (a0.length : Int)), (12, .int .i64 s8), (25, .bool true), (31, .string x39.f0), (32, .pointer (some ⟨g29, 0, none⟩))]) (s' := [(10, true), (11, true), (12, true)]) (CC.refl (List.forall_mem_cons.2 ⟨List.mem_cons_self, (fun p hp => by cases hp)⟩)) (by kernel_rfl) ?_
              refine gd_q (v := .string x21.f0) (by kernel_rfl) (by kernel_rfl) (CC.refl (List.forall_mem_cons.2 ⟨List.mem_cons_self, (fun p hp => by cases hp)⟩)) (fun I' L' T hC kk => gl_loadB (T' := 9) (xp := (.tmp 32)) (v := .string x21.f0) (g := g29) (off := 0) (cs := #[.string x21.f0, .string x21.f1]) (e := 80) (fz := (0, 0)) (by kernel_rfl) (by kernel_rfl) (by kernel_rfl) (hC.sub _ List.mem_cons_self) (by kernel_rfl) kk) ?_
              refine gd_pure 2 [0, 4, 10, 11, 12, 35] (K' := [(0, .slice A0_0 a0.length n0_0), (4, .int .i64 s8), (10, .slice A0_0 a0.length n0_0), (11, .int .i64 (a0.length : Int)), (12, .int .i64 s8), (35, .bool (!(Op.bytesLess x39.f0.toList x21.f0.toList)))]) (s' := []) (CC.refl (List.forall_mem_cons.2 ⟨List.mem_cons_self, (fun p hp => by cases hp)⟩)) (by kernel_rfl) ?_
              refine gd_done ?_
              refine gl_reord (D := L) (Reord.skip (Reord.refl _)) ?_
              refine gl_atE (by kernel_rfl) ?_
              obtain rfl := some_inj hj34
              exact ge_mid fun t ht => ⟨(Imm.refl _), rfl, ht.pick (l := [0, 4, 10, 11, 12, 35]) (by kernel_rfl)⟩
            · have hj34 := cond_f hc38 hj34
              refine gd_pure 10 [0, 4, 10, 11, 12, 35] (K' := [(0, .slice A0_0 a0.length n0_0), (4, .int .i64 s8), (10, .slice A0_0 a0.length n0_0), (11, .int .i64 (a0.length : Int)), (12, .int .i64 s8), (35, .bool false)]) (s' := []) (CC.refl (List.forall_mem_cons.2 ⟨List.mem_cons_self, (fun p hp => by cases hp)⟩)) (by kernel_rfl) ?_
              refine gd_done ?_
              refine gl_reord (D := L) (Reord.skip (Reord.refl _)) ?_
              refine gl_atE (by kernel_rfl) ?_
              obtain rfl := some_inj hj34
              exact ge_mid fun t ht => ⟨(Imm.refl _), rfl, ht.pick (l := [0, 4, 10, 11, 12, 35]) (by kernel_rfl)⟩
          · rintro t I37 L' ⟨hI35, rfl, hK36⟩
            refine ge_at hK36 ?_
            refine ge_seq ?_
            refine gk_cond (b := j33) (by kernel_rfl) (by kernel_rfl) (fun hc47 => ?_) (fun hc47 => ?_)
            · have hb10 := cond_t hc47 hb10
              refine gk_seq (by kernel_rfl) ?_
              refine gk_region (by kernel_rfl) ?_
              refine gl_pure 3 [2, 3] (K' := [(2, .int .i64 3), (3, .int .i64 s8)]) (by kernel_rfl) ?_
              refine gl_atE (by kernel_rfl) ?_
              refine ge_seq ?_
              refine gk_ret (by kernel_rfl) ?_
              refine ge_block_ret ?_
              refine ge_seq_ret ?_
              obtain rfl := some_inj hb10
              refine ge_round_out (fun hrr => ?_) (by intro h; cases h)
              obtain rfl := hrr
              refine ge_block_ret ?_
              refine ge_seq_ret ?_
              refine ge_seq_ret ?_
              obtain rfl := some_inj hr
              exact ge_result trivial (ResOk.tmp (by kernel_rfl) (ResOk.tmp (by kernel_rfl) ResOk.nil)) (Imm.trans hI11 hI35) ⟨rfl, rfl⟩
            · have hb10 := cond_f hc47 hb10
              refine gk_skip (by kernel_rfl) ?_
              refine ge_block_normal ?_
              refine ge_seq ?_
              refine gk_region (by kernel_rfl) ?_
              refine gl_pure 2 [0, 10, 11, 12] (K' := [(0, .slice A0_0 a0.length n0_0), (10, .slice A0_0 a0.length n0_0), (11, .int .i64 (a0.length : Int)), (12, .int .i64 (IntKind.wrap .i64 (s8 + 1)))]) (by kernel_rfl) ?_
              refine gl_atE (by kernel_rfl) ?_
              obtain rfl := some_inj hb10
              exact ge_round fun t ht => ⟨(Imm.trans hI11 hI35), rfl, ht.pick (l := [0, 10, 11, 12]) (by kernel_rfl)⟩
      · have hb10 := cond_f hc20 hb10
        refine gk_exit (by kernel_rfl) ?_
        refine ge_seq_exit ?_
        obtain rfl := some_inj hb10
        refine ge_round_out (fun hrr => ?_) (by intro h; cases h)
        obtain rfl := hrr
        refine ge_block_hit (by kernel_rfl) ?_
        exact ge_mid fun t ht => ⟨_, rfl, hI11, rfl, ht.pick (l := []) (by kernel_rfl)⟩
    · rintro t I17 L' ⟨r14, rfl, hI15, rfl, hK16⟩
      refine ge_at hK16 ?_
      refine ge_seq ?_
      refine gk_seq (by kernel_rfl) ?_
      refine gk_region (by kernel_rfl) ?_
      refine gl_pure 2 [2, 3] (K' := [(2, .int .i64 0), (3, .int .i64 0)]) (by kernel_rfl) ?_
      refine gl_atE (by kernel_rfl) ?_
      refine ge_seq ?_
      refine gk_ret (by kernel_rfl) ?_
      obtain rfl := some_inj hr
      exact ge_result trivial (ResOk.tmp (by kernel_rfl) (ResOk.tmp (by kernel_rfl) ResOk.nil)) hI15 ⟨rfl, rfl⟩
/-! 115 tocsinref04_side  -/
noncomputable def tocsinref04_side (a0 : ByteArray) (a1 : ByteArray) : Int :=
  bif (Op.bytesLess a0.toList a1.toList) then
  ((-1))
  else
  (bif (!((Op.bytesLess a0.toList a1.toList) || (a0.toList == a1.toList))) then
    (1)
    else
    (0))
theorem tocsinref04_side_walk {a0 : ByteArray} {a1 : ByteArray} {I : Imm} {r : Int}  (hr : tocsinref04_side a0 a1 = r) (L : Own) :
    CallsTo Tryd.prog 115 #[.string a0, .string a1] I L (fun v I' L' => v = .int .i64 r ∧ L = L') := by
  replace hr : some (tocsinref04_side a0 a1) = some r := congrArg some hr
  unfold tocsinref04_side at hr
  refine callsTo_body (N := 11) Tryd.func115 (by kernel_rfl) (by kernel_rfl) (by kernel_rfl) ?_
  refine gk_pick [0, 1] (K' := [(0, .string a0), (1, .string a1)]) (by kernel_rfl) ?_
  refine gk_seq (by kernel_rfl) ?_
  refine gk_region (by kernel_rfl) ?_
  refine gl_pure 1 [0, 1] (K' := [(0, .string a0), (1, .string a1)]) (by kernel_rfl) ?_
  refine gl_atE (by kernel_rfl) ?_
  refine ge_seq ?_
  refine gk_seq (by kernel_rfl) ?_
  refine gk_seq (by kernel_rfl) ?_
  refine gk_region (by kernel_rfl) ?_
  refine gl_pure 3 [0, 1, 7] (K' := [(0, .string a0), (1, .string a1), (7, .bool (Op.bytesLess a0.toList a1.toList))]) (by kernel_rfl) ?_
  refine gl_atE (by kernel_rfl) ?_
  refine ge_seq ?_
  refine gk_cond (b := (Op.bytesLess a0.toList a1.toList)) (by kernel_rfl) (by kernel_rfl) (fun hc1 => ?_) (fun hc1 => ?_)
  · have hr := scond_t hc1 hr
    refine gk_seq (by kernel_rfl) ?_
    refine gk_region (by kernel_rfl) ?_
    refine gl_pure 1 [4] (K' := [(4, .int .i64 (-1))]) (by kernel_rfl) ?_
    refine gl_atE (by kernel_rfl) ?_
    refine ge_seq ?_
    refine gk_ret (by kernel_rfl) ?_
    refine ge_seq_ret ?_
    obtain rfl := some_inj hr
    exact ge_result trivial (ResOk.tmp (by kernel_rfl) ResOk.nil) (Imm.refl _) ⟨rfl, rfl⟩
  · have hr := scond_f hc1 hr
    refine gk_skip (by kernel_rfl) ?_
    refine ge_seq ?_
    refine gk_seq (by kernel_rfl) ?_
    refine gk_seq (by kernel_rfl) ?_
    refine gk_region (by kernel_rfl) ?_
    refine gl_pure 3 [10] (K' := [(10, .bool (!((Op.bytesLess a0.toList a1.toList) || (a0.toList == a1.toList))))]) (by kernel_rfl) ?_
    refine gl_atE (by kernel_rfl) ?_
    refine ge_seq ?_
    refine gk_cond (b := (!((Op.bytesLess a0.toList a1.toList) || (a0.toList == a1.toList)))) (by kernel_rfl) (by kernel_rfl) (fun hc2 => ?_) (fun hc2 => ?_)
    · have hr := scond_t hc2 hr
      refine gk_seq (by kernel_rfl) ?_
      refine gk_region (by kernel_rfl) ?_
      refine gl_pure 1 [4] (K' := [(4, .int .i64 1)]) (by kernel_rfl) ?_
      refine gl_atE (by kernel_rfl) ?_
      refine ge_seq ?_
      refine gk_ret (by kernel_rfl) ?_
      refine ge_seq_ret ?_
      obtain rfl := some_inj hr
      exact ge_result trivial (ResOk.tmp (by kernel_rfl) ResOk.nil) (Imm.refl _) ⟨rfl, rfl⟩
    · have hr := scond_f hc2 hr
      refine gk_skip (by kernel_rfl) ?_
      refine ge_seq ?_
      refine gk_seq (by kernel_rfl) ?_
      refine gk_region (by kernel_rfl) ?_
      refine gl_pure 1 [4] (K' := [(4, .int .i64 0)]) (by kernel_rfl) ?_
      refine gl_atE (by kernel_rfl) ?_
      refine ge_seq ?_
      refine gk_ret (by kernel_rfl) ?_
      obtain rfl := some_inj hr
      exact ge_result trivial (ResOk.tmp (by kernel_rfl) ResOk.nil) (Imm.refl _) ⟨rfl, rfl⟩
/-! 82 tocsinref04_Compare  -/
noncomputable def tocsinref04_Compare_l17 (a0 : List S79) (a1 : List S79) : Int → Option ((Int) ⊕ ((Unit) ⊕ (Int))) := fun s7 =>
  bif ((decide (s7 < (a0.length : Int))) && (decide (s7 < (a1.length : Int)))) then
  (Option.bind (ix a0 s7) fun (x26 : S79) =>
    Option.bind (ix a1 s7) fun (x34 : S79) =>
    bif ((tocsinref04_side x26.f0 x34.f0) != 0) then
    (some (Sum.inr (Sum.inr (tocsinref04_side x26.f0 x34.f0))))
    else
    (Option.bind (ix a0 s7) fun (x43 : S79) =>
      Option.bind (ix a1 s7) fun (x51 : S79) =>
      bif ((tocsinref04_side x43.f1 x51.f1) != 0) then
      (some (Sum.inr (Sum.inr (tocsinref04_side x43.f1 x51.f1))))
      else
      (some (Sum.inl (IntKind.wrap .i64 (s7 + 1))))))
  else
  (some (Sum.inr (Sum.inl ())))
noncomputable def tocsinref04_Compare (a0 : List S79) (a1 : List S79) : Option Int :=
  Option.bind (loopO (tocsinref04_Compare_l17 a0 a1) 0) fun (r5 : (Unit) ⊕ (Int)) =>
  match r5 with
  | Sum.inl r13 => bif (decide ((a0.length : Int) < (a1.length : Int))) then
    (some (-1))
    else
    (bif (decide ((a0.length : Int) > (a1.length : Int))) then
      (some 1)
      else
      (some 0))
  | Sum.inr v62 => some v62
theorem tocsinref04_Compare_walk {a0 : List S79} {A0_0 : Option Addr} {n0_0 : Nat} {a1 : List S79} {A1_0 : Option Addr} {n1_0 : Nat} {I : Imm} {r : Int}  (hf0_0 : RepS kS79 I A0_0 n0_0 a0)  (hf1_0 : RepS kS79 I A1_0 n1_0 a1) (hr : tocsinref04_Compare a0 a1 = some r) (L : Own) :
    CallsTo Tryd.prog 82 #[.slice A0_0 a0.length n0_0, .slice A1_0 a1.length n1_0] I L (fun v I' L' => v = .int .i64 r ∧ L = L') := by
  unfold tocsinref04_Compare at hr
  refine callsTo_body (N := 58) Tryd.func82 (by kernel_rfl) (by kernel_rfl) (by kernel_rfl) ?_
  refine gk_pick [0, 1] (K' := [(0, .slice A0_0 a0.length n0_0), (1, .slice A1_0 a1.length n1_0)]) (by kernel_rfl) ?_
  refine gk_seq (by kernel_rfl) ?_
  refine gk_region (by kernel_rfl) ?_
  refine gl_pure 1 [0, 1] (K' := [(0, .slice A0_0 a0.length n0_0), (1, .slice A1_0 a1.length n1_0)]) (by kernel_rfl) ?_
  refine gl_atE (by kernel_rfl) ?_
  refine ge_seq ?_
  refine gk_seq (by kernel_rfl) ?_
  refine gk_seq (by kernel_rfl) ?_
  refine gk_region (by kernel_rfl) ?_
  refine gl_pure 1 [0, 1, 5] (K' := [(0, .slice A0_0 a0.length n0_0), (1, .slice A1_0 a1.length n1_0), (5, .int .i64 0)]) (by kernel_rfl) ?_
  refine gl_atE (by kernel_rfl) ?_
  refine ge_seq ?_
  obtain ⟨r5, hl6, hr⟩ := bind_some hr
  refine gk_join (fun t I' L' => ∃ r13, r5 = Sum.inl r13 ∧ I ≤ I' ∧ L = L' ∧ Knows 58 [(0, .slice A0_0 a0.length n0_0), (1, .slice A1_0 a1.length n1_0)] t) ?_ ?_
  · refine gk_block (by kernel_rfl) ?_
    refine gk_pick [0, 1, 5] (K' := [(0, .slice A0_0 a0.length n0_0), (1, .slice A1_0 a1.length n1_0), (5, .int .i64 0)]) (by kernel_rfl) ?_
    intro t hK
    refine gc_loop (tocsinref04_Compare_l17 a0 a1) (fun s7 t I' L' => I ≤ I' ∧ L = L' ∧ Knows 58 [(0, .slice A0_0 a0.length n0_0), (1, .slice A1_0 a1.length n1_0), (5, .int .i64 s7)] t) (by kernel_rfl) ?_ hl6 ⟨(Imm.refl _), rfl, hK⟩
    rintro s7 o8 t I12 L' hb9 ⟨hI10, rfl, hK11⟩
    unfold tocsinref04_Compare_l17 at hb9
    refine gk_at hK11 ?_
    refine gk_seq (by kernel_rfl) ?_
    refine gk_seq (by kernel_rfl) ?_
    obtain ⟨b21, hb22⟩ : ∃ z, z = ((decide (s7 < (a0.length : Int))) && (decide (s7 < (a1.length : Int)))) := ⟨_, rfl⟩
    refine gk_join (fun t I' L' => I12 ≤ I' ∧ L = L' ∧ Knows 58 [(0, .slice A0_0 a0.length n0_0), (1, .slice A1_0 a1.length n1_0), (5, .int .i64 s7), (17, .bool b21)] t) ?_ ?_
    · refine gk_region (by kernel_rfl) ?_
      refine gl_pure 5 [0, 1, 5, 12] (K' := [(0, .slice A0_0 a0.length n0_0), (1, .slice A1_0 a1.length n1_0), (5, .int .i64 s7), (12, .bool (decide (s7 < (a0.length : Int))))]) (by kernel_rfl) ?_
      refine gl_case 12 (b := (decide (s7 < (a0.length : Int)))) (by kernel_rfl) (fun hc24 => ?_) (fun hc24 => ?_)
      · refine gl_pure 5 [0, 1, 5, 17] (K' := [(0, .slice A0_0 a0.length n0_0), (1, .slice A1_0 a1.length n1_0), (5, .int .i64 s7), (17, .bool (decide (s7 < (a1.length : Int))))]) (by kernel_rfl) ?_
        refine gl_atE (by kernel_rfl) ?_
        exact ge_mid fun t ht => ⟨(Imm.refl _), rfl, by rw [(show b21 = (decide (s7 < (a1.length : Int))) from hb22.trans (by rw [hc24]; try rfl))]; exact ht.pick (l := [0, 1, 5, 17]) (by kernel_rfl)⟩
      · refine gl_pure 5 [0, 1, 5, 17] (K' := [(0, .slice A0_0 a0.length n0_0), (1, .slice A1_0 a1.length n1_0), (5, .int .i64 s7), (17, .bool false)]) (by kernel_rfl) ?_
        refine gl_atE (by kernel_rfl) ?_
        exact ge_mid fun t ht => ⟨(Imm.refl _), rfl, by rw [(show b21 = false from hb22.trans (by rw [hc24]; try rfl))]; exact ht.pick (l := [0, 1, 5, 17]) (by kernel_rfl)⟩
    · rintro t I23 L' ⟨hI19, rfl, hK20⟩
      subst hb22
      refine ge_at hK20 ?_
      refine ge_seq ?_
      refine gk_cond (b := ((decide (s7 < (a0.length : Int))) && (decide (s7 < (a1.length : Int))))) (by kernel_rfl) (by kernel_rfl) (fun hc25 => ?_) (fun hc25 => ?_)
      · have hb9 := cond_t hc25 hb9
        refine gk_skip (by kernel_rfl) ?_
        refine ge_seq ?_
        refine gk_seq (by kernel_rfl) ?_
        refine gk_block (by kernel_rfl) ?_
        refine gk_seq (by kernel_rfl) ?_
        refine gk_seq (by kernel_rfl) ?_
        refine gk_draw 10 [(0, true), (1, true), (2, true), (3, true), (4, true), (5, true), (6, true), (7, true), (8, true), (9, true)] [] (fun p hp => by cases hp) (by kernel_rfl) (by kernel_rfl) (by kernel_rfl) ?_ (by kernel_rfl)
        refine gd_pure 2 [0, 1, 5, 20, 21] (K' := [(0, .slice A0_0 a0.length n0_0), (1, .slice A1_0 a1.length n1_0), (5, .int .i64 s7), (20, .slice A0_0 a0.length n0_0), (21, .int .i64 s7)]) (s' := [(2, true), (3, true), (4, true), (5, true), (6, true), (7, true), (8, true), (9, true)]) (CC.refl (fun p hp => by cases hp)) (by kernel_rfl) ?_
        obtain ⟨x26, hx27, hb9⟩ := bind_some hb9
        obtain ⟨p28, cs29, hR30, hA31, ha32⟩ := RepS.ixAt hx27 (hf0_0.mono (Imm.trans hI10 hI19))
        have hi33 := ix_some hx27
        obtain rfl := kS79_open hR30
        refine gd_q (v := .pointer (some p28)) (by kernel_rfl) (by kernel_rfl) (CC.refl (fun p hp => by cases hp)) (fun I' L' T hC kk => gl_indexAddrF (c := n0_0) (T' := 36) (e := 80) (xs := (.tmp 20)) (xi := (.tmp 21)) (kd := .i64) ha32 hi33.1 hi33.2.1 (by kernel_rfl) (by kernel_rfl) (by kernel_rfl) (by kernel_rfl) (by kernel_rfl) kk) ?_
        refine gd_pure 1 [0, 1, 5, 23] (K' := [(0, .slice A0_0 a0.length n0_0), (1, .slice A1_0 a1.length n1_0), (5, .int .i64 s7), (23, .pointer (some (p28.add 0)))]) (s' := [(4, true), (5, true), (6, true), (7, true), (8, true), (9, true)]) (CC.refl (fun p hp => by cases hp)) (by kernel_rfl) ?_
        refine gd_q (v := .string x26.f0) (by kernel_rfl) (by kernel_rfl) (CC.refl (fun p hp => by cases hp)) (fun I' L' T hC kk => gl_load (T' := 9) (xp := (.tmp 23)) (p := (p28.add 0)) (c := .string x26.f0) (n := 1) (by kernel_rfl) (by kernel_rfl) (by kernel_rfl) (by kernel_rfl) ((hA31.drop 0).mono hC.le) kk) ?_
        refine gd_pure 2 [0, 1, 5, 24, 25, 26] (K' := [(0, .slice A0_0 a0.length n0_0), (1, .slice A1_0 a1.length n1_0), (5, .int .i64 s7), (24, .string x26.f0), (25, .slice A1_0 a1.length n1_0), (26, .int .i64 s7)]) (s' := [(7, true), (8, true), (9, true)]) (CC.refl (fun p hp => by cases hp)) (by kernel_rfl) ?_
        obtain ⟨x34, hx35, hb9⟩ := bind_some hb9
        obtain ⟨p36, cs37, hR38, hA39, ha40⟩ := RepS.ixAt hx35 (hf1_0.mono (Imm.trans hI10 hI19))
        have hi41 := ix_some hx35
        obtain rfl := kS79_open hR38
        refine gd_q (v := .pointer (some p36)) (by kernel_rfl) (by kernel_rfl) (CC.refl (fun p hp => by cases hp)) (fun I' L' T hC kk => gl_indexAddrF (c := n1_0) (T' := 36) (e := 80) (xs := (.tmp 25)) (xi := (.tmp 26)) (kd := .i64) ha40 hi41.1 hi41.2.1 (by kernel_rfl) (by kernel_rfl) (by kernel_rfl) (by kernel_rfl) (by kernel_rfl) kk) ?_
        refine gd_pure 1 [0, 1, 5, 24, 28] (K' := [(0, .slice A0_0 a0.length n0_0), (1, .slice A1_0 a1.length n1_0), (5, .int .i64 s7), (24, .string x26.f0), (28, .pointer (some (p36.add 0)))]) (s' := [(9, true)]) (CC.refl (fun p hp => by cases hp)) (by kernel_rfl) ?_
        refine gd_q (v := .string x34.f0) (by kernel_rfl) (by kernel_rfl) (CC.refl (fun p hp => by cases hp)) (fun I' L' T hC kk => gl_load (T' := 9) (xp := (.tmp 28)) (p := (p36.add 0)) (c := .string x34.f0) (n := 1) (by kernel_rfl) (by kernel_rfl) (by kernel_rfl) (by kernel_rfl) ((hA39.drop 0).mono hC.le) kk) ?_
        refine gd_done ?_
        refine gl_callQ (by kernel_rfl) (tocsinref04_side_walk (r := (tocsinref04_side x26.f0 x34.f0))  rfl _) ?_
        refine gl_pure 1 [0, 1, 5, 6] (K' := [(0, .slice A0_0 a0.length n0_0), (1, .slice A1_0 a1.length n1_0), (5, .int .i64 s7), (6, .int .i64 (tocsinref04_side x26.f0 x34.f0))]) (by kernel_rfl) ?_
        refine gl_atE (by kernel_rfl) ?_
        refine ge_seq ?_
        refine gk_seq (by kernel_rfl) ?_
        refine gk_region (by kernel_rfl) ?_
        refine gl_pure 2 [0, 1, 5, 6, 32] (K' := [(0, .slice A0_0 a0.length n0_0), (1, .slice A1_0 a1.length n1_0), (5, .int .i64 s7), (6, .int .i64 (tocsinref04_side x26.f0 x34.f0)), (32, .bool ((tocsinref04_side x26.f0 x34.f0) != 0))]) (by kernel_rfl) ?_
        refine gl_atE (by kernel_rfl) ?_
        refine ge_seq ?_
        refine gk_cond (b := ((tocsinref04_side x26.f0 x34.f0) != 0)) (by kernel_rfl) (by kernel_rfl) (fun hc42 => ?_) (fun hc42 => ?_)
        · have hb9 := cond_t hc42 hb9
          refine gk_seq (by kernel_rfl) ?_
          refine gk_region (by kernel_rfl) ?_
          refine gl_pure 2 [4] (K' := [(4, .int .i64 (tocsinref04_side x26.f0 x34.f0))]) (by kernel_rfl) ?_
          refine gl_atE (by kernel_rfl) ?_
          refine ge_seq ?_
          refine gk_ret (by kernel_rfl) ?_
          refine ge_seq_ret ?_
          refine ge_block_ret ?_
          refine ge_seq_ret ?_
          obtain rfl := some_inj hb9
          refine ge_round_out (fun hrr => ?_) (by intro h; cases h)
          obtain rfl := hrr
          refine ge_block_ret ?_
          refine ge_seq_ret ?_
          refine ge_seq_ret ?_
          obtain rfl := some_inj hr
          exact ge_result trivial (ResOk.tmp (by kernel_rfl) ResOk.nil) (Imm.trans hI10 hI19) ⟨rfl, rfl⟩
        · have hb9 := cond_f hc42 hb9
          refine gk_skip (by kernel_rfl) ?_
          refine ge_seq ?_
          refine gk_seq (by kernel_rfl) ?_
          refine gk_draw 10 [(0, true), (1, true), (2, true), (3, true), (4, true), (5, true), (6, true), (7, true), (8, true), (9, true)] [] (fun p hp => by cases hp) (by kernel_rfl) (by kernel_rfl) (by kernel_rfl) ?_ (by kernel_rfl)
          refine gd_pure 2 [0, 1, 5, 34, 35] (K' := [(0, .slice A0_0 a0.length n0_0), (1, .slice A1_0 a1.length n1_0), (5, .int .i64 s7), (34, .slice A0_0 a0.length n0_0), (35, .int .i64 s7)]) (s' := [(2, true), (3, true), (4, true), (5, true), (6, true), (7, true), (8, true), (9, true)]) (CC.refl (fun p hp => by cases hp)) (by kernel_rfl) ?_
          obtain ⟨x43, hx44, hb9⟩ := bind_some hb9
          obtain ⟨p45, cs46, hR47, hA48, ha49⟩ := RepS.ixAt hx44 (hf0_0.mono (Imm.trans hI10 hI19))
          have hi50 := ix_some hx44
          obtain rfl := kS79_open hR47
          refine gd_q (v := .pointer (some p45)) (by kernel_rfl) (by kernel_rfl) (CC.refl (fun p hp => by cases hp)) (fun I' L' T hC kk => gl_indexAddrF (c := n0_0) (T' := 36) (e := 80) (xs := (.tmp 34)) (xi := (.tmp 35)) (kd := .i64) ha49 hi50.1 hi50.2.1 (by kernel_rfl) (by kernel_rfl) (by kernel_rfl) (by kernel_rfl) (by kernel_rfl) kk) ?_
          refine gd_pure 1 [0, 1, 5, 37] (K' := [(0, .slice A0_0 a0.length n0_0), (1, .slice A1_0 a1.length n1_0), (5, .int .i64 s7), (37, .pointer (some (p45.add 1)))]) (s' := [(4, true), (5, true), (6, true), (7, true), (8, true), (9, true)]) (CC.refl (fun p hp => by cases hp)) (by kernel_rfl) ?_
          refine gd_q (v := .string x43.f1) (by kernel_rfl) (by kernel_rfl) (CC.refl (fun p hp => by cases hp)) (fun I' L' T hC kk => gl_load (T' := 9) (xp := (.tmp 37)) (p := (p45.add 1)) (c := .string x43.f1) (n := 1) (by kernel_rfl) (by kernel_rfl) (by kernel_rfl) (by kernel_rfl) ((hA48.drop 1).mono hC.le) kk) ?_
          refine gd_pure 2 [0, 1, 5, 38, 39, 40] (K' := [(0, .slice A0_0 a0.length n0_0), (1, .slice A1_0 a1.length n1_0), (5, .int .i64 s7), (38, .string x43.f1), (39, .slice A1_0 a1.length n1_0), (40, .int .i64 s7)]) (s' := [(7, true), (8, true), (9, true)]) (CC.refl (fun p hp => by cases hp)) (by kernel_rfl) ?_
          obtain ⟨x51, hx52, hb9⟩ := bind_some hb9
          obtain ⟨p53, cs54, hR55, hA56, ha57⟩ := RepS.ixAt hx52 (hf1_0.mono (Imm.trans hI10 hI19))
          have hi58 := ix_some hx52
          obtain rfl := kS79_open hR55
          refine gd_q (v := .pointer (some p53)) (by kernel_rfl) (by kernel_rfl) (CC.refl (fun p hp => by cases hp)) (fun I' L' T hC kk => gl_indexAddrF (c := n1_0) (T' := 36) (e := 80) (xs := (.tmp 39)) (xi := (.tmp 40)) (kd := .i64) ha57 hi58.1 hi58.2.1 (by kernel_rfl) (by kernel_rfl) (by kernel_rfl) (by kernel_rfl) (by kernel_rfl) kk) ?_
          refine gd_pure 1 [0, 1, 5, 38, 42] (K' := [(0, .slice A0_0 a0.length n0_0), (1, .slice A1_0 a1.length n1_0), (5, .int .i64 s7), (38, .string x43.f1), (42, .pointer (some (p53.add 1)))]) (s' := [(9, true)]) (CC.refl (fun p hp => by cases hp)) (by kernel_rfl) ?_
          refine gd_q (v := .string x51.f1) (by kernel_rfl) (by kernel_rfl) (CC.refl (fun p hp => by cases hp)) (fun I' L' T hC kk => gl_load (T' := 9) (xp := (.tmp 42)) (p := (p53.add 1)) (c := .string x51.f1) (n := 1) (by kernel_rfl) (by kernel_rfl) (by kernel_rfl) (by kernel_rfl) ((hA56.drop 1).mono hC.le) kk) ?_
          refine gd_done ?_
          refine gl_callQ (by kernel_rfl) (tocsinref04_side_walk (r := (tocsinref04_side x43.f1 x51.f1))  rfl _) ?_
          refine gl_pure 1 [0, 1, 5, 7] (K' := [(0, .slice A0_0 a0.length n0_0), (1, .slice A1_0 a1.length n1_0), (5, .int .i64 s7), (7, .int .i64 (tocsinref04_side x43.f1 x51.f1))]) (by kernel_rfl) ?_
          refine gl_atE (by kernel_rfl) ?_
          refine ge_seq ?_
          refine gk_seq (by kernel_rfl) ?_
          refine gk_region (by kernel_rfl) ?_
          refine gl_pure 2 [0, 1, 5, 7, 46] (K' := [(0, .slice A0_0 a0.length n0_0), (1, .slice A1_0 a1.length n1_0), (5, .int .i64 s7), (7, .int .i64 (tocsinref04_side x43.f1 x51.f1)), (46, .bool ((tocsinref04_side x43.f1 x51.f1) != 0))]) (by kernel_rfl) ?_
          refine gl_atE (by kernel_rfl) ?_
          refine ge_seq ?_
          refine gk_cond (b := ((tocsinref04_side x43.f1 x51.f1) != 0)) (by kernel_rfl) (by kernel_rfl) (fun hc59 => ?_) (fun hc59 => ?_)
          · have hb9 := cond_t hc59 hb9
            refine gk_seq (by kernel_rfl) ?_
            refine gk_region (by kernel_rfl) ?_
            refine gl_pure 2 [4] (K' := [(4, .int .i64 (tocsinref04_side x43.f1 x51.f1))]) (by kernel_rfl) ?_
            refine gl_atE (by kernel_rfl) ?_
            refine ge_seq ?_
            refine gk_ret (by kernel_rfl) ?_
            refine ge_block_ret ?_
            refine ge_seq_ret ?_
            obtain rfl := some_inj hb9
            refine ge_round_out (fun hrr => ?_) (by intro h; cases h)
            obtain rfl := hrr
            refine ge_block_ret ?_
            refine ge_seq_ret ?_
            refine ge_seq_ret ?_
            obtain rfl := some_inj hr
            exact ge_result trivial (ResOk.tmp (by kernel_rfl) ResOk.nil) (Imm.trans hI10 hI19) ⟨rfl, rfl⟩
          · have hb9 := cond_f hc59 hb9
            refine gk_skip (by kernel_rfl) ?_
            refine ge_block_normal ?_
            refine ge_seq ?_
            refine gk_region (by kernel_rfl) ?_
            refine gl_pure 3 [0, 1, 5] (K' := [(0, .slice A0_0 a0.length n0_0), (1, .slice A1_0 a1.length n1_0), (5, .int .i64 (IntKind.wrap .i64 (s7 + 1)))]) (by kernel_rfl) ?_
            refine gl_atE (by kernel_rfl) ?_
            obtain rfl := some_inj hb9
            exact ge_round fun t ht => ⟨(Imm.trans hI10 hI19), rfl, ht.pick (l := [0, 1, 5]) (by kernel_rfl)⟩
      · have hb9 := cond_f hc25 hb9
        refine gk_exit (by kernel_rfl) ?_
        refine ge_seq_exit ?_
        obtain rfl := some_inj hb9
        refine ge_round_out (fun hrr => ?_) (by intro h; cases h)
        obtain rfl := hrr
        refine ge_block_hit (by kernel_rfl) ?_
        exact ge_mid fun t ht => ⟨_, rfl, (Imm.trans hI10 hI19), rfl, ht.pick (l := [0, 1]) (by kernel_rfl)⟩
  · rintro t I16 L' ⟨r13, rfl, hI14, rfl, hK15⟩
    refine ge_at hK15 ?_
    refine ge_seq ?_
    refine gk_seq (by kernel_rfl) ?_
    refine gk_seq (by kernel_rfl) ?_
    refine gk_region (by kernel_rfl) ?_
    refine gl_pure 5 [0, 1, 52] (K' := [(0, .slice A0_0 a0.length n0_0), (1, .slice A1_0 a1.length n1_0), (52, .bool (decide ((a0.length : Int) < (a1.length : Int))))]) (by kernel_rfl) ?_
    refine gl_atE (by kernel_rfl) ?_
    refine ge_seq ?_
    refine gk_cond (b := (decide ((a0.length : Int) < (a1.length : Int)))) (by kernel_rfl) (by kernel_rfl) (fun hc60 => ?_) (fun hc60 => ?_)
    · have hr := cond_t hc60 hr
      refine gk_seq (by kernel_rfl) ?_
      refine gk_region (by kernel_rfl) ?_
      refine gl_pure 1 [4] (K' := [(4, .int .i64 (-1))]) (by kernel_rfl) ?_
      refine gl_atE (by kernel_rfl) ?_
      refine ge_seq ?_
      refine gk_ret (by kernel_rfl) ?_
      refine ge_seq_ret ?_
      obtain rfl := some_inj hr
      exact ge_result trivial (ResOk.tmp (by kernel_rfl) ResOk.nil) hI14 ⟨rfl, rfl⟩
    · have hr := cond_f hc60 hr
      refine gk_skip (by kernel_rfl) ?_
      refine ge_seq ?_
      refine gk_seq (by kernel_rfl) ?_
      refine gk_seq (by kernel_rfl) ?_
      refine gk_region (by kernel_rfl) ?_
      refine gl_pure 5 [57] (K' := [(57, .bool (decide ((a0.length : Int) > (a1.length : Int))))]) (by kernel_rfl) ?_
      refine gl_atE (by kernel_rfl) ?_
      refine ge_seq ?_
      refine gk_cond (b := (decide ((a0.length : Int) > (a1.length : Int)))) (by kernel_rfl) (by kernel_rfl) (fun hc61 => ?_) (fun hc61 => ?_)
      · have hr := cond_t hc61 hr
        refine gk_seq (by kernel_rfl) ?_
        refine gk_region (by kernel_rfl) ?_
        refine gl_pure 1 [4] (K' := [(4, .int .i64 1)]) (by kernel_rfl) ?_
        refine gl_atE (by kernel_rfl) ?_
        refine ge_seq ?_
        refine gk_ret (by kernel_rfl) ?_
        refine ge_seq_ret ?_
        obtain rfl := some_inj hr
        exact ge_result trivial (ResOk.tmp (by kernel_rfl) ResOk.nil) hI14 ⟨rfl, rfl⟩
      · have hr := cond_f hc61 hr
        refine gk_skip (by kernel_rfl) ?_
        refine ge_seq ?_
        refine gk_seq (by kernel_rfl) ?_
        refine gk_region (by kernel_rfl) ?_
        refine gl_pure 1 [4] (K' := [(4, .int .i64 0)]) (by kernel_rfl) ?_
        refine gl_atE (by kernel_rfl) ?_
        refine ge_seq ?_
        refine gk_ret (by kernel_rfl) ?_
        obtain rfl := some_inj hr
        exact ge_result trivial (ResOk.tmp (by kernel_rfl) ResOk.nil) hI14 ⟨rfl, rfl⟩
/-! 73 tocsinref26_rising  -/
noncomputable def tocsinref26_rising_l17 (a0 : List (List S79)) : Int → Option ((Int) ⊕ ((Unit) ⊕ (Bool))) := fun s7 =>
  bif (decide (s7 < (a0.length : Int))) then
  (Option.bind (ix a0 s7) fun (x20 : List S79) =>
    Option.bind (tocsinref04_Right x20) fun (y31 : Int × Int) =>
    Option.bind (bif (y31.1 != 0) then
      (some true)
      else
      (bif (decide (s7 > 0)) then
        (Option.bind (ix a0 (IntKind.wrap .i64 (s7 - 1))) fun (x40 : List S79) =>
          Option.bind (tocsinref04_Compare x40 x20) fun (y51 : Int) =>
          some (decide (y51 ≥ 0)))
        else
        (some false))) fun (j33 : Bool) =>
    bif j33 then
    (some (Sum.inr (Sum.inr false)))
    else
    (some (Sum.inl (IntKind.wrap .i64 (s7 + 1)))))
  else
  (some (Sum.inr (Sum.inl ())))
noncomputable def tocsinref26_rising (a0 : List (List S79)) : Option Bool :=
  Option.bind (loopO (tocsinref26_rising_l17 a0) 0) fun (r5 : (Unit) ⊕ (Bool)) =>
  match r5 with
  | Sum.inl r13 => some true
  | Sum.inr v54 => some v54
theorem tocsinref26_rising_walk {a0 : List (List S79)} {A0_0 : Option Addr} {n0_0 : Nat} {I : Imm} {r : Bool}  (hf0_0 : RepS (Kd.sl kS79) I A0_0 n0_0 a0) (hr : tocsinref26_rising a0 = some r) (L : Own) :
    CallsTo Tryd.prog 73 #[.slice A0_0 a0.length n0_0] I L (fun v I' L' => v = .bool r ∧ L = L') := by
  unfold tocsinref26_rising at hr
  refine callsTo_body (N := 36) Tryd.func73 (by kernel_rfl) (by kernel_rfl) (by kernel_rfl) ?_
  refine gk_pick [0] (K' := [(0, .slice A0_0 a0.length n0_0)]) (by kernel_rfl) ?_
  refine gk_seq (by kernel_rfl) ?_
  refine gk_region (by kernel_rfl) ?_
  refine gl_pure 1 [0] (K' := [(0, .slice A0_0 a0.length n0_0)]) (by kernel_rfl) ?_
  refine gl_atE (by kernel_rfl) ?_
  refine ge_seq ?_
  refine gk_seq (by kernel_rfl) ?_
  refine gk_seq (by kernel_rfl) ?_
  refine gk_region (by kernel_rfl) ?_
  refine gl_pure 3 [0, 7, 8, 9] (K' := [(0, .slice A0_0 a0.length n0_0), (7, .slice A0_0 a0.length n0_0), (8, .int .i64 (a0.length : Int)), (9, .int .i64 0)]) (by kernel_rfl) ?_
  refine gl_atE (by kernel_rfl) ?_
  refine ge_seq ?_
  obtain ⟨r5, hl6, hr⟩ := bind_some hr
  refine gk_join (fun t I' L' => ∃ r13, r5 = Sum.inl r13 ∧ I ≤ I' ∧ L = L' ∧ Knows 36 [] t) ?_ ?_
  · refine gk_block (by kernel_rfl) ?_
    refine gk_pick [0, 7, 8, 9] (K' := [(0, .slice A0_0 a0.length n0_0), (7, .slice A0_0 a0.length n0_0), (8, .int .i64 (a0.length : Int)), (9, .int .i64 0)]) (by kernel_rfl) ?_
    intro t hK
    refine gc_loop (tocsinref26_rising_l17 a0) (fun s7 t I' L' => I ≤ I' ∧ L = L' ∧ Knows 36 [(0, .slice A0_0 a0.length n0_0), (7, .slice A0_0 a0.length n0_0), (8, .int .i64 (a0.length : Int)), (9, .int .i64 s7)] t) (by kernel_rfl) ?_ hl6 ⟨(Imm.refl _), rfl, hK⟩
    rintro s7 o8 t I12 L' hb9 ⟨hI10, rfl, hK11⟩
    unfold tocsinref26_rising_l17 at hb9
    refine gk_at hK11 ?_
    refine gk_seq (by kernel_rfl) ?_
    refine gk_region (by kernel_rfl) ?_
    refine gl_pure 1 [0, 7, 8, 9, 10] (K' := [(0, .slice A0_0 a0.length n0_0), (7, .slice A0_0 a0.length n0_0), (8, .int .i64 (a0.length : Int)), (9, .int .i64 s7), (10, .bool (decide (s7 < (a0.length : Int))))]) (by kernel_rfl) ?_
    refine gl_atE (by kernel_rfl) ?_
    refine ge_seq ?_
    refine gk_seq (by kernel_rfl) ?_
    refine gk_cond (b := (decide (s7 < (a0.length : Int)))) (by kernel_rfl) (by kernel_rfl) (fun hc19 => ?_) (fun hc19 => ?_)
    · have hb9 := cond_t hc19 hb9
      refine gk_skip (by kernel_rfl) ?_
      refine ge_seq ?_
      refine gk_seq (by kernel_rfl) ?_
      refine gk_block (by kernel_rfl) ?_
      refine gk_seq (by kernel_rfl) ?_
      refine gk_region (by kernel_rfl) ?_
      refine gl_pure 1 [0, 7, 8, 9, 11] (K' := [(0, .slice A0_0 a0.length n0_0), (7, .slice A0_0 a0.length n0_0), (8, .int .i64 (a0.length : Int)), (9, .int .i64 s7), (11, .int .i64 s7)]) (by kernel_rfl) ?_
      obtain ⟨x20, hx21, hb9⟩ := bind_some hb9
      obtain ⟨p22, cs23, hR24, hA25, ha26⟩ := RepS.ixAt hx21 (hf0_0.mono hI10)
      have hi27 := ix_some hx21
      obtain ⟨A28, n29, rfl, hf30⟩ := sl_open hR24
      refine gl_indexAddrF (c := n0_0) (T' := 22) (e := 36) (xs := (.tmp 7)) (xi := (.tmp 9)) (kd := .i64) ha26 hi27.1 hi27.2.1 (by kernel_rfl) (by kernel_rfl) (by kernel_rfl) (by kernel_rfl) (by kernel_rfl) ?_
      refine gl_load (T' := 36) (xp := (.tmp 12)) (p := p22) (c := .slice A28 x20.length n29) (n := 1) (by kernel_rfl) (by kernel_rfl) (by kernel_rfl) (by kernel_rfl) hA25 ?_
      refine gl_pure 2 [0, 3, 4, 7, 8, 9] (K' := [(0, .slice A0_0 a0.length n0_0), (3, .int .i64 s7), (4, .slice A28 x20.length n29), (7, .slice A0_0 a0.length n0_0), (8, .int .i64 (a0.length : Int)), (9, .int .i64 s7)]) (by kernel_rfl) ?_
      refine gl_atE (by kernel_rfl) ?_
      refine ge_seq ?_
      refine gk_seq (by kernel_rfl) ?_
      refine gk_region (by kernel_rfl) ?_
      refine gl_pure 1 [0, 3, 4, 7, 8, 9, 15] (K' := [(0, .slice A0_0 a0.length n0_0), (3, .int .i64 s7), (4, .slice A28 x20.length n29), (7, .slice A0_0 a0.length n0_0), (8, .int .i64 (a0.length : Int)), (9, .int .i64 s7), (15, .slice A28 x20.length n29)]) (by kernel_rfl) ?_
      obtain ⟨y31, hx32, hb9⟩ := bind_some hb9
      refine gl_callQ (by kernel_rfl) (tocsinref04_Right_walk (r := y31) hf30 hx32 _) ?_
      refine gl_pure 5 [0, 3, 4, 5, 7, 8, 9] (K' := [(0, .slice A0_0 a0.length n0_0), (3, .int .i64 s7), (4, .slice A28 x20.length n29), (5, .int .i64 y31.1), (7, .slice A0_0 a0.length n0_0), (8, .int .i64 (a0.length : Int)), (9, .int .i64 s7)]) (by kernel_rfl) ?_
      refine gl_atE (by kernel_rfl) ?_
      refine ge_seq ?_
      refine gk_seq (by kernel_rfl) ?_
      obtain ⟨j33, hj34, hb9⟩ := bind_some hb9
      refine gk_join (fun t I' L' => I12 ≤ I' ∧ L = L' ∧ Knows 36 [(0, .slice A0_0 a0.length n0_0), (7, .slice A0_0 a0.length n0_0), (8, .int .i64 (a0.length : Int)), (9, .int .i64 s7), (34, .bool j33)] t) ?_ ?_
      · refine gk_region (by kernel_rfl) ?_
        refine gl_pure 3 [0, 3, 4, 7, 8, 9, 21] (K' := [(0, .slice A0_0 a0.length n0_0), (3, .int .i64 s7), (4, .slice A28 x20.length n29), (7, .slice A0_0 a0.length n0_0), (8, .int .i64 (a0.length : Int)), (9, .int .i64 s7), (21, .bool (y31.1 != 0))]) (by kernel_rfl) ?_
        refine gl_case 21 (b := (y31.1 != 0)) (by kernel_rfl) (fun hc38 => ?_) (fun hc38 => ?_)
        · have hj34 := cond_t hc38 hj34
          refine gl_pure 13 [0, 7, 8, 9, 34] (K' := [(0, .slice A0_0 a0.length n0_0), (7, .slice A0_0 a0.length n0_0), (8, .int .i64 (a0.length : Int)), (9, .int .i64 s7), (34, .bool true)]) (by kernel_rfl) ?_
          refine gl_atE (by kernel_rfl) ?_
          obtain rfl := some_inj hj34
          exact ge_mid fun t ht => ⟨(Imm.refl _), rfl, ht.pick (l := [0, 7, 8, 9, 34]) (by kernel_rfl)⟩
        · have hj34 := cond_f hc38 hj34
          refine gl_pure 3 [0, 3, 4, 7, 8, 9, 21, 24] (K' := [(0, .slice A0_0 a0.length n0_0), (3, .int .i64 s7), (4, .slice A28 x20.length n29), (7, .slice A0_0 a0.length n0_0), (8, .int .i64 (a0.length : Int)), (9, .int .i64 s7), (21, .bool false), (24, .bool (decide (s7 > 0)))]) (by kernel_rfl) ?_
          refine gl_case 24 (b := (decide (s7 > 0))) (by kernel_rfl) (fun hc39 => ?_) (fun hc39 => ?_)
          · have hj34 := cond_t hc39 hj34
            refine gl_pure 3 [0, 4, 7, 8, 9, 21, 24, 25, 27] (K' := [(0, .slice A0_0 a0.length n0_0), (4, .slice A28 x20.length n29), (7, .slice A0_0 a0.length n0_0), (8, .int .i64 (a0.length : Int)), (9, .int .i64 s7), (21, .bool false), (24, .bool true), (25, .slice A0_0 a0.length n0_0), (27, .int .i64 (IntKind.wrap .i64 (s7 - 1)))]) (by kernel_rfl) ?_
            obtain ⟨x40, hx41, hj34⟩ := bind_some hj34
            obtain ⟨p42, cs43, hR44, hA45, ha46⟩ := RepS.ixAt hx41 (hf0_0.mono hI10)
            have hi47 := ix_some hx41
            obtain ⟨A48, n49, rfl, hf50⟩ := sl_open hR44
            refine gl_indexAddrF (c := n0_0) (T' := 22) (e := 36) (xs := (.tmp 25)) (xi := (.tmp 27)) (kd := .i64) ha46 hi47.1 hi47.2.1 (by kernel_rfl) (by kernel_rfl) (by kernel_rfl) (by kernel_rfl) (by kernel_rfl) ?_
            refine gl_load (T' := 36) (xp := (.tmp 28)) (p := p42) (c := .slice A48 x40.length n49) (n := 1) (by kernel_rfl) (by kernel_rfl) (by kernel_rfl) (by kernel_rfl) hA45 ?_
            refine gl_pure 1 [0, 7, 8, 9, 21, 24, 29, 30] (K' := [(0, .slice A0_0 a0.length n0_0), (7, .slice A0_0 a0.length n0_0), (8, .int .i64 (a0.length : Int)), (9, .int .i64 s7), (21, .bool false), (24, .bool true), (29, .slice A48 x40.length n49), (30, .slice A28 x20.length n29)]) (by kernel_rfl) ?_
            obtain ⟨y51, hx52, hj34⟩ := bind_some hj34
            refine gl_callQ (by kernel_rfl) (tocsinref04_Compare_walk (r := y51) hf50 hf30 hx52 _) ?_
            refine gl_pure 3 [0, 7, 8, 9, 34] (K' := [(0, .slice A0_0 a0.length n0_0), (7, .slice A0_0 a0.length n0_0), (8, .int .i64 (a0.length : Int)), (9, .int .i64 s7), (34, .bool (decide (y51 ≥ 0)))]) (by kernel_rfl) ?_
            refine gl_atE (by kernel_rfl) ?_
            obtain rfl := some_inj hj34
            exact ge_mid fun t ht => ⟨(Imm.refl _), rfl, ht.pick (l := [0, 7, 8, 9, 34]) (by kernel_rfl)⟩
          · have hj34 := cond_f hc39 hj34
            refine gl_pure 10 [0, 7, 8, 9, 34] (K' := [(0, .slice A0_0 a0.length n0_0), (7, .slice A0_0 a0.length n0_0), (8, .int .i64 (a0.length : Int)), (9, .int .i64 s7), (34, .bool false)]) (by kernel_rfl) ?_
            refine gl_atE (by kernel_rfl) ?_
            obtain rfl := some_inj hj34
            exact ge_mid fun t ht => ⟨(Imm.refl _), rfl, ht.pick (l := [0, 7, 8, 9, 34]) (by kernel_rfl)⟩
      · rintro t I37 L' ⟨hI35, rfl, hK36⟩
        refine ge_at hK36 ?_
        refine ge_seq ?_
        refine gk_cond (b := j33) (by kernel_rfl) (by kernel_rfl) (fun hc53 => ?_) (fun hc53 => ?_)
        · have hb9 := cond_t hc53 hb9
          refine gk_seq (by kernel_rfl) ?_
          refine gk_region (by kernel_rfl) ?_
          refine gl_pure 1 [2] (K' := [(2, .bool false)]) (by kernel_rfl) ?_
          refine gl_atE (by kernel_rfl) ?_
          refine ge_seq ?_
          refine gk_ret (by kernel_rfl) ?_
          refine ge_block_ret ?_
          refine ge_seq_ret ?_
          obtain rfl := some_inj hb9
          refine ge_round_out (fun hrr => ?_) (by intro h; cases h)
          obtain rfl := hrr
          refine ge_block_ret ?_
          refine ge_seq_ret ?_
          refine ge_seq_ret ?_
          obtain rfl := some_inj hr
          exact ge_result trivial (ResOk.tmp (by kernel_rfl) ResOk.nil) (Imm.trans hI10 hI35) ⟨rfl, rfl⟩
        · have hb9 := cond_f hc53 hb9
          refine gk_skip (by kernel_rfl) ?_
          refine ge_block_normal ?_
          refine ge_seq ?_
          refine gk_region (by kernel_rfl) ?_
          refine gl_pure 2 [0, 7, 8, 9] (K' := [(0, .slice A0_0 a0.length n0_0), (7, .slice A0_0 a0.length n0_0), (8, .int .i64 (a0.length : Int)), (9, .int .i64 (IntKind.wrap .i64 (s7 + 1)))]) (by kernel_rfl) ?_
          refine gl_atE (by kernel_rfl) ?_
          obtain rfl := some_inj hb9
          exact ge_round fun t ht => ⟨(Imm.trans hI10 hI35), rfl, ht.pick (l := [0, 7, 8, 9]) (by kernel_rfl)⟩
    · have hb9 := cond_f hc19 hb9
      refine gk_exit (by kernel_rfl) ?_
      refine ge_seq_exit ?_
      obtain rfl := some_inj hb9
      refine ge_round_out (fun hrr => ?_) (by intro h; cases h)
      obtain rfl := hrr
      refine ge_block_hit (by kernel_rfl) ?_
      exact ge_mid fun t ht => ⟨_, rfl, hI10, rfl, ht.pick (l := []) (by kernel_rfl)⟩
  · rintro t I16 L' ⟨r13, rfl, hI14, rfl, hK15⟩
    refine ge_at hK15 ?_
    refine ge_seq ?_
    refine gk_seq (by kernel_rfl) ?_
    refine gk_region (by kernel_rfl) ?_
    refine gl_pure 1 [2] (K' := [(2, .bool true)]) (by kernel_rfl) ?_
    refine gl_atE (by kernel_rfl) ?_
    refine ge_seq ?_
    refine gk_ret (by kernel_rfl) ?_
    obtain rfl := some_inj hr
    exact ge_result trivial (ResOk.tmp (by kernel_rfl) ResOk.nil) hI14 ⟨rfl, rfl⟩
/-! 33 tocsinref26_Right  -/
noncomputable def tocsinref26_Right (a0 : S23) : Option Int :=
  Option.bind (bif (a0.f0.toList == (⟨#[]⟩ : ByteArray).toList) then
    (some true)
    else
    (bif (decide ((a0.f0.size : Int) > 64)) then
      (some true)
      else
      (Option.bind (tocsinref01_Utf8 a0.f0) fun (y9 : Bool) =>
        some (!y9)))) fun (j2 : Bool) =>
  bif j2 then
  (some 204)
  else
  (Option.bind (bif (a0.f1.toList == (⟨#[]⟩ : ByteArray).toList) then
      (some true)
      else
      (bif (decide ((a0.f1.size : Int) > 65536)) then
        (some true)
        else
        (Option.bind (tocsinref01_Utf8 a0.f1) fun (y19 : Bool) =>
          some (!y19)))) fun (j12 : Bool) =>
    bif j12 then
    (some 40)
    else
    (bif (!(tocsinref26_time a0.f2)) then
      (some 1)
      else
      (bif ((decide ((a0.f3.length : Int) > 500)) || (decide ((a0.f4.length : Int) > 500))) then
        (some 8)
        else
        (Option.bind (Option.bind (tocsinref26_rising a0.f3) fun (y35 : Bool) =>
            bif (!y35) then
            (some true)
            else
            (Option.bind (tocsinref26_rising a0.f4) fun (y38 : Bool) =>
              some (!y38))) fun (j30 : Bool) =>
          bif j30 then
          (some 41)
          else
          (some 0)))))
theorem tocsinref26_Right_walk {a0 : S23} {A0_3 : Option Addr} {n0_3 : Nat} {A0_4 : Option Addr} {n0_4 : Nat} {I : Imm} {r : Int}  (hf0_3 : RepS (Kd.sl kS79) I A0_3 n0_3 a0.f3) (hf0_4 : RepS (Kd.sl kS79) I A0_4 n0_4 a0.f4) (hr : tocsinref26_Right a0 = some r) (L : Own) :
    CallsTo Tryd.prog 33 #[.agg #[.string a0.f0, .string a0.f1, .int .i64 a0.f2, .slice A0_3 a0.f3.length n0_3, .slice A0_4 a0.f4.length n0_4]] I L (fun v I' L' => v = .int .i64 r ∧ L = L') := by
  unfold tocsinref26_Right at hr
  refine callsTo_body (N := 62) Tryd.func33 (by kernel_rfl) (by kernel_rfl) (by kernel_rfl) ?_
  refine gk_pick [0] (K' := [(0, .agg #[.string a0.f0, .string a0.f1, .int .i64 a0.f2, .slice A0_3 a0.f3.length n0_3, .slice A0_4 a0.f4.length n0_4])]) (by kernel_rfl) ?_
  refine gk_seq (by kernel_rfl) ?_
  refine gk_region (by kernel_rfl) ?_
  refine gl_box (T' := 24) (x := (.tmp 0)) (v := .agg #[.string a0.f0, .string a0.f1, .int .i64 a0.f2, .slice A0_3 a0.f3.length n0_3, .slice A0_4 a0.f4.length n0_4]) (cs := #[.string a0.f0, .string a0.f1, .int .i64 a0.f2, .slice A0_3 a0.f3.length n0_3, .slice A0_4 a0.f4.length n0_4]) (by kernel_rfl) (by kernel_rfl) (by kernel_rfl) (by kernel_rfl) (fun g1 => ?_)
  refine gl_pure 1 [1] (K' := [(1, .pointer (some ⟨g1, 0, none⟩))]) (by kernel_rfl) ?_
  refine gl_atE (by kernel_rfl) ?_
  refine ge_seq ?_
  refine gk_seq (by kernel_rfl) ?_
  refine gk_block (by kernel_rfl) ?_
  refine gk_seq (by kernel_rfl) ?_
  obtain ⟨j2, hj3, hr⟩ := bind_some hr
  refine gk_join (fun t I' L' => I ≤ I' ∧ (g1, .cells #[.string a0.f0, .string a0.f1, .int .i64 a0.f2, .slice A0_3 a0.f3.length n0_3, .slice A0_4 a0.f4.length n0_4] 24) :: L = L' ∧ Knows 62 [(1, .pointer (some ⟨g1, 0, none⟩)), (3, .bool j2)] t) ?_ ?_
  · refine gk_region (by kernel_rfl) ?_
    refine gl_pure 1 [1, 4] (K' := [(1, .pointer (some ⟨g1, 0, none⟩)), (4, .pointer (some ⟨g1, 0, none⟩))]) (by kernel_rfl) ?_
    refine gl_loadB (T' := 9) (xp := (.tmp 4)) (v := .string a0.f0) (g := g1) (off := 0) (cs := #[.string a0.f0, .string a0.f1, .int .i64 a0.f2, .slice A0_3 a0.f3.length n0_3, .slice A0_4 a0.f4.length n0_4]) (e := 24) (fz := (0, 0)) (by kernel_rfl) (by kernel_rfl) (by kernel_rfl) List.mem_cons_self (by kernel_rfl) ?_
    refine gl_pure 2 [1, 7] (K' := [(1, .pointer (some ⟨g1, 0, none⟩)), (7, .bool (a0.f0.toList == (⟨#[]⟩ : ByteArray).toList))]) (by kernel_rfl) ?_
    refine gl_case 7 (b := (a0.f0.toList == (⟨#[]⟩ : ByteArray).toList)) (by kernel_rfl) (fun hc7 => ?_) (fun hc7 => ?_)
    · have hj3 := cond_t hc7 hj3
      refine gl_pure 12 [1, 3] (K' := [(1, .pointer (some ⟨g1, 0, none⟩)), (3, .bool true)]) (by kernel_rfl) ?_
      refine gl_atE (by kernel_rfl) ?_
      obtain rfl := some_inj hj3
      exact ge_mid fun t ht => ⟨(Imm.refl _), rfl, ht.pick (l := [1, 3]) (by kernel_rfl)⟩
    · have hj3 := cond_f hc7 hj3
      refine gl_pure 1 [1, 7, 8] (K' := [(1, .pointer (some ⟨g1, 0, none⟩)), (7, .bool false), (8, .pointer (some ⟨g1, 0, none⟩))]) (by kernel_rfl) ?_
      refine gl_loadB (T' := 9) (xp := (.tmp 8)) (v := .string a0.f0) (g := g1) (off := 0) (cs := #[.string a0.f0, .string a0.f1, .int .i64 a0.f2, .slice A0_3 a0.f3.length n0_3, .slice A0_4 a0.f4.length n0_4]) (e := 24) (fz := (0, 0)) (by kernel_rfl) (by kernel_rfl) (by kernel_rfl) List.mem_cons_self (by kernel_rfl) ?_
      refine gl_pure 4 [1, 13] (K' := [(1, .pointer (some ⟨g1, 0, none⟩)), (13, .bool (decide ((a0.f0.size : Int) > 64)))]) (by kernel_rfl) ?_
      refine gl_case 13 (b := (decide ((a0.f0.size : Int) > 64))) (by kernel_rfl) (fun hc8 => ?_) (fun hc8 => ?_)
      · have hj3 := cond_t hc8 hj3
        refine gl_pure 6 [1, 3] (K' := [(1, .pointer (some ⟨g1, 0, none⟩)), (3, .bool true)]) (by kernel_rfl) ?_
        refine gl_atE (by kernel_rfl) ?_
        obtain rfl := some_inj hj3
        exact ge_mid fun t ht => ⟨(Imm.refl _), rfl, ht.pick (l := [1, 3]) (by kernel_rfl)⟩
      · have hj3 := cond_f hc8 hj3
        refine gl_pure 1 [1, 13, 14] (K' := [(1, .pointer (some ⟨g1, 0, none⟩)), (13, .bool false), (14, .pointer (some ⟨g1, 0, none⟩))]) (by kernel_rfl) ?_
        refine gl_loadB (T' := 9) (xp := (.tmp 14)) (v := .string a0.f0) (g := g1) (off := 0) (cs := #[.string a0.f0, .string a0.f1, .int .i64 a0.f2, .slice A0_3 a0.f3.length n0_3, .slice A0_4 a0.f4.length n0_4]) (e := 24) (fz := (0, 0)) (by kernel_rfl) (by kernel_rfl) (by kernel_rfl) List.mem_cons_self (by kernel_rfl) ?_
        obtain ⟨y9, hx10, hj3⟩ := bind_some hj3
        refine gl_callQ (by kernel_rfl) (tocsinref01_Utf8_walk (r := y9)  hx10 _) ?_
        refine gl_pure 3 [1, 3] (K' := [(1, .pointer (some ⟨g1, 0, none⟩)), (3, .bool (!y9))]) (by kernel_rfl) ?_
        refine gl_atE (by kernel_rfl) ?_
        obtain rfl := some_inj hj3
        exact ge_mid fun t ht => ⟨(Imm.refl _), rfl, ht.pick (l := [1, 3]) (by kernel_rfl)⟩
  · rintro t I6 L' ⟨hI4, rfl, hK5⟩
    refine ge_at hK5 ?_
    refine ge_seq ?_
    refine gk_cond (b := j2) (by kernel_rfl) (by kernel_rfl) (fun hc11 => ?_) (fun hc11 => ?_)
    · have hr := cond_t hc11 hr
      refine gk_seq (by kernel_rfl) ?_
      refine gk_region (by kernel_rfl) ?_
      refine gl_pure 1 [2] (K' := [(2, .int .i64 204)]) (by kernel_rfl) ?_
      refine gl_atE (by kernel_rfl) ?_
      refine ge_seq ?_
      refine gk_reord (D := L) (Reord.skip (Reord.refl _)) ?_
      refine gk_ret (by kernel_rfl) ?_
      refine ge_block_ret ?_
      refine ge_seq_ret ?_
      obtain rfl := some_inj hr
      exact ge_result trivial (ResOk.tmp (by kernel_rfl) ResOk.nil) hI4 ⟨rfl, rfl⟩
    · have hr := cond_f hc11 hr
      refine gk_seq (by kernel_rfl) ?_
      obtain ⟨j12, hj13, hr⟩ := bind_some hr
      refine gk_join (fun t I' L' => I6 ≤ I' ∧ (g1, .cells #[.string a0.f0, .string a0.f1, .int .i64 a0.f2, .slice A0_3 a0.f3.length n0_3, .slice A0_4 a0.f4.length n0_4] 24) :: L = L' ∧ Knows 62 [(1, .pointer (some ⟨g1, 0, none⟩)), (19, .bool j12)] t) ?_ ?_
      · refine gk_region (by kernel_rfl) ?_
        refine gl_pure 1 [1, 20] (K' := [(1, .pointer (some ⟨g1, 0, none⟩)), (20, .pointer (some ⟨g1, 1, none⟩))]) (by kernel_rfl) ?_
        refine gl_loadB (T' := 9) (xp := (.tmp 20)) (v := .string a0.f1) (g := g1) (off := 1) (cs := #[.string a0.f0, .string a0.f1, .int .i64 a0.f2, .slice A0_3 a0.f3.length n0_3, .slice A0_4 a0.f4.length n0_4]) (e := 24) (fz := (0, 0)) (by kernel_rfl) (by kernel_rfl) (by kernel_rfl) List.mem_cons_self (by kernel_rfl) ?_
        refine gl_pure 2 [1, 23] (K' := [(1, .pointer (some ⟨g1, 0, none⟩)), (23, .bool (a0.f1.toList == (⟨#[]⟩ : ByteArray).toList))]) (by kernel_rfl) ?_
        refine gl_case 23 (b := (a0.f1.toList == (⟨#[]⟩ : ByteArray).toList)) (by kernel_rfl) (fun hc17 => ?_) (fun hc17 => ?_)
        · have hj13 := cond_t hc17 hj13
          refine gl_pure 12 [1, 19] (K' := [(1, .pointer (some ⟨g1, 0, none⟩)), (19, .bool true)]) (by kernel_rfl) ?_
          refine gl_atE (by kernel_rfl) ?_
          obtain rfl := some_inj hj13
          exact ge_mid fun t ht => ⟨(Imm.refl _), rfl, ht.pick (l := [1, 19]) (by kernel_rfl)⟩
        · have hj13 := cond_f hc17 hj13
          refine gl_pure 1 [1, 23, 24] (K' := [(1, .pointer (some ⟨g1, 0, none⟩)), (23, .bool false), (24, .pointer (some ⟨g1, 1, none⟩))]) (by kernel_rfl) ?_
          refine gl_loadB (T' := 9) (xp := (.tmp 24)) (v := .string a0.f1) (g := g1) (off := 1) (cs := #[.string a0.f0, .string a0.f1, .int .i64 a0.f2, .slice A0_3 a0.f3.length n0_3, .slice A0_4 a0.f4.length n0_4]) (e := 24) (fz := (0, 0)) (by kernel_rfl) (by kernel_rfl) (by kernel_rfl) List.mem_cons_self (by kernel_rfl) ?_
          refine gl_pure 4 [1, 29] (K' := [(1, .pointer (some ⟨g1, 0, none⟩)), (29, .bool (decide ((a0.f1.size : Int) > 65536)))]) (by kernel_rfl) ?_
          refine gl_case 29 (b := (decide ((a0.f1.size : Int) > 65536))) (by kernel_rfl) (fun hc18 => ?_) (fun hc18 => ?_)
          · have hj13 := cond_t hc18 hj13
            refine gl_pure 6 [1, 19] (K' := [(1, .pointer (some ⟨g1, 0, none⟩)), (19, .bool true)]) (by kernel_rfl) ?_
            refine gl_atE (by kernel_rfl) ?_
            obtain rfl := some_inj hj13
            exact ge_mid fun t ht => ⟨(Imm.refl _), rfl, ht.pick (l := [1, 19]) (by kernel_rfl)⟩
          · have hj13 := cond_f hc18 hj13
            refine gl_pure 1 [1, 29, 30] (K' := [(1, .pointer (some ⟨g1, 0, none⟩)), (29, .bool false), (30, .pointer (some ⟨g1, 1, none⟩))]) (by kernel_rfl) ?_
            refine gl_loadB (T' := 9) (xp := (.tmp 30)) (v := .string a0.f1) (g := g1) (off := 1) (cs := #[.string a0.f0, .string a0.f1, .int .i64 a0.f2, .slice A0_3 a0.f3.length n0_3, .slice A0_4 a0.f4.length n0_4]) (e := 24) (fz := (0, 0)) (by kernel_rfl) (by kernel_rfl) (by kernel_rfl) List.mem_cons_self (by kernel_rfl) ?_
            obtain ⟨y19, hx20, hj13⟩ := bind_some hj13
            refine gl_callQ (by kernel_rfl) (tocsinref01_Utf8_walk (r := y19)  hx20 _) ?_
            refine gl_pure 3 [1, 19] (K' := [(1, .pointer (some ⟨g1, 0, none⟩)), (19, .bool (!y19))]) (by kernel_rfl) ?_
            refine gl_atE (by kernel_rfl) ?_
            obtain rfl := some_inj hj13
            exact ge_mid fun t ht => ⟨(Imm.refl _), rfl, ht.pick (l := [1, 19]) (by kernel_rfl)⟩
      · rintro t I16 L' ⟨hI14, rfl, hK15⟩
        refine ge_at hK15 ?_
        refine ge_seq ?_
        refine gk_cond (b := j12) (by kernel_rfl) (by kernel_rfl) (fun hc21 => ?_) (fun hc21 => ?_)
        · have hr := cond_t hc21 hr
          refine gk_seq (by kernel_rfl) ?_
          refine gk_region (by kernel_rfl) ?_
          refine gl_pure 1 [2] (K' := [(2, .int .i64 40)]) (by kernel_rfl) ?_
          refine gl_atE (by kernel_rfl) ?_
          refine ge_seq ?_
          refine gk_reord (D := L) (Reord.skip (Reord.refl _)) ?_
          refine gk_ret (by kernel_rfl) ?_
          refine ge_block_ret ?_
          refine ge_seq_ret ?_
          obtain rfl := some_inj hr
          exact ge_result trivial (ResOk.tmp (by kernel_rfl) ResOk.nil) (Imm.trans hI4 hI14) ⟨rfl, rfl⟩
        · have hr := cond_f hc21 hr
          refine gk_seq (by kernel_rfl) ?_
          refine gk_region (by kernel_rfl) ?_
          refine gl_pure 1 [1, 36] (K' := [(1, .pointer (some ⟨g1, 0, none⟩)), (36, .pointer (some ⟨g1, 2, none⟩))]) (by kernel_rfl) ?_
          refine gl_loadB (T' := 2) (xp := (.tmp 36)) (v := .int .i64 a0.f2) (g := g1) (off := 2) (cs := #[.string a0.f0, .string a0.f1, .int .i64 a0.f2, .slice A0_3 a0.f3.length n0_3, .slice A0_4 a0.f4.length n0_4]) (e := 24) (fz := (0, 0)) (by kernel_rfl) (by kernel_rfl) (by kernel_rfl) List.mem_cons_self (by kernel_rfl) ?_
          refine gl_callQ (by kernel_rfl) (tocsinref26_time_walk (r := (tocsinref26_time a0.f2))  rfl _) ?_
          refine gl_pure 2 [1, 35] (K' := [(1, .pointer (some ⟨g1, 0, none⟩)), (35, .bool (!(tocsinref26_time a0.f2)))]) (by kernel_rfl) ?_
          refine gl_atE (by kernel_rfl) ?_
          refine ge_seq ?_
          refine gk_cond (b := (!(tocsinref26_time a0.f2))) (by kernel_rfl) (by kernel_rfl) (fun hc22 => ?_) (fun hc22 => ?_)
          · have hr := cond_t hc22 hr
            refine gk_seq (by kernel_rfl) ?_
            refine gk_region (by kernel_rfl) ?_
            refine gl_pure 1 [2] (K' := [(2, .int .i64 1)]) (by kernel_rfl) ?_
            refine gl_atE (by kernel_rfl) ?_
            refine ge_seq ?_
            refine gk_reord (D := L) (Reord.skip (Reord.refl _)) ?_
            refine gk_ret (by kernel_rfl) ?_
            refine ge_block_ret ?_
            refine ge_seq_ret ?_
            obtain rfl := some_inj hr
            exact ge_result trivial (ResOk.tmp (by kernel_rfl) ResOk.nil) (Imm.trans hI4 hI14) ⟨rfl, rfl⟩
          · have hr := cond_f hc22 hr
            refine gk_seq (by kernel_rfl) ?_
            obtain ⟨b25, hb26⟩ : ∃ z, z = ((decide ((a0.f3.length : Int) > 500)) || (decide ((a0.f4.length : Int) > 500))) := ⟨_, rfl⟩
            refine gk_join (fun t I' L' => I16 ≤ I' ∧ (g1, .cells #[.string a0.f0, .string a0.f1, .int .i64 a0.f2, .slice A0_3 a0.f3.length n0_3, .slice A0_4 a0.f4.length n0_4] 24) :: L = L' ∧ Knows 62 [(1, .pointer (some ⟨g1, 0, none⟩)), (40, .bool b25)] t) ?_ ?_
            · refine gk_region (by kernel_rfl) ?_
              refine gl_pure 1 [1, 41] (K' := [(1, .pointer (some ⟨g1, 0, none⟩)), (41, .pointer (some ⟨g1, 3, none⟩))]) (by kernel_rfl) ?_
              refine gl_loadB (T' := 22) (xp := (.tmp 41)) (v := .slice A0_3 a0.f3.length n0_3) (g := g1) (off := 3) (cs := #[.string a0.f0, .string a0.f1, .int .i64 a0.f2, .slice A0_3 a0.f3.length n0_3, .slice A0_4 a0.f4.length n0_4]) (e := 24) (fz := (0, 0)) (by kernel_rfl) (by kernel_rfl) (by kernel_rfl) List.mem_cons_self (by kernel_rfl) ?_
              refine gl_pure 3 [1, 45] (K' := [(1, .pointer (some ⟨g1, 0, none⟩)), (45, .bool (decide ((a0.f3.length : Int) > 500)))]) (by kernel_rfl) ?_
              refine gl_case 45 (b := (decide ((a0.f3.length : Int) > 500))) (by kernel_rfl) (fun hc28 => ?_) (fun hc28 => ?_)
              · refine gl_pure 6 [1, 40] (K' := [(1, .pointer (some ⟨g1, 0, none⟩)), (40, .bool true)]) (by kernel_rfl) ?_
                refine gl_atE (by kernel_rfl) ?_
                exact ge_mid fun t ht => ⟨(Imm.refl _), rfl, by rw [(show b25 = true from hb26.trans (by rw [hc28]; try rfl))]; exact ht.pick (l := [1, 40]) (by kernel_rfl)⟩
              · refine gl_pure 1 [1, 45, 46] (K' := [(1, .pointer (some ⟨g1, 0, none⟩)), (45, .bool false), (46, .pointer (some ⟨g1, 4, none⟩))]) (by kernel_rfl) ?_
                refine gl_loadB (T' := 22) (xp := (.tmp 46)) (v := .slice A0_4 a0.f4.length n0_4) (g := g1) (off := 4) (cs := #[.string a0.f0, .string a0.f1, .int .i64 a0.f2, .slice A0_3 a0.f3.length n0_3, .slice A0_4 a0.f4.length n0_4]) (e := 24) (fz := (0, 0)) (by kernel_rfl) (by kernel_rfl) (by kernel_rfl) List.mem_cons_self (by kernel_rfl) ?_
                refine gl_pure 4 [1, 40] (K' := [(1, .pointer (some ⟨g1, 0, none⟩)), (40, .bool (decide ((a0.f4.length : Int) > 500)))]) (by kernel_rfl) ?_
                refine gl_atE (by kernel_rfl) ?_
                exact ge_mid fun t ht => ⟨(Imm.refl _), rfl, by rw [(show b25 = (decide ((a0.f4.length : Int) > 500)) from hb26.trans (by rw [hc28]; try rfl))]; exact ht.pick (l := [1, 40]) (by kernel_rfl)⟩
            · rintro t I27 L' ⟨hI23, rfl, hK24⟩
              subst hb26
              refine ge_at hK24 ?_
              refine ge_seq ?_
              refine gk_cond (b := ((decide ((a0.f3.length : Int) > 500)) || (decide ((a0.f4.length : Int) > 500)))) (by kernel_rfl) (by kernel_rfl) (fun hc29 => ?_) (fun hc29 => ?_)
              · have hr := cond_t hc29 hr
                refine gk_seq (by kernel_rfl) ?_
                refine gk_region (by kernel_rfl) ?_
                refine gl_pure 1 [2] (K' := [(2, .int .i64 8)]) (by kernel_rfl) ?_
                refine gl_atE (by kernel_rfl) ?_
                refine ge_seq ?_
                refine gk_reord (D := L) (Reord.skip (Reord.refl _)) ?_
                refine gk_ret (by kernel_rfl) ?_
                refine ge_block_ret ?_
                refine ge_seq_ret ?_
                obtain rfl := some_inj hr
                exact ge_result trivial (ResOk.tmp (by kernel_rfl) ResOk.nil) (Imm.trans (Imm.trans hI4 hI14) hI23) ⟨rfl, rfl⟩
              · have hr := cond_f hc29 hr
                refine gk_seq (by kernel_rfl) ?_
                obtain ⟨j30, hj31, hr⟩ := bind_some hr
                refine gk_join (fun t I' L' => I27 ≤ I' ∧ L = L' ∧ Knows 62 [(51, .bool j30)] t) ?_ ?_
                · refine gk_region (by kernel_rfl) ?_
                  refine gl_pure 1 [1, 52] (K' := [(1, .pointer (some ⟨g1, 0, none⟩)), (52, .pointer (some ⟨g1, 3, none⟩))]) (by kernel_rfl) ?_
                  refine gl_loadB (T' := 22) (xp := (.tmp 52)) (v := .slice A0_3 a0.f3.length n0_3) (g := g1) (off := 3) (cs := #[.string a0.f0, .string a0.f1, .int .i64 a0.f2, .slice A0_3 a0.f3.length n0_3, .slice A0_4 a0.f4.length n0_4]) (e := 24) (fz := (0, 0)) (by kernel_rfl) (by kernel_rfl) (by kernel_rfl) List.mem_cons_self (by kernel_rfl) ?_
                  obtain ⟨y35, hx36, hj31⟩ := bind_some hj31
                  refine gl_callQ (by kernel_rfl) (tocsinref26_rising_walk (r := y35) (hf0_3.mono (Imm.trans (Imm.trans hI4 hI14) hI23)) hx36 _) ?_
                  refine gl_pure 2 [1, 56] (K' := [(1, .pointer (some ⟨g1, 0, none⟩)), (56, .bool (!y35))]) (by kernel_rfl) ?_
                  refine gl_case 56 (b := (!y35)) (by kernel_rfl) (fun hc37 => ?_) (fun hc37 => ?_)
                  · have hj31 := cond_t hc37 hj31
                    refine gl_pure 6 [51] (K' := [(51, .bool true)]) (by kernel_rfl) ?_
                    refine gl_reord (D := L) (Reord.skip (Reord.refl _)) ?_
                    refine gl_atE (by kernel_rfl) ?_
                    obtain rfl := some_inj hj31
                    exact ge_mid fun t ht => ⟨(Imm.refl _), rfl, ht.pick (l := [51]) (by kernel_rfl)⟩
                  · have hj31 := cond_f hc37 hj31
                    refine gl_pure 1 [56, 57] (K' := [(56, .bool false), (57, .pointer (some ⟨g1, 4, none⟩))]) (by kernel_rfl) ?_
                    refine gl_loadB (T' := 22) (xp := (.tmp 57)) (v := .slice A0_4 a0.f4.length n0_4) (g := g1) (off := 4) (cs := #[.string a0.f0, .string a0.f1, .int .i64 a0.f2, .slice A0_3 a0.f3.length n0_3, .slice A0_4 a0.f4.length n0_4]) (e := 24) (fz := (0, 0)) (by kernel_rfl) (by kernel_rfl) (by kernel_rfl) List.mem_cons_self (by kernel_rfl) ?_
                    obtain ⟨y38, hx39, hj31⟩ := bind_some hj31
                    refine gl_callQ (by kernel_rfl) (tocsinref26_rising_walk (r := y38) (hf0_4.mono (Imm.trans (Imm.trans hI4 hI14) hI23)) hx39 _) ?_
                    refine gl_pure 3 [51] (K' := [(51, .bool (!y38))]) (by kernel_rfl) ?_
                    refine gl_reord (D := L) (Reord.skip (Reord.refl _)) ?_
                    refine gl_atE (by kernel_rfl) ?_
                    obtain rfl := some_inj hj31
                    exact ge_mid fun t ht => ⟨(Imm.refl _), rfl, ht.pick (l := [51]) (by kernel_rfl)⟩
                · rintro t I34 L' ⟨hI32, rfl, hK33⟩
                  refine ge_at hK33 ?_
                  refine ge_seq ?_
                  refine gk_cond (b := j30) (by kernel_rfl) (by kernel_rfl) (fun hc40 => ?_) (fun hc40 => ?_)
                  · have hr := cond_t hc40 hr
                    refine gk_seq (by kernel_rfl) ?_
                    refine gk_region (by kernel_rfl) ?_
                    refine gl_pure 1 [2] (K' := [(2, .int .i64 41)]) (by kernel_rfl) ?_
                    refine gl_atE (by kernel_rfl) ?_
                    refine ge_seq ?_
                    refine gk_ret (by kernel_rfl) ?_
                    refine ge_block_ret ?_
                    refine ge_seq_ret ?_
                    obtain rfl := some_inj hr
                    exact ge_result trivial (ResOk.tmp (by kernel_rfl) ResOk.nil) (Imm.trans (Imm.trans (Imm.trans hI4 hI14) hI23) hI32) ⟨rfl, rfl⟩
                  · have hr := cond_f hc40 hr
                    refine gk_skip (by kernel_rfl) ?_
                    refine ge_block_normal ?_
                    refine ge_seq ?_
                    refine gk_seq (by kernel_rfl) ?_
                    refine gk_region (by kernel_rfl) ?_
                    refine gl_pure 1 [2] (K' := [(2, .int .i64 0)]) (by kernel_rfl) ?_
                    refine gl_atE (by kernel_rfl) ?_
                    refine ge_seq ?_
                    refine gk_ret (by kernel_rfl) ?_
                    obtain rfl := some_inj hr
                    exact ge_result trivial (ResOk.tmp (by kernel_rfl) ResOk.nil) (Imm.trans (Imm.trans (Imm.trans hI4 hI14) hI23) hI32) ⟨rfl, rfl⟩
/-! 99 tocsinref01_joined  -/
noncomputable def tocsinref01_joined (a0 : List Int) (a1 : List Int) : Option (List Int) :=
  Option.bind (app ([] : List Int) a0) fun (zs1 : List Int) =>
  Option.bind (app zs1 a1) fun (zs7 : List Int) =>
  some zs7
theorem tocsinref01_joined_walk {a0 : List Int} {A0_0 : Option Addr} {n0_0 : Nat} {a1 : List Int} {A1_0 : Option Addr} {n1_0 : Nat} {I : Imm} {r : (List Int)}  (hf0_0 : RepS (Kd.int .u8) I A0_0 n0_0 a0)  (hf1_0 : RepS (Kd.int .u8) I A1_0 n1_0 a1) (hr : tocsinref01_joined a0 a1 = some r) (L : Own) :
    CallsTo Tryd.prog 99 #[.slice A0_0 a0.length n0_0, .slice A1_0 a1.length n1_0] I L (fun v I' L' => ∃ A0 c0 C0, OwnS (Kd.int .u8) 5 I' A0 c0 r C0 ∧ v = .slice A0 r.length c0 ∧ C0 ++ L = L') := by
  unfold tocsinref01_joined at hr
  refine callsTo_body (N := 13) Tryd.func99 (by kernel_rfl) (by kernel_rfl) (by kernel_rfl) ?_
  refine gk_pick [0, 1] (K' := [(0, .slice A0_0 a0.length n0_0), (1, .slice A1_0 a1.length n1_0)]) (by kernel_rfl) ?_
  refine gk_seq (by kernel_rfl) ?_
  refine gk_region (by kernel_rfl) ?_
  refine gl_pure 1 [0, 1] (K' := [(0, .slice A0_0 a0.length n0_0), (1, .slice A1_0 a1.length n1_0)]) (by kernel_rfl) ?_
  refine gl_atE (by kernel_rfl) ?_
  refine ge_seq ?_
  refine gk_seq (by kernel_rfl) ?_
  refine gk_region (by kernel_rfl) ?_
  refine gl_pure 1 [0, 1, 5] (K' := [(0, .slice A0_0 a0.length n0_0), (1, .slice A1_0 a1.length n1_0), (5, .slice none 0 0)]) (by kernel_rfl) ?_
  refine gl_atE (by kernel_rfl) ?_
  refine ge_seq ?_
  refine gk_seq (by kernel_rfl) ?_
  refine gk_region (by kernel_rfl) ?_
  refine gl_pure 2 [1, 6, 7] (K' := [(1, .slice A1_0 a1.length n1_0), (6, .slice none 0 0), (7, .slice A0_0 a0.length n0_0)]) (by kernel_rfl) ?_
  obtain ⟨zs1, hz2, hr⟩ := bind_some hr
  refine gl_append (xv := .slice A0_0 a0.length n0_0) (d := (Kd.int .u8)) (t := 58) (tx := 58) (e := 5) (s := (.tmp 6)) (x := (.tmp 7)) (xs := []) (A := none) (c := 0) (C := []) (fun X => X ++ L) hz2 (by kernel_rfl) (by kernel_rfl) (by kernel_rfl) (by kernel_rfl) (by kernel_rfl) (by kernel_rfl) (fun X => Upd.new X _) (OwnS.nil _ _ _ none) (SrcOk.slice (c := n0_0) (e := 5) (n := 1) (RepS.rd hf0_0 _) (by kernel_rfl)) (fun A3 n4 C5 hO6 => ?_)
  refine gl_pure 1 [1, 5] (K' := [(1, .slice A1_0 a1.length n1_0), (5, .slice A3 zs1.length n4)]) (by kernel_rfl) ?_
  refine gl_atE (by kernel_rfl) ?_
  refine ge_seq ?_
  refine gk_seq (by kernel_rfl) ?_
  refine gk_region (by kernel_rfl) ?_
  refine gl_pure 2 [9, 10] (K' := [(9, .slice A3 zs1.length n4), (10, .slice A1_0 a1.length n1_0)]) (by kernel_rfl) ?_
  obtain ⟨zs7, hz8, hr⟩ := bind_some hr
  refine gl_append (xv := .slice A1_0 a1.length n1_0) (d := (Kd.int .u8)) (t := 58) (tx := 58) (e := 5) (s := (.tmp 9)) (x := (.tmp 10)) (xs := zs1) (fun X => X ++ L) hz8 (by kernel_rfl) (by kernel_rfl) (by kernel_rfl) (by kernel_rfl) (by kernel_rfl) (by kernel_rfl) (fun X => (Upd.head _ X _)) hO6 (SrcOk.slice (c := n1_0) (e := 5) (n := 1) (RepS.rd hf1_0 _) (by kernel_rfl)) (fun A9 n10 C11 hO12 => ?_)
  refine gl_pure 1 [5] (K' := [(5, .slice A9 zs7.length n10)]) (by kernel_rfl) ?_
  refine gl_atE (by kernel_rfl) ?_
  refine ge_seq ?_
  refine gk_seq (by kernel_rfl) ?_
  refine gk_region (by kernel_rfl) ?_
  refine gl_pure 2 [4] (K' := [(4, .slice A9 zs7.length n10)]) (by kernel_rfl) ?_
  refine gl_atE (by kernel_rfl) ?_
  refine ge_seq ?_
  refine gk_ret (by kernel_rfl) ?_
  obtain rfl := some_inj hr
  exact ge_result trivial (ResOk.tmp (by kernel_rfl) ResOk.nil) (Imm.refl _) ⟨A9, n10, C11, hO12, rfl, rfl⟩
/-! 60 tocsinref01_PutU  -/
noncomputable def tocsinref01_PutU_l28 : (Int × (List Int)) → Option ((Int × (List Int)) ⊕ (Int × (List Int))) := fun s11 =>
  bif (decide (s11.1 ≥ 128)) then
  (Option.bind (app s11.2 [(IntKind.wrap .u8 ((IntKind.wrap .u8 (Int.tmod s11.1 128)) + 128))]) fun (zs35 : List Int) =>
    some (Sum.inl ((IntKind.wrap .u64 (Int.tdiv s11.1 128)), zs35)))
  else
  (some (Sum.inr (s11.1, s11.2)))
noncomputable def tocsinref01_PutU (a0 : List Int) (a1 : Int) : Option (List Int) :=
  Option.bind (loopO tocsinref01_PutU_l28 (a1, [])) fun (r9 : Int × (List Int)) =>
  Option.bind (app r9.2 [(IntKind.wrap .u8 r9.1)]) fun (zs45 : List Int) =>
  Option.bind (tocsinref01_joined a0 zs45) fun (y55 : (List Int)) =>
  some y55
theorem tocsinref01_PutU_walk {a0 : List Int} {A0_0 : Option Addr} {n0_0 : Nat} {a1 : Int} {I : Imm} {r : (List Int)}  (hf0_0 : RepS (Kd.int .u8) I A0_0 n0_0 a0) (hr : tocsinref01_PutU a0 a1 = some r) (L : Own) :
    CallsTo Tryd.prog 60 #[.slice A0_0 a0.length n0_0, .int .u64 a1] I L (fun v I' L' => ∃ A0 c0 C0, OwnS (Kd.int .u8) 5 I' A0 c0 r C0 ∧ v = .slice A0 r.length c0 ∧ C0 ++ L = L') := by
  unfold tocsinref01_PutU at hr
  refine callsTo_body (N := 25) Tryd.func60 (by kernel_rfl) (by kernel_rfl) (by kernel_rfl) ?_
  refine gk_pick [0, 1] (K' := [(0, .slice A0_0 a0.length n0_0), (1, .int .u64 a1)]) (by kernel_rfl) ?_
  refine gk_seq (by kernel_rfl) ?_
  refine gk_region (by kernel_rfl) ?_
  refine gl_pure 1 [0, 1] (K' := [(0, .slice A0_0 a0.length n0_0), (1, .int .u64 a1)]) (by kernel_rfl) ?_
  refine gl_atE (by kernel_rfl) ?_
  refine ge_seq ?_
  refine gk_seq (by kernel_rfl) ?_
  refine gk_region (by kernel_rfl) ?_
  refine gl_pure 1 [0, 1, 5] (K' := [(0, .slice A0_0 a0.length n0_0), (1, .int .u64 a1), (5, .slice none 0 0)]) (by kernel_rfl) ?_
  refine gl_atE (by kernel_rfl) ?_
  refine ge_seq ?_
  refine gk_seq (by kernel_rfl) ?_
  obtain ⟨r9, hl10, hr⟩ := bind_some hr
  refine gk_join (fun t I' L' => ∃ A22 n23 C24, OwnS (Kd.int .u8) 5 I' A22 n23 r9.2 C24 ∧ I ≤ I' ∧ C24 ++ L = L' ∧ Knows 25 [(0, .slice A0_0 a0.length n0_0), (1, .int .u64 r9.1), (5, .slice A22 r9.2.length n23)] t) ?_ ?_
  · refine gk_block (by kernel_rfl) ?_
    refine gk_pick [0, 1, 5] (K' := [(0, .slice A0_0 a0.length n0_0), (1, .int .u64 a1), (5, .slice none 0 0)]) (by kernel_rfl) ?_
    intro t hK
    refine gc_loop (tocsinref01_PutU_l28) (fun s11 t I' L' => ∃ A15 n16 C17, OwnS (Kd.int .u8) 5 I' A15 n16 s11.2 C17 ∧ I ≤ I' ∧ C17 ++ L = L' ∧ Knows 25 [(0, .slice A0_0 a0.length n0_0), (1, .int .u64 s11.1), (5, .slice A15 s11.2.length n16)] t) (by kernel_rfl) ?_ hl10 ⟨none, 0, [], OwnS.nil _ _ _ _, (Imm.refl _), rfl, hK⟩
    rintro s11 o12 t I20 L' hb13 ⟨A15, n16, C17, hO18, hI14, rfl, hK19⟩
    unfold tocsinref01_PutU_l28 at hb13
    refine gk_at hK19 ?_
    refine gk_seq (by kernel_rfl) ?_
    refine gk_seq (by kernel_rfl) ?_
    refine gk_region (by kernel_rfl) ?_
    refine gl_pure 2 [0, 1, 5, 7] (K' := [(0, .slice A0_0 a0.length n0_0), (1, .int .u64 s11.1), (5, .slice A15 s11.2.length n16), (7, .bool (decide (s11.1 ≥ 128)))]) (by kernel_rfl) ?_
    refine gl_atE (by kernel_rfl) ?_
    refine ge_seq ?_
    refine gk_cond (b := (decide (s11.1 ≥ 128))) (by kernel_rfl) (by kernel_rfl) (fun hc30 => ?_) (fun hc30 => ?_)
    · have hb13 := cond_t hc30 hb13
      refine gk_skip (by kernel_rfl) ?_
      refine ge_seq ?_
      refine gk_block (by kernel_rfl) ?_
      refine gk_seq (by kernel_rfl) ?_
      refine gk_region (by kernel_rfl) ?_
      refine gl_pure 5 [0, 1, 8, 12] (K' := [(0, .slice A0_0 a0.length n0_0), (1, .int .u64 s11.1), (8, .slice A15 s11.2.length n16), (12, .int .u8 (IntKind.wrap .u8 ((IntKind.wrap .u8 (Int.tmod s11.1 128)) + 128)))]) (by kernel_rfl) ?_
      refine gl_buildSlice (T' := 58) (e := 5) (n := 1) (len := 1) (parts := #[(0, (.tmp 12))]) (l := [(0, .int .u8 (IntKind.wrap .u8 ((IntKind.wrap .u8 (Int.tmod s11.1 128)) + 128)))]) (cs := #[.int .u8 (IntKind.wrap .u8 ((IntKind.wrap .u8 (Int.tmod s11.1 128)) + 128))]) (by kernel_rfl) (by kernel_rfl) (by kernel_rfl) (by kernel_rfl) (by kernel_rfl) (fun g31 => ?_)
      have hO32 : OwnS (Kd.int .u8) 5 I20 (some ⟨g31, 0, none⟩) 1 [(IntKind.wrap .u8 ((IntKind.wrap .u8 (Int.tmod s11.1 128)) + 128))] [(g31, .cells #[.int .u8 (IntKind.wrap .u8 ((IntKind.wrap .u8 (Int.tmod s11.1 128)) + 128))] 5)] := OwnS.lit (row_cons (l := [.int .u8 (IntKind.wrap .u8 ((IntKind.wrap .u8 (Int.tmod s11.1 128)) + 128))]) rfl (row_nil _ _)) rfl rfl rfl
      refine gl_reord (D := [(g31, .cells #[.int .u8 (IntKind.wrap .u8 ((IntKind.wrap .u8 (Int.tmod s11.1 128)) + 128))] 5)] ++ (C17 ++ L)) (Reord.refl _) ?_
      obtain ⟨zs35, hz36, hb13⟩ := bind_some hb13
      refine gl_append (xv := .slice (some ⟨g31, 0, none⟩) [(IntKind.wrap .u8 ((IntKind.wrap .u8 (Int.tmod s11.1 128)) + 128))].length 1) (d := (Kd.int .u8)) (t := 58) (tx := 58) (e := 5) (s := (.tmp 8)) (x := (.tmp 13)) (xs := s11.2) (fun X => [(g31, .cells #[.int .u8 (IntKind.wrap .u8 ((IntKind.wrap .u8 (Int.tmod s11.1 128)) + 128))] 5)] ++ (X ++ L)) hz36 (by kernel_rfl) (by kernel_rfl) (by kernel_rfl) (by kernel_rfl) (by kernel_rfl) (by kernel_rfl) (fun X => (Upd.app _ (Upd.head _ X _))) hO18 (SrcOk.slice (c := 1) (e := 5) (n := 1) (OwnS.rd hO32 (Upd.selfC _ _)) (by kernel_rfl)) (fun A37 n38 C39 hO40 => ?_)
      refine gl_pure 1 [0, 1, 5] (K' := [(0, .slice A0_0 a0.length n0_0), (1, .int .u64 s11.1), (5, .slice A37 zs35.length n38)]) (by kernel_rfl) ?_
      refine gl_atE (by kernel_rfl) ?_
      refine ge_seq ?_
      refine gk_region (by kernel_rfl) ?_
      refine gl_pure 3 [0, 1, 5] (K' := [(0, .slice A0_0 a0.length n0_0), (1, .int .u64 (IntKind.wrap .u64 (Int.tdiv s11.1 128))), (5, .slice A37 zs35.length n38)]) (by kernel_rfl) ?_
      refine gl_reord (D := C39 ++ L) (Reord.step (Upd.app _ (Upd.rmC _ _)) (Reord.skipC (Reord.refl _))) ?_
      refine gl_atE (by kernel_rfl) ?_
      refine ge_block_normal ?_
      obtain rfl := some_inj hb13
      exact ge_round fun t ht => ⟨A37, n38, C39, hO40, hI14, rfl, ht.pick (l := [0, 1, 5]) (by kernel_rfl)⟩
    · have hb13 := cond_f hc30 hb13
      refine gk_exit (by kernel_rfl) ?_
      refine ge_seq_exit ?_
      obtain rfl := some_inj hb13
      refine ge_round_out (fun hrr => ?_) (by intro h; cases h)
      obtain rfl := hrr
      refine ge_block_hit (by kernel_rfl) ?_
      exact ge_mid fun t ht => ⟨A15, n16, C17, hO18, hI14, rfl, ht.pick (l := [0, 1, 5]) (by kernel_rfl)⟩
  · rintro t I27 L' ⟨A22, n23, C24, hO25, hI21, rfl, hK26⟩
    refine ge_at hK26 ?_
    refine ge_seq ?_
    refine gk_seq (by kernel_rfl) ?_
    refine gk_region (by kernel_rfl) ?_
    refine gl_pure 3 [0, 17, 19] (K' := [(0, .slice A0_0 a0.length n0_0), (17, .slice A22 r9.2.length n23), (19, .int .u8 (IntKind.wrap .u8 r9.1))]) (by kernel_rfl) ?_
    refine gl_buildSlice (T' := 58) (e := 5) (n := 1) (len := 1) (parts := #[(0, (.tmp 19))]) (l := [(0, .int .u8 (IntKind.wrap .u8 r9.1))]) (cs := #[.int .u8 (IntKind.wrap .u8 r9.1)]) (by kernel_rfl) (by kernel_rfl) (by kernel_rfl) (by kernel_rfl) (by kernel_rfl) (fun g41 => ?_)
    have hO42 : OwnS (Kd.int .u8) 5 I27 (some ⟨g41, 0, none⟩) 1 [(IntKind.wrap .u8 r9.1)] [(g41, .cells #[.int .u8 (IntKind.wrap .u8 r9.1)] 5)] := OwnS.lit (row_cons (l := [.int .u8 (IntKind.wrap .u8 r9.1)]) rfl (row_nil _ _)) rfl rfl rfl
    refine gl_reord (D := [(g41, .cells #[.int .u8 (IntKind.wrap .u8 r9.1)] 5)] ++ (C24 ++ L)) (Reord.refl _) ?_
    obtain ⟨zs45, hz46, hr⟩ := bind_some hr
    refine gl_append (xv := .slice (some ⟨g41, 0, none⟩) [(IntKind.wrap .u8 r9.1)].length 1) (d := (Kd.int .u8)) (t := 58) (tx := 58) (e := 5) (s := (.tmp 17)) (x := (.tmp 20)) (xs := r9.2) (fun X => [(g41, .cells #[.int .u8 (IntKind.wrap .u8 r9.1)] 5)] ++ (X ++ L)) hz46 (by kernel_rfl) (by kernel_rfl) (by kernel_rfl) (by kernel_rfl) (by kernel_rfl) (by kernel_rfl) (fun X => (Upd.app _ (Upd.head _ X _))) hO25 (SrcOk.slice (c := 1) (e := 5) (n := 1) (OwnS.rd hO42 (Upd.selfC _ _)) (by kernel_rfl)) (fun A47 n48 C49 hO50 => ?_)
    refine gl_pure 1 [0, 5] (K' := [(0, .slice A0_0 a0.length n0_0), (5, .slice A47 zs45.length n48)]) (by kernel_rfl) ?_
    refine gl_atE (by kernel_rfl) ?_
    refine ge_seq ?_
    refine gk_seq (by kernel_rfl) ?_
    refine gk_region (by kernel_rfl) ?_
    refine gl_pure 2 [22, 23] (K' := [(22, .slice A0_0 a0.length n0_0), (23, .slice A47 zs45.length n48)]) (by kernel_rfl) ?_
    refine gl_rest (Tk.step (Upd.app _ (Upd.rmC _ _)) (Tk.nil _)) (fun J51 hJ52 hC53 => ?_)
    have hf54 := (OwnS.rest hO50 hJ52 hC53.left)
    obtain ⟨y55, hx56, hr⟩ := bind_some hr
    refine gl_call (by kernel_rfl) (tocsinref01_joined_walk (r := y55) (hf0_0.mono (Imm.trans hI21 hJ52)) hf54 hx56 _) ?_
    rintro v I57 L58 hI59 ⟨A60, c61, C62, hO63, rfl, rfl⟩
    refine gl_pure 1 [4] (K' := [(4, .slice A60 y55.length c61)]) (by kernel_rfl) ?_
    refine gl_atE (by kernel_rfl) ?_
    refine ge_seq ?_
    refine gk_reord (D := C62 ++ L) (Reord.step (Upd.rmC _ _) (Reord.skipC (Reord.refl _))) ?_
    refine gk_ret (by kernel_rfl) ?_
    obtain rfl := some_inj hr
    exact ge_result trivial (ResOk.tmp (by kernel_rfl) ResOk.nil) (Imm.trans (Imm.trans hI21 hJ52) hI59) ⟨A60, c61, C62, hO63, rfl, rfl⟩
/-! 58 tocsinref01_PutText  -/
noncomputable def tocsinref01_PutText (a0 : List Int) (a1 : ByteArray) : Option (List Int) :=
  Option.bind (tocsinref01_PutU a0 (IntKind.wrap .u64 (a1.size : Int))) fun (y1 : (List Int)) =>
  Option.bind (sb a1) fun (l10 : List Int) =>
  Option.bind (tocsinref01_joined y1 l10) fun (y21 : (List Int)) =>
  some y21
theorem tocsinref01_PutText_walk {a0 : List Int} {A0_0 : Option Addr} {n0_0 : Nat} {a1 : ByteArray} {I : Imm} {r : (List Int)}  (hf0_0 : RepS (Kd.int .u8) I A0_0 n0_0 a0) (hr : tocsinref01_PutText a0 a1 = some r) (L : Own) :
    CallsTo Tryd.prog 58 #[.slice A0_0 a0.length n0_0, .string a1] I L (fun v I' L' => ∃ A0 c0 C0, OwnS (Kd.int .u8) 5 I' A0 c0 r C0 ∧ v = .slice A0 r.length c0 ∧ C0 ++ L = L') := by
  unfold tocsinref01_PutText at hr
  refine callsTo_body (N := 13) Tryd.func58 (by kernel_rfl) (by kernel_rfl) (by kernel_rfl) ?_
  refine gk_pick [0, 1] (K' := [(0, .slice A0_0 a0.length n0_0), (1, .string a1)]) (by kernel_rfl) ?_
  refine gk_seq (by kernel_rfl) ?_
  refine gk_region (by kernel_rfl) ?_
  refine gl_pure 1 [0, 1] (K' := [(0, .slice A0_0 a0.length n0_0), (1, .string a1)]) (by kernel_rfl) ?_
  refine gl_atE (by kernel_rfl) ?_
  refine ge_seq ?_
  refine gk_seq (by kernel_rfl) ?_
  refine gk_region (by kernel_rfl) ?_
  refine gl_pure 4 [1, 5, 8] (K' := [(1, .string a1), (5, .slice A0_0 a0.length n0_0), (8, .int .u64 (IntKind.wrap .u64 (a1.size : Int)))]) (by kernel_rfl) ?_
  obtain ⟨y1, hx2, hr⟩ := bind_some hr
  refine gl_call (by kernel_rfl) (tocsinref01_PutU_walk (r := y1) hf0_0 hx2 _) ?_
  rintro v I3 L4 hI5 ⟨A6, c7, C8, hO9, rfl, rfl⟩
  refine gl_pure 1 [9, 10] (K' := [(9, .slice A6 y1.length c7), (10, .string a1)]) (by kernel_rfl) ?_
  obtain ⟨l10, hx11, hr⟩ := bind_some hr
  refine gl_strBytes (src := 9) (dst := 58) (e := 5) (n := 1) (x := (.tmp 10)) hx11 (by kernel_rfl) (by kernel_rfl) (by kernel_rfl) (by kernel_rfl) (by kernel_rfl) (by kernel_rfl) (fun A12 n13 C14 hO15 => ?_)
  refine gl_rest (Tk.step (Upd.rmC _ _) (Tk.step (Upd.rmC _ _) (Tk.nil _))) (fun J16 hJ17 hC18 => ?_)
  have hf19 := (OwnS.rest hO15 hJ17 hC18.left)
  have hf20 := (OwnS.rest hO9 hJ17 hC18.right.left)
  obtain ⟨y21, hx22, hr⟩ := bind_some hr
  refine gl_call (by kernel_rfl) (tocsinref01_joined_walk (r := y21) hf20 hf19 hx22 _) ?_
  rintro v I23 L24 hI25 ⟨A26, c27, C28, hO29, rfl, rfl⟩
  refine gl_pure 1 [4] (K' := [(4, .slice A26 y21.length c27)]) (by kernel_rfl) ?_
  refine gl_atE (by kernel_rfl) ?_
  refine ge_seq ?_
  refine gk_ret (by kernel_rfl) ?_
  obtain rfl := some_inj hr
  exact ge_result trivial (ResOk.tmp (by kernel_rfl) ResOk.nil) (Imm.trans (Imm.trans hI5 hJ17) hI25) ⟨A26, c27, C28, hO29, rfl, rfl⟩
/-! 100 tocsinref01_turn  -/
noncomputable def tocsinref01_turn (a0 : Int) : Int :=
  bif (decide (a0 ≥ 0)) then
  ((IntKind.wrap .u64 (2 * (IntKind.wrap .u64 a0))))
  else
  ((IntKind.wrap .u64 ((IntKind.wrap .u64 (2 * (IntKind.wrap .u64 (IntKind.wrap .i64 (0 - (IntKind.wrap .i64 (a0 + 1))))))) + 1)))
theorem tocsinref01_turn_walk {a0 : Int} {I : Imm} {r : Int}  (hr : tocsinref01_turn a0 = r) (L : Own) :
    CallsTo Tryd.prog 100 #[.int .i64 a0] I L (fun v I' L' => v = .int .u64 r ∧ L = L') := by
  replace hr : some (tocsinref01_turn a0) = some r := congrArg some hr
  unfold tocsinref01_turn at hr
  refine callsTo_body (N := 14) Tryd.func100 (by kernel_rfl) (by kernel_rfl) (by kernel_rfl) ?_
  refine gk_pick [0] (K' := [(0, .int .i64 a0)]) (by kernel_rfl) ?_
  refine gk_seq (by kernel_rfl) ?_
  refine gk_region (by kernel_rfl) ?_
  refine gl_pure 1 [0] (K' := [(0, .int .i64 a0)]) (by kernel_rfl) ?_
  refine gl_atE (by kernel_rfl) ?_
  refine ge_seq ?_
  refine gk_seq (by kernel_rfl) ?_
  refine gk_seq (by kernel_rfl) ?_
  refine gk_region (by kernel_rfl) ?_
  refine gl_pure 2 [0, 4] (K' := [(0, .int .i64 a0), (4, .bool (decide (a0 ≥ 0)))]) (by kernel_rfl) ?_
  refine gl_atE (by kernel_rfl) ?_
  refine ge_seq ?_
  refine gk_cond (b := (decide (a0 ≥ 0))) (by kernel_rfl) (by kernel_rfl) (fun hc1 => ?_) (fun hc1 => ?_)
  · have hr := scond_t hc1 hr
    refine gk_seq (by kernel_rfl) ?_
    refine gk_region (by kernel_rfl) ?_
    refine gl_pure 4 [2] (K' := [(2, .int .u64 (IntKind.wrap .u64 (2 * (IntKind.wrap .u64 a0))))]) (by kernel_rfl) ?_
    refine gl_atE (by kernel_rfl) ?_
    refine ge_seq ?_
    refine gk_ret (by kernel_rfl) ?_
    refine ge_seq_ret ?_
    obtain rfl := some_inj hr
    exact ge_result trivial (ResOk.tmp (by kernel_rfl) ResOk.nil) (Imm.refl _) ⟨rfl, rfl⟩
  · have hr := scond_f hc1 hr
    refine gk_skip (by kernel_rfl) ?_
    refine ge_seq ?_
    refine gk_seq (by kernel_rfl) ?_
    refine gk_region (by kernel_rfl) ?_
    refine gl_pure 7 [2] (K' := [(2, .int .u64 (IntKind.wrap .u64 ((IntKind.wrap .u64 (2 * (IntKind.wrap .u64 (IntKind.wrap .i64 (0 - (IntKind.wrap .i64 (a0 + 1))))))) + 1)))]) (by kernel_rfl) ?_
    refine gl_atE (by kernel_rfl) ?_
    refine ge_seq ?_
    refine gk_ret (by kernel_rfl) ?_
    obtain rfl := some_inj hr
    exact ge_result trivial (ResOk.tmp (by kernel_rfl) ResOk.nil) (Imm.refl _) ⟨rfl, rfl⟩
/-! 59 tocsinref01_PutI  -/
noncomputable def tocsinref01_PutI (a0 : List Int) (a1 : Int) : Option (List Int) :=
  Option.bind (tocsinref01_PutU a0 (tocsinref01_turn a1)) fun (y1 : (List Int)) =>
  some y1
theorem tocsinref01_PutI_walk {a0 : List Int} {A0_0 : Option Addr} {n0_0 : Nat} {a1 : Int} {I : Imm} {r : (List Int)}  (hf0_0 : RepS (Kd.int .u8) I A0_0 n0_0 a0) (hr : tocsinref01_PutI a0 a1 = some r) (L : Own) :
    CallsTo Tryd.prog 59 #[.slice A0_0 a0.length n0_0, .int .i64 a1] I L (fun v I' L' => ∃ A0 c0 C0, OwnS (Kd.int .u8) 5 I' A0 c0 r C0 ∧ v = .slice A0 r.length c0 ∧ C0 ++ L = L') := by
  unfold tocsinref01_PutI at hr
  refine callsTo_body (N := 9) Tryd.func59 (by kernel_rfl) (by kernel_rfl) (by kernel_rfl) ?_
  refine gk_pick [0, 1] (K' := [(0, .slice A0_0 a0.length n0_0), (1, .int .i64 a1)]) (by kernel_rfl) ?_
  refine gk_seq (by kernel_rfl) ?_
  refine gk_region (by kernel_rfl) ?_
  refine gl_pure 1 [0, 1] (K' := [(0, .slice A0_0 a0.length n0_0), (1, .int .i64 a1)]) (by kernel_rfl) ?_
  refine gl_atE (by kernel_rfl) ?_
  refine ge_seq ?_
  refine gk_seq (by kernel_rfl) ?_
  refine gk_region (by kernel_rfl) ?_
  refine gl_pure 2 [5, 6] (K' := [(5, .slice A0_0 a0.length n0_0), (6, .int .i64 a1)]) (by kernel_rfl) ?_
  refine gl_callQ (by kernel_rfl) (tocsinref01_turn_walk (r := (tocsinref01_turn a1))  rfl _) ?_
  obtain ⟨y1, hx2, hr⟩ := bind_some hr
  refine gl_call (by kernel_rfl) (tocsinref01_PutU_walk (r := y1) hf0_0 hx2 _) ?_
  rintro v I3 L4 hI5 ⟨A6, c7, C8, hO9, rfl, rfl⟩
  refine gl_pure 1 [4] (K' := [(4, .slice A6 y1.length c7)]) (by kernel_rfl) ?_
  refine gl_atE (by kernel_rfl) ?_
  refine ge_seq ?_
  refine gk_ret (by kernel_rfl) ?_
  obtain rfl := some_inj hr
  exact ge_result trivial (ResOk.tmp (by kernel_rfl) ResOk.nil) hI5 ⟨A6, c7, C8, hO9, rfl, rfl⟩
/-! 61 tocsinref04_Put  -/
noncomputable def tocsinref04_Put_l40 (a1 : List S79) : ((List Int) × Int) → Option (((List Int) × Int) ⊕ ((List Int))) := fun s23 =>
  bif (decide (s23.2 < (a1.length : Int))) then
  (Option.bind (ix a1 s23.2) fun (x43 : S79) =>
    Option.bind (tocsinref01_PutText s23.1 x43.f0) fun (y56 : (List Int)) =>
    Option.bind (tocsinref01_PutText y56 x43.f1) fun (y69 : (List Int)) =>
    some (Sum.inl (y69, (IntKind.wrap .i64 (s23.2 + 1)))))
  else
  (some (Sum.inr s23.1))
noncomputable def tocsinref04_Put (a0 : List Int) (a1 : List S79) : Option ((List Int) × Int) :=
  Option.bind (tocsinref04_Right a1) fun (y1 : Int × Int) =>
  bif (y1.1 != 0) then
  (some ([], y1.1))
  else
  (Option.bind (tocsinref01_PutU a0 (IntKind.wrap .u64 (a1.length : Int))) fun (y4 : (List Int)) =>
    Option.bind (loopO (tocsinref04_Put_l40 a1) (y4, 0)) fun (r21 : (List Int)) =>
    some (r21, 0))
theorem tocsinref04_Put_walk {a0 : List Int} {A0_0 : Option Addr} {n0_0 : Nat} {a1 : List S79} {A1_0 : Option Addr} {n1_0 : Nat} {I : Imm} {r : (List Int) × Int}  (hf0_0 : RepS (Kd.int .u8) I A0_0 n0_0 a0)  (hf1_0 : RepS kS79 I A1_0 n1_0 a1) (hr : tocsinref04_Put a0 a1 = some r) (L : Own) :
    CallsTo Tryd.prog 61 #[.slice A0_0 a0.length n0_0, .slice A1_0 a1.length n1_0] I L (fun v I' L' => ∃ A0 c0 C0, OwnS (Kd.int .u8) 5 I' A0 c0 r.1 C0 ∧ v = .tuple #[.slice A0 r.1.length c0, .int .i64 r.2] ∧ C0 ++ L = L') := by
  unfold tocsinref04_Put at hr
  refine callsTo_body (N := 39) Tryd.func61 (by kernel_rfl) (by kernel_rfl) (by kernel_rfl) ?_
  refine gk_pick [0, 1] (K' := [(0, .slice A0_0 a0.length n0_0), (1, .slice A1_0 a1.length n1_0)]) (by kernel_rfl) ?_
  refine gk_seq (by kernel_rfl) ?_
  refine gk_region (by kernel_rfl) ?_
  refine gl_pure 2 [0, 1] (K' := [(0, .slice A0_0 a0.length n0_0), (1, .slice A1_0 a1.length n1_0)]) (by kernel_rfl) ?_
  refine gl_atE (by kernel_rfl) ?_
  refine ge_seq ?_
  refine gk_seq (by kernel_rfl) ?_
  refine gk_seq (by kernel_rfl) ?_
  refine gk_region (by kernel_rfl) ?_
  refine gl_pure 1 [0, 1, 12] (K' := [(0, .slice A0_0 a0.length n0_0), (1, .slice A1_0 a1.length n1_0), (12, .slice A1_0 a1.length n1_0)]) (by kernel_rfl) ?_
  obtain ⟨y1, hx2, hr⟩ := bind_some hr
  refine gl_callQ (by kernel_rfl) (tocsinref04_Right_walk (r := y1) hf1_0 hx2 _) ?_
  refine gl_pure 5 [0, 1, 6] (K' := [(0, .slice A0_0 a0.length n0_0), (1, .slice A1_0 a1.length n1_0), (6, .int .i64 y1.1)]) (by kernel_rfl) ?_
  refine gl_atE (by kernel_rfl) ?_
  refine ge_seq ?_
  refine gk_seq (by kernel_rfl) ?_
  refine gk_region (by kernel_rfl) ?_
  refine gl_pure 2 [0, 1, 6, 17] (K' := [(0, .slice A0_0 a0.length n0_0), (1, .slice A1_0 a1.length n1_0), (6, .int .i64 y1.1), (17, .bool (y1.1 != 0))]) (by kernel_rfl) ?_
  refine gl_atE (by kernel_rfl) ?_
  refine ge_seq ?_
  refine gk_cond (b := (y1.1 != 0)) (by kernel_rfl) (by kernel_rfl) (fun hc3 => ?_) (fun hc3 => ?_)
  · have hr := cond_t hc3 hr
    refine gk_seq (by kernel_rfl) ?_
    refine gk_region (by kernel_rfl) ?_
    refine gl_pure 3 [4, 5] (K' := [(4, .slice none 0 0), (5, .int .i64 y1.1)]) (by kernel_rfl) ?_
    refine gl_atE (by kernel_rfl) ?_
    refine ge_seq ?_
    refine gk_ret (by kernel_rfl) ?_
    refine ge_seq_ret ?_
    obtain rfl := some_inj hr
    exact ge_result trivial (ResOk.tmp (by kernel_rfl) (ResOk.tmp (by kernel_rfl) ResOk.nil)) (Imm.refl _) ⟨none, 0, [], OwnS.nil _ _ _ _, rfl, rfl⟩
  · have hr := cond_f hc3 hr
    refine gk_skip (by kernel_rfl) ?_
    refine ge_seq ?_
    refine gk_seq (by kernel_rfl) ?_
    refine gk_region (by kernel_rfl) ?_
    refine gl_pure 4 [1, 19, 22] (K' := [(1, .slice A1_0 a1.length n1_0), (19, .slice A0_0 a0.length n0_0), (22, .int .u64 (IntKind.wrap .u64 (a1.length : Int)))]) (by kernel_rfl) ?_
    obtain ⟨y4, hx5, hr⟩ := bind_some hr
    refine gl_call (by kernel_rfl) (tocsinref01_PutU_walk (r := y4) hf0_0 hx5 _) ?_
    rintro v I6 L7 hI8 ⟨A9, c10, C11, hO12, rfl, rfl⟩
    refine gl_pure 1 [1, 8] (K' := [(1, .slice A1_0 a1.length n1_0), (8, .slice A9 y4.length c10)]) (by kernel_rfl) ?_
    refine gl_atE (by kernel_rfl) ?_
    refine ge_seq ?_
    refine gk_seq (by kernel_rfl) ?_
    refine gk_seq (by kernel_rfl) ?_
    refine gk_region (by kernel_rfl) ?_
    refine gl_pure 3 [8, 24, 25, 26] (K' := [(8, .slice A9 y4.length c10), (24, .slice A1_0 a1.length n1_0), (25, .int .i64 (a1.length : Int)), (26, .int .i64 0)]) (by kernel_rfl) ?_
    refine gl_atE (by kernel_rfl) ?_
    refine ge_seq ?_
    obtain ⟨r21, hl22, hr⟩ := bind_some hr
    refine gk_join (fun t I' L' => ∃ A34 n35 C36, OwnS (Kd.int .u8) 5 I' A34 n35 r21 C36 ∧ I6 ≤ I' ∧ C36 ++ L = L' ∧ Knows 39 [(8, .slice A34 r21.length n35)] t) ?_ ?_
    · refine gk_block (by kernel_rfl) ?_
      refine gk_pick [8, 24, 25, 26] (K' := [(8, .slice A9 y4.length c10), (24, .slice A1_0 a1.length n1_0), (25, .int .i64 (a1.length : Int)), (26, .int .i64 0)]) (by kernel_rfl) ?_
      intro t hK
      refine gc_loop (tocsinref04_Put_l40 a1) (fun s23 t I' L' => ∃ A27 n28 C29, OwnS (Kd.int .u8) 5 I' A27 n28 s23.1 C29 ∧ I6 ≤ I' ∧ C29 ++ L = L' ∧ Knows 39 [(8, .slice A27 s23.1.length n28), (24, .slice A1_0 a1.length n1_0), (25, .int .i64 (a1.length : Int)), (26, .int .i64 s23.2)] t) (by kernel_rfl) ?_ hl22 ⟨A9, c10, C11, hO12, (Imm.refl _), rfl, hK⟩
      rintro s23 o24 t I32 L' hb25 ⟨A27, n28, C29, hO30, hI26, rfl, hK31⟩
      unfold tocsinref04_Put_l40 at hb25
      refine gk_at hK31 ?_
      refine gk_seq (by kernel_rfl) ?_
      refine gk_region (by kernel_rfl) ?_
      refine gl_pure 1 [8, 24, 25, 26, 27] (K' := [(8, .slice A27 s23.1.length n28), (24, .slice A1_0 a1.length n1_0), (25, .int .i64 (a1.length : Int)), (26, .int .i64 s23.2), (27, .bool (decide (s23.2 < (a1.length : Int))))]) (by kernel_rfl) ?_
      refine gl_atE (by kernel_rfl) ?_
      refine ge_seq ?_
      refine gk_seq (by kernel_rfl) ?_
      refine gk_cond (b := (decide (s23.2 < (a1.length : Int)))) (by kernel_rfl) (by kernel_rfl) (fun hc42 => ?_) (fun hc42 => ?_)
      · have hb25 := cond_t hc42 hb25
        refine gk_skip (by kernel_rfl) ?_
        refine ge_seq ?_
        refine gk_seq (by kernel_rfl) ?_
        refine gk_block (by kernel_rfl) ?_
        refine gk_seq (by kernel_rfl) ?_
        refine gk_region (by kernel_rfl) ?_
        obtain ⟨x43, hx44, hb25⟩ := bind_some hb25
        obtain ⟨p45, cs46, hR47, hA48, ha49⟩ := RepS.ixAt hx44 (hf1_0.mono (Imm.trans hI8 hI26))
        have hi50 := ix_some hx44
        obtain rfl := kS79_open hR47
        refine gl_indexAddrF (c := n1_0) (T' := 36) (e := 80) (xs := (.tmp 24)) (xi := (.tmp 26)) (kd := .i64) ha49 hi50.1 hi50.2.1 (by kernel_rfl) (by kernel_rfl) (by kernel_rfl) (by kernel_rfl) (by kernel_rfl) ?_
        refine gl_loadA (T' := 80) (xp := (.tmp 28)) (p := p45) (cs := [.string x43.f0, .string x43.f1]) (by kernel_rfl) (by kernel_rfl) (by kernel_rfl) (by kernel_rfl) (hA48.take 2) ?_
        refine gl_alloc (T' := 80) (cs := #[.string (⟨#[]⟩ : ByteArray), .string (⟨#[]⟩ : ByteArray)]) (by kernel_rfl) (by kernel_rfl) (by kernel_rfl) (fun g51 => ?_)
        refine gl_storeB (T' := 80) (xp := (.tmp 10)) (xv := (.tmp 29)) (v := .agg #[.string x43.f0, .string x43.f1]) (g := g51) (off := 0) (cs := #[.string (⟨#[]⟩ : ByteArray), .string (⟨#[]⟩ : ByteArray)]) (cs' := #[.string x43.f0, .string x43.f1]) (by kernel_rfl) (by kernel_rfl) (by kernel_rfl) (by kernel_rfl) (by kernel_rfl) (Upd.set _ _ _ _) ?_ (by kernel_rfl)
        refine gl_atE (by kernel_rfl) ?_
        refine ge_seq ?_
        refine gk_draw 6 [(0, true), (1, true), (2, true), (4, true), (5, true), (3, false)] [(g51, .cells #[.string x43.f0, .string x43.f1] 80)] (List.forall_mem_cons.2 ⟨List.mem_cons_self, (fun p hp => by cases hp)⟩) (by kernel_rfl) (by kernel_rfl) (by kernel_rfl) ?_ (by kernel_rfl)
        refine gd_pure 2 [8, 10, 24, 25, 26, 30, 31] (K' := [(8, .slice A27 s23.1.length n28), (10, .pointer (some ⟨g51, 0, none⟩)), (24, .slice A1_0 a1.length n1_0), (25, .int .i64 (a1.length : Int)), (26, .int .i64 s23.2), (30, .slice A27 s23.1.length n28), (31, .pointer (some ⟨g51, 0, none⟩))]) (s' := [(2, true), (4, true), (5, true), (3, false)]) (CC.refl (List.forall_mem_cons.2 ⟨List.mem_cons_self, (fun p hp => by cases hp)⟩)) (by kernel_rfl) ?_
        refine gd_q (v := .string x43.f0) (by kernel_rfl) (by kernel_rfl) (CC.refl (List.forall_mem_cons.2 ⟨List.mem_cons_self, (fun p hp => by cases hp)⟩)) (fun I' L' T hC kk => gl_loadB (T' := 9) (xp := (.tmp 31)) (v := .string x43.f0) (g := g51) (off := 0) (cs := #[.string x43.f0, .string x43.f1]) (e := 80) (fz := (0, 0)) (by kernel_rfl) (by kernel_rfl) (by kernel_rfl) (hC.sub _ List.mem_cons_self) (by kernel_rfl) kk) ?_
        refine gd_pure 1 [8, 24, 25, 26, 30, 32, 34] (K' := [(8, .slice A27 s23.1.length n28), (24, .slice A1_0 a1.length n1_0), (25, .int .i64 (a1.length : Int)), (26, .int .i64 s23.2), (30, .slice A27 s23.1.length n28), (32, .string x43.f0), (34, .pointer (some ⟨g51, 1, none⟩))]) (s' := [(5, true), (3, false)]) (CC.refl (List.forall_mem_cons.2 ⟨List.mem_cons_self, (fun p hp => by cases hp)⟩)) (by kernel_rfl) ?_
        refine gd_q (v := .string x43.f1) (by kernel_rfl) (by kernel_rfl) (CC.refl (List.forall_mem_cons.2 ⟨List.mem_cons_self, (fun p hp => by cases hp)⟩)) (fun I' L' T hC kk => gl_loadB (T' := 9) (xp := (.tmp 34)) (v := .string x43.f1) (g := g51) (off := 1) (cs := #[.string x43.f0, .string x43.f1]) (e := 80) (fz := (0, 0)) (by kernel_rfl) (by kernel_rfl) (by kernel_rfl) (hC.sub _ List.mem_cons_self) (by kernel_rfl) kk) ?_
        refine gd_one (by kernel_rfl) ?_
        refine gl_rest (Tk.step (Upd.one _ (Upd.rmC _ _)) (Tk.nil _)) (fun J52 hJ53 hC54 => ?_)
        have hf55 := (OwnS.rest hO30 hJ53 hC54.left)
        obtain ⟨y56, hx57, hb25⟩ := bind_some hb25
        refine gl_call (by kernel_rfl) (tocsinref01_PutText_walk (r := y56) hf55 hx57 _) ?_
        rintro v I58 L59 hI60 ⟨A61, c62, C63, hO64, rfl, rfl⟩
        refine gl_toD (by kernel_rfl) ⟨(Imm.trans hJ53 hI60), (List.forall_mem_cons.2 ⟨(List.mem_append_right _ List.mem_cons_self), (fun p hp => by cases hp)⟩)⟩ ?_
        refine gd_done ?_
        refine gl_rest (Tk.step (Upd.rmC _ _) (Tk.nil _)) (fun J65 hJ66 hC67 => ?_)
        have hf68 := (OwnS.rest hO64 hJ66 hC67.left)
        obtain ⟨y69, hx70, hb25⟩ := bind_some hb25
        refine gl_call (by kernel_rfl) (tocsinref01_PutText_walk (r := y69) hf68 hx70 _) ?_
        rintro v I71 L72 hI73 ⟨A74, c75, C76, hO77, rfl, rfl⟩
        refine gl_pure 1 [8, 24, 25, 26] (K' := [(8, .slice A74 y69.length c75), (24, .slice A1_0 a1.length n1_0), (25, .int .i64 (a1.length : Int)), (26, .int .i64 s23.2)]) (by kernel_rfl) ?_
        refine gl_atE (by kernel_rfl) ?_
        refine ge_block_normal ?_
        refine ge_seq ?_
        refine gk_region (by kernel_rfl) ?_
        refine gl_pure 2 [8, 24, 25, 26] (K' := [(8, .slice A74 y69.length c75), (24, .slice A1_0 a1.length n1_0), (25, .int .i64 (a1.length : Int)), (26, .int .i64 (IntKind.wrap .i64 (s23.2 + 1)))]) (by kernel_rfl) ?_
        refine gl_reord (D := C76 ++ L) (Reord.step (Upd.rmC _ _) (Reord.skip (Reord.refl _))) ?_
        refine gl_atE (by kernel_rfl) ?_
        obtain rfl := some_inj hb25
        exact ge_round fun t ht => ⟨A74, c75, C76, hO77, (Imm.trans (Imm.trans (Imm.trans (Imm.trans hI26 hJ53) hI60) hJ66) hI73), rfl, ht.pick (l := [8, 24, 25, 26]) (by kernel_rfl)⟩
      · have hb25 := cond_f hc42 hb25
        refine gk_exit (by kernel_rfl) ?_
        refine ge_seq_exit ?_
        obtain rfl := some_inj hb25
        refine ge_round_out (fun hrr => ?_) (by intro h; cases h)
        obtain rfl := hrr
        refine ge_block_hit (by kernel_rfl) ?_
        exact ge_mid fun t ht => ⟨A27, n28, C29, hO30, hI26, rfl, ht.pick (l := [8]) (by kernel_rfl)⟩
    · rintro t I39 L' ⟨A34, n35, C36, hO37, hI33, rfl, hK38⟩
      refine ge_at hK38 ?_
      refine ge_seq ?_
      refine gk_seq (by kernel_rfl) ?_
      refine gk_region (by kernel_rfl) ?_
      refine gl_pure 3 [4, 5] (K' := [(4, .slice A34 r21.length n35), (5, .int .i64 0)]) (by kernel_rfl) ?_
      refine gl_atE (by kernel_rfl) ?_
      refine ge_seq ?_
      refine gk_ret (by kernel_rfl) ?_
      obtain rfl := some_inj hr
      exact ge_result trivial (ResOk.tmp (by kernel_rfl) (ResOk.tmp (by kernel_rfl) ResOk.nil)) (Imm.trans hI8 hI33) ⟨A34, n35, C36, hO37, rfl, rfl⟩
/-! 26 tocsinref26_Record  -/
noncomputable def tocsinref26_Record_l126 (x74 : List (List S79)) : ((List Int) × Int) → Option (((List Int) × Int) ⊕ ((List Int))) := fun s109 =>
  bif (decide (s109.2 < (x74.length : Int))) then
  (Option.bind (ix x74 s109.2) fun (x129 : List S79) =>
    Option.bind (tocsinref04_Put s109.1 x129) fun (y144 : (List Int) × Int) =>
    some (Sum.inl (y144.1, (IntKind.wrap .i64 (s109.2 + 1)))))
  else
  (some (Sum.inr s109.1))
noncomputable def tocsinref26_Record_l71 (a0 : S23) : ((List Int) × Int) → Option (((List Int) × Int) ⊕ ((List Int))) := fun s54 =>
  bif (decide (s54.2 < ([a0.f3, a0.f4].length : Int))) then
  (Option.bind (ix [a0.f3, a0.f4] s54.2) fun (x74 : List (List S79)) =>
    Option.bind (tocsinref01_PutU s54.1 (IntKind.wrap .u64 (x74.length : Int))) fun (y90 : (List Int)) =>
    Option.bind (loopO (tocsinref26_Record_l126 x74) (y90, 0)) fun (r107 : (List Int)) =>
    some (Sum.inl (r107, (IntKind.wrap .i64 (s54.2 + 1)))))
  else
  (some (Sum.inr s54.1))
noncomputable def tocsinref26_Record (a0 : S23) : Option ((List Int) × Int) :=
  Option.bind (tocsinref26_Right a0) fun (y2 : Int) =>
  bif (y2 != 0) then
  (some ([], y2))
  else
  (Option.bind (tocsinref01_PutText [] a0.f0) fun (y5 : (List Int)) =>
    Option.bind (tocsinref01_PutText y5 a0.f1) fun (y18 : (List Int)) =>
    Option.bind (tocsinref01_PutI y18 a0.f2) fun (y31 : (List Int)) =>
    Option.bind (loopO (tocsinref26_Record_l71 a0) (y31, 0)) fun (r52 : (List Int)) =>
    some (r52, 0))
theorem tocsinref26_Record_walk {a0 : S23} {A0_3 : Option Addr} {n0_3 : Nat} {A0_4 : Option Addr} {n0_4 : Nat} {I : Imm} {r : (List Int) × Int}  (hf0_3 : RepS (Kd.sl kS79) I A0_3 n0_3 a0.f3) (hf0_4 : RepS (Kd.sl kS79) I A0_4 n0_4 a0.f4) (hr : tocsinref26_Record a0 = some r) (L : Own) :
    CallsTo Tryd.prog 26 #[.agg #[.string a0.f0, .string a0.f1, .int .i64 a0.f2, .slice A0_3 a0.f3.length n0_3, .slice A0_4 a0.f4.length n0_4]] I L (fun v I' L' => ∃ A0 c0 C0, OwnS (Kd.int .u8) 5 I' A0 c0 r.1 C0 ∧ v = .tuple #[.slice A0 r.1.length c0, .int .i64 r.2] ∧ C0 ++ L = L') := by
  unfold tocsinref26_Record at hr
  refine callsTo_body (N := 58) Tryd.func26 (by kernel_rfl) (by kernel_rfl) (by kernel_rfl) ?_
  refine gk_pick [0] (K' := [(0, .agg #[.string a0.f0, .string a0.f1, .int .i64 a0.f2, .slice A0_3 a0.f3.length n0_3, .slice A0_4 a0.f4.length n0_4])]) (by kernel_rfl) ?_
  refine gk_seq (by kernel_rfl) ?_
  refine gk_region (by kernel_rfl) ?_
  refine gl_box (T' := 24) (x := (.tmp 0)) (v := .agg #[.string a0.f0, .string a0.f1, .int .i64 a0.f2, .slice A0_3 a0.f3.length n0_3, .slice A0_4 a0.f4.length n0_4]) (cs := #[.string a0.f0, .string a0.f1, .int .i64 a0.f2, .slice A0_3 a0.f3.length n0_3, .slice A0_4 a0.f4.length n0_4]) (by kernel_rfl) (by kernel_rfl) (by kernel_rfl) (by kernel_rfl) (fun g1 => ?_)
  refine gl_pure 2 [1] (K' := [(1, .pointer (some ⟨g1, 0, none⟩))]) (by kernel_rfl) ?_
  refine gl_atE (by kernel_rfl) ?_
  refine ge_seq ?_
  refine gk_seq (by kernel_rfl) ?_
  refine gk_seq (by kernel_rfl) ?_
  refine gk_region (by kernel_rfl) ?_
  refine gl_loadB (T' := 24) (xp := (.tmp 1)) (v := .agg #[.string a0.f0, .string a0.f1, .int .i64 a0.f2, .slice A0_3 a0.f3.length n0_3, .slice A0_4 a0.f4.length n0_4]) (g := g1) (off := 0) (cs := #[.string a0.f0, .string a0.f1, .int .i64 a0.f2, .slice A0_3 a0.f3.length n0_3, .slice A0_4 a0.f4.length n0_4]) (e := 24) (fz := (0, 0)) (by kernel_rfl) (by kernel_rfl) (by kernel_rfl) List.mem_cons_self (by kernel_rfl) ?_
  obtain ⟨y2, hx3, hr⟩ := bind_some hr
  refine gl_callQ (by kernel_rfl) (tocsinref26_Right_walk (r := y2) hf0_3 hf0_4 hx3 _) ?_
  refine gl_pure 1 [1, 4] (K' := [(1, .pointer (some ⟨g1, 0, none⟩)), (4, .int .i64 y2)]) (by kernel_rfl) ?_
  refine gl_atE (by kernel_rfl) ?_
  refine ge_seq ?_
  refine gk_seq (by kernel_rfl) ?_
  refine gk_region (by kernel_rfl) ?_
  refine gl_pure 2 [1, 4, 15] (K' := [(1, .pointer (some ⟨g1, 0, none⟩)), (4, .int .i64 y2), (15, .bool (y2 != 0))]) (by kernel_rfl) ?_
  refine gl_atE (by kernel_rfl) ?_
  refine ge_seq ?_
  refine gk_cond (b := (y2 != 0)) (by kernel_rfl) (by kernel_rfl) (fun hc4 => ?_) (fun hc4 => ?_)
  · have hr := cond_t hc4 hr
    refine gk_seq (by kernel_rfl) ?_
    refine gk_region (by kernel_rfl) ?_
    refine gl_pure 3 [2, 3] (K' := [(2, .slice none 0 0), (3, .int .i64 y2)]) (by kernel_rfl) ?_
    refine gl_atE (by kernel_rfl) ?_
    refine ge_seq ?_
    refine gk_reord (D := L) (Reord.skip (Reord.refl _)) ?_
    refine gk_ret (by kernel_rfl) ?_
    refine ge_seq_ret ?_
    obtain rfl := some_inj hr
    exact ge_result trivial (ResOk.tmp (by kernel_rfl) (ResOk.tmp (by kernel_rfl) ResOk.nil)) (Imm.refl _) ⟨none, 0, [], OwnS.nil _ _ _ _, rfl, rfl⟩
  · have hr := cond_f hc4 hr
    refine gk_skip (by kernel_rfl) ?_
    refine ge_seq ?_
    refine gk_seq (by kernel_rfl) ?_
    refine gk_draw 5 [(0, true), (1, true), (3, true), (4, true), (2, false)] [(g1, .cells #[.string a0.f0, .string a0.f1, .int .i64 a0.f2, .slice A0_3 a0.f3.length n0_3, .slice A0_4 a0.f4.length n0_4] 24)] (List.forall_mem_cons.2 ⟨List.mem_cons_self, (fun p hp => by cases hp)⟩) (by kernel_rfl) (by kernel_rfl) (by kernel_rfl) ?_ (by kernel_rfl)
    refine gd_pure 1 [1, 17] (K' := [(1, .pointer (some ⟨g1, 0, none⟩)), (17, .pointer (some ⟨g1, 0, none⟩))]) (s' := [(1, true), (3, true), (4, true), (2, false)]) (CC.refl (List.forall_mem_cons.2 ⟨List.mem_cons_self, (fun p hp => by cases hp)⟩)) (by kernel_rfl) ?_
    refine gd_q (v := .string a0.f0) (by kernel_rfl) (by kernel_rfl) (CC.refl (List.forall_mem_cons.2 ⟨List.mem_cons_self, (fun p hp => by cases hp)⟩)) (fun I' L' T hC kk => gl_loadB (T' := 9) (xp := (.tmp 17)) (v := .string a0.f0) (g := g1) (off := 0) (cs := #[.string a0.f0, .string a0.f1, .int .i64 a0.f2, .slice A0_3 a0.f3.length n0_3, .slice A0_4 a0.f4.length n0_4]) (e := 24) (fz := (0, 0)) (by kernel_rfl) (by kernel_rfl) (by kernel_rfl) (hC.sub _ List.mem_cons_self) (by kernel_rfl) kk) ?_
    refine gd_pure 1 [1, 18, 20] (K' := [(1, .pointer (some ⟨g1, 0, none⟩)), (18, .string a0.f0), (20, .pointer (some ⟨g1, 1, none⟩))]) (s' := [(4, true), (2, false)]) (CC.refl (List.forall_mem_cons.2 ⟨List.mem_cons_self, (fun p hp => by cases hp)⟩)) (by kernel_rfl) ?_
    refine gd_q (v := .string a0.f1) (by kernel_rfl) (by kernel_rfl) (CC.refl (List.forall_mem_cons.2 ⟨List.mem_cons_self, (fun p hp => by cases hp)⟩)) (fun I' L' T hC kk => gl_loadB (T' := 9) (xp := (.tmp 20)) (v := .string a0.f1) (g := g1) (off := 1) (cs := #[.string a0.f0, .string a0.f1, .int .i64 a0.f2, .slice A0_3 a0.f3.length n0_3, .slice A0_4 a0.f4.length n0_4]) (e := 24) (fz := (0, 0)) (by kernel_rfl) (by kernel_rfl) (by kernel_rfl) (hC.sub _ List.mem_cons_self) (by kernel_rfl) kk) ?_
    refine gd_one (by kernel_rfl) ?_
    obtain ⟨y5, hx6, hr⟩ := bind_some hr
    refine gl_call (by kernel_rfl) (tocsinref01_PutText_walk (r := y5) (RepS.nil _ _) hx6 _) ?_
    rintro v I7 L8 hI9 ⟨A10, c11, C12, hO13, rfl, rfl⟩
    refine gl_toD (by kernel_rfl) ⟨hI9, (List.forall_mem_cons.2 ⟨(List.mem_append_right _ List.mem_cons_self), (fun p hp => by cases hp)⟩)⟩ ?_
    refine gd_done ?_
    refine gl_rest (Tk.step (Upd.rmC _ _) (Tk.nil _)) (fun J14 hJ15 hC16 => ?_)
    have hf17 := (OwnS.rest hO13 hJ15 hC16.left)
    obtain ⟨y18, hx19, hr⟩ := bind_some hr
    refine gl_call (by kernel_rfl) (tocsinref01_PutText_walk (r := y18) hf17 hx19 _) ?_
    rintro v I20 L21 hI22 ⟨A23, c24, C25, hO26, rfl, rfl⟩
    refine gl_pure 1 [1, 5] (K' := [(1, .pointer (some ⟨g1, 0, none⟩)), (5, .slice A23 y18.length c24)]) (by kernel_rfl) ?_
    refine gl_atE (by kernel_rfl) ?_
    refine ge_seq ?_
    refine gk_seq (by kernel_rfl) ?_
    refine gk_region (by kernel_rfl) ?_
    refine gl_pure 2 [1, 23, 24] (K' := [(1, .pointer (some ⟨g1, 0, none⟩)), (23, .slice A23 y18.length c24), (24, .pointer (some ⟨g1, 2, none⟩))]) (by kernel_rfl) ?_
    refine gl_loadB (T' := 2) (xp := (.tmp 24)) (v := .int .i64 a0.f2) (g := g1) (off := 2) (cs := #[.string a0.f0, .string a0.f1, .int .i64 a0.f2, .slice A0_3 a0.f3.length n0_3, .slice A0_4 a0.f4.length n0_4]) (e := 24) (fz := (0, 0)) (by kernel_rfl) (by kernel_rfl) (by kernel_rfl) (List.mem_append_right _ List.mem_cons_self) (by kernel_rfl) ?_
    refine gl_rest (Tk.step (Upd.rmC _ _) (Tk.nil _)) (fun J27 hJ28 hC29 => ?_)
    have hf30 := (OwnS.rest hO26 hJ28 hC29.left)
    obtain ⟨y31, hx32, hr⟩ := bind_some hr
    refine gl_call (by kernel_rfl) (tocsinref01_PutI_walk (r := y31) hf30 hx32 _) ?_
    rintro v I33 L34 hI35 ⟨A36, c37, C38, hO39, rfl, rfl⟩
    refine gl_pure 1 [1, 5] (K' := [(1, .pointer (some ⟨g1, 0, none⟩)), (5, .slice A36 y31.length c37)]) (by kernel_rfl) ?_
    refine gl_atE (by kernel_rfl) ?_
    refine ge_seq ?_
    refine gk_seq (by kernel_rfl) ?_
    refine gk_seq (by kernel_rfl) ?_
    refine gk_region (by kernel_rfl) ?_
    refine gl_pure 1 [1, 5, 27] (K' := [(1, .pointer (some ⟨g1, 0, none⟩)), (5, .slice A36 y31.length c37), (27, .pointer (some ⟨g1, 3, none⟩))]) (by kernel_rfl) ?_
    refine gl_loadB (T' := 22) (xp := (.tmp 27)) (v := .slice A0_3 a0.f3.length n0_3) (g := g1) (off := 3) (cs := #[.string a0.f0, .string a0.f1, .int .i64 a0.f2, .slice A0_3 a0.f3.length n0_3, .slice A0_4 a0.f4.length n0_4]) (e := 24) (fz := (0, 0)) (by kernel_rfl) (by kernel_rfl) (by kernel_rfl) (List.mem_append_right _ List.mem_cons_self) (by kernel_rfl) ?_
    refine gl_pure 1 [5, 28, 29] (K' := [(5, .slice A36 y31.length c37), (28, .slice A0_3 a0.f3.length n0_3), (29, .pointer (some ⟨g1, 4, none⟩))]) (by kernel_rfl) ?_
    refine gl_loadB (T' := 22) (xp := (.tmp 29)) (v := .slice A0_4 a0.f4.length n0_4) (g := g1) (off := 4) (cs := #[.string a0.f0, .string a0.f1, .int .i64 a0.f2, .slice A0_3 a0.f3.length n0_3, .slice A0_4 a0.f4.length n0_4]) (e := 24) (fz := (0, 0)) (by kernel_rfl) (by kernel_rfl) (by kernel_rfl) (List.mem_append_right _ List.mem_cons_self) (by kernel_rfl) ?_
    refine gl_buildSlice (T' := 104) (e := 22) (n := 1) (len := 2) (parts := #[(0, (.tmp 28)), (1, (.tmp 30))]) (l := [(0, .slice A0_3 a0.f3.length n0_3), (1, .slice A0_4 a0.f4.length n0_4)]) (cs := #[.slice A0_3 a0.f3.length n0_3, .slice A0_4 a0.f4.length n0_4]) (by kernel_rfl) (by kernel_rfl) (by kernel_rfl) (by kernel_rfl) (by kernel_rfl) (fun g40 => ?_)
    have hO41 : OwnS (Kd.sl (Kd.sl kS79)) 22 I33 (some ⟨g40, 0, none⟩) 2 [a0.f3, a0.f4] [(g40, .cells #[.slice A0_3 a0.f3.length n0_3, .slice A0_4 a0.f4.length n0_4] 22)] := OwnS.lit (row_cons (l := [.slice A0_3 a0.f3.length n0_3]) ⟨_, _, rfl, (hf0_3.mono (Imm.trans (Imm.trans (Imm.trans (Imm.trans hI9 hJ15) hI22) hJ28) hI35))⟩ (row_cons (l := [.slice A0_4 a0.f4.length n0_4]) ⟨_, _, rfl, (hf0_4.mono (Imm.trans (Imm.trans (Imm.trans (Imm.trans hI9 hJ15) hI22) hJ28) hI35))⟩ (row_nil _ _))) rfl rfl rfl
    refine gl_reord (D := [(g40, .cells #[.slice A0_3 a0.f3.length n0_3, .slice A0_4 a0.f4.length n0_4] 22)] ++ (C38 ++ ((g1, .cells #[.string a0.f0, .string a0.f1, .int .i64 a0.f2, .slice A0_3 a0.f3.length n0_3, .slice A0_4 a0.f4.length n0_4] 24) :: L))) (Reord.refl _) ?_
    refine gl_pure 2 [5, 31, 32, 33] (K' := [(5, .slice A36 y31.length c37), (31, .slice (some ⟨g40, 0, none⟩) [a0.f3, a0.f4].length 2), (32, .int .i64 ([a0.f3, a0.f4].length : Int)), (33, .int .i64 0)]) (by kernel_rfl) ?_
    refine gl_atE (by kernel_rfl) ?_
    refine ge_seq ?_
    obtain ⟨r52, hl53, hr⟩ := bind_some hr
    refine gk_reord (D := C38 ++ ([(g40, .cells #[.slice A0_3 a0.f3.length n0_3, .slice A0_4 a0.f4.length n0_4] 22)] ++ L)) (Reord.step (Upd.app _ (Upd.rmC _ _)) (Reord.step (Upd.rmC _ _) (Reord.skip (Reord.refl _)))) ?_
    refine gk_join (fun t I' L' => ∃ A65 n66 C67, OwnS (Kd.int .u8) 5 I' A65 n66 r52 C67 ∧ I33 ≤ I' ∧ C67 ++ L = L' ∧ Knows 58 [(5, .slice A65 r52.length n66)] t) ?_ ?_
    · refine gk_block (by kernel_rfl) ?_
      refine gk_pick [5, 31, 32, 33] (K' := [(5, .slice A36 y31.length c37), (31, .slice (some ⟨g40, 0, none⟩) [a0.f3, a0.f4].length 2), (32, .int .i64 ([a0.f3, a0.f4].length : Int)), (33, .int .i64 0)]) (by kernel_rfl) ?_
      intro t hK
      refine gc_loop (tocsinref26_Record_l71 a0) (fun s54 t I' L' => ∃ A58 n59 C60, OwnS (Kd.int .u8) 5 I' A58 n59 s54.1 C60 ∧ I33 ≤ I' ∧ C60 ++ ([(g40, .cells #[.slice A0_3 a0.f3.length n0_3, .slice A0_4 a0.f4.length n0_4] 22)] ++ L) = L' ∧ Knows 58 [(5, .slice A58 s54.1.length n59), (31, .slice (some ⟨g40, 0, none⟩) [a0.f3, a0.f4].length 2), (32, .int .i64 ([a0.f3, a0.f4].length : Int)), (33, .int .i64 s54.2)] t) (by kernel_rfl) ?_ hl53 ⟨A36, c37, C38, hO39, (Imm.refl _), rfl, hK⟩
      rintro s54 o55 t I63 L' hb56 ⟨A58, n59, C60, hO61, hI57, rfl, hK62⟩
      unfold tocsinref26_Record_l71 at hb56
      refine gk_at hK62 ?_
      refine gk_seq (by kernel_rfl) ?_
      refine gk_region (by kernel_rfl) ?_
      refine gl_pure 1 [5, 31, 32, 33, 34] (K' := [(5, .slice A58 s54.1.length n59), (31, .slice (some ⟨g40, 0, none⟩) [a0.f3, a0.f4].length 2), (32, .int .i64 ([a0.f3, a0.f4].length : Int)), (33, .int .i64 s54.2), (34, .bool (decide (s54.2 < ([a0.f3, a0.f4].length : Int))))]) (by kernel_rfl) ?_
      refine gl_atE (by kernel_rfl) ?_
      refine ge_seq ?_
      refine gk_seq (by kernel_rfl) ?_
      refine gk_cond (b := (decide (s54.2 < ([a0.f3, a0.f4].length : Int)))) (by kernel_rfl) (by kernel_rfl) (fun hc73 => ?_) (fun hc73 => ?_)
      · have hb56 := cond_t hc73 hb56
        refine gk_skip (by kernel_rfl) ?_
        refine ge_seq ?_
        refine gk_seq (by kernel_rfl) ?_
        refine gk_block (by kernel_rfl) ?_
        refine gk_seq (by kernel_rfl) ?_
        refine gk_region (by kernel_rfl) ?_
        obtain ⟨x74, hx75, hb56⟩ := bind_some hb56
        refine gl_indexAddrW (d := (Kd.sl (Kd.sl kS79))) (c := 2) (T' := 104) (e := 22) (xs := (.tmp 31)) (xi := (.tmp 33)) (kd := .i64) hx75 (hO41.mono hI57) (Upd.app _ (Upd.selfC _ _)) (by kernel_rfl) (by kernel_rfl) (by kernel_rfl) (by kernel_rfl) (by kernel_rfl) (fun p76 cs77 hR78 hA79 hp85 => ?_)
        obtain ⟨A82, n83, rfl, hf84⟩ := sl_open hR78
        refine gl_loadO (T' := 22) (xp := (.tmp 35)) (p := p76) (c := .slice A82 x74.length n83) (n := 1) (by kernel_rfl) (by kernel_rfl) (by kernel_rfl) (by kernel_rfl) hA79 ?_
        refine gl_pure 1 [5, 7, 31, 32, 33] (K' := [(5, .slice A58 s54.1.length n59), (7, .slice A82 x74.length n83), (31, .slice (some ⟨g40, 0, none⟩) [a0.f3, a0.f4].length 2), (32, .int .i64 ([a0.f3, a0.f4].length : Int)), (33, .int .i64 s54.2)]) (by kernel_rfl) ?_
        refine gl_atE (by kernel_rfl) ?_
        refine ge_seq ?_
        refine gk_seq (by kernel_rfl) ?_
        refine gk_region (by kernel_rfl) ?_
        refine gl_pure 4 [7, 31, 32, 33, 37, 40] (K' := [(7, .slice A82 x74.length n83), (31, .slice (some ⟨g40, 0, none⟩) [a0.f3, a0.f4].length 2), (32, .int .i64 ([a0.f3, a0.f4].length : Int)), (33, .int .i64 s54.2), (37, .slice A58 s54.1.length n59), (40, .int .u64 (IntKind.wrap .u64 (x74.length : Int)))]) (by kernel_rfl) ?_
        refine gl_rest (Tk.step (Upd.rmC _ _) (Tk.nil _)) (fun J86 hJ87 hC88 => ?_)
        have hf89 := (OwnS.rest hO61 hJ87 hC88.left)
        obtain ⟨y90, hx91, hb56⟩ := bind_some hb56
        refine gl_call (by kernel_rfl) (tocsinref01_PutU_walk (r := y90) hf89 hx91 _) ?_
        rintro v I92 L93 hI94 ⟨A95, c96, C97, hO98, rfl, rfl⟩
        refine gl_pure 1 [5, 7, 31, 32, 33] (K' := [(5, .slice A95 y90.length c96), (7, .slice A82 x74.length n83), (31, .slice (some ⟨g40, 0, none⟩) [a0.f3, a0.f4].length 2), (32, .int .i64 ([a0.f3, a0.f4].length : Int)), (33, .int .i64 s54.2)]) (by kernel_rfl) ?_
        refine gl_atE (by kernel_rfl) ?_
        refine ge_seq ?_
        refine gk_seq (by kernel_rfl) ?_
        refine gk_region (by kernel_rfl) ?_
        refine gl_pure 3 [5, 31, 32, 33, 42, 43, 44] (K' := [(5, .slice A95 y90.length c96), (31, .slice (some ⟨g40, 0, none⟩) [a0.f3, a0.f4].length 2), (32, .int .i64 ([a0.f3, a0.f4].length : Int)), (33, .int .i64 s54.2), (42, .slice A82 x74.length n83), (43, .int .i64 (x74.length : Int)), (44, .int .i64 0)]) (by kernel_rfl) ?_
        refine gl_atE (by kernel_rfl) ?_
        refine ge_seq ?_
        obtain ⟨r107, hl108, hb56⟩ := bind_some hb56
        refine gk_join (fun t I' L' => ∃ A120 n121 C122, OwnS (Kd.int .u8) 5 I' A120 n121 r107 C122 ∧ I92 ≤ I' ∧ C122 ++ ([(g40, .cells #[.slice A0_3 a0.f3.length n0_3, .slice A0_4 a0.f4.length n0_4] 22)] ++ L) = L' ∧ Knows 58 [(5, .slice A120 r107.length n121), (31, .slice (some ⟨g40, 0, none⟩) [a0.f3, a0.f4].length 2), (32, .int .i64 ([a0.f3, a0.f4].length : Int)), (33, .int .i64 s54.2)] t) ?_ ?_
        · refine gk_block (by kernel_rfl) ?_
          refine gk_pick [5, 31, 32, 33, 42, 43, 44] (K' := [(5, .slice A95 y90.length c96), (31, .slice (some ⟨g40, 0, none⟩) [a0.f3, a0.f4].length 2), (32, .int .i64 ([a0.f3, a0.f4].length : Int)), (33, .int .i64 s54.2), (42, .slice A82 x74.length n83), (43, .int .i64 (x74.length : Int)), (44, .int .i64 0)]) (by kernel_rfl) ?_
          intro t hK
          refine gc_loop (tocsinref26_Record_l126 x74) (fun s109 t I' L' => ∃ A113 n114 C115, OwnS (Kd.int .u8) 5 I' A113 n114 s109.1 C115 ∧ I92 ≤ I' ∧ C115 ++ ([(g40, .cells #[.slice A0_3 a0.f3.length n0_3, .slice A0_4 a0.f4.length n0_4] 22)] ++ L) = L' ∧ Knows 58 [(5, .slice A113 s109.1.length n114), (31, .slice (some ⟨g40, 0, none⟩) [a0.f3, a0.f4].length 2), (32, .int .i64 ([a0.f3, a0.f4].length : Int)), (33, .int .i64 s54.2), (42, .slice A82 x74.length n83), (43, .int .i64 (x74.length : Int)), (44, .int .i64 s109.2)] t) (by kernel_rfl) ?_ hl108 ⟨A95, c96, C97, hO98, (Imm.refl _), rfl, hK⟩
          rintro s109 o110 t I118 L' hb111 ⟨A113, n114, C115, hO116, hI112, rfl, hK117⟩
          unfold tocsinref26_Record_l126 at hb111
          refine gk_at hK117 ?_
          refine gk_seq (by kernel_rfl) ?_
          refine gk_region (by kernel_rfl) ?_
          refine gl_pure 1 [5, 31, 32, 33, 42, 43, 44, 45] (K' := [(5, .slice A113 s109.1.length n114), (31, .slice (some ⟨g40, 0, none⟩) [a0.f3, a0.f4].length 2), (32, .int .i64 ([a0.f3, a0.f4].length : Int)), (33, .int .i64 s54.2), (42, .slice A82 x74.length n83), (43, .int .i64 (x74.length : Int)), (44, .int .i64 s109.2), (45, .bool (decide (s109.2 < (x74.length : Int))))]) (by kernel_rfl) ?_
          refine gl_atE (by kernel_rfl) ?_
          refine ge_seq ?_
          refine gk_seq (by kernel_rfl) ?_
          refine gk_cond (b := (decide (s109.2 < (x74.length : Int)))) (by kernel_rfl) (by kernel_rfl) (fun hc128 => ?_) (fun hc128 => ?_)
          · have hb111 := cond_t hc128 hb111
            refine gk_skip (by kernel_rfl) ?_
            refine ge_seq ?_
            refine gk_seq (by kernel_rfl) ?_
            refine gk_block (by kernel_rfl) ?_
            refine gk_seq (by kernel_rfl) ?_
            refine gk_region (by kernel_rfl) ?_
            obtain ⟨x129, hx130, hb111⟩ := bind_some hb111
            obtain ⟨p131, cs132, hR133, hA134, ha135⟩ := RepS.ixAt hx130 (hf84.mono (Imm.trans (Imm.trans hJ87 hI94) hI112))
            have hi136 := ix_some hx130
            obtain ⟨A137, n138, rfl, hf139⟩ := sl_open hR133
            refine gl_indexAddrF (c := n83) (T' := 22) (e := 36) (xs := (.tmp 42)) (xi := (.tmp 44)) (kd := .i64) ha135 hi136.1 hi136.2.1 (by kernel_rfl) (by kernel_rfl) (by kernel_rfl) (by kernel_rfl) (by kernel_rfl) ?_
            refine gl_load (T' := 36) (xp := (.tmp 46)) (p := p131) (c := .slice A137 x129.length n138) (n := 1) (by kernel_rfl) (by kernel_rfl) (by kernel_rfl) (by kernel_rfl) hA134 ?_
            refine gl_pure 1 [5, 9, 31, 32, 33, 42, 43, 44] (K' := [(5, .slice A113 s109.1.length n114), (9, .slice A137 x129.length n138), (31, .slice (some ⟨g40, 0, none⟩) [a0.f3, a0.f4].length 2), (32, .int .i64 ([a0.f3, a0.f4].length : Int)), (33, .int .i64 s54.2), (42, .slice A82 x74.length n83), (43, .int .i64 (x74.length : Int)), (44, .int .i64 s109.2)]) (by kernel_rfl) ?_
            refine gl_atE (by kernel_rfl) ?_
            refine ge_seq ?_
            refine gk_seq (by kernel_rfl) ?_
            refine gk_region (by kernel_rfl) ?_
            refine gl_pure 2 [31, 32, 33, 42, 43, 44, 49, 50] (K' := [(31, .slice (some ⟨g40, 0, none⟩) [a0.f3, a0.f4].length 2), (32, .int .i64 ([a0.f3, a0.f4].length : Int)), (33, .int .i64 s54.2), (42, .slice A82 x74.length n83), (43, .int .i64 (x74.length : Int)), (44, .int .i64 s109.2), (49, .slice A113 s109.1.length n114), (50, .slice A137 x129.length n138)]) (by kernel_rfl) ?_
            refine gl_rest (Tk.step (Upd.rmC _ _) (Tk.nil _)) (fun J140 hJ141 hC142 => ?_)
            have hf143 := (OwnS.rest hO116 hJ141 hC142.left)
            obtain ⟨y144, hx145, hb111⟩ := bind_some hb111
            refine gl_call (by kernel_rfl) (tocsinref04_Put_walk (r := y144) hf143 (hf139.mono hJ141) hx145 _) ?_
            rintro v I146 L147 hI148 ⟨A149, c150, C151, hO152, rfl, rfl⟩
            refine gl_pure 5 [10, 31, 32, 33, 42, 43, 44] (K' := [(10, .slice A149 y144.1.length c150), (31, .slice (some ⟨g40, 0, none⟩) [a0.f3, a0.f4].length 2), (32, .int .i64 ([a0.f3, a0.f4].length : Int)), (33, .int .i64 s54.2), (42, .slice A82 x74.length n83), (43, .int .i64 (x74.length : Int)), (44, .int .i64 s109.2)]) (by kernel_rfl) ?_
            refine gl_atE (by kernel_rfl) ?_
            refine ge_seq ?_
            refine gk_region (by kernel_rfl) ?_
            refine gl_pure 2 [5, 31, 32, 33, 42, 43, 44] (K' := [(5, .slice A149 y144.1.length c150), (31, .slice (some ⟨g40, 0, none⟩) [a0.f3, a0.f4].length 2), (32, .int .i64 ([a0.f3, a0.f4].length : Int)), (33, .int .i64 s54.2), (42, .slice A82 x74.length n83), (43, .int .i64 (x74.length : Int)), (44, .int .i64 s109.2)]) (by kernel_rfl) ?_
            refine gl_atE (by kernel_rfl) ?_
            refine ge_block_normal ?_
            refine ge_seq ?_
            refine gk_region (by kernel_rfl) ?_
            refine gl_pure 2 [5, 31, 32, 33, 42, 43, 44] (K' := [(5, .slice A149 y144.1.length c150), (31, .slice (some ⟨g40, 0, none⟩) [a0.f3, a0.f4].length 2), (32, .int .i64 ([a0.f3, a0.f4].length : Int)), (33, .int .i64 s54.2), (42, .slice A82 x74.length n83), (43, .int .i64 (x74.length : Int)), (44, .int .i64 (IntKind.wrap .i64 (s109.2 + 1)))]) (by kernel_rfl) ?_
            refine gl_atE (by kernel_rfl) ?_
            obtain rfl := some_inj hb111
            exact ge_round fun t ht => ⟨A149, c150, C151, hO152, (Imm.trans (Imm.trans hI112 hJ141) hI148), rfl, ht.pick (l := [5, 31, 32, 33, 42, 43, 44]) (by kernel_rfl)⟩
          · have hb111 := cond_f hc128 hb111
            refine gk_exit (by kernel_rfl) ?_
            refine ge_seq_exit ?_
            obtain rfl := some_inj hb111
            refine ge_round_out (fun hrr => ?_) (by intro h; cases h)
            obtain rfl := hrr
            refine ge_block_hit (by kernel_rfl) ?_
            exact ge_mid fun t ht => ⟨A113, n114, C115, hO116, hI112, rfl, ht.pick (l := [5, 31, 32, 33]) (by kernel_rfl)⟩
        · rintro t I125 L' ⟨A120, n121, C122, hO123, hI119, rfl, hK124⟩
          refine ge_at hK124 ?_
          refine ge_block_normal ?_
          refine ge_seq ?_
          refine gk_region (by kernel_rfl) ?_
          refine gl_pure 2 [5, 31, 32, 33] (K' := [(5, .slice A120 r107.length n121), (31, .slice (some ⟨g40, 0, none⟩) [a0.f3, a0.f4].length 2), (32, .int .i64 ([a0.f3, a0.f4].length : Int)), (33, .int .i64 (IntKind.wrap .i64 (s54.2 + 1)))]) (by kernel_rfl) ?_
          refine gl_atE (by kernel_rfl) ?_
          obtain rfl := some_inj hb56
          exact ge_round fun t ht => ⟨A120, n121, C122, hO123, (Imm.trans (Imm.trans (Imm.trans hI57 hJ87) hI94) hI119), rfl, ht.pick (l := [5, 31, 32, 33]) (by kernel_rfl)⟩
      · have hb56 := cond_f hc73 hb56
        refine gk_reord (D := C60 ++ L) (Reord.step (Upd.rmC _ _) (Reord.skipC (Reord.refl _))) ?_
        refine gk_exit (by kernel_rfl) ?_
        refine ge_seq_exit ?_
        obtain rfl := some_inj hb56
        refine ge_round_out (fun hrr => ?_) (by intro h; cases h)
        obtain rfl := hrr
        refine ge_block_hit (by kernel_rfl) ?_
        exact ge_mid fun t ht => ⟨A58, n59, C60, hO61, hI57, rfl, ht.pick (l := [5]) (by kernel_rfl)⟩
    · rintro t I70 L' ⟨A65, n66, C67, hO68, hI64, rfl, hK69⟩
      refine ge_at hK69 ?_
      refine ge_seq ?_
      refine gk_seq (by kernel_rfl) ?_
      refine gk_region (by kernel_rfl) ?_
      refine gl_pure 3 [2, 3] (K' := [(2, .slice A65 r52.length n66), (3, .int .i64 0)]) (by kernel_rfl) ?_
      refine gl_atE (by kernel_rfl) ?_
      refine ge_seq ?_
      refine gk_ret (by kernel_rfl) ?_
      obtain rfl := some_inj hr
      exact ge_result trivial (ResOk.tmp (by kernel_rfl) (ResOk.tmp (by kernel_rfl) ResOk.nil)) (Imm.trans (Imm.trans (Imm.trans (Imm.trans (Imm.trans hI9 hJ15) hI22) hJ28) hI35) hI64) ⟨A65, n66, C67, hO68, rfl, rfl⟩
/-! 122 vint_U  -/
noncomputable def vint_U_l24 (a0 : List Int) (a1 : Int) : (Int × Int) → Option ((Int × Int) ⊕ ((Unit) ⊕ (Int × Int × Int))) := fun s14 =>
  bif (decide ((IntKind.wrap .i64 (a1 + s14.2)) ≥ (a0.length : Int))) then
  (some (Sum.inr (Sum.inr (0, 0, 9))))
  else
  (Option.bind (ix a0 (IntKind.wrap .i64 (a1 + s14.2))) fun (x27 : Int) =>
    bif ((s14.2 == 9) && (decide (x27 > 1))) then
    (some (Sum.inr (Sum.inr (0, 0, 7))))
    else
    (bif (((decide (x27 < 128)) && (x27 == 0)) && (decide (s14.2 > 0))) then
      (some (Sum.inr (Sum.inr (0, 0, 3))))
      else
      (Option.bind (shlx .u64 (IntKind.wrap .u64 (bitAnd .u8 x27 127)) (IntKind.wrap .i64 (7 * s14.2))) fun (q50 : Int) =>
        bif (decide (x27 < 128)) then
        (some (Sum.inr (Sum.inr ((bitOr .u64 s14.1 q50), (IntKind.wrap .i64 ((IntKind.wrap .i64 (a1 + s14.2)) + 1)), 0))))
        else
        (some (Sum.inl ((bitOr .u64 s14.1 q50), (IntKind.wrap .i64 (s14.2 + 1))))))))
noncomputable def vint_U (a0 : List Int) (a1 : Int) : Option (Int × Int × Int) :=
  bif ((decide (a1 < 0)) || (decide (a1 > (a0.length : Int)))) then
  (some (0, 0, 1))
  else
  (Option.bind (loopO (vint_U_l24 a0 a1) (0, 0)) fun (r12 : (Unit) ⊕ (Int × Int × Int)) =>
    match r12 with
    | Sum.inl r20 => none
    | Sum.inr v53 => some v53)
theorem vint_U_walk {a0 : List Int} {A0_0 : Option Addr} {n0_0 : Nat} {a1 : Int} {I : Imm} {r : Int × Int × Int}  (hf0_0 : RepS (Kd.int .u8) I A0_0 n0_0 a0) (hr : vint_U a0 a1 = some r) (L : Own) :
    CallsTo Tryd.prog 122 #[.slice A0_0 a0.length n0_0, .int .i64 a1] I L (fun v I' L' => v = .tuple #[.int .u64 r.1, .int .i64 r.2.1, .int .i64 r.2.2] ∧ L = L') := by
  unfold vint_U at hr
  refine callsTo_body (N := 65) Tryd.func122 (by kernel_rfl) (by kernel_rfl) (by kernel_rfl) ?_
  refine gk_pick [0, 1] (K' := [(0, .slice A0_0 a0.length n0_0), (1, .int .i64 a1)]) (by kernel_rfl) ?_
  refine gk_seq (by kernel_rfl) ?_
  refine gk_region (by kernel_rfl) ?_
  refine gl_pure 3 [0, 1] (K' := [(0, .slice A0_0 a0.length n0_0), (1, .int .i64 a1)]) (by kernel_rfl) ?_
  refine gl_atE (by kernel_rfl) ?_
  refine ge_seq ?_
  refine gk_seq (by kernel_rfl) ?_
  refine gk_seq (by kernel_rfl) ?_
  obtain ⟨b3, hb4⟩ : ∃ z, z = ((decide (a1 < 0)) || (decide (a1 > (a0.length : Int)))) := ⟨_, rfl⟩
  refine gk_join (fun t I' L' => I ≤ I' ∧ L = L' ∧ Knows 65 [(0, .slice A0_0 a0.length n0_0), (1, .int .i64 a1), (17, .bool b3)] t) ?_ ?_
  · refine gk_region (by kernel_rfl) ?_
    refine gl_pure 3 [0, 1, 12] (K' := [(0, .slice A0_0 a0.length n0_0), (1, .int .i64 a1), (12, .bool (decide (a1 < 0)))]) (by kernel_rfl) ?_
    refine gl_case 12 (b := (decide (a1 < 0))) (by kernel_rfl) (fun hc6 => ?_) (fun hc6 => ?_)
    · refine gl_pure 5 [0, 1, 17] (K' := [(0, .slice A0_0 a0.length n0_0), (1, .int .i64 a1), (17, .bool true)]) (by kernel_rfl) ?_
      refine gl_atE (by kernel_rfl) ?_
      exact ge_mid fun t ht => ⟨(Imm.refl _), rfl, by rw [(show b3 = true from hb4.trans (by rw [hc6]; try rfl))]; exact ht.pick (l := [0, 1, 17]) (by kernel_rfl)⟩
    · refine gl_pure 5 [0, 1, 17] (K' := [(0, .slice A0_0 a0.length n0_0), (1, .int .i64 a1), (17, .bool (decide (a1 > (a0.length : Int))))]) (by kernel_rfl) ?_
      refine gl_atE (by kernel_rfl) ?_
      exact ge_mid fun t ht => ⟨(Imm.refl _), rfl, by rw [(show b3 = (decide (a1 > (a0.length : Int))) from hb4.trans (by rw [hc6]; try rfl))]; exact ht.pick (l := [0, 1, 17]) (by kernel_rfl)⟩
  · rintro t I5 L' ⟨hI1, rfl, hK2⟩
    subst hb4
    refine ge_at hK2 ?_
    refine ge_seq ?_
    refine gk_cond (b := ((decide (a1 < 0)) || (decide (a1 > (a0.length : Int))))) (by kernel_rfl) (by kernel_rfl) (fun hc7 => ?_) (fun hc7 => ?_)
    · have hr := cond_t hc7 hr
      refine gk_seq (by kernel_rfl) ?_
      refine gk_region (by kernel_rfl) ?_
      refine gl_pure 3 [4, 5, 6] (K' := [(4, .int .u64 0), (5, .int .i64 0), (6, .int .i64 1)]) (by kernel_rfl) ?_
      refine gl_atE (by kernel_rfl) ?_
      refine ge_seq ?_
      refine gk_ret (by kernel_rfl) ?_
      refine ge_seq_ret ?_
      obtain rfl := some_inj hr
      exact ge_result trivial (ResOk.tmp (by kernel_rfl) (ResOk.tmp (by kernel_rfl) (ResOk.tmp (by kernel_rfl) ResOk.nil))) hI1 ⟨rfl, rfl⟩
    · have hr := cond_f hc7 hr
      refine gk_skip (by kernel_rfl) ?_
      refine ge_seq ?_
      refine gk_seq (by kernel_rfl) ?_
      refine gk_region (by kernel_rfl) ?_
      refine gl_pure 1 [0, 1, 7] (K' := [(0, .slice A0_0 a0.length n0_0), (1, .int .i64 a1), (7, .int .u64 0)]) (by kernel_rfl) ?_
      refine gl_atE (by kernel_rfl) ?_
      refine ge_seq ?_
      refine gk_seq (by kernel_rfl) ?_
      refine gk_region (by kernel_rfl) ?_
      refine gl_pure 1 [0, 1, 7, 8] (K' := [(0, .slice A0_0 a0.length n0_0), (1, .int .i64 a1), (7, .int .u64 0), (8, .int .i64 0)]) (by kernel_rfl) ?_
      refine gl_atE (by kernel_rfl) ?_
      refine ge_seq ?_
      obtain ⟨r12, hl13, hr⟩ := bind_some hr
      refine gk_join (fun _ _ _ => False) ?_ ?_
      · refine gk_block (by kernel_rfl) ?_
        refine gk_pick [0, 1, 7, 8] (K' := [(0, .slice A0_0 a0.length n0_0), (1, .int .i64 a1), (7, .int .u64 0), (8, .int .i64 0)]) (by kernel_rfl) ?_
        intro t hK
        refine gc_loop (vint_U_l24 a0 a1) (fun s14 t I' L' => I5 ≤ I' ∧ L = L' ∧ Knows 65 [(0, .slice A0_0 a0.length n0_0), (1, .int .i64 a1), (7, .int .u64 s14.1), (8, .int .i64 s14.2)] t) (by kernel_rfl) ?_ hl13 ⟨(Imm.refl _), rfl, hK⟩
        rintro s14 o15 t I19 L' hb16 ⟨hI17, rfl, hK18⟩
        unfold vint_U_l24 at hb16
        refine gk_at hK18 ?_
        refine gk_seq (by kernel_rfl) ?_
        refine gk_block (by kernel_rfl) ?_
        refine gk_seq (by kernel_rfl) ?_
        refine gk_seq (by kernel_rfl) ?_
        refine gk_region (by kernel_rfl) ?_
        refine gl_pure 6 [0, 1, 7, 8, 25] (K' := [(0, .slice A0_0 a0.length n0_0), (1, .int .i64 a1), (7, .int .u64 s14.1), (8, .int .i64 s14.2), (25, .bool (decide ((IntKind.wrap .i64 (a1 + s14.2)) ≥ (a0.length : Int))))]) (by kernel_rfl) ?_
        refine gl_atE (by kernel_rfl) ?_
        refine ge_seq ?_
        refine gk_cond (b := (decide ((IntKind.wrap .i64 (a1 + s14.2)) ≥ (a0.length : Int)))) (by kernel_rfl) (by kernel_rfl) (fun hc26 => ?_) (fun hc26 => ?_)
        · have hb16 := cond_t hc26 hb16
          refine gk_seq (by kernel_rfl) ?_
          refine gk_region (by kernel_rfl) ?_
          refine gl_pure 3 [4, 5, 6] (K' := [(4, .int .u64 0), (5, .int .i64 0), (6, .int .i64 9)]) (by kernel_rfl) ?_
          refine gl_atE (by kernel_rfl) ?_
          refine ge_seq ?_
          refine gk_ret (by kernel_rfl) ?_
          refine ge_seq_ret ?_
          refine ge_block_ret ?_
          refine ge_seq_ret ?_
          obtain rfl := some_inj hb16
          refine ge_round_out (fun hrr => ?_) (by intro h; cases h)
          obtain rfl := hrr
          refine ge_block_ret ?_
          refine ge_seq_ret ?_
          obtain rfl := some_inj hr
          exact ge_result trivial (ResOk.tmp (by kernel_rfl) (ResOk.tmp (by kernel_rfl) (ResOk.tmp (by kernel_rfl) ResOk.nil))) (Imm.trans hI1 hI17) ⟨rfl, rfl⟩
        · have hb16 := cond_f hc26 hb16
          refine gk_skip (by kernel_rfl) ?_
          refine ge_seq ?_
          refine gk_seq (by kernel_rfl) ?_
          refine gk_region (by kernel_rfl) ?_
          refine gl_pure 4 [0, 1, 7, 8, 26, 29] (K' := [(0, .slice A0_0 a0.length n0_0), (1, .int .i64 a1), (7, .int .u64 s14.1), (8, .int .i64 s14.2), (26, .slice A0_0 a0.length n0_0), (29, .int .i64 (IntKind.wrap .i64 (a1 + s14.2)))]) (by kernel_rfl) ?_
          obtain ⟨x27, hx28, hb16⟩ := bind_some hb16
          obtain ⟨p29, cs30, hR31, hA32, ha33⟩ := RepS.ixAt hx28 (hf0_0.mono (Imm.trans hI1 hI17))
          have hi34 := ix_some hx28
          obtain rfl := hR31
          refine gl_indexAddrF (c := n0_0) (T' := 58) (e := 5) (xs := (.tmp 26)) (xi := (.tmp 29)) (kd := .i64) ha33 hi34.1 hi34.2.1 (by kernel_rfl) (by kernel_rfl) (by kernel_rfl) (by kernel_rfl) (by kernel_rfl) ?_
          refine gl_load (T' := 5) (xp := (.tmp 30)) (p := p29) (c := .int .u8 x27) (n := 1) (by kernel_rfl) (by kernel_rfl) (by kernel_rfl) (by kernel_rfl) hA32 ?_
          refine gl_pure 1 [0, 1, 7, 8, 9] (K' := [(0, .slice A0_0 a0.length n0_0), (1, .int .i64 a1), (7, .int .u64 s14.1), (8, .int .i64 s14.2), (9, .int .u8 x27)]) (by kernel_rfl) ?_
          refine gl_atE (by kernel_rfl) ?_
          refine ge_seq ?_
          refine gk_seq (by kernel_rfl) ?_
          refine gk_block (by kernel_rfl) ?_
          refine gk_seq (by kernel_rfl) ?_
          obtain ⟨b37, hb38⟩ : ∃ z, z = ((s14.2 == 9) && (decide (x27 > 1))) := ⟨_, rfl⟩
          refine gk_join (fun t I' L' => I19 ≤ I' ∧ L = L' ∧ Knows 65 [(0, .slice A0_0 a0.length n0_0), (1, .int .i64 a1), (7, .int .u64 s14.1), (8, .int .i64 s14.2), (9, .int .u8 x27), (32, .bool b37)] t) ?_ ?_
          · refine gk_region (by kernel_rfl) ?_
            refine gl_pure 3 [0, 1, 7, 8, 9, 35] (K' := [(0, .slice A0_0 a0.length n0_0), (1, .int .i64 a1), (7, .int .u64 s14.1), (8, .int .i64 s14.2), (9, .int .u8 x27), (35, .bool (s14.2 == 9))]) (by kernel_rfl) ?_
            refine gl_case 35 (b := (s14.2 == 9)) (by kernel_rfl) (fun hc40 => ?_) (fun hc40 => ?_)
            · refine gl_pure 4 [0, 1, 7, 8, 9, 32] (K' := [(0, .slice A0_0 a0.length n0_0), (1, .int .i64 a1), (7, .int .u64 s14.1), (8, .int .i64 s14.2), (9, .int .u8 x27), (32, .bool (decide (x27 > 1)))]) (by kernel_rfl) ?_
              refine gl_atE (by kernel_rfl) ?_
              exact ge_mid fun t ht => ⟨(Imm.refl _), rfl, by rw [(show b37 = (decide (x27 > 1)) from hb38.trans (by rw [hc40]; try rfl))]; exact ht.pick (l := [0, 1, 7, 8, 9, 32]) (by kernel_rfl)⟩
            · refine gl_pure 4 [0, 1, 7, 8, 9, 32] (K' := [(0, .slice A0_0 a0.length n0_0), (1, .int .i64 a1), (7, .int .u64 s14.1), (8, .int .i64 s14.2), (9, .int .u8 x27), (32, .bool false)]) (by kernel_rfl) ?_
              refine gl_atE (by kernel_rfl) ?_
              exact ge_mid fun t ht => ⟨(Imm.refl _), rfl, by rw [(show b37 = false from hb38.trans (by rw [hc40]; try rfl))]; exact ht.pick (l := [0, 1, 7, 8, 9, 32]) (by kernel_rfl)⟩
          · rintro t I39 L' ⟨hI35, rfl, hK36⟩
            subst hb38
            refine ge_at hK36 ?_
            refine ge_seq ?_
            refine gk_cond (b := ((s14.2 == 9) && (decide (x27 > 1)))) (by kernel_rfl) (by kernel_rfl) (fun hc41 => ?_) (fun hc41 => ?_)
            · have hb16 := cond_t hc41 hb16
              refine gk_seq (by kernel_rfl) ?_
              refine gk_region (by kernel_rfl) ?_
              refine gl_pure 3 [4, 5, 6] (K' := [(4, .int .u64 0), (5, .int .i64 0), (6, .int .i64 7)]) (by kernel_rfl) ?_
              refine gl_atE (by kernel_rfl) ?_
              refine ge_seq ?_
              refine gk_ret (by kernel_rfl) ?_
              refine ge_block_ret ?_
              refine ge_seq_ret ?_
              refine ge_block_ret ?_
              refine ge_seq_ret ?_
              obtain rfl := some_inj hb16
              refine ge_round_out (fun hrr => ?_) (by intro h; cases h)
              obtain rfl := hrr
              refine ge_block_ret ?_
              refine ge_seq_ret ?_
              obtain rfl := some_inj hr
              exact ge_result trivial (ResOk.tmp (by kernel_rfl) (ResOk.tmp (by kernel_rfl) (ResOk.tmp (by kernel_rfl) ResOk.nil))) (Imm.trans (Imm.trans hI1 hI17) hI35) ⟨rfl, rfl⟩
            · have hb16 := cond_f hc41 hb16
              refine gk_seq (by kernel_rfl) ?_
              obtain ⟨b44, hb45⟩ : ∃ z, z = (((decide (x27 < 128)) && (x27 == 0)) && (decide (s14.2 > 0))) := ⟨_, rfl⟩
              refine gk_join (fun t I' L' => I39 ≤ I' ∧ L = L' ∧ Knows 65 [(0, .slice A0_0 a0.length n0_0), (1, .int .i64 a1), (7, .int .u64 s14.1), (8, .int .i64 s14.2), (9, .int .u8 x27), (39, .bool b44)] t) ?_ ?_
              · refine gk_region (by kernel_rfl) ?_
                refine gl_pure 3 [0, 1, 7, 8, 9, 42] (K' := [(0, .slice A0_0 a0.length n0_0), (1, .int .i64 a1), (7, .int .u64 s14.1), (8, .int .i64 s14.2), (9, .int .u8 x27), (42, .bool (decide (x27 < 128)))]) (by kernel_rfl) ?_
                refine gl_case 42 (b := (decide (x27 < 128))) (by kernel_rfl) (fun hc47 => ?_) (fun hc47 => ?_)
                · refine gl_pure 4 [0, 1, 7, 8, 9, 46] (K' := [(0, .slice A0_0 a0.length n0_0), (1, .int .i64 a1), (7, .int .u64 s14.1), (8, .int .i64 s14.2), (9, .int .u8 x27), (46, .bool (x27 == 0))]) (by kernel_rfl) ?_
                  refine gl_case 46 (b := (x27 == 0)) (by kernel_rfl) (fun hc48 => ?_) (fun hc48 => ?_)
                  · refine gl_pure 4 [0, 1, 7, 8, 9, 39] (K' := [(0, .slice A0_0 a0.length n0_0), (1, .int .i64 a1), (7, .int .u64 s14.1), (8, .int .i64 s14.2), (9, .int .u8 x27), (39, .bool (decide (s14.2 > 0)))]) (by kernel_rfl) ?_
                    refine gl_atE (by kernel_rfl) ?_
                    exact ge_mid fun t ht => ⟨(Imm.refl _), rfl, by rw [(show b44 = (decide (s14.2 > 0)) from hb45.trans (by rw [hc47, hc48]; try rfl))]; exact ht.pick (l := [0, 1, 7, 8, 9, 39]) (by kernel_rfl)⟩
                  · refine gl_pure 4 [0, 1, 7, 8, 9, 39] (K' := [(0, .slice A0_0 a0.length n0_0), (1, .int .i64 a1), (7, .int .u64 s14.1), (8, .int .i64 s14.2), (9, .int .u8 x27), (39, .bool false)]) (by kernel_rfl) ?_
                    refine gl_atE (by kernel_rfl) ?_
                    exact ge_mid fun t ht => ⟨(Imm.refl _), rfl, by rw [(show b44 = false from hb45.trans (by rw [hc47, hc48]; try rfl))]; exact ht.pick (l := [0, 1, 7, 8, 9, 39]) (by kernel_rfl)⟩
                · refine gl_pure 8 [0, 1, 7, 8, 9, 39] (K' := [(0, .slice A0_0 a0.length n0_0), (1, .int .i64 a1), (7, .int .u64 s14.1), (8, .int .i64 s14.2), (9, .int .u8 x27), (39, .bool false)]) (by kernel_rfl) ?_
                  refine gl_atE (by kernel_rfl) ?_
                  exact ge_mid fun t ht => ⟨(Imm.refl _), rfl, by rw [(show b44 = false from hb45.trans (by rw [hc47]; try rfl))]; exact ht.pick (l := [0, 1, 7, 8, 9, 39]) (by kernel_rfl)⟩
              · rintro t I46 L' ⟨hI42, rfl, hK43⟩
                subst hb45
                refine ge_at hK43 ?_
                refine ge_seq ?_
                refine gk_cond (b := (((decide (x27 < 128)) && (x27 == 0)) && (decide (s14.2 > 0)))) (by kernel_rfl) (by kernel_rfl) (fun hc49 => ?_) (fun hc49 => ?_)
                · have hb16 := cond_t hc49 hb16
                  refine gk_seq (by kernel_rfl) ?_
                  refine gk_region (by kernel_rfl) ?_
                  refine gl_pure 3 [4, 5, 6] (K' := [(4, .int .u64 0), (5, .int .i64 0), (6, .int .i64 3)]) (by kernel_rfl) ?_
                  refine gl_atE (by kernel_rfl) ?_
                  refine ge_seq ?_
                  refine gk_ret (by kernel_rfl) ?_
                  refine ge_block_ret ?_
                  refine ge_seq_ret ?_
                  refine ge_block_ret ?_
                  refine ge_seq_ret ?_
                  obtain rfl := some_inj hb16
                  refine ge_round_out (fun hrr => ?_) (by intro h; cases h)
                  obtain rfl := hrr
                  refine ge_block_ret ?_
                  refine ge_seq_ret ?_
                  obtain rfl := some_inj hr
                  exact ge_result trivial (ResOk.tmp (by kernel_rfl) (ResOk.tmp (by kernel_rfl) (ResOk.tmp (by kernel_rfl) ResOk.nil))) (Imm.trans (Imm.trans (Imm.trans hI1 hI17) hI35) hI42) ⟨rfl, rfl⟩
                · have hb16 := cond_f hc49 hb16
                  refine gk_skip (by kernel_rfl) ?_
                  refine ge_block_normal ?_
                  refine ge_seq ?_
                  refine gk_seq (by kernel_rfl) ?_
                  refine gk_region (by kernel_rfl) ?_
                  refine gl_pure 6 [0, 1, 8, 9, 50, 53, 55] (K' := [(0, .slice A0_0 a0.length n0_0), (1, .int .i64 a1), (8, .int .i64 s14.2), (9, .int .u8 x27), (50, .int .u64 s14.1), (53, .int .u64 (IntKind.wrap .u64 (bitAnd .u8 x27 127))), (55, .int .i64 (IntKind.wrap .i64 (7 * s14.2)))]) (by kernel_rfl) ?_
                  obtain ⟨q50, hx51, hb16⟩ := bind_some hb16
                  refine gl_shl (t := 106) (t' := 3) (x := (.tmp 53)) (y := (.tmp 55)) (kx := .u64) (ky := .i64) hx51 (by kernel_rfl) (by kernel_rfl) (by kernel_rfl) (by kernel_rfl) ?_
                  refine gl_pure 2 [0, 1, 7, 8, 9] (K' := [(0, .slice A0_0 a0.length n0_0), (1, .int .i64 a1), (7, .int .u64 (bitOr .u64 s14.1 q50)), (8, .int .i64 s14.2), (9, .int .u8 x27)]) (by kernel_rfl) ?_
                  refine gl_atE (by kernel_rfl) ?_
                  refine ge_seq ?_
                  refine gk_seq (by kernel_rfl) ?_
                  refine gk_region (by kernel_rfl) ?_
                  refine gl_pure 2 [0, 1, 7, 8, 59] (K' := [(0, .slice A0_0 a0.length n0_0), (1, .int .i64 a1), (7, .int .u64 (bitOr .u64 s14.1 q50)), (8, .int .i64 s14.2), (59, .bool (decide (x27 < 128)))]) (by kernel_rfl) ?_
                  refine gl_atE (by kernel_rfl) ?_
                  refine ge_seq ?_
                  refine gk_cond (b := (decide (x27 < 128))) (by kernel_rfl) (by kernel_rfl) (fun hc52 => ?_) (fun hc52 => ?_)
                  · have hb16 := cond_t hc52 hb16
                    refine gk_seq (by kernel_rfl) ?_
                    refine gk_region (by kernel_rfl) ?_
                    refine gl_pure 8 [4, 5, 6] (K' := [(4, .int .u64 (bitOr .u64 s14.1 q50)), (5, .int .i64 (IntKind.wrap .i64 ((IntKind.wrap .i64 (a1 + s14.2)) + 1))), (6, .int .i64 0)]) (by kernel_rfl) ?_
                    refine gl_atE (by kernel_rfl) ?_
                    refine ge_seq ?_
                    refine gk_ret (by kernel_rfl) ?_
                    refine ge_block_ret ?_
                    refine ge_seq_ret ?_
                    obtain rfl := some_inj hb16
                    refine ge_round_out (fun hrr => ?_) (by intro h; cases h)
                    obtain rfl := hrr
                    refine ge_block_ret ?_
                    refine ge_seq_ret ?_
                    obtain rfl := some_inj hr
                    exact ge_result trivial (ResOk.tmp (by kernel_rfl) (ResOk.tmp (by kernel_rfl) (ResOk.tmp (by kernel_rfl) ResOk.nil))) (Imm.trans (Imm.trans (Imm.trans hI1 hI17) hI35) hI42) ⟨rfl, rfl⟩
                  · have hb16 := cond_f hc52 hb16
                    refine gk_skip (by kernel_rfl) ?_
                    refine ge_block_normal ?_
                    refine ge_seq ?_
                    refine gk_region (by kernel_rfl) ?_
                    refine gl_pure 3 [0, 1, 7, 8] (K' := [(0, .slice A0_0 a0.length n0_0), (1, .int .i64 a1), (7, .int .u64 (bitOr .u64 s14.1 q50)), (8, .int .i64 (IntKind.wrap .i64 (s14.2 + 1)))]) (by kernel_rfl) ?_
                    refine gl_atE (by kernel_rfl) ?_
                    obtain rfl := some_inj hb16
                    exact ge_round fun t ht => ⟨(Imm.trans (Imm.trans hI17 hI35) hI42), rfl, ht.pick (l := [0, 1, 7, 8]) (by kernel_rfl)⟩
      · rintro t I L' h
        exact h.elim
/-! 101 vint_Text  -/
noncomputable def vint_Text (a0 : List Int) (a1 : Int) (a2 : Int) : Option (ByteArray × Int × Int) :=
  bif (((decide (a1 < 0)) || (decide (a1 > (a0.length : Int)))) || (decide (a2 < 0))) then
  (some ((⟨#[]⟩ : ByteArray), 0, 1))
  else
  (Option.bind (vint_U a0 a1) fun (y9 : Int × Int × Int) =>
    bif (y9.2.2 != 0) then
    (some ((⟨#[]⟩ : ByteArray), 0, y9.2.2))
    else
    (bif (decide (y9.1 > (IntKind.wrap .u64 a2))) then
      (some ((⟨#[]⟩ : ByteArray), 0, 4))
      else
      (bif (decide (y9.1 > (IntKind.wrap .u64 (IntKind.wrap .i64 ((a0.length : Int) - y9.2.1))))) then
        (some ((⟨#[]⟩ : ByteArray), 0, 9))
        else
        (Option.bind (lx a0 y9.2.1 (IntKind.wrap .i64 (y9.2.1 + (IntKind.wrap .i64 y9.1)))) fun (l15 : List Int) =>
          Option.bind (utf8_ValidString (ofBytes l15)) fun (y19 : Bool) =>
          bif (!y19) then
          (some ((⟨#[]⟩ : ByteArray), 0, 12))
          else
          (some ((ofBytes l15), (IntKind.wrap .i64 (y9.2.1 + (IntKind.wrap .i64 y9.1))), 0))))))
theorem vint_Text_walk {a0 : List Int} {A0_0 : Option Addr} {n0_0 : Nat} {a1 : Int} {a2 : Int} {I : Imm} {r : ByteArray × Int × Int} (hG : Gl I)  (hf0_0 : RepS (Kd.int .u8) I A0_0 n0_0 a0) (hr : vint_Text a0 a1 a2 = some r) (L : Own) :
    CallsTo Tryd.prog 101 #[.slice A0_0 a0.length n0_0, .int .i64 a1, .int .i64 a2] I L (fun v I' L' => v = .tuple #[.string r.1, .int .i64 r.2.1, .int .i64 r.2.2] ∧ L = L') := by
  unfold vint_Text at hr
  refine callsTo_body (N := 65) Tryd.func101 (by kernel_rfl) (by kernel_rfl) (by kernel_rfl) ?_
  refine gk_pick [0, 1, 2] (K' := [(0, .slice A0_0 a0.length n0_0), (1, .int .i64 a1), (2, .int .i64 a2)]) (by kernel_rfl) ?_
  refine gk_seq (by kernel_rfl) ?_
  refine gk_region (by kernel_rfl) ?_
  refine gl_pure 3 [0, 1, 2] (K' := [(0, .slice A0_0 a0.length n0_0), (1, .int .i64 a1), (2, .int .i64 a2)]) (by kernel_rfl) ?_
  refine gl_atE (by kernel_rfl) ?_
  refine ge_seq ?_
  refine gk_seq (by kernel_rfl) ?_
  refine gk_seq (by kernel_rfl) ?_
  obtain ⟨b3, hb4⟩ : ∃ z, z = (((decide (a1 < 0)) || (decide (a1 > (a0.length : Int)))) || (decide (a2 < 0))) := ⟨_, rfl⟩
  refine gk_join (fun t I' L' => I ≤ I' ∧ L = L' ∧ Knows 65 [(0, .slice A0_0 a0.length n0_0), (1, .int .i64 a1), (2, .int .i64 a2), (24, .bool b3)] t) ?_ ?_
  · refine gk_region (by kernel_rfl) ?_
    refine gl_pure 3 [0, 1, 2, 15] (K' := [(0, .slice A0_0 a0.length n0_0), (1, .int .i64 a1), (2, .int .i64 a2), (15, .bool (decide (a1 < 0)))]) (by kernel_rfl) ?_
    refine gl_case 15 (b := (decide (a1 < 0))) (by kernel_rfl) (fun hc6 => ?_) (fun hc6 => ?_)
    · refine gl_pure 9 [0, 1, 2, 24] (K' := [(0, .slice A0_0 a0.length n0_0), (1, .int .i64 a1), (2, .int .i64 a2), (24, .bool true)]) (by kernel_rfl) ?_
      refine gl_atE (by kernel_rfl) ?_
      exact ge_mid fun t ht => ⟨(Imm.refl _), rfl, by rw [(show b3 = true from hb4.trans (by rw [hc6]; try rfl))]; exact ht.pick (l := [0, 1, 2, 24]) (by kernel_rfl)⟩
    · refine gl_pure 6 [0, 1, 2, 21] (K' := [(0, .slice A0_0 a0.length n0_0), (1, .int .i64 a1), (2, .int .i64 a2), (21, .bool (decide (a1 > (a0.length : Int))))]) (by kernel_rfl) ?_
      refine gl_case 21 (b := (decide (a1 > (a0.length : Int)))) (by kernel_rfl) (fun hc7 => ?_) (fun hc7 => ?_)
      · refine gl_pure 3 [0, 1, 2, 24] (K' := [(0, .slice A0_0 a0.length n0_0), (1, .int .i64 a1), (2, .int .i64 a2), (24, .bool true)]) (by kernel_rfl) ?_
        refine gl_atE (by kernel_rfl) ?_
        exact ge_mid fun t ht => ⟨(Imm.refl _), rfl, by rw [(show b3 = true from hb4.trans (by rw [hc6, hc7]; try rfl))]; exact ht.pick (l := [0, 1, 2, 24]) (by kernel_rfl)⟩
      · refine gl_pure 3 [0, 1, 2, 24] (K' := [(0, .slice A0_0 a0.length n0_0), (1, .int .i64 a1), (2, .int .i64 a2), (24, .bool (decide (a2 < 0)))]) (by kernel_rfl) ?_
        refine gl_atE (by kernel_rfl) ?_
        exact ge_mid fun t ht => ⟨(Imm.refl _), rfl, by rw [(show b3 = (decide (a2 < 0)) from hb4.trans (by rw [hc6, hc7]; try rfl))]; exact ht.pick (l := [0, 1, 2, 24]) (by kernel_rfl)⟩
  · rintro t I5 L' ⟨hI1, rfl, hK2⟩
    subst hb4
    refine ge_at hK2 ?_
    refine ge_seq ?_
    refine gk_cond (b := (((decide (a1 < 0)) || (decide (a1 > (a0.length : Int)))) || (decide (a2 < 0)))) (by kernel_rfl) (by kernel_rfl) (fun hc8 => ?_) (fun hc8 => ?_)
    · have hr := cond_t hc8 hr
      refine gk_seq (by kernel_rfl) ?_
      refine gk_region (by kernel_rfl) ?_
      refine gl_pure 3 [6, 7, 8] (K' := [(6, .string (⟨#[]⟩ : ByteArray)), (7, .int .i64 0), (8, .int .i64 1)]) (by kernel_rfl) ?_
      refine gl_atE (by kernel_rfl) ?_
      refine ge_seq ?_
      refine gk_ret (by kernel_rfl) ?_
      refine ge_seq_ret ?_
      obtain rfl := some_inj hr
      exact ge_result trivial (ResOk.tmp (by kernel_rfl) (ResOk.tmp (by kernel_rfl) (ResOk.tmp (by kernel_rfl) ResOk.nil))) hI1 ⟨rfl, rfl⟩
    · have hr := cond_f hc8 hr
      refine gk_skip (by kernel_rfl) ?_
      refine ge_seq ?_
      refine gk_seq (by kernel_rfl) ?_
      refine gk_region (by kernel_rfl) ?_
      refine gl_pure 2 [0, 2, 26, 27] (K' := [(0, .slice A0_0 a0.length n0_0), (2, .int .i64 a2), (26, .slice A0_0 a0.length n0_0), (27, .int .i64 a1)]) (by kernel_rfl) ?_
      obtain ⟨y9, hx10, hr⟩ := bind_some hr
      refine gl_callQ (by kernel_rfl) (vint_U_walk (r := y9) (hf0_0.mono hI1) hx10 _) ?_
      refine gl_pure 7 [0, 2, 9, 10, 11] (K' := [(0, .slice A0_0 a0.length n0_0), (2, .int .i64 a2), (9, .int .u64 y9.1), (10, .int .i64 y9.2.1), (11, .int .i64 y9.2.2)]) (by kernel_rfl) ?_
      refine gl_atE (by kernel_rfl) ?_
      refine ge_seq ?_
      refine gk_seq (by kernel_rfl) ?_
      refine gk_block (by kernel_rfl) ?_
      refine gk_seq (by kernel_rfl) ?_
      refine gk_region (by kernel_rfl) ?_
      refine gl_pure 3 [0, 2, 9, 10, 11, 32] (K' := [(0, .slice A0_0 a0.length n0_0), (2, .int .i64 a2), (9, .int .u64 y9.1), (10, .int .i64 y9.2.1), (11, .int .i64 y9.2.2), (32, .bool (y9.2.2 != 0))]) (by kernel_rfl) ?_
      refine gl_atE (by kernel_rfl) ?_
      refine ge_seq ?_
      refine gk_cond (b := (y9.2.2 != 0)) (by kernel_rfl) (by kernel_rfl) (fun hc11 => ?_) (fun hc11 => ?_)
      · have hr := cond_t hc11 hr
        refine gk_seq (by kernel_rfl) ?_
        refine gk_region (by kernel_rfl) ?_
        refine gl_pure 4 [6, 7, 8] (K' := [(6, .string (⟨#[]⟩ : ByteArray)), (7, .int .i64 0), (8, .int .i64 y9.2.2)]) (by kernel_rfl) ?_
        refine gl_atE (by kernel_rfl) ?_
        refine ge_seq ?_
        refine gk_ret (by kernel_rfl) ?_
        refine ge_block_ret ?_
        refine ge_seq_ret ?_
        obtain rfl := some_inj hr
        exact ge_result trivial (ResOk.tmp (by kernel_rfl) (ResOk.tmp (by kernel_rfl) (ResOk.tmp (by kernel_rfl) ResOk.nil))) hI1 ⟨rfl, rfl⟩
      · have hr := cond_f hc11 hr
        refine gk_seq (by kernel_rfl) ?_
        refine gk_region (by kernel_rfl) ?_
        refine gl_pure 5 [0, 9, 10, 36] (K' := [(0, .slice A0_0 a0.length n0_0), (9, .int .u64 y9.1), (10, .int .i64 y9.2.1), (36, .bool (decide (y9.1 > (IntKind.wrap .u64 a2))))]) (by kernel_rfl) ?_
        refine gl_atE (by kernel_rfl) ?_
        refine ge_seq ?_
        refine gk_cond (b := (decide (y9.1 > (IntKind.wrap .u64 a2)))) (by kernel_rfl) (by kernel_rfl) (fun hc12 => ?_) (fun hc12 => ?_)
        · have hr := cond_t hc12 hr
          refine gk_seq (by kernel_rfl) ?_
          refine gk_region (by kernel_rfl) ?_
          refine gl_pure 3 [6, 7, 8] (K' := [(6, .string (⟨#[]⟩ : ByteArray)), (7, .int .i64 0), (8, .int .i64 4)]) (by kernel_rfl) ?_
          refine gl_atE (by kernel_rfl) ?_
          refine ge_seq ?_
          refine gk_ret (by kernel_rfl) ?_
          refine ge_block_ret ?_
          refine ge_seq_ret ?_
          obtain rfl := some_inj hr
          exact ge_result trivial (ResOk.tmp (by kernel_rfl) (ResOk.tmp (by kernel_rfl) (ResOk.tmp (by kernel_rfl) ResOk.nil))) hI1 ⟨rfl, rfl⟩
        · have hr := cond_f hc12 hr
          refine gk_seq (by kernel_rfl) ?_
          refine gk_region (by kernel_rfl) ?_
          refine gl_pure 8 [0, 9, 10, 41] (K' := [(0, .slice A0_0 a0.length n0_0), (9, .int .u64 y9.1), (10, .int .i64 y9.2.1), (41, .bool (decide (y9.1 > (IntKind.wrap .u64 (IntKind.wrap .i64 ((a0.length : Int) - y9.2.1))))))]) (by kernel_rfl) ?_
          refine gl_atE (by kernel_rfl) ?_
          refine ge_seq ?_
          refine gk_cond (b := (decide (y9.1 > (IntKind.wrap .u64 (IntKind.wrap .i64 ((a0.length : Int) - y9.2.1)))))) (by kernel_rfl) (by kernel_rfl) (fun hc13 => ?_) (fun hc13 => ?_)
          · have hr := cond_t hc13 hr
            refine gk_seq (by kernel_rfl) ?_
            refine gk_region (by kernel_rfl) ?_
            refine gl_pure 3 [6, 7, 8] (K' := [(6, .string (⟨#[]⟩ : ByteArray)), (7, .int .i64 0), (8, .int .i64 9)]) (by kernel_rfl) ?_
            refine gl_atE (by kernel_rfl) ?_
            refine ge_seq ?_
            refine gk_ret (by kernel_rfl) ?_
            refine ge_block_ret ?_
            refine ge_seq_ret ?_
            obtain rfl := some_inj hr
            exact ge_result trivial (ResOk.tmp (by kernel_rfl) (ResOk.tmp (by kernel_rfl) (ResOk.tmp (by kernel_rfl) ResOk.nil))) hI1 ⟨rfl, rfl⟩
          · have hr := cond_f hc13 hr
            refine gk_skip (by kernel_rfl) ?_
            refine ge_block_normal ?_
            refine ge_seq ?_
            refine gk_seq (by kernel_rfl) ?_
            refine gk_region (by kernel_rfl) ?_
            refine gl_pure 6 [9, 10, 49, 50, 54] (K' := [(9, .int .u64 y9.1), (10, .int .i64 y9.2.1), (49, .slice A0_0 a0.length n0_0), (50, .int .i64 y9.2.1), (54, .int .i64 (IntKind.wrap .i64 (y9.2.1 + (IntKind.wrap .i64 y9.1))))]) (by kernel_rfl) ?_
            obtain ⟨l15, hx14, hr⟩ := bind_some hr
            refine gl_sliceR (d := (Kd.int .u8)) (T' := 58) (e := 5) (xs := (.tmp 49)) (lo := (some (.tmp 50))) (hi := (some (.tmp 54))) hx14 (hf0_0.mono hI1) (by kernel_rfl) (by kernel_rfl) (by kernel_rfl) (by kernel_rfl) (by kernel_rfl) (by kernel_rfl) (fun A16 n17 hf18 => ?_)
            refine gl_bytesStr (c := n17) (src := 58) (dst := 9) (e := 5) (n := 1) (x := (.tmp 55)) (by kernel_rfl) (by kernel_rfl) (by kernel_rfl) (by kernel_rfl) (by kernel_rfl) (by kernel_rfl) (RepS.rd hf18 _) ?_
            refine gl_pure 1 [9, 10, 12] (K' := [(9, .int .u64 y9.1), (10, .int .i64 y9.2.1), (12, .string (ofBytes l15))]) (by kernel_rfl) ?_
            refine gl_atE (by kernel_rfl) ?_
            refine ge_seq ?_
            refine gk_seq (by kernel_rfl) ?_
            refine gk_seq (by kernel_rfl) ?_
            refine gk_region (by kernel_rfl) ?_
            refine gl_pure 1 [9, 10, 12, 57] (K' := [(9, .int .u64 y9.1), (10, .int .i64 y9.2.1), (12, .string (ofBytes l15)), (57, .string (ofBytes l15))]) (by kernel_rfl) ?_
            obtain ⟨y19, hx20, hr⟩ := bind_some hr
            refine gl_callQ (by kernel_rfl) (utf8_ValidString_walk (r := y19) (hG.mono hI1) hx20 _) ?_
            refine gl_pure 1 [9, 10, 12, 59] (K' := [(9, .int .u64 y9.1), (10, .int .i64 y9.2.1), (12, .string (ofBytes l15)), (59, .bool (!y19))]) (by kernel_rfl) ?_
            refine gl_atE (by kernel_rfl) ?_
            refine ge_seq ?_
            refine gk_cond (b := (!y19)) (by kernel_rfl) (by kernel_rfl) (fun hc21 => ?_) (fun hc21 => ?_)
            · have hr := cond_t hc21 hr
              refine gk_seq (by kernel_rfl) ?_
              refine gk_region (by kernel_rfl) ?_
              refine gl_pure 3 [6, 7, 8] (K' := [(6, .string (⟨#[]⟩ : ByteArray)), (7, .int .i64 0), (8, .int .i64 12)]) (by kernel_rfl) ?_
              refine gl_atE (by kernel_rfl) ?_
              refine ge_seq ?_
              refine gk_ret (by kernel_rfl) ?_
              refine ge_seq_ret ?_
              obtain rfl := some_inj hr
              exact ge_result trivial (ResOk.tmp (by kernel_rfl) (ResOk.tmp (by kernel_rfl) (ResOk.tmp (by kernel_rfl) ResOk.nil))) hI1 ⟨rfl, rfl⟩
            · have hr := cond_f hc21 hr
              refine gk_skip (by kernel_rfl) ?_
              refine ge_seq ?_
              refine gk_seq (by kernel_rfl) ?_
              refine gk_region (by kernel_rfl) ?_
              refine gl_pure 8 [6, 7, 8] (K' := [(6, .string (ofBytes l15)), (7, .int .i64 (IntKind.wrap .i64 (y9.2.1 + (IntKind.wrap .i64 y9.1)))), (8, .int .i64 0)]) (by kernel_rfl) ?_
              refine gl_atE (by kernel_rfl) ?_
              refine ge_seq ?_
              refine gk_ret (by kernel_rfl) ?_
              obtain rfl := some_inj hr
              exact ge_result trivial (ResOk.tmp (by kernel_rfl) (ResOk.tmp (by kernel_rfl) (ResOk.tmp (by kernel_rfl) ResOk.nil))) hI1 ⟨rfl, rfl⟩
/-! 102 vint_I  -/
noncomputable def vint_I (a0 : List Int) (a1 : Int) : Option (Int × Int × Int) :=
  Option.bind (vint_U a0 a1) fun (y1 : Int × Int × Int) =>
  some ((bitXor .i64 (IntKind.wrap .i64 (shr .u64 y1.1 1)) (IntKind.wrap .i64 (0 - (IntKind.wrap .i64 (bitAnd .u64 y1.1 1))))), y1.2.1, y1.2.2)
theorem vint_I_walk {a0 : List Int} {A0_0 : Option Addr} {n0_0 : Nat} {a1 : Int} {I : Imm} {r : Int × Int × Int}  (hf0_0 : RepS (Kd.int .u8) I A0_0 n0_0 a0) (hr : vint_I a0 a1 = some r) (L : Own) :
    CallsTo Tryd.prog 102 #[.slice A0_0 a0.length n0_0, .int .i64 a1] I L (fun v I' L' => v = .tuple #[.int .i64 r.1, .int .i64 r.2.1, .int .i64 r.2.2] ∧ L = L') := by
  unfold vint_I at hr
  refine callsTo_body (N := 27) Tryd.func102 (by kernel_rfl) (by kernel_rfl) (by kernel_rfl) ?_
  refine gk_pick [0, 1] (K' := [(0, .slice A0_0 a0.length n0_0), (1, .int .i64 a1)]) (by kernel_rfl) ?_
  refine gk_seq (by kernel_rfl) ?_
  refine gk_region (by kernel_rfl) ?_
  refine gl_pure 3 [0, 1] (K' := [(0, .slice A0_0 a0.length n0_0), (1, .int .i64 a1)]) (by kernel_rfl) ?_
  refine gl_atE (by kernel_rfl) ?_
  refine ge_seq ?_
  refine gk_seq (by kernel_rfl) ?_
  refine gk_region (by kernel_rfl) ?_
  refine gl_pure 2 [11, 12] (K' := [(11, .slice A0_0 a0.length n0_0), (12, .int .i64 a1)]) (by kernel_rfl) ?_
  obtain ⟨y1, hx2, hr⟩ := bind_some hr
  refine gl_callQ (by kernel_rfl) (vint_U_walk (r := y1) hf0_0 hx2 _) ?_
  refine gl_pure 7 [7, 8, 9] (K' := [(7, .int .u64 y1.1), (8, .int .i64 y1.2.1), (9, .int .i64 y1.2.2)]) (by kernel_rfl) ?_
  refine gl_atE (by kernel_rfl) ?_
  refine ge_seq ?_
  refine gk_seq (by kernel_rfl) ?_
  refine gk_region (by kernel_rfl) ?_
  refine gl_pure 13 [4, 5, 6] (K' := [(4, .int .i64 (bitXor .i64 (IntKind.wrap .i64 (shr .u64 y1.1 1)) (IntKind.wrap .i64 (0 - (IntKind.wrap .i64 (bitAnd .u64 y1.1 1)))))), (5, .int .i64 y1.2.1), (6, .int .i64 y1.2.2)]) (by kernel_rfl) ?_
  refine gl_atE (by kernel_rfl) ?_
  refine ge_seq ?_
  refine gk_ret (by kernel_rfl) ?_
  obtain rfl := some_inj hr
  exact ge_result trivial (ResOk.tmp (by kernel_rfl) (ResOk.tmp (by kernel_rfl) (ResOk.tmp (by kernel_rfl) ResOk.nil))) (Imm.refl _) ⟨rfl, rfl⟩
/-! 123 labels_Read  -/
noncomputable def labels_Read_l33 (a0 : List Int) (y1 : Int × Int × Int) : (Int × (List S79) × Int) → Option ((Int × (List S79) × Int) ⊕ ((Int × (List S79)) ⊕ ((List S79) × Int × Int))) := fun s15 =>
  bif (decide (s15.2.2 < y1.1)) then
  (Option.bind (vint_Text a0 s15.1 64) fun (y37 : ByteArray × Int × Int) =>
    bif (y37.2.2 != 0) then
    (some (Sum.inr (Sum.inr ([], 0, y37.2.2))))
    else
    (Option.bind (vint_Text a0 y37.2.1 256) fun (y40 : ByteArray × Int × Int) =>
      bif (y40.2.2 != 0) then
      (some (Sum.inr (Sum.inr ([], 0, y40.2.2))))
      else
      (Option.bind (app s15.2.1 [(⟨y37.1, y40.1⟩ : S79)]) fun (zs47 : List S79) =>
        some (Sum.inl (y40.2.1, zs47, (IntKind.wrap .u64 (s15.2.2 + 1)))))))
  else
  (some (Sum.inr (Sum.inl (s15.1, s15.2.1))))
noncomputable def labels_Read (a0 : List Int) (a1 : Int) : Option ((List S79) × Int × Int) :=
  Option.bind (vint_U a0 a1) fun (y1 : Int × Int × Int) =>
  bif (y1.2.2 != 0) then
  (some ([], 0, y1.2.2))
  else
  (bif (decide (y1.1 > 16)) then
    (some ([], 0, 8))
    else
    (Option.bind (loopO (labels_Read_l33 a0 y1) (y1.2.1, [], 0)) fun (r13 : (Int × (List S79)) ⊕ ((List S79) × Int × Int)) =>
      match r13 with
      | Sum.inl r25 => Option.bind (labels_right r25.2) fun (y53 : Int) =>
        bif (y53 != 0) then
        (some ([], 0, y53))
        else
        (some (r25.2, r25.1, 0))
      | Sum.inr v56 => some v56))
theorem labels_Read_walk {a0 : List Int} {A0_0 : Option Addr} {n0_0 : Nat} {a1 : Int} {I : Imm} {r : (List S79) × Int × Int} (hG : Gl I)  (hf0_0 : RepS (Kd.int .u8) I A0_0 n0_0 a0) (hr : labels_Read a0 a1 = some r) (L : Own) :
    CallsTo Tryd.prog 123 #[.slice A0_0 a0.length n0_0, .int .i64 a1] I L (fun v I' L' => ∃ A0 c0 C0, OwnS kS79 80 I' A0 c0 r.1 C0 ∧ v = .tuple #[.slice A0 r.1.length c0, .int .i64 r.2.1, .int .i64 r.2.2] ∧ C0 ++ L = L') := by
  unfold labels_Read at hr
  refine callsTo_body (N := 60) Tryd.func123 (by kernel_rfl) (by kernel_rfl) (by kernel_rfl) ?_
  refine gk_pick [0, 1] (K' := [(0, .slice A0_0 a0.length n0_0), (1, .int .i64 a1)]) (by kernel_rfl) ?_
  refine gk_seq (by kernel_rfl) ?_
  refine gk_region (by kernel_rfl) ?_
  refine gl_pure 3 [0, 1] (K' := [(0, .slice A0_0 a0.length n0_0), (1, .int .i64 a1)]) (by kernel_rfl) ?_
  refine gl_atE (by kernel_rfl) ?_
  refine ge_seq ?_
  refine gk_seq (by kernel_rfl) ?_
  refine gk_region (by kernel_rfl) ?_
  refine gl_pure 2 [0, 12, 13] (K' := [(0, .slice A0_0 a0.length n0_0), (12, .slice A0_0 a0.length n0_0), (13, .int .i64 a1)]) (by kernel_rfl) ?_
  obtain ⟨y1, hx2, hr⟩ := bind_some hr
  refine gl_callQ (by kernel_rfl) (vint_U_walk (r := y1) hf0_0 hx2 _) ?_
  refine gl_pure 7 [0, 1, 7, 8] (K' := [(0, .slice A0_0 a0.length n0_0), (1, .int .i64 y1.2.1), (7, .int .u64 y1.1), (8, .int .i64 y1.2.2)]) (by kernel_rfl) ?_
  refine gl_atE (by kernel_rfl) ?_
  refine ge_seq ?_
  refine gk_seq (by kernel_rfl) ?_
  refine gk_seq (by kernel_rfl) ?_
  refine gk_region (by kernel_rfl) ?_
  refine gl_pure 2 [0, 1, 7, 8, 19] (K' := [(0, .slice A0_0 a0.length n0_0), (1, .int .i64 y1.2.1), (7, .int .u64 y1.1), (8, .int .i64 y1.2.2), (19, .bool (y1.2.2 != 0))]) (by kernel_rfl) ?_
  refine gl_atE (by kernel_rfl) ?_
  refine ge_seq ?_
  refine gk_cond (b := (y1.2.2 != 0)) (by kernel_rfl) (by kernel_rfl) (fun hc3 => ?_) (fun hc3 => ?_)
  · have hr := cond_t hc3 hr
    refine gk_seq (by kernel_rfl) ?_
    refine gk_region (by kernel_rfl) ?_
    refine gl_pure 4 [4, 5, 6] (K' := [(4, .slice none 0 0), (5, .int .i64 0), (6, .int .i64 y1.2.2)]) (by kernel_rfl) ?_
    refine gl_atE (by kernel_rfl) ?_
    refine ge_seq ?_
    refine gk_ret (by kernel_rfl) ?_
    refine ge_seq_ret ?_
    obtain rfl := some_inj hr
    exact ge_result trivial (ResOk.tmp (by kernel_rfl) (ResOk.tmp (by kernel_rfl) (ResOk.tmp (by kernel_rfl) ResOk.nil))) (Imm.refl _) ⟨none, 0, [], OwnS.nil _ _ _ _, rfl, rfl⟩
  · have hr := cond_f hc3 hr
    refine gk_skip (by kernel_rfl) ?_
    refine ge_seq ?_
    refine gk_seq (by kernel_rfl) ?_
    refine gk_seq (by kernel_rfl) ?_
    refine gk_region (by kernel_rfl) ?_
    refine gl_pure 2 [0, 1, 7, 22] (K' := [(0, .slice A0_0 a0.length n0_0), (1, .int .i64 y1.2.1), (7, .int .u64 y1.1), (22, .bool (decide (y1.1 > 16)))]) (by kernel_rfl) ?_
    refine gl_atE (by kernel_rfl) ?_
    refine ge_seq ?_
    refine gk_cond (b := (decide (y1.1 > 16))) (by kernel_rfl) (by kernel_rfl) (fun hc4 => ?_) (fun hc4 => ?_)
    · have hr := cond_t hc4 hr
      refine gk_seq (by kernel_rfl) ?_
      refine gk_region (by kernel_rfl) ?_
      refine gl_pure 3 [4, 5, 6] (K' := [(4, .slice none 0 0), (5, .int .i64 0), (6, .int .i64 8)]) (by kernel_rfl) ?_
      refine gl_atE (by kernel_rfl) ?_
      refine ge_seq ?_
      refine gk_ret (by kernel_rfl) ?_
      refine ge_seq_ret ?_
      obtain rfl := some_inj hr
      exact ge_result trivial (ResOk.tmp (by kernel_rfl) (ResOk.tmp (by kernel_rfl) (ResOk.tmp (by kernel_rfl) ResOk.nil))) (Imm.refl _) ⟨none, 0, [], OwnS.nil _ _ _ _, rfl, rfl⟩
    · have hr := cond_f hc4 hr
      refine gk_skip (by kernel_rfl) ?_
      refine ge_seq ?_
      refine gk_seq (by kernel_rfl) ?_
      refine gk_region (by kernel_rfl) ?_
      refine gl_pure 1 [0, 1, 7, 9] (K' := [(0, .slice A0_0 a0.length n0_0), (1, .int .i64 y1.2.1), (7, .int .u64 y1.1), (9, .slice none 0 0)]) (by kernel_rfl) ?_
      refine gl_atE (by kernel_rfl) ?_
      refine ge_seq ?_
      refine gk_seq (by kernel_rfl) ?_
      refine gk_seq (by kernel_rfl) ?_
      refine gk_region (by kernel_rfl) ?_
      refine gl_pure 2 [0, 1, 9, 23, 24] (K' := [(0, .slice A0_0 a0.length n0_0), (1, .int .i64 y1.2.1), (9, .slice none 0 0), (23, .int .u64 y1.1), (24, .int .u64 0)]) (by kernel_rfl) ?_
      refine gl_atE (by kernel_rfl) ?_
      refine ge_seq ?_
      obtain ⟨r13, hl14, hr⟩ := bind_some hr
      refine gk_join (fun t I' L' => ∃ r25, r13 = Sum.inl r25 ∧ ∃ A27 n28 C29, OwnS kS79 80 I' A27 n28 r25.2 C29 ∧ I ≤ I' ∧ C29 ++ L = L' ∧ Knows 60 [(1, .int .i64 r25.1), (9, .slice A27 r25.2.length n28)] t) ?_ ?_
      · refine gk_block (by kernel_rfl) ?_
        refine gk_pick [0, 1, 9, 23, 24] (K' := [(0, .slice A0_0 a0.length n0_0), (1, .int .i64 y1.2.1), (9, .slice none 0 0), (23, .int .u64 y1.1), (24, .int .u64 0)]) (by kernel_rfl) ?_
        intro t hK
        refine gc_loop (labels_Read_l33 a0 y1) (fun s15 t I' L' => ∃ A19 n20 C21, OwnS kS79 80 I' A19 n20 s15.2.1 C21 ∧ I ≤ I' ∧ C21 ++ L = L' ∧ Knows 60 [(0, .slice A0_0 a0.length n0_0), (1, .int .i64 s15.1), (9, .slice A19 s15.2.1.length n20), (23, .int .u64 y1.1), (24, .int .u64 s15.2.2)] t) (by kernel_rfl) ?_ hl14 ⟨none, 0, [], OwnS.nil _ _ _ _, (Imm.refl _), rfl, hK⟩
        rintro s15 o16 t I24 L' hb17 ⟨A19, n20, C21, hO22, hI18, rfl, hK23⟩
        unfold labels_Read_l33 at hb17
        refine gk_at hK23 ?_
        refine gk_seq (by kernel_rfl) ?_
        refine gk_region (by kernel_rfl) ?_
        refine gl_pure 1 [0, 1, 9, 23, 24, 25] (K' := [(0, .slice A0_0 a0.length n0_0), (1, .int .i64 s15.1), (9, .slice A19 s15.2.1.length n20), (23, .int .u64 y1.1), (24, .int .u64 s15.2.2), (25, .bool (decide (s15.2.2 < y1.1)))]) (by kernel_rfl) ?_
        refine gl_atE (by kernel_rfl) ?_
        refine ge_seq ?_
        refine gk_seq (by kernel_rfl) ?_
        refine gk_cond (b := (decide (s15.2.2 < y1.1))) (by kernel_rfl) (by kernel_rfl) (fun hc35 => ?_) (fun hc35 => ?_)
        · have hb17 := cond_t hc35 hb17
          refine gk_skip (by kernel_rfl) ?_
          refine ge_seq ?_
          refine gk_seq (by kernel_rfl) ?_
          refine gk_block (by kernel_rfl) ?_
          refine gk_seq (by kernel_rfl) ?_
          refine gk_region (by kernel_rfl) ?_
          refine gl_alloc (T' := 80) (cs := #[.string (⟨#[]⟩ : ByteArray), .string (⟨#[]⟩ : ByteArray)]) (by kernel_rfl) (by kernel_rfl) (by kernel_rfl) (fun g36 => ?_)
          refine gl_atE (by kernel_rfl) ?_
          refine ge_seq ?_
          refine gk_seq (by kernel_rfl) ?_
          refine gk_seq (by kernel_rfl) ?_
          refine gk_region (by kernel_rfl) ?_
          refine gl_pure 2 [0, 9, 10, 23, 24, 27, 28] (K' := [(0, .slice A0_0 a0.length n0_0), (9, .slice A19 s15.2.1.length n20), (10, .pointer (some ⟨g36, 0, none⟩)), (23, .int .u64 y1.1), (24, .int .u64 s15.2.2), (27, .slice A0_0 a0.length n0_0), (28, .int .i64 s15.1)]) (by kernel_rfl) ?_
          obtain ⟨y37, hx38, hb17⟩ := bind_some hb17
          refine gl_callQ (by kernel_rfl) (vint_Text_walk (r := y37) (hG.mono hI18) (hf0_0.mono hI18) hx38 _) ?_
          refine gl_pure 5 [0, 9, 10, 23, 24, 30, 31, 32, 33] (K' := [(0, .slice A0_0 a0.length n0_0), (9, .slice A19 s15.2.1.length n20), (10, .pointer (some ⟨g36, 0, none⟩)), (23, .int .u64 y1.1), (24, .int .u64 s15.2.2), (30, .string y37.1), (31, .int .i64 y37.2.1), (32, .int .i64 y37.2.2), (33, .pointer (some ⟨g36, 0, none⟩))]) (by kernel_rfl) ?_
          refine gl_storeB (T' := 9) (xp := (.tmp 33)) (xv := (.tmp 30)) (v := .string y37.1) (g := g36) (off := 0) (cs := #[.string (⟨#[]⟩ : ByteArray), .string (⟨#[]⟩ : ByteArray)]) (cs' := #[.string y37.1, .string (⟨#[]⟩ : ByteArray)]) (by kernel_rfl) (by kernel_rfl) (by kernel_rfl) (by kernel_rfl) (by kernel_rfl) (Upd.set _ _ _ _) ?_ (by kernel_rfl)
          refine gl_pure 2 [0, 1, 8, 9, 10, 23, 24] (K' := [(0, .slice A0_0 a0.length n0_0), (1, .int .i64 y37.2.1), (8, .int .i64 y37.2.2), (9, .slice A19 s15.2.1.length n20), (10, .pointer (some ⟨g36, 0, none⟩)), (23, .int .u64 y1.1), (24, .int .u64 s15.2.2)]) (by kernel_rfl) ?_
          refine gl_atE (by kernel_rfl) ?_
          refine ge_seq ?_
          refine gk_seq (by kernel_rfl) ?_
          refine gk_region (by kernel_rfl) ?_
          refine gl_pure 2 [0, 1, 8, 9, 10, 23, 24, 35] (K' := [(0, .slice A0_0 a0.length n0_0), (1, .int .i64 y37.2.1), (8, .int .i64 y37.2.2), (9, .slice A19 s15.2.1.length n20), (10, .pointer (some ⟨g36, 0, none⟩)), (23, .int .u64 y1.1), (24, .int .u64 s15.2.2), (35, .bool (y37.2.2 != 0))]) (by kernel_rfl) ?_
          refine gl_atE (by kernel_rfl) ?_
          refine ge_seq ?_
          refine gk_cond (b := (y37.2.2 != 0)) (by kernel_rfl) (by kernel_rfl) (fun hc39 => ?_) (fun hc39 => ?_)
          · have hb17 := cond_t hc39 hb17
            refine gk_seq (by kernel_rfl) ?_
            refine gk_region (by kernel_rfl) ?_
            refine gl_pure 4 [4, 5, 6] (K' := [(4, .slice none 0 0), (5, .int .i64 0), (6, .int .i64 y37.2.2)]) (by kernel_rfl) ?_
            refine gl_atE (by kernel_rfl) ?_
            refine ge_seq ?_
            refine gk_reord (D := L) (Reord.skip (Reord.skipC (Reord.refl _))) ?_
            refine gk_ret (by kernel_rfl) ?_
            refine ge_seq_ret ?_
            refine ge_block_ret ?_
            refine ge_seq_ret ?_
            obtain rfl := some_inj hb17
            refine ge_round_out (fun hrr => ?_) (by intro h; cases h)
            obtain rfl := hrr
            refine ge_block_ret ?_
            refine ge_seq_ret ?_
            refine ge_seq_ret ?_
            obtain rfl := some_inj hr
            exact ge_result trivial (ResOk.tmp (by kernel_rfl) (ResOk.tmp (by kernel_rfl) (ResOk.tmp (by kernel_rfl) ResOk.nil))) hI18 ⟨none, 0, [], OwnS.nil _ _ _ _, rfl, rfl⟩
          · have hb17 := cond_f hc39 hb17
            refine gk_skip (by kernel_rfl) ?_
            refine ge_seq ?_
            refine gk_seq (by kernel_rfl) ?_
            refine gk_seq (by kernel_rfl) ?_
            refine gk_region (by kernel_rfl) ?_
            refine gl_pure 2 [0, 9, 10, 23, 24, 38, 39] (K' := [(0, .slice A0_0 a0.length n0_0), (9, .slice A19 s15.2.1.length n20), (10, .pointer (some ⟨g36, 0, none⟩)), (23, .int .u64 y1.1), (24, .int .u64 s15.2.2), (38, .slice A0_0 a0.length n0_0), (39, .int .i64 y37.2.1)]) (by kernel_rfl) ?_
            obtain ⟨y40, hx41, hb17⟩ := bind_some hb17
            refine gl_callQ (by kernel_rfl) (vint_Text_walk (r := y40) (hG.mono hI18) (hf0_0.mono hI18) hx41 _) ?_
            refine gl_pure 5 [0, 9, 10, 23, 24, 41, 42, 43, 44] (K' := [(0, .slice A0_0 a0.length n0_0), (9, .slice A19 s15.2.1.length n20), (10, .pointer (some ⟨g36, 0, none⟩)), (23, .int .u64 y1.1), (24, .int .u64 s15.2.2), (41, .string y40.1), (42, .int .i64 y40.2.1), (43, .int .i64 y40.2.2), (44, .pointer (some ⟨g36, 1, none⟩))]) (by kernel_rfl) ?_
            refine gl_storeB (T' := 9) (xp := (.tmp 44)) (xv := (.tmp 41)) (v := .string y40.1) (g := g36) (off := 1) (cs := #[.string y37.1, .string (⟨#[]⟩ : ByteArray)]) (cs' := #[.string y37.1, .string y40.1]) (by kernel_rfl) (by kernel_rfl) (by kernel_rfl) (by kernel_rfl) (by kernel_rfl) (Upd.set _ _ _ _) ?_ (by kernel_rfl)
            refine gl_pure 2 [0, 1, 8, 9, 10, 23, 24] (K' := [(0, .slice A0_0 a0.length n0_0), (1, .int .i64 y40.2.1), (8, .int .i64 y40.2.2), (9, .slice A19 s15.2.1.length n20), (10, .pointer (some ⟨g36, 0, none⟩)), (23, .int .u64 y1.1), (24, .int .u64 s15.2.2)]) (by kernel_rfl) ?_
            refine gl_atE (by kernel_rfl) ?_
            refine ge_seq ?_
            refine gk_seq (by kernel_rfl) ?_
            refine gk_region (by kernel_rfl) ?_
            refine gl_pure 2 [0, 1, 8, 9, 10, 23, 24, 46] (K' := [(0, .slice A0_0 a0.length n0_0), (1, .int .i64 y40.2.1), (8, .int .i64 y40.2.2), (9, .slice A19 s15.2.1.length n20), (10, .pointer (some ⟨g36, 0, none⟩)), (23, .int .u64 y1.1), (24, .int .u64 s15.2.2), (46, .bool (y40.2.2 != 0))]) (by kernel_rfl) ?_
            refine gl_atE (by kernel_rfl) ?_
            refine ge_seq ?_
            refine gk_cond (b := (y40.2.2 != 0)) (by kernel_rfl) (by kernel_rfl) (fun hc42 => ?_) (fun hc42 => ?_)
            · have hb17 := cond_t hc42 hb17
              refine gk_seq (by kernel_rfl) ?_
              refine gk_region (by kernel_rfl) ?_
              refine gl_pure 4 [4, 5, 6] (K' := [(4, .slice none 0 0), (5, .int .i64 0), (6, .int .i64 y40.2.2)]) (by kernel_rfl) ?_
              refine gl_atE (by kernel_rfl) ?_
              refine ge_seq ?_
              refine gk_reord (D := L) (Reord.skip (Reord.skipC (Reord.refl _))) ?_
              refine gk_ret (by kernel_rfl) ?_
              refine ge_seq_ret ?_
              refine ge_block_ret ?_
              refine ge_seq_ret ?_
              obtain rfl := some_inj hb17
              refine ge_round_out (fun hrr => ?_) (by intro h; cases h)
              obtain rfl := hrr
              refine ge_block_ret ?_
              refine ge_seq_ret ?_
              refine ge_seq_ret ?_
              obtain rfl := some_inj hr
              exact ge_result trivial (ResOk.tmp (by kernel_rfl) (ResOk.tmp (by kernel_rfl) (ResOk.tmp (by kernel_rfl) ResOk.nil))) hI18 ⟨none, 0, [], OwnS.nil _ _ _ _, rfl, rfl⟩
            · have hb17 := cond_f hc42 hb17
              refine gk_skip (by kernel_rfl) ?_
              refine ge_seq ?_
              refine gk_region (by kernel_rfl) ?_
              refine gl_pure 1 [0, 1, 10, 23, 24, 48] (K' := [(0, .slice A0_0 a0.length n0_0), (1, .int .i64 y40.2.1), (10, .pointer (some ⟨g36, 0, none⟩)), (23, .int .u64 y1.1), (24, .int .u64 s15.2.2), (48, .slice A19 s15.2.1.length n20)]) (by kernel_rfl) ?_
              refine gl_loadB (T' := 80) (xp := (.tmp 10)) (v := .agg #[.string y37.1, .string y40.1]) (g := g36) (off := 0) (cs := #[.string y37.1, .string y40.1]) (e := 80) (fz := (0, 0)) (by kernel_rfl) (by kernel_rfl) (by kernel_rfl) List.mem_cons_self (by kernel_rfl) ?_
              refine gl_buildSlice (T' := 36) (e := 80) (n := 2) (len := 1) (parts := #[(0, (.tmp 49))]) (l := [(0, .agg #[.string y37.1, .string y40.1])]) (cs := #[.string y37.1, .string y40.1]) (by kernel_rfl) (by kernel_rfl) (by kernel_rfl) (by kernel_rfl) (by kernel_rfl) (fun g43 => ?_)
              have hO44 : OwnS kS79 80 I24 (some ⟨g43, 0, none⟩) 1 [(⟨y37.1, y40.1⟩ : S79)] [(g43, .cells #[.string y37.1, .string y40.1] 80)] := OwnS.lit (row_cons (l := [.string y37.1, .string y40.1]) (kS79_mk (x := (⟨y37.1, y40.1⟩ : S79)) ) (row_nil _ _)) rfl rfl rfl
              refine gl_reord (D := [(g43, .cells #[.string y37.1, .string y40.1] 80)] ++ ((g36, .cells #[.string y37.1, .string y40.1] 80) :: (C21 ++ L))) (Reord.refl _) ?_
              obtain ⟨zs47, hz48, hb17⟩ := bind_some hb17
              refine gl_append (xv := .slice (some ⟨g43, 0, none⟩) [(⟨y37.1, y40.1⟩ : S79)].length 1) (d := kS79) (t := 36) (tx := 36) (e := 80) (s := (.tmp 48)) (x := (.tmp 50)) (xs := s15.2.1) (fun X => [(g43, .cells #[.string y37.1, .string y40.1] 80)] ++ ((g36, .cells #[.string y37.1, .string y40.1] 80) :: (X ++ L))) hz48 (by kernel_rfl) (by kernel_rfl) (by kernel_rfl) (by kernel_rfl) (by kernel_rfl) (by kernel_rfl) (fun X => (Upd.app _ (Upd.one _ (Upd.head _ X _)))) hO22 (SrcOk.slice (c := 1) (e := 80) (n := 2) (OwnS.rd hO44 (Upd.selfC _ _)) (by kernel_rfl)) (fun A49 n50 C51 hO52 => ?_)
              refine gl_pure 1 [0, 1, 9, 23, 24] (K' := [(0, .slice A0_0 a0.length n0_0), (1, .int .i64 y40.2.1), (9, .slice A49 zs47.length n50), (23, .int .u64 y1.1), (24, .int .u64 s15.2.2)]) (by kernel_rfl) ?_
              refine gl_atE (by kernel_rfl) ?_
              refine ge_block_normal ?_
              refine ge_seq ?_
              refine gk_region (by kernel_rfl) ?_
              refine gl_pure 2 [0, 1, 9, 23, 24] (K' := [(0, .slice A0_0 a0.length n0_0), (1, .int .i64 y40.2.1), (9, .slice A49 zs47.length n50), (23, .int .u64 y1.1), (24, .int .u64 (IntKind.wrap .u64 (s15.2.2 + 1)))]) (by kernel_rfl) ?_
              refine gl_reord (D := C51 ++ L) (Reord.step (Upd.app _ (Upd.one _ (Upd.rmC _ _))) (Reord.skipC (Reord.skip (Reord.refl _)))) ?_
              refine gl_atE (by kernel_rfl) ?_
              obtain rfl := some_inj hb17
              exact ge_round fun t ht => ⟨A49, n50, C51, hO52, hI18, rfl, ht.pick (l := [0, 1, 9, 23, 24]) (by kernel_rfl)⟩
        · have hb17 := cond_f hc35 hb17
          refine gk_exit (by kernel_rfl) ?_
          refine ge_seq_exit ?_
          obtain rfl := some_inj hb17
          refine ge_round_out (fun hrr => ?_) (by intro h; cases h)
          obtain rfl := hrr
          refine ge_block_hit (by kernel_rfl) ?_
          exact ge_mid fun t ht => ⟨_, rfl, A19, n20, C21, hO22, hI18, rfl, ht.pick (l := [1, 9]) (by kernel_rfl)⟩
      · rintro t I32 L' ⟨r25, rfl, A27, n28, C29, hO30, hI26, rfl, hK31⟩
        refine ge_at hK31 ?_
        refine ge_seq ?_
        refine gk_seq (by kernel_rfl) ?_
        refine gk_seq (by kernel_rfl) ?_
        refine gk_region (by kernel_rfl) ?_
        refine gl_pure 1 [1, 9, 53] (K' := [(1, .int .i64 r25.1), (9, .slice A27 r25.2.length n28), (53, .slice A27 r25.2.length n28)]) (by kernel_rfl) ?_
        obtain ⟨y53, hx54, hr⟩ := bind_some hr
        refine gl_callB (r := .int .i64 y53) (Tk.step (Upd.rmC _ _) (Tk.nil _)) (by kernel_rfl) (fun J hJ hC => labels_right_walk (r := y53) (hG.mono (Imm.trans hI26 hJ)) (OwnS.rest hO30 hJ hC.left) hx54 _) ?_
        refine gl_pure 1 [1, 8, 9] (K' := [(1, .int .i64 r25.1), (8, .int .i64 y53), (9, .slice A27 r25.2.length n28)]) (by kernel_rfl) ?_
        refine gl_atE (by kernel_rfl) ?_
        refine ge_seq ?_
        refine gk_seq (by kernel_rfl) ?_
        refine gk_region (by kernel_rfl) ?_
        refine gl_pure 2 [1, 8, 9, 56] (K' := [(1, .int .i64 r25.1), (8, .int .i64 y53), (9, .slice A27 r25.2.length n28), (56, .bool (y53 != 0))]) (by kernel_rfl) ?_
        refine gl_atE (by kernel_rfl) ?_
        refine ge_seq ?_
        refine gk_cond (b := (y53 != 0)) (by kernel_rfl) (by kernel_rfl) (fun hc55 => ?_) (fun hc55 => ?_)
        · have hr := cond_t hc55 hr
          refine gk_seq (by kernel_rfl) ?_
          refine gk_region (by kernel_rfl) ?_
          refine gl_pure 4 [4, 5, 6] (K' := [(4, .slice none 0 0), (5, .int .i64 0), (6, .int .i64 y53)]) (by kernel_rfl) ?_
          refine gl_atE (by kernel_rfl) ?_
          refine ge_seq ?_
          refine gk_reord (D := L) (Reord.skipC (Reord.refl _)) ?_
          refine gk_ret (by kernel_rfl) ?_
          refine ge_seq_ret ?_
          obtain rfl := some_inj hr
          exact ge_result trivial (ResOk.tmp (by kernel_rfl) (ResOk.tmp (by kernel_rfl) (ResOk.tmp (by kernel_rfl) ResOk.nil))) hI26 ⟨none, 0, [], OwnS.nil _ _ _ _, rfl, rfl⟩
        · have hr := cond_f hc55 hr
          refine gk_skip (by kernel_rfl) ?_
          refine ge_seq ?_
          refine gk_seq (by kernel_rfl) ?_
          refine gk_region (by kernel_rfl) ?_
          refine gl_pure 5 [4, 5, 6] (K' := [(4, .slice A27 r25.2.length n28), (5, .int .i64 r25.1), (6, .int .i64 0)]) (by kernel_rfl) ?_
          refine gl_atE (by kernel_rfl) ?_
          refine ge_seq ?_
          refine gk_ret (by kernel_rfl) ?_
          obtain rfl := some_inj hr
          exact ge_result trivial (ResOk.tmp (by kernel_rfl) (ResOk.tmp (by kernel_rfl) (ResOk.tmp (by kernel_rfl) ResOk.nil))) hI26 ⟨A27, n28, C29, hO30, rfl, rfl⟩
/-! 103 nflog_lists  -/
noncomputable def nflog_lists_l38 (a0 : List Int) (y1 : Int × Int × Int) : (Int × (List (List S79)) × Int) → Option ((Int × (List (List S79)) × Int) ⊕ ((Int × (List (List S79))) ⊕ ((List (List S79)) × Int × Bool))) := fun s20 =>
  bif (decide (s20.2.2 < y1.1)) then
  (Option.bind (labels_Read a0 s20.1) fun (y41 : (List S79) × Int × Int) =>
    bif (y41.2.2 != 0) then
    (some (Sum.inr (Sum.inr ([], 0, false))))
    else
    (Option.bind (app s20.2.1 [y41.1]) fun (zs59 : List (List S79)) =>
      some (Sum.inl (y41.2.1, zs59, (IntKind.wrap .u64 (s20.2.2 + 1))))))
  else
  (some (Sum.inr (Sum.inl (s20.1, s20.2.1))))
noncomputable def nflog_lists (a0 : List Int) (a1 : Int) : Option ((List (List S79)) × Int × Bool) :=
  Option.bind (vint_U a0 a1) fun (y1 : Int × Int × Int) =>
  bif ((y1.2.2 != 0) || (decide (y1.1 > 500))) then
  (some ([], 0, false))
  else
  (Option.bind (loopO (nflog_lists_l38 a0 y1) (y1.2.1, [], 0)) fun (r18 : (Int × (List (List S79))) ⊕ ((List (List S79)) × Int × Bool)) =>
    match r18 with
    | Sum.inl r30 => some (r30.2, r30.1, true)
    | Sum.inr v65 => some v65)
theorem nflog_lists_walk {a0 : List Int} {A0_0 : Option Addr} {n0_0 : Nat} {a1 : Int} {I : Imm} {r : (List (List S79)) × Int × Bool} (hG : Gl I)  (hf0_0 : RepS (Kd.int .u8) I A0_0 n0_0 a0) (hr : nflog_lists a0 a1 = some r) (L : Own) :
    CallsTo Tryd.prog 103 #[.slice A0_0 a0.length n0_0, .int .i64 a1] I L (fun v I' L' => ∃ A0 c0 C0, OwnS (Kd.sl kS79) 36 I' A0 c0 r.1 C0 ∧ v = .tuple #[.slice A0 r.1.length c0, .int .i64 r.2.1, .bool r.2.2] ∧ C0 ++ L = L') := by
  unfold nflog_lists at hr
  refine callsTo_body (N := 46) Tryd.func103 (by kernel_rfl) (by kernel_rfl) (by kernel_rfl) ?_
  refine gk_pick [0, 1] (K' := [(0, .slice A0_0 a0.length n0_0), (1, .int .i64 a1)]) (by kernel_rfl) ?_
  refine gk_seq (by kernel_rfl) ?_
  refine gk_region (by kernel_rfl) ?_
  refine gl_pure 3 [0, 1] (K' := [(0, .slice A0_0 a0.length n0_0), (1, .int .i64 a1)]) (by kernel_rfl) ?_
  refine gl_atE (by kernel_rfl) ?_
  refine ge_seq ?_
  refine gk_seq (by kernel_rfl) ?_
  refine gk_region (by kernel_rfl) ?_
  refine gl_pure 2 [0, 14, 15] (K' := [(0, .slice A0_0 a0.length n0_0), (14, .slice A0_0 a0.length n0_0), (15, .int .i64 a1)]) (by kernel_rfl) ?_
  obtain ⟨y1, hx2, hr⟩ := bind_some hr
  refine gl_callQ (by kernel_rfl) (vint_U_walk (r := y1) hf0_0 hx2 _) ?_
  refine gl_pure 7 [0, 1, 7, 8] (K' := [(0, .slice A0_0 a0.length n0_0), (1, .int .i64 y1.2.1), (7, .int .u64 y1.1), (8, .int .i64 y1.2.2)]) (by kernel_rfl) ?_
  refine gl_atE (by kernel_rfl) ?_
  refine ge_seq ?_
  refine gk_seq (by kernel_rfl) ?_
  refine gk_seq (by kernel_rfl) ?_
  obtain ⟨b5, hb6⟩ : ∃ z, z = ((y1.2.2 != 0) || (decide (y1.1 > 500))) := ⟨_, rfl⟩
  refine gk_join (fun t I' L' => I ≤ I' ∧ L = L' ∧ Knows 46 [(0, .slice A0_0 a0.length n0_0), (1, .int .i64 y1.2.1), (7, .int .u64 y1.1), (25, .bool b5)] t) ?_ ?_
  · refine gk_region (by kernel_rfl) ?_
    refine gl_pure 3 [0, 1, 7, 22] (K' := [(0, .slice A0_0 a0.length n0_0), (1, .int .i64 y1.2.1), (7, .int .u64 y1.1), (22, .bool (y1.2.2 != 0))]) (by kernel_rfl) ?_
    refine gl_case 22 (b := (y1.2.2 != 0)) (by kernel_rfl) (fun hc8 => ?_) (fun hc8 => ?_)
    · refine gl_pure 3 [0, 1, 7, 25] (K' := [(0, .slice A0_0 a0.length n0_0), (1, .int .i64 y1.2.1), (7, .int .u64 y1.1), (25, .bool true)]) (by kernel_rfl) ?_
      refine gl_atE (by kernel_rfl) ?_
      exact ge_mid fun t ht => ⟨(Imm.refl _), rfl, by rw [(show b5 = true from hb6.trans (by rw [hc8]; try rfl))]; exact ht.pick (l := [0, 1, 7, 25]) (by kernel_rfl)⟩
    · refine gl_pure 3 [0, 1, 7, 25] (K' := [(0, .slice A0_0 a0.length n0_0), (1, .int .i64 y1.2.1), (7, .int .u64 y1.1), (25, .bool (decide (y1.1 > 500)))]) (by kernel_rfl) ?_
      refine gl_atE (by kernel_rfl) ?_
      exact ge_mid fun t ht => ⟨(Imm.refl _), rfl, by rw [(show b5 = (decide (y1.1 > 500)) from hb6.trans (by rw [hc8]; try rfl))]; exact ht.pick (l := [0, 1, 7, 25]) (by kernel_rfl)⟩
  · rintro t I7 L' ⟨hI3, rfl, hK4⟩
    subst hb6
    refine ge_at hK4 ?_
    refine ge_seq ?_
    refine gk_cond (b := ((y1.2.2 != 0) || (decide (y1.1 > 500)))) (by kernel_rfl) (by kernel_rfl) (fun hc9 => ?_) (fun hc9 => ?_)
    · have hr := cond_t hc9 hr
      refine gk_seq (by kernel_rfl) ?_
      refine gk_region (by kernel_rfl) ?_
      refine gl_pure 3 [4, 5, 6] (K' := [(4, .slice none 0 0), (5, .int .i64 0), (6, .bool false)]) (by kernel_rfl) ?_
      refine gl_atE (by kernel_rfl) ?_
      refine ge_seq ?_
      refine gk_ret (by kernel_rfl) ?_
      refine ge_seq_ret ?_
      obtain rfl := some_inj hr
      exact ge_result trivial (ResOk.tmp (by kernel_rfl) (ResOk.tmp (by kernel_rfl) (ResOk.tmp (by kernel_rfl) ResOk.nil))) hI3 ⟨none, 0, [], OwnS.nil _ _ _ _, rfl, rfl⟩
    · have hr := cond_f hc9 hr
      refine gk_skip (by kernel_rfl) ?_
      refine ge_seq ?_
      refine gk_seq (by kernel_rfl) ?_
      refine gk_region (by kernel_rfl) ?_
      refine gl_pure 1 [0, 1, 7, 9] (K' := [(0, .slice A0_0 a0.length n0_0), (1, .int .i64 y1.2.1), (7, .int .u64 y1.1), (9, .slice none 0 0)]) (by kernel_rfl) ?_
      refine gl_atE (by kernel_rfl) ?_
      refine ge_seq ?_
      refine gk_seq (by kernel_rfl) ?_
      refine gk_seq (by kernel_rfl) ?_
      refine gk_region (by kernel_rfl) ?_
      refine gl_pure 2 [0, 1, 9, 26, 27] (K' := [(0, .slice A0_0 a0.length n0_0), (1, .int .i64 y1.2.1), (9, .slice none 0 0), (26, .int .u64 y1.1), (27, .int .u64 0)]) (by kernel_rfl) ?_
      refine gl_atE (by kernel_rfl) ?_
      refine ge_seq ?_
      obtain ⟨r18, hl19, hr⟩ := bind_some hr
      refine gk_join (fun t I' L' => ∃ r30, r18 = Sum.inl r30 ∧ ∃ A32 n33 C34, OwnS (Kd.sl kS79) 36 I' A32 n33 r30.2 C34 ∧ I7 ≤ I' ∧ C34 ++ L = L' ∧ Knows 46 [(1, .int .i64 r30.1), (9, .slice A32 r30.2.length n33)] t) ?_ ?_
      · refine gk_block (by kernel_rfl) ?_
        refine gk_pick [0, 1, 9, 26, 27] (K' := [(0, .slice A0_0 a0.length n0_0), (1, .int .i64 y1.2.1), (9, .slice none 0 0), (26, .int .u64 y1.1), (27, .int .u64 0)]) (by kernel_rfl) ?_
        intro t hK
        refine gc_loop (nflog_lists_l38 a0 y1) (fun s20 t I' L' => ∃ A24 n25 C26, OwnS (Kd.sl kS79) 36 I' A24 n25 s20.2.1 C26 ∧ I7 ≤ I' ∧ C26 ++ L = L' ∧ Knows 46 [(0, .slice A0_0 a0.length n0_0), (1, .int .i64 s20.1), (9, .slice A24 s20.2.1.length n25), (26, .int .u64 y1.1), (27, .int .u64 s20.2.2)] t) (by kernel_rfl) ?_ hl19 ⟨none, 0, [], OwnS.nil _ _ _ _, (Imm.refl _), rfl, hK⟩
        rintro s20 o21 t I29 L' hb22 ⟨A24, n25, C26, hO27, hI23, rfl, hK28⟩
        unfold nflog_lists_l38 at hb22
        refine gk_at hK28 ?_
        refine gk_seq (by kernel_rfl) ?_
        refine gk_region (by kernel_rfl) ?_
        refine gl_pure 1 [0, 1, 9, 26, 27, 28] (K' := [(0, .slice A0_0 a0.length n0_0), (1, .int .i64 s20.1), (9, .slice A24 s20.2.1.length n25), (26, .int .u64 y1.1), (27, .int .u64 s20.2.2), (28, .bool (decide (s20.2.2 < y1.1)))]) (by kernel_rfl) ?_
        refine gl_atE (by kernel_rfl) ?_
        refine ge_seq ?_
        refine gk_seq (by kernel_rfl) ?_
        refine gk_cond (b := (decide (s20.2.2 < y1.1))) (by kernel_rfl) (by kernel_rfl) (fun hc40 => ?_) (fun hc40 => ?_)
        · have hb22 := cond_t hc40 hb22
          refine gk_skip (by kernel_rfl) ?_
          refine ge_seq ?_
          refine gk_seq (by kernel_rfl) ?_
          refine gk_block (by kernel_rfl) ?_
          refine gk_seq (by kernel_rfl) ?_
          refine gk_region (by kernel_rfl) ?_
          refine gl_pure 2 [0, 9, 26, 27, 30, 31] (K' := [(0, .slice A0_0 a0.length n0_0), (9, .slice A24 s20.2.1.length n25), (26, .int .u64 y1.1), (27, .int .u64 s20.2.2), (30, .slice A0_0 a0.length n0_0), (31, .int .i64 s20.1)]) (by kernel_rfl) ?_
          obtain ⟨y41, hx42, hb22⟩ := bind_some hb22
          refine gl_call (by kernel_rfl) (labels_Read_walk (r := y41) (hG.mono (Imm.trans hI3 hI23)) (hf0_0.mono (Imm.trans hI3 hI23)) hx42 _) ?_
          rintro v I43 L44 hI45 ⟨A46, c47, C48, hO49, rfl, rfl⟩
          refine gl_pure 7 [0, 9, 10, 11, 12, 26, 27] (K' := [(0, .slice A0_0 a0.length n0_0), (9, .slice A24 s20.2.1.length n25), (10, .slice A46 y41.1.length c47), (11, .int .i64 y41.2.1), (12, .int .i64 y41.2.2), (26, .int .u64 y1.1), (27, .int .u64 s20.2.2)]) (by kernel_rfl) ?_
          refine gl_atE (by kernel_rfl) ?_
          refine ge_seq ?_
          refine gk_seq (by kernel_rfl) ?_
          refine gk_seq (by kernel_rfl) ?_
          refine gk_region (by kernel_rfl) ?_
          refine gl_pure 2 [0, 9, 10, 11, 26, 27, 37] (K' := [(0, .slice A0_0 a0.length n0_0), (9, .slice A24 s20.2.1.length n25), (10, .slice A46 y41.1.length c47), (11, .int .i64 y41.2.1), (26, .int .u64 y1.1), (27, .int .u64 s20.2.2), (37, .bool (y41.2.2 != 0))]) (by kernel_rfl) ?_
          refine gl_atE (by kernel_rfl) ?_
          refine ge_seq ?_
          refine gk_cond (b := (y41.2.2 != 0)) (by kernel_rfl) (by kernel_rfl) (fun hc50 => ?_) (fun hc50 => ?_)
          · have hb22 := cond_t hc50 hb22
            refine gk_seq (by kernel_rfl) ?_
            refine gk_region (by kernel_rfl) ?_
            refine gl_pure 3 [4, 5, 6] (K' := [(4, .slice none 0 0), (5, .int .i64 0), (6, .bool false)]) (by kernel_rfl) ?_
            refine gl_atE (by kernel_rfl) ?_
            refine ge_seq ?_
            refine gk_reord (D := L) (Reord.skipC (Reord.skipC (Reord.refl _))) ?_
            refine gk_ret (by kernel_rfl) ?_
            refine ge_seq_ret ?_
            refine ge_block_ret ?_
            refine ge_seq_ret ?_
            obtain rfl := some_inj hb22
            refine ge_round_out (fun hrr => ?_) (by intro h; cases h)
            obtain rfl := hrr
            refine ge_block_ret ?_
            refine ge_seq_ret ?_
            refine ge_seq_ret ?_
            obtain rfl := some_inj hr
            exact ge_result trivial (ResOk.tmp (by kernel_rfl) (ResOk.tmp (by kernel_rfl) (ResOk.tmp (by kernel_rfl) ResOk.nil))) (Imm.trans (Imm.trans hI3 hI23) hI45) ⟨none, 0, [], OwnS.nil _ _ _ _, rfl, rfl⟩
          · have hb22 := cond_f hc50 hb22
            refine gk_skip (by kernel_rfl) ?_
            refine ge_seq ?_
            refine gk_seq (by kernel_rfl) ?_
            refine gk_region (by kernel_rfl) ?_
            refine gl_pure 2 [0, 11, 26, 27, 38, 39] (K' := [(0, .slice A0_0 a0.length n0_0), (11, .int .i64 y41.2.1), (26, .int .u64 y1.1), (27, .int .u64 s20.2.2), (38, .slice A24 s20.2.1.length n25), (39, .slice A46 y41.1.length c47)]) (by kernel_rfl) ?_
            refine gl_rest (Tk.step (Upd.rmC _ _) (Tk.nil _)) (fun J51 hJ52 hC53 => ?_)
            have hf54 := (OwnS.rest hO49 hJ52 hC53.left)
            refine gl_buildSlice (T' := 22) (e := 36) (n := 1) (len := 1) (parts := #[(0, (.tmp 39))]) (l := [(0, .slice A46 y41.1.length c47)]) (cs := #[.slice A46 y41.1.length c47]) (by kernel_rfl) (by kernel_rfl) (by kernel_rfl) (by kernel_rfl) (by kernel_rfl) (fun g55 => ?_)
            have hO56 : OwnS (Kd.sl kS79) 36 J51 (some ⟨g55, 0, none⟩) 1 [y41.1] [(g55, .cells #[.slice A46 y41.1.length c47] 36)] := OwnS.lit (row_cons (l := [.slice A46 y41.1.length c47]) ⟨_, _, rfl, hf54⟩ (row_nil _ _)) rfl rfl rfl
            refine gl_reord (D := [(g55, .cells #[.slice A46 y41.1.length c47] 36)] ++ (C26 ++ L)) (Reord.refl _) ?_
            obtain ⟨zs59, hz60, hb22⟩ := bind_some hb22
            refine gl_append (xv := .slice (some ⟨g55, 0, none⟩) [y41.1].length 1) (d := (Kd.sl kS79)) (t := 22) (tx := 22) (e := 36) (s := (.tmp 38)) (x := (.tmp 40)) (xs := s20.2.1) (fun X => [(g55, .cells #[.slice A46 y41.1.length c47] 36)] ++ (X ++ L)) hz60 (by kernel_rfl) (by kernel_rfl) (by kernel_rfl) (by kernel_rfl) (by kernel_rfl) (by kernel_rfl) (fun X => (Upd.app _ (Upd.head _ X _))) (hO27.mono (Imm.trans hI45 hJ52)) (SrcOk.slice (c := 1) (e := 36) (n := 1) (OwnS.rd hO56 (Upd.selfC _ _)) (by kernel_rfl)) (fun A61 n62 C63 hO64 => ?_)
            refine gl_pure 1 [0, 9, 11, 26, 27] (K' := [(0, .slice A0_0 a0.length n0_0), (9, .slice A61 zs59.length n62), (11, .int .i64 y41.2.1), (26, .int .u64 y1.1), (27, .int .u64 s20.2.2)]) (by kernel_rfl) ?_
            refine gl_atE (by kernel_rfl) ?_
            refine ge_seq ?_
            refine gk_region (by kernel_rfl) ?_
            refine gl_pure 2 [0, 1, 9, 26, 27] (K' := [(0, .slice A0_0 a0.length n0_0), (1, .int .i64 y41.2.1), (9, .slice A61 zs59.length n62), (26, .int .u64 y1.1), (27, .int .u64 s20.2.2)]) (by kernel_rfl) ?_
            refine gl_atE (by kernel_rfl) ?_
            refine ge_block_normal ?_
            refine ge_seq ?_
            refine gk_region (by kernel_rfl) ?_
            refine gl_pure 2 [0, 1, 9, 26, 27] (K' := [(0, .slice A0_0 a0.length n0_0), (1, .int .i64 y41.2.1), (9, .slice A61 zs59.length n62), (26, .int .u64 y1.1), (27, .int .u64 (IntKind.wrap .u64 (s20.2.2 + 1)))]) (by kernel_rfl) ?_
            refine gl_reord (D := C63 ++ L) (Reord.step (Upd.app _ (Upd.rmC _ _)) (Reord.skipC (Reord.refl _))) ?_
            refine gl_atE (by kernel_rfl) ?_
            obtain rfl := some_inj hb22
            exact ge_round fun t ht => ⟨A61, n62, C63, hO64, (Imm.trans (Imm.trans hI23 hI45) hJ52), rfl, ht.pick (l := [0, 1, 9, 26, 27]) (by kernel_rfl)⟩
        · have hb22 := cond_f hc40 hb22
          refine gk_exit (by kernel_rfl) ?_
          refine ge_seq_exit ?_
          obtain rfl := some_inj hb22
          refine ge_round_out (fun hrr => ?_) (by intro h; cases h)
          obtain rfl := hrr
          refine ge_block_hit (by kernel_rfl) ?_
          exact ge_mid fun t ht => ⟨_, rfl, A24, n25, C26, hO27, hI23, rfl, ht.pick (l := [1, 9]) (by kernel_rfl)⟩
      · rintro t I37 L' ⟨r30, rfl, A32, n33, C34, hO35, hI31, rfl, hK36⟩
        refine ge_at hK36 ?_
        refine ge_seq ?_
        refine gk_seq (by kernel_rfl) ?_
        refine gk_region (by kernel_rfl) ?_
        refine gl_pure 5 [4, 5, 6] (K' := [(4, .slice A32 r30.2.length n33), (5, .int .i64 r30.1), (6, .bool true)]) (by kernel_rfl) ?_
        refine gl_atE (by kernel_rfl) ?_
        refine ge_seq ?_
        refine gk_ret (by kernel_rfl) ?_
        obtain rfl := some_inj hr
        exact ge_result trivial (ResOk.tmp (by kernel_rfl) (ResOk.tmp (by kernel_rfl) (ResOk.tmp (by kernel_rfl) ResOk.nil))) (Imm.trans hI3 hI31) ⟨A32, n33, C34, hO35, rfl, rfl⟩
end Go.Proofs.YtlkmfhccpcncnaaDoor
