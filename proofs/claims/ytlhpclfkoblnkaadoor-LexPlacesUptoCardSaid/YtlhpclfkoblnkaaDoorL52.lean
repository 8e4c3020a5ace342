import Derived.Test.YtlhpclfkoblnkaaDoorL52b
set_option linter.unusedVariables false
set_option linter.unusedSimpArgs false
set_option maxRecDepth 100000
namespace Go.Proofs.YtlhpclfkoblnkaaDoor
open Go.GB
/-! 4 tocsinlaw13_LexPlaces  -/
noncomputable def tocsinlaw13_LexPlaces_l37 (a0 : ByteArray) (y1 : (List S27) × Int × Int) : (Int × Int) → Option ((Int × Int) ⊕ ((Unit) ⊕ (Bool))) := fun s27 =>
  bif (decide (s27.2 < (y1.1.length : Int))) then
  (Option.bind ((Option.bind (ix y1.1 s27.2) fun (x46 : S27) =>
      bif (((decide (x46.f2 < s27.1)) || (decide (x46.f2 > (a0.size : Int)))) || (!((x46.f0 == 0) == (s27.2 == (IntKind.wrap .i64 ((y1.1.length : Int) - 1)))))) then
      (some (Sum.inr (Sum.inr (Sum.inr false))))
      else
      (bif ((x46.f0 == 4) || (x46.f0 == 0)) then
        (some (Sum.inl x46.f2))
        else
        (Option.bind (bif ((x46.f1.size : Int) == 0) then
            (some true)
            else
            (bif (decide ((x46.f1.size : Int) > (IntKind.wrap .i64 ((a0.size : Int) - x46.f2)))) then
              (some true)
              else
              (Option.bind (sx a0 x46.f2 (IntKind.wrap .i64 (x46.f2 + (x46.f1.size : Int)))) fun (s79 : ByteArray) =>
                some (!(s79.toList == x46.f1.toList))))) fun (j71 : Bool) =>
          bif j71 then
          (some (Sum.inr (Sum.inr (Sum.inr false))))
          else
          (some (Sum.inl (IntKind.wrap .i64 (x46.f2 + (x46.f1.size : Int))))))) : Option ((Int) ⊕ ((Int × Int) ⊕ ((Unit) ⊕ (Bool)))))) fun (j40 : (Int) ⊕ ((Int × Int) ⊕ ((Unit) ⊕ (Bool)))) =>
    match j40 with
    | Sum.inl j42 => some (Sum.inl (j42, (IntKind.wrap .i64 (s27.2 + 1))))
    | Sum.inr v81 => some v81)
  else
  (some (Sum.inr (Sum.inl ())))
noncomputable def tocsinlaw13_LexPlaces_l114 (a0 : ByteArray) (y1 : (List S27) × Int × Int) : Int → Option ((Int) ⊕ ((Unit) ⊕ (Bool))) := fun s104 =>
  bif (decide (s104 < (y1.1.length : Int))) then
  (Option.bind (ix y1.1 s104) fun (x117 : S27) =>
    Option.bind (sx a0 0 x117.f2) fun (s127 : ByteArray) =>
    Option.bind (lex_Tokens s127) fun (y128 : (List S27) × Int × Int) =>
    Option.bind (bif (y128.2.1 != 0) then
      (some true)
      else
      (bif ((y128.1.length : Int) != (IntKind.wrap .i64 (s104 + 1))) then
        (some true)
        else
        (Option.bind (lx y128.1 0 s104) fun (l145 : List S27) =>
          Option.bind (lx y1.1 0 s104) fun (l149 : List S27) =>
          Option.bind (lex_Same l145 l149) fun (y152 : Bool) =>
          some (!y152)))) fun (j137 : Bool) =>
    bif j137 then
    (some (Sum.inr (Sum.inr false)))
    else
    (some (Sum.inl (IntKind.wrap .i64 (s104 + 1)))))
  else
  (some (Sum.inr (Sum.inl ())))
noncomputable def tocsinlaw13_LexPlaces (a0 : ByteArray) : Option Bool :=
  Option.bind (lex_Tokens a0) fun (y1 : (List S27) × Int × Int) =>
  bif (y1.2.1 != 0) then
  (Option.bind (bif ((y1.1.length : Int) == 0) then
      (bif (decide (y1.2.2 ≥ 0)) then
        (bif (decide (y1.2.2 ≤ (a0.size : Int))) then
          (Option.bind tocsinlaw13_known fun (y19 : Bool) =>
            some y19)
          else
          (some false))
        else
        (some false))
      else
      (some false)) fun (j11 : Bool) =>
    some j11)
  else
  (Option.bind (loopO (tocsinlaw13_LexPlaces_l37 a0 y1) (0, 0)) fun (r25 : (Unit) ⊕ (Bool)) =>
    match r25 with
    | Sum.inl r33 => bif ((((y1.1.length : Int) == 0) || (decide ((y1.1.length : Int) > 50))) || (decide ((a0.size : Int) > 2000))) then
      (Option.bind (bif (decide ((y1.1.length : Int) > 0)) then
          (Option.bind tocsinlaw13_known fun (y96 : Bool) =>
            some y96)
          else
          (some false)) fun (j90 : Bool) =>
        some j90)
      else
      (Option.bind (loopO (tocsinlaw13_LexPlaces_l114 a0 y1) 0) fun (r102 : (Unit) ⊕ (Bool)) =>
        match r102 with
        | Sum.inl r110 => Option.bind (Option.bind (ix y1.1 (IntKind.wrap .i64 ((y1.1.length : Int) - 1))) fun (x160 : S27) =>
            bif (x160.f2 == (a0.size : Int)) then
            (Option.bind tocsinlaw13_known fun (y170 : Bool) =>
              some y170)
            else
            (some false)) fun (j155 : Bool) =>
          some j155
        | Sum.inr v172 => some v172)
    | Sum.inr v173 => some v173)
theorem tocsinlaw13_LexPlaces_walk {a0 : ByteArray} {I : Imm} {r : Bool} (hG : Gl I) (hr : tocsinlaw13_LexPlaces a0 = some r) (L : Own) :
    CallsTo Tryd.prog 4 #[.string a0] I L (fun v I' L' => v = .bool r ∧ L = L') := by
  unfold tocsinlaw13_LexPlaces at hr
  refine callsTo_body (N := 184) Tryd.func4 (by kernel_rfl) (by kernel_rfl) (by kernel_rfl) ?_
  refine gk_pick [0] (K' := [(0, .string a0)]) (by kernel_rfl) ?_
  refine gk_seq (by kernel_rfl) ?_
  refine gk_region (by kernel_rfl) ?_
  refine gl_pure 1 [0] (K' := [(0, .string a0)]) (by kernel_rfl) ?_
  refine gl_atE (by kernel_rfl) ?_
  refine ge_seq ?_
  refine gk_seq (by kernel_rfl) ?_
  refine gk_region (by kernel_rfl) ?_
  refine gl_pure 1 [0, 14] (K' := [(0, .string a0), (14, .string a0)]) (by kernel_rfl) ?_
  obtain ⟨y1, hx2, hr⟩ := bind_some hr
  refine gl_call (by kernel_rfl) (lex_Tokens_walk (r := y1) hG hx2 _) ?_
  rintro v I3 L4 hI5 ⟨A6, c7, C8, hO9, rfl, rfl⟩
  refine gl_pure 7 [0, 3, 4, 5] (K' := [(0, .string a0), (3, .slice A6 y1.1.length c7), (4, .int .i64 y1.2.1), (5, .int .i64 y1.2.2)]) (by kernel_rfl) ?_
  refine gl_atE (by kernel_rfl) ?_
  refine ge_seq ?_
  refine gk_seq (by kernel_rfl) ?_
  refine gk_seq (by kernel_rfl) ?_
  refine gk_region (by kernel_rfl) ?_
  refine gl_pure 2 [0, 3, 5, 20] (K' := [(0, .string a0), (3, .slice A6 y1.1.length c7), (5, .int .i64 y1.2.2), (20, .bool (y1.2.1 != 0))]) (by kernel_rfl) ?_
  refine gl_atE (by kernel_rfl) ?_
  refine ge_seq ?_
  refine gk_cond (b := (y1.2.1 != 0)) (by kernel_rfl) (by kernel_rfl) (fun hc10 => ?_) (fun hc10 => ?_)
  · have hr := cond_t hc10 hr
    refine gk_seq (by kernel_rfl) ?_
    obtain ⟨j11, hj12, hr⟩ := bind_some hr
    refine gk_join (fun t I' L' => I3 ≤ I' ∧ L = L' ∧ Knows 184 [(2, .bool j11)] t) ?_ ?_
    · refine gk_region (by kernel_rfl) ?_
      refine gl_pure 4 [0, 5, 24] (K' := [(0, .string a0), (5, .int .i64 y1.2.2), (24, .bool ((y1.1.length : Int) == 0))]) (by kernel_rfl) ?_
      refine gl_case 24 (b := ((y1.1.length : Int) == 0)) (by kernel_rfl) (fun hc16 => ?_) (fun hc16 => ?_)
      · have hj12 := cond_t hc16 hj12
        refine gl_pure 4 [0, 5, 28] (K' := [(0, .string a0), (5, .int .i64 y1.2.2), (28, .bool (decide (y1.2.2 ≥ 0)))]) (by kernel_rfl) ?_
        refine gl_case 28 (b := (decide (y1.2.2 ≥ 0))) (by kernel_rfl) (fun hc17 => ?_) (fun hc17 => ?_)
        · have hj12 := cond_t hc17 hj12
          refine gl_pure 6 [34] (K' := [(34, .bool (decide (y1.2.2 ≤ (a0.size : Int))))]) (by kernel_rfl) ?_
          refine gl_case 34 (b := (decide (y1.2.2 ≤ (a0.size : Int)))) (by kernel_rfl) (fun hc18 => ?_) (fun hc18 => ?_)
          · have hj12 := cond_t hc18 hj12
            obtain ⟨y19, hx20, hj12⟩ := bind_some hj12
            refine gl_callQ (by kernel_rfl) (tocsinlaw13_known_walk (r := y19) (hG.mono hI5) hx20 _) ?_
            refine gl_pure 2 [2] (K' := [(2, .bool y19)]) (by kernel_rfl) ?_
            refine gl_reord (D := L) (Reord.skipC (Reord.refl _)) ?_
            refine gl_atE (by kernel_rfl) ?_
            obtain rfl := some_inj hj12
            exact ge_mid fun t ht => ⟨(Imm.refl _), rfl, ht.pick (l := [2]) (by kernel_rfl)⟩
          · have hj12 := cond_f hc18 hj12
            refine gl_pure 3 [2] (K' := [(2, .bool false)]) (by kernel_rfl) ?_
            refine gl_reord (D := L) (Reord.skipC (Reord.refl _)) ?_
            refine gl_atE (by kernel_rfl) ?_
            obtain rfl := some_inj hj12
            exact ge_mid fun t ht => ⟨(Imm.refl _), rfl, ht.pick (l := [2]) (by kernel_rfl)⟩
        · have hj12 := cond_f hc17 hj12
          refine gl_pure 9 [2] (K' := [(2, .bool false)]) (by kernel_rfl) ?_
          refine gl_reord (D := L) (Reord.skipC (Reord.refl _)) ?_
          refine gl_atE (by kernel_rfl) ?_
          obtain rfl := some_inj hj12
          exact ge_mid fun t ht => ⟨(Imm.refl _), rfl, ht.pick (l := [2]) (by kernel_rfl)⟩
      · have hj12 := cond_f hc16 hj12
        refine gl_pure 13 [2] (K' := [(2, .bool false)]) (by kernel_rfl) ?_
        refine gl_reord (D := L) (Reord.skipC (Reord.refl _)) ?_
        refine gl_atE (by kernel_rfl) ?_
        obtain rfl := some_inj hj12
        exact ge_mid fun t ht => ⟨(Imm.refl _), rfl, ht.pick (l := [2]) (by kernel_rfl)⟩
    · rintro t I15 L' ⟨hI13, rfl, hK14⟩
      refine ge_at hK14 ?_
      refine ge_seq ?_
      refine gk_ret (by kernel_rfl) ?_
      refine ge_seq_ret ?_
      obtain rfl := some_inj hr
      exact ge_result trivial (ResOk.tmp (by kernel_rfl) ResOk.nil) (Imm.trans hI5 hI13) ⟨rfl, rfl⟩
  · have hr := cond_f hc10 hr
    refine gk_skip (by kernel_rfl) ?_
    refine ge_seq ?_
    refine gk_seq (by kernel_rfl) ?_
    refine gk_region (by kernel_rfl) ?_
    refine gl_pure 1 [0, 3, 6] (K' := [(0, .string a0), (3, .slice A6 y1.1.length c7), (6, .int .i64 0)]) (by kernel_rfl) ?_
    refine gl_atE (by kernel_rfl) ?_
    refine ge_seq ?_
    refine gk_seq (by kernel_rfl) ?_
    refine gk_seq (by kernel_rfl) ?_
    refine gk_region (by kernel_rfl) ?_
    refine gl_pure 1 [0, 3, 6, 7] (K' := [(0, .string a0), (3, .slice A6 y1.1.length c7), (6, .int .i64 0), (7, .int .i64 0)]) (by kernel_rfl) ?_
    refine gl_atE (by kernel_rfl) ?_
    refine ge_seq ?_
    obtain ⟨r25, hl26, hr⟩ := bind_some hr
    refine gk_join (fun t I' L' => ∃ r33, r25 = Sum.inl r33 ∧ I3 ≤ I' ∧ C8 ++ L = L' ∧ Knows 184 [(0, .string a0), (3, .slice A6 y1.1.length c7)] t) ?_ ?_
    · refine gk_block (by kernel_rfl) ?_
      refine gk_pick [0, 3, 6, 7] (K' := [(0, .string a0), (3, .slice A6 y1.1.length c7), (6, .int .i64 0), (7, .int .i64 0)]) (by kernel_rfl) ?_
      intro t hK
      refine gc_loop (tocsinlaw13_LexPlaces_l37 a0 y1) (fun s27 t I' L' => I3 ≤ I' ∧ C8 ++ L = L' ∧ Knows 184 [(0, .string a0), (3, .slice A6 y1.1.length c7), (6, .int .i64 s27.1), (7, .int .i64 s27.2)] t) (by kernel_rfl) ?_ hl26 ⟨(Imm.refl _), rfl, hK⟩
      rintro s27 o28 t I32 L' hb29 ⟨hI30, rfl, hK31⟩
      unfold tocsinlaw13_LexPlaces_l37 at hb29
      refine gk_at hK31 ?_
      refine gk_seq (by kernel_rfl) ?_
      refine gk_seq (by kernel_rfl) ?_
      refine gk_region (by kernel_rfl) ?_
      refine gl_pure 4 [0, 3, 6, 7, 40] (K' := [(0, .string a0), (3, .slice A6 y1.1.length c7), (6, .int .i64 s27.1), (7, .int .i64 s27.2), (40, .bool (decide (s27.2 < (y1.1.length : Int))))]) (by kernel_rfl) ?_
      refine gl_atE (by kernel_rfl) ?_
      refine ge_seq ?_
      refine gk_cond (b := (decide (s27.2 < (y1.1.length : Int)))) (by kernel_rfl) (by kernel_rfl) (fun hc39 => ?_) (fun hc39 => ?_)
      · have hb29 := cond_t hc39 hb29
        refine gk_skip (by kernel_rfl) ?_
        refine ge_seq ?_
        refine gk_seq (by kernel_rfl) ?_
        obtain ⟨j40, hj41, hb29⟩ := bind_some hb29
        refine gk_join (fun t I' L' => ∃ j42, j40 = Sum.inl j42 ∧ I32 ≤ I' ∧ C8 ++ L = L' ∧ Knows 184 [(0, .string a0), (3, .slice A6 y1.1.length c7), (6, .int .i64 j42), (7, .int .i64 s27.2)] t) ?_ ?_
        · refine gk_block (by kernel_rfl) ?_
          refine gk_seq (by kernel_rfl) ?_
          refine gk_region (by kernel_rfl) ?_
          refine gl_pure 2 [0, 3, 6, 7, 43, 44] (K' := [(0, .string a0), (3, .slice A6 y1.1.length c7), (6, .int .i64 s27.1), (7, .int .i64 s27.2), (43, .slice A6 y1.1.length c7), (44, .int .i64 s27.2)]) (by kernel_rfl) ?_
          obtain ⟨x46, hx47, hj41⟩ := bind_some hj41
          refine gl_indexAddrW (d := kS27) (c := c7) (T' := 22) (e := 28) (xs := (.tmp 43)) (xi := (.tmp 44)) (kd := .i64) hx47 (hO9.mono hI30) (Upd.selfC _ _) (by kernel_rfl) (by kernel_rfl) (by kernel_rfl) (by kernel_rfl) (by kernel_rfl) (fun p48 cs49 hR50 hA51 hp54 => ?_)
          obtain rfl := kS27_open hR50
          refine gl_loadOA (T' := 28) (xp := (.tmp 45)) (p := p48) (cs := [.int .i64 x46.f0, .string x46.f1, .int .i64 x46.f2]) (by kernel_rfl) (by kernel_rfl) (by kernel_rfl) (by kernel_rfl) (hA51.take 3) ?_
          refine gl_alloc (T' := 28) (cs := #[.int .i64 0, .string (⟨#[]⟩ : ByteArray), .int .i64 0]) (by kernel_rfl) (by kernel_rfl) (by kernel_rfl) (fun g55 => ?_)
          refine gl_storeB (T' := 28) (xp := (.tmp 8)) (xv := (.tmp 46)) (v := .agg #[.int .i64 x46.f0, .string x46.f1, .int .i64 x46.f2]) (g := g55) (off := 0) (cs := #[.int .i64 0, .string (⟨#[]⟩ : ByteArray), .int .i64 0]) (cs' := #[.int .i64 x46.f0, .string x46.f1, .int .i64 x46.f2]) (by kernel_rfl) (by kernel_rfl) (by kernel_rfl) (by kernel_rfl) (by kernel_rfl) (Upd.set _ _ _ _) ?_ (by kernel_rfl)
          refine gl_atE (by kernel_rfl) ?_
          refine ge_seq ?_
          refine gk_seq (by kernel_rfl) ?_
          refine gk_seq (by kernel_rfl) ?_
          obtain ⟨b58, hb59⟩ : ∃ z, z = (((decide (x46.f2 < s27.1)) || (decide (x46.f2 > (a0.size : Int)))) || (!((x46.f0 == 0) == (s27.2 == (IntKind.wrap .i64 ((y1.1.length : Int) - 1)))))) := ⟨_, rfl⟩
          refine gk_join (fun t I' L' => I32 ≤ I' ∧ (g55, .cells #[.int .i64 x46.f0, .string x46.f1, .int .i64 x46.f2] 28) :: (C8 ++ L) = L' ∧ Knows 184 [(0, .string a0), (3, .slice A6 y1.1.length c7), (7, .int .i64 s27.2), (8, .pointer (some ⟨g55, 0, none⟩)), (68, .bool b58)] t) ?_ ?_
          · refine gk_region (by kernel_rfl) ?_
            refine gl_pure 1 [0, 3, 6, 7, 8, 47] (K' := [(0, .string a0), (3, .slice A6 y1.1.length c7), (6, .int .i64 s27.1), (7, .int .i64 s27.2), (8, .pointer (some ⟨g55, 0, none⟩)), (47, .pointer (some ⟨g55, 2, none⟩))]) (by kernel_rfl) ?_
            refine gl_loadB (T' := 3) (xp := (.tmp 47)) (v := .int .i64 x46.f2) (g := g55) (off := 2) (cs := #[.int .i64 x46.f0, .string x46.f1, .int .i64 x46.f2]) (e := 28) (fz := (0, 0)) (by kernel_rfl) (by kernel_rfl) (by kernel_rfl) List.mem_cons_self (by kernel_rfl) ?_
            refine gl_pure 3 [0, 3, 7, 8, 51] (K' := [(0, .string a0), (3, .slice A6 y1.1.length c7), (7, .int .i64 s27.2), (8, .pointer (some ⟨g55, 0, none⟩)), (51, .bool (decide (x46.f2 < s27.1)))]) (by kernel_rfl) ?_
            refine gl_case 51 (b := (decide (x46.f2 < s27.1))) (by kernel_rfl) (fun hc61 => ?_) (fun hc61 => ?_)
            · refine gl_pure 17 [0, 3, 7, 8, 68] (K' := [(0, .string a0), (3, .slice A6 y1.1.length c7), (7, .int .i64 s27.2), (8, .pointer (some ⟨g55, 0, none⟩)), (68, .bool true)]) (by kernel_rfl) ?_
              refine gl_atE (by kernel_rfl) ?_
              exact ge_mid fun t ht => ⟨(Imm.refl _), rfl, by rw [(show b58 = true from hb59.trans (by rw [hc61]; try rfl))]; exact ht.pick (l := [0, 3, 7, 8, 68]) (by kernel_rfl)⟩
            · refine gl_pure 1 [0, 3, 7, 8, 51, 52] (K' := [(0, .string a0), (3, .slice A6 y1.1.length c7), (7, .int .i64 s27.2), (8, .pointer (some ⟨g55, 0, none⟩)), (51, .bool false), (52, .pointer (some ⟨g55, 2, none⟩))]) (by kernel_rfl) ?_
              refine gl_loadB (T' := 3) (xp := (.tmp 52)) (v := .int .i64 x46.f2) (g := g55) (off := 2) (cs := #[.int .i64 x46.f0, .string x46.f1, .int .i64 x46.f2]) (e := 28) (fz := (0, 0)) (by kernel_rfl) (by kernel_rfl) (by kernel_rfl) List.mem_cons_self (by kernel_rfl) ?_
              refine gl_pure 5 [0, 3, 7, 8, 58] (K' := [(0, .string a0), (3, .slice A6 y1.1.length c7), (7, .int .i64 s27.2), (8, .pointer (some ⟨g55, 0, none⟩)), (58, .bool (decide (x46.f2 > (a0.size : Int))))]) (by kernel_rfl) ?_
              refine gl_case 58 (b := (decide (x46.f2 > (a0.size : Int)))) (by kernel_rfl) (fun hc62 => ?_) (fun hc62 => ?_)
              · refine gl_pure 10 [0, 3, 7, 8, 68] (K' := [(0, .string a0), (3, .slice A6 y1.1.length c7), (7, .int .i64 s27.2), (8, .pointer (some ⟨g55, 0, none⟩)), (68, .bool true)]) (by kernel_rfl) ?_
                refine gl_atE (by kernel_rfl) ?_
                exact ge_mid fun t ht => ⟨(Imm.refl _), rfl, by rw [(show b58 = true from hb59.trans (by rw [hc61, hc62]; try rfl))]; exact ht.pick (l := [0, 3, 7, 8, 68]) (by kernel_rfl)⟩
              · refine gl_pure 1 [0, 3, 7, 8, 58, 59] (K' := [(0, .string a0), (3, .slice A6 y1.1.length c7), (7, .int .i64 s27.2), (8, .pointer (some ⟨g55, 0, none⟩)), (58, .bool false), (59, .pointer (some ⟨g55, 0, none⟩))]) (by kernel_rfl) ?_
                refine gl_loadB (T' := 3) (xp := (.tmp 59)) (v := .int .i64 x46.f0) (g := g55) (off := 0) (cs := #[.int .i64 x46.f0, .string x46.f1, .int .i64 x46.f2]) (e := 28) (fz := (0, 0)) (by kernel_rfl) (by kernel_rfl) (by kernel_rfl) List.mem_cons_self (by kernel_rfl) ?_
                refine gl_pure 8 [0, 3, 7, 8, 68] (K' := [(0, .string a0), (3, .slice A6 y1.1.length c7), (7, .int .i64 s27.2), (8, .pointer (some ⟨g55, 0, none⟩)), (68, .bool (!((x46.f0 == 0) == (s27.2 == (IntKind.wrap .i64 ((y1.1.length : Int) - 1))))))]) (by kernel_rfl) ?_
                refine gl_atE (by kernel_rfl) ?_
                exact ge_mid fun t ht => ⟨(Imm.refl _), rfl, by rw [(show b58 = (!((x46.f0 == 0) == (s27.2 == (IntKind.wrap .i64 ((y1.1.length : Int) - 1))))) from hb59.trans (by rw [hc61, hc62]; try rfl))]; exact ht.pick (l := [0, 3, 7, 8, 68]) (by kernel_rfl)⟩
          · rintro t I60 L' ⟨hI56, rfl, hK57⟩
            subst hb59
            refine ge_at hK57 ?_
            refine ge_seq ?_
            refine gk_cond (b := (((decide (x46.f2 < s27.1)) || (decide (x46.f2 > (a0.size : Int)))) || (!((x46.f0 == 0) == (s27.2 == (IntKind.wrap .i64 ((y1.1.length : Int) - 1))))))) (by kernel_rfl) (by kernel_rfl) (fun hc63 => ?_) (fun hc63 => ?_)
            · have hj41 := cond_t hc63 hj41
              refine gk_seq (by kernel_rfl) ?_
              refine gk_region (by kernel_rfl) ?_
              refine gl_pure 1 [2] (K' := [(2, .bool false)]) (by kernel_rfl) ?_
              refine gl_atE (by kernel_rfl) ?_
              refine ge_seq ?_
              refine gk_reord (D := L) (Reord.skip (Reord.skipC (Reord.refl _))) ?_
              refine gk_ret (by kernel_rfl) ?_
              refine ge_seq_ret ?_
              refine ge_block_ret ?_
              refine ge_seq_ret ?_
              obtain rfl := some_inj hj41
              refine ge_seq_ret ?_
              obtain rfl := some_inj hb29
              refine ge_round_out (fun hrr => ?_) (by intro h; cases h)
              obtain rfl := hrr
              refine ge_block_ret ?_
              refine ge_seq_ret ?_
              refine ge_seq_ret ?_
              obtain rfl := some_inj hr
              exact ge_result trivial (ResOk.tmp (by kernel_rfl) ResOk.nil) (Imm.trans (Imm.trans hI5 hI30) hI56) ⟨rfl, rfl⟩
            · have hj41 := cond_f hc63 hj41
              refine gk_skip (by kernel_rfl) ?_
              refine ge_seq ?_
              refine gk_seq (by kernel_rfl) ?_
              refine gk_region (by kernel_rfl) ?_
              refine gl_pure 1 [0, 3, 7, 8, 69] (K' := [(0, .string a0), (3, .slice A6 y1.1.length c7), (7, .int .i64 s27.2), (8, .pointer (some ⟨g55, 0, none⟩)), (69, .pointer (some ⟨g55, 2, none⟩))]) (by kernel_rfl) ?_
              refine gl_loadB (T' := 3) (xp := (.tmp 69)) (v := .int .i64 x46.f2) (g := g55) (off := 2) (cs := #[.int .i64 x46.f0, .string x46.f1, .int .i64 x46.f2]) (e := 28) (fz := (0, 0)) (by kernel_rfl) (by kernel_rfl) (by kernel_rfl) List.mem_cons_self (by kernel_rfl) ?_
              refine gl_pure 1 [0, 3, 6, 7, 8] (K' := [(0, .string a0), (3, .slice A6 y1.1.length c7), (6, .int .i64 x46.f2), (7, .int .i64 s27.2), (8, .pointer (some ⟨g55, 0, none⟩))]) (by kernel_rfl) ?_
              refine gl_atE (by kernel_rfl) ?_
              refine ge_seq ?_
              refine gk_seq (by kernel_rfl) ?_
              refine gk_seq (by kernel_rfl) ?_
              obtain ⟨b66, hb67⟩ : ∃ z, z = ((x46.f0 == 4) || (x46.f0 == 0)) := ⟨_, rfl⟩
              refine gk_join (fun t I' L' => I60 ≤ I' ∧ (g55, .cells #[.int .i64 x46.f0, .string x46.f1, .int .i64 x46.f2] 28) :: (C8 ++ L) = L' ∧ Knows 184 [(0, .string a0), (3, .slice A6 y1.1.length c7), (6, .int .i64 x46.f2), (7, .int .i64 s27.2), (8, .pointer (some ⟨g55, 0, none⟩)), (78, .bool b66)] t) ?_ ?_
              · refine gk_region (by kernel_rfl) ?_
                refine gl_pure 1 [0, 3, 6, 7, 8, 71] (K' := [(0, .string a0), (3, .slice A6 y1.1.length c7), (6, .int .i64 x46.f2), (7, .int .i64 s27.2), (8, .pointer (some ⟨g55, 0, none⟩)), (71, .pointer (some ⟨g55, 0, none⟩))]) (by kernel_rfl) ?_
                refine gl_loadB (T' := 3) (xp := (.tmp 71)) (v := .int .i64 x46.f0) (g := g55) (off := 0) (cs := #[.int .i64 x46.f0, .string x46.f1, .int .i64 x46.f2]) (e := 28) (fz := (0, 0)) (by kernel_rfl) (by kernel_rfl) (by kernel_rfl) List.mem_cons_self (by kernel_rfl) ?_
                refine gl_pure 2 [0, 3, 6, 7, 8, 74] (K' := [(0, .string a0), (3, .slice A6 y1.1.length c7), (6, .int .i64 x46.f2), (7, .int .i64 s27.2), (8, .pointer (some ⟨g55, 0, none⟩)), (74, .bool (x46.f0 == 4))]) (by kernel_rfl) ?_
                refine gl_case 74 (b := (x46.f0 == 4)) (by kernel_rfl) (fun hc69 => ?_) (fun hc69 => ?_)
                · refine gl_pure 4 [0, 3, 6, 7, 8, 78] (K' := [(0, .string a0), (3, .slice A6 y1.1.length c7), (6, .int .i64 x46.f2), (7, .int .i64 s27.2), (8, .pointer (some ⟨g55, 0, none⟩)), (78, .bool true)]) (by kernel_rfl) ?_
                  refine gl_atE (by kernel_rfl) ?_
                  exact ge_mid fun t ht => ⟨(Imm.refl _), rfl, by rw [(show b66 = true from hb67.trans (by rw [hc69]; try rfl))]; exact ht.pick (l := [0, 3, 6, 7, 8, 78]) (by kernel_rfl)⟩
                · refine gl_pure 1 [0, 3, 6, 7, 8, 74, 75] (K' := [(0, .string a0), (3, .slice A6 y1.1.length c7), (6, .int .i64 x46.f2), (7, .int .i64 s27.2), (8, .pointer (some ⟨g55, 0, none⟩)), (74, .bool false), (75, .pointer (some ⟨g55, 0, none⟩))]) (by kernel_rfl) ?_
                  refine gl_loadB (T' := 3) (xp := (.tmp 75)) (v := .int .i64 x46.f0) (g := g55) (off := 0) (cs := #[.int .i64 x46.f0, .string x46.f1, .int .i64 x46.f2]) (e := 28) (fz := (0, 0)) (by kernel_rfl) (by kernel_rfl) (by kernel_rfl) List.mem_cons_self (by kernel_rfl) ?_
                  refine gl_pure 2 [0, 3, 6, 7, 8, 78] (K' := [(0, .string a0), (3, .slice A6 y1.1.length c7), (6, .int .i64 x46.f2), (7, .int .i64 s27.2), (8, .pointer (some ⟨g55, 0, none⟩)), (78, .bool (x46.f0 == 0))]) (by kernel_rfl) ?_
                  refine gl_atE (by kernel_rfl) ?_
                  exact ge_mid fun t ht => ⟨(Imm.refl _), rfl, by rw [(show b66 = (x46.f0 == 0) from hb67.trans (by rw [hc69]; try rfl))]; exact ht.pick (l := [0, 3, 6, 7, 8, 78]) (by kernel_rfl)⟩
              · rintro t I68 L' ⟨hI64, rfl, hK65⟩
                subst hb67
                refine ge_at hK65 ?_
                refine ge_seq ?_
                refine gk_cond (b := ((x46.f0 == 4) || (x46.f0 == 0))) (by kernel_rfl) (by kernel_rfl) (fun hc70 => ?_) (fun hc70 => ?_)
                · have hj41 := cond_t hc70 hj41
                  refine gk_reord (D := C8 ++ L) (Reord.step (Upd.one _ (Upd.rmC _ _)) (Reord.skip (Reord.refl _))) ?_
                  refine gk_exit (by kernel_rfl) ?_
                  refine ge_seq_exit ?_
                  refine ge_block_hit (by kernel_rfl) ?_
                  obtain rfl := some_inj hj41
                  exact ge_mid fun t ht => ⟨_, rfl, (Imm.trans hI56 hI64), rfl, ht.pick (l := [0, 3, 6, 7]) (by kernel_rfl)⟩
                · have hj41 := cond_f hc70 hj41
                  refine gk_skip (by kernel_rfl) ?_
                  refine ge_seq ?_
                  refine gk_seq (by kernel_rfl) ?_
                  refine gk_seq (by kernel_rfl) ?_
                  obtain ⟨j71, hj72, hj41⟩ := bind_some hj41
                  refine gk_join (fun t I' L' => I68 ≤ I' ∧ (g55, .cells #[.int .i64 x46.f0, .string x46.f1, .int .i64 x46.f2] 28) :: (C8 ++ L) = L' ∧ Knows 184 [(0, .string a0), (3, .slice A6 y1.1.length c7), (7, .int .i64 s27.2), (8, .pointer (some ⟨g55, 0, none⟩)), (108, .bool j71)] t) ?_ ?_
                  · refine gk_draw 30 [(0, true), (1, true), (2, true), (3, true), (4, true), (5, true), (6, true), (7, true), (8, true), (9, true), (10, true), (11, true), (12, true), (13, true), (14, true), (15, true), (16, true), (17, true), (18, true), (19, true), (20, true), (21, true), (22, true), (23, true), (24, true), (25, true), (26, true), (27, true), (28, true), (29, true)] [(g55, .cells #[.int .i64 x46.f0, .string x46.f1, .int .i64 x46.f2] 28)] (List.forall_mem_cons.2 ⟨List.mem_cons_self, (fun p hp => by cases hp)⟩) (by kernel_rfl) (by kernel_rfl) (by kernel_rfl) ?_ (by kernel_rfl)
                    refine gd_pure 1 [0, 3, 7, 8, 79] (K' := [(0, .string a0), (3, .slice A6 y1.1.length c7), (7, .int .i64 s27.2), (8, .pointer (some ⟨g55, 0, none⟩)), (79, .pointer (some ⟨g55, 1, none⟩))]) (s' := [(1, true), (2, true), (3, true), (4, true), (5, true), (6, true), (7, true), (8, true), (9, true), (10, true), (11, true), (12, true), (13, true), (14, true), (15, true), (16, true), (17, true), (18, true), (19, true), (20, true), (21, true), (22, true), (23, true), (24, true), (25, true), (26, true), (27, true), (28, true), (29, true)]) (CC.refl (List.forall_mem_cons.2 ⟨List.mem_cons_self, (fun p hp => by cases hp)⟩)) (by kernel_rfl) ?_
                    refine gd_q (v := .string x46.f1) (by kernel_rfl) (by kernel_rfl) (CC.refl (List.forall_mem_cons.2 ⟨List.mem_cons_self, (fun p hp => by cases hp)⟩)) (fun I' L' T hC kk => gl_loadB (T' := 9) (xp := (.tmp 79)) (v := .string x46.f1) (g := g55) (off := 1) (cs := #[.int .i64 x46.f0, .string x46.f1, .int .i64 x46.f2]) (e := 28) (fz := (0, 0)) (by kernel_rfl) (by kernel_rfl) (by kernel_rfl) (hC.sub _ List.mem_cons_self) (by kernel_rfl) kk) ?_
                    refine gd_pure 3 [0, 3, 7, 8, 83] (K' := [(0, .string a0), (3, .slice A6 y1.1.length c7), (7, .int .i64 s27.2), (8, .pointer (some ⟨g55, 0, none⟩)), (83, .bool ((x46.f1.size : Int) == 0))]) (s' := [(5, true), (6, true), (7, true), (8, true), (9, true), (10, true), (11, true), (12, true), (13, true), (14, true), (15, true), (16, true), (17, true), (18, true), (19, true), (20, true), (21, true), (22, true), (23, true), (24, true), (25, true), (26, true), (27, true), (28, true), (29, true)]) (CC.refl (List.forall_mem_cons.2 ⟨List.mem_cons_self, (fun p hp => by cases hp)⟩)) (by kernel_rfl) ?_
                    refine gd_case 83 (b := ((x46.f1.size : Int) == 0)) (by kernel_rfl) (fun hc76 => ?_) (fun hc76 => ?_)
                    · have hj72 := cond_t hc76 hj72
                      refine gd_pure 25 [0, 3, 7, 8, 108] (K' := [(0, .string a0), (3, .slice A6 y1.1.length c7), (7, .int .i64 s27.2), (8, .pointer (some ⟨g55, 0, none⟩)), (108, .bool true)]) (s' := []) (CC.refl (List.forall_mem_cons.2 ⟨List.mem_cons_self, (fun p hp => by cases hp)⟩)) (by kernel_rfl) ?_
                      refine gd_done ?_
                      refine gl_atE (by kernel_rfl) ?_
                      obtain rfl := some_inj hj72
                      exact ge_mid fun t ht => ⟨(Imm.refl _), rfl, ht.pick (l := [0, 3, 7, 8, 108]) (by kernel_rfl)⟩
                    · have hj72 := cond_f hc76 hj72
                      refine gd_pure 1 [0, 3, 7, 8, 83, 84] (K' := [(0, .string a0), (3, .slice A6 y1.1.length c7), (7, .int .i64 s27.2), (8, .pointer (some ⟨g55, 0, none⟩)), (83, .bool false), (84, .pointer (some ⟨g55, 1, none⟩))]) (s' := [(6, true), (7, true), (8, true), (9, true), (10, true), (11, true), (12, true), (13, true), (14, true), (15, true), (16, true), (17, true), (18, true), (19, true), (20, true), (21, true), (22, true), (23, true), (24, true), (25, true), (26, true), (27, true), (28, true), (29, true)]) (CC.refl (List.forall_mem_cons.2 ⟨List.mem_cons_self, (fun p hp => by cases hp)⟩)) (by kernel_rfl) ?_
                      refine gd_q (v := .string x46.f1) (by kernel_rfl) (by kernel_rfl) (CC.refl (List.forall_mem_cons.2 ⟨List.mem_cons_self, (fun p hp => by cases hp)⟩)) (fun I' L' T hC kk => gl_loadB (T' := 9) (xp := (.tmp 84)) (v := .string x46.f1) (g := g55) (off := 1) (cs := #[.int .i64 x46.f0, .string x46.f1, .int .i64 x46.f2]) (e := 28) (fz := (0, 0)) (by kernel_rfl) (by kernel_rfl) (by kernel_rfl) (hC.sub _ List.mem_cons_self) (by kernel_rfl) kk) ?_
                      refine gd_pure 4 [0, 3, 7, 8, 83, 86, 88, 89] (K' := [(0, .string a0), (3, .slice A6 y1.1.length c7), (7, .int .i64 s27.2), (8, .pointer (some ⟨g55, 0, none⟩)), (83, .bool false), (86, .int .i64 (x46.f1.size : Int)), (88, .int .i64 (a0.size : Int)), (89, .pointer (some ⟨g55, 2, none⟩))]) (s' := [(11, true), (12, true), (13, true), (14, true), (15, true), (16, true), (17, true), (18, true), (19, true), (20, true), (21, true), (22, true), (23, true), (24, true), (25, true), (26, true), (27, true), (28, true), (29, true)]) (CC.refl (List.forall_mem_cons.2 ⟨List.mem_cons_self, (fun p hp => by cases hp)⟩)) (by kernel_rfl) ?_
                      refine gd_q (v := .int .i64 x46.f2) (by kernel_rfl) (by kernel_rfl) (CC.refl (List.forall_mem_cons.2 ⟨List.mem_cons_self, (fun p hp => by cases hp)⟩)) (fun I' L' T hC kk => gl_loadB (T' := 3) (xp := (.tmp 89)) (v := .int .i64 x46.f2) (g := g55) (off := 2) (cs := #[.int .i64 x46.f0, .string x46.f1, .int .i64 x46.f2]) (e := 28) (fz := (0, 0)) (by kernel_rfl) (by kernel_rfl) (by kernel_rfl) (hC.sub _ List.mem_cons_self) (by kernel_rfl) kk) ?_
                      refine gd_pure 4 [0, 3, 7, 8, 94] (K' := [(0, .string a0), (3, .slice A6 y1.1.length c7), (7, .int .i64 s27.2), (8, .pointer (some ⟨g55, 0, none⟩)), (94, .bool (decide ((x46.f1.size : Int) > (IntKind.wrap .i64 ((a0.size : Int) - x46.f2)))))]) (s' := [(16, true), (17, true), (18, true), (19, true), (20, true), (21, true), (22, true), (23, true), (24, true), (25, true), (26, true), (27, true), (28, true), (29, true)]) (CC.refl (List.forall_mem_cons.2 ⟨List.mem_cons_self, (fun p hp => by cases hp)⟩)) (by kernel_rfl) ?_
                      refine gd_case 94 (b := (decide ((x46.f1.size : Int) > (IntKind.wrap .i64 ((a0.size : Int) - x46.f2))))) (by kernel_rfl) (fun hc77 => ?_) (fun hc77 => ?_)
                      · have hj72 := cond_t hc77 hj72
                        refine gd_pure 14 [0, 3, 7, 8, 108] (K' := [(0, .string a0), (3, .slice A6 y1.1.length c7), (7, .int .i64 s27.2), (8, .pointer (some ⟨g55, 0, none⟩)), (108, .bool true)]) (s' := []) (CC.refl (List.forall_mem_cons.2 ⟨List.mem_cons_self, (fun p hp => by cases hp)⟩)) (by kernel_rfl) ?_
                        refine gd_done ?_
                        refine gl_atE (by kernel_rfl) ?_
                        obtain rfl := some_inj hj72
                        exact ge_mid fun t ht => ⟨(Imm.refl _), rfl, ht.pick (l := [0, 3, 7, 8, 108]) (by kernel_rfl)⟩
                      · have hj72 := cond_f hc77 hj72
                        refine gd_pure 2 [0, 3, 7, 8, 94, 95, 96] (K' := [(0, .string a0), (3, .slice A6 y1.1.length c7), (7, .int .i64 s27.2), (8, .pointer (some ⟨g55, 0, none⟩)), (94, .bool false), (95, .string a0), (96, .pointer (some ⟨g55, 2, none⟩))]) (s' := [(18, true), (19, true), (20, true), (21, true), (22, true), (23, true), (24, true), (25, true), (26, true), (27, true), (28, true), (29, true)]) (CC.refl (List.forall_mem_cons.2 ⟨List.mem_cons_self, (fun p hp => by cases hp)⟩)) (by kernel_rfl) ?_
                        refine gd_q (v := .int .i64 x46.f2) (by kernel_rfl) (by kernel_rfl) (CC.refl (List.forall_mem_cons.2 ⟨List.mem_cons_self, (fun p hp => by cases hp)⟩)) (fun I' L' T hC kk => gl_loadB (T' := 3) (xp := (.tmp 96)) (v := .int .i64 x46.f2) (g := g55) (off := 2) (cs := #[.int .i64 x46.f0, .string x46.f1, .int .i64 x46.f2]) (e := 28) (fz := (0, 0)) (by kernel_rfl) (by kernel_rfl) (by kernel_rfl) (hC.sub _ List.mem_cons_self) (by kernel_rfl) kk) ?_
                        refine gd_pure 1 [0, 3, 7, 8, 94, 95, 97, 98] (K' := [(0, .string a0), (3, .slice A6 y1.1.length c7), (7, .int .i64 s27.2), (8, .pointer (some ⟨g55, 0, none⟩)), (94, .bool false), (95, .string a0), (97, .int .i64 x46.f2), (98, .pointer (some ⟨g55, 2, none⟩))]) (s' := [(20, true), (21, true), (22, true), (23, true), (24, true), (25, true), (26, true), (27, true), (28, true), (29, true)]) (CC.refl (List.forall_mem_cons.2 ⟨List.mem_cons_self, (fun p hp => by cases hp)⟩)) (by kernel_rfl) ?_
                        refine gd_q (v := .int .i64 x46.f2) (by kernel_rfl) (by kernel_rfl) (CC.refl (List.forall_mem_cons.2 ⟨List.mem_cons_self, (fun p hp => by cases hp)⟩)) (fun I' L' T hC kk => gl_loadB (T' := 3) (xp := (.tmp 98)) (v := .int .i64 x46.f2) (g := g55) (off := 2) (cs := #[.int .i64 x46.f0, .string x46.f1, .int .i64 x46.f2]) (e := 28) (fz := (0, 0)) (by kernel_rfl) (by kernel_rfl) (by kernel_rfl) (hC.sub _ List.mem_cons_self) (by kernel_rfl) kk) ?_
                        refine gd_pure 1 [0, 3, 7, 8, 94, 95, 97, 99, 100] (K' := [(0, .string a0), (3, .slice A6 y1.1.length c7), (7, .int .i64 s27.2), (8, .pointer (some ⟨g55, 0, none⟩)), (94, .bool false), (95, .string a0), (97, .int .i64 x46.f2), (99, .int .i64 x46.f2), (100, .pointer (some ⟨g55, 1, none⟩))]) (s' := [(22, true), (23, true), (24, true), (25, true), (26, true), (27, true), (28, true), (29, true)]) (CC.refl (List.forall_mem_cons.2 ⟨List.mem_cons_self, (fun p hp => by cases hp)⟩)) (by kernel_rfl) ?_
                        refine gd_q (v := .string x46.f1) (by kernel_rfl) (by kernel_rfl) (CC.refl (List.forall_mem_cons.2 ⟨List.mem_cons_self, (fun p hp => by cases hp)⟩)) (fun I' L' T hC kk => gl_loadB (T' := 9) (xp := (.tmp 100)) (v := .string x46.f1) (g := g55) (off := 1) (cs := #[.int .i64 x46.f0, .string x46.f1, .int .i64 x46.f2]) (e := 28) (fz := (0, 0)) (by kernel_rfl) (by kernel_rfl) (by kernel_rfl) (hC.sub _ List.mem_cons_self) (by kernel_rfl) kk) ?_
                        refine gd_pure 2 [0, 3, 7, 8, 94, 95, 97, 103] (K' := [(0, .string a0), (3, .slice A6 y1.1.length c7), (7, .int .i64 s27.2), (8, .pointer (some ⟨g55, 0, none⟩)), (94, .bool false), (95, .string a0), (97, .int .i64 x46.f2), (103, .int .i64 (IntKind.wrap .i64 (x46.f2 + (x46.f1.size : Int))))]) (s' := [(25, true), (26, true), (27, true), (28, true), (29, true)]) (CC.refl (List.forall_mem_cons.2 ⟨List.mem_cons_self, (fun p hp => by cases hp)⟩)) (by kernel_rfl) ?_
                        obtain ⟨s79, hx78, hj72⟩ := bind_some hj72
                        refine gd_q (v := .string s79) (by kernel_rfl) (by kernel_rfl) (CC.refl (List.forall_mem_cons.2 ⟨List.mem_cons_self, (fun p hp => by cases hp)⟩)) (fun I' L' T hC kk => gl_slice' (T' := 9) (xs := (.tmp 95)) (lo := (some (.tmp 97))) (hi := (some (.tmp 103))) hx78 (by kernel_rfl) (by kernel_rfl) (by kernel_rfl) (by kernel_rfl) (by kernel_rfl) (by kernel_rfl) kk) ?_
                        refine gd_pure 1 [0, 3, 7, 8, 94, 104, 105] (K' := [(0, .string a0), (3, .slice A6 y1.1.length c7), (7, .int .i64 s27.2), (8, .pointer (some ⟨g55, 0, none⟩)), (94, .bool false), (104, .string s79), (105, .pointer (some ⟨g55, 1, none⟩))]) (s' := [(27, true), (28, true), (29, true)]) (CC.refl (List.forall_mem_cons.2 ⟨List.mem_cons_self, (fun p hp => by cases hp)⟩)) (by kernel_rfl) ?_
                        refine gd_q (v := .string x46.f1) (by kernel_rfl) (by kernel_rfl) (CC.refl (List.forall_mem_cons.2 ⟨List.mem_cons_self, (fun p hp => by cases hp)⟩)) (fun I' L' T hC kk => gl_loadB (T' := 9) (xp := (.tmp 105)) (v := .string x46.f1) (g := g55) (off := 1) (cs := #[.int .i64 x46.f0, .string x46.f1, .int .i64 x46.f2]) (e := 28) (fz := (0, 0)) (by kernel_rfl) (by kernel_rfl) (by kernel_rfl) (hC.sub _ List.mem_cons_self) (by kernel_rfl) kk) ?_
                        refine gd_pure 2 [0, 3, 7, 8, 108] (K' := [(0, .string a0), (3, .slice A6 y1.1.length c7), (7, .int .i64 s27.2), (8, .pointer (some ⟨g55, 0, none⟩)), (108, .bool (!(s79.toList == x46.f1.toList)))]) (s' := []) (CC.refl (List.forall_mem_cons.2 ⟨List.mem_cons_self, (fun p hp => by cases hp)⟩)) (by kernel_rfl) ?_
                        refine gd_done ?_
                        refine gl_atE (by kernel_rfl) ?_
                        obtain rfl := some_inj hj72
                        exact ge_mid fun t ht => ⟨(Imm.refl _), rfl, ht.pick (l := [0, 3, 7, 8, 108]) (by kernel_rfl)⟩
                  · rintro t I75 L' ⟨hI73, rfl, hK74⟩
                    refine ge_at hK74 ?_
                    refine ge_seq ?_
                    refine gk_cond (b := j71) (by kernel_rfl) (by kernel_rfl) (fun hc80 => ?_) (fun hc80 => ?_)
                    · have hj41 := cond_t hc80 hj41
                      refine gk_seq (by kernel_rfl) ?_
                      refine gk_region (by kernel_rfl) ?_
                      refine gl_pure 1 [2] (K' := [(2, .bool false)]) (by kernel_rfl) ?_
                      refine gl_atE (by kernel_rfl) ?_
                      refine ge_seq ?_
                      refine gk_reord (D := L) (Reord.skip (Reord.skipC (Reord.refl _))) ?_
                      refine gk_ret (by kernel_rfl) ?_
                      refine ge_seq_ret ?_
                      refine ge_block_ret ?_
                      refine ge_seq_ret ?_
                      obtain rfl := some_inj hj41
                      refine ge_seq_ret ?_
                      obtain rfl := some_inj hb29
                      refine ge_round_out (fun hrr => ?_) (by intro h; cases h)
                      obtain rfl := hrr
                      refine ge_block_ret ?_
                      refine ge_seq_ret ?_
                      refine ge_seq_ret ?_
                      obtain rfl := some_inj hr
                      exact ge_result trivial (ResOk.tmp (by kernel_rfl) ResOk.nil) (Imm.trans (Imm.trans (Imm.trans (Imm.trans hI5 hI30) hI56) hI64) hI73) ⟨rfl, rfl⟩
                    · have hj41 := cond_f hc80 hj41
                      refine gk_skip (by kernel_rfl) ?_
                      refine ge_seq ?_
                      refine gk_region (by kernel_rfl) ?_
                      refine gl_pure 1 [0, 3, 7, 8, 109] (K' := [(0, .string a0), (3, .slice A6 y1.1.length c7), (7, .int .i64 s27.2), (8, .pointer (some ⟨g55, 0, none⟩)), (109, .pointer (some ⟨g55, 2, none⟩))]) (by kernel_rfl) ?_
                      refine gl_loadB (T' := 3) (xp := (.tmp 109)) (v := .int .i64 x46.f2) (g := g55) (off := 2) (cs := #[.int .i64 x46.f0, .string x46.f1, .int .i64 x46.f2]) (e := 28) (fz := (0, 0)) (by kernel_rfl) (by kernel_rfl) (by kernel_rfl) List.mem_cons_self (by kernel_rfl) ?_
                      refine gl_pure 1 [0, 3, 7, 110, 111] (K' := [(0, .string a0), (3, .slice A6 y1.1.length c7), (7, .int .i64 s27.2), (110, .int .i64 x46.f2), (111, .pointer (some ⟨g55, 1, none⟩))]) (by kernel_rfl) ?_
                      refine gl_loadB (T' := 9) (xp := (.tmp 111)) (v := .string x46.f1) (g := g55) (off := 1) (cs := #[.int .i64 x46.f0, .string x46.f1, .int .i64 x46.f2]) (e := 28) (fz := (0, 0)) (by kernel_rfl) (by kernel_rfl) (by kernel_rfl) List.mem_cons_self (by kernel_rfl) ?_
                      refine gl_pure 3 [0, 3, 6, 7] (K' := [(0, .string a0), (3, .slice A6 y1.1.length c7), (6, .int .i64 (IntKind.wrap .i64 (x46.f2 + (x46.f1.size : Int)))), (7, .int .i64 s27.2)]) (by kernel_rfl) ?_
                      refine gl_reord (D := C8 ++ L) (Reord.step (Upd.one _ (Upd.rmC _ _)) (Reord.skip (Reord.refl _))) ?_
                      refine gl_atE (by kernel_rfl) ?_
                      refine ge_block_normal ?_
                      obtain rfl := some_inj hj41
                      exact ge_mid fun t ht => ⟨_, rfl, (Imm.trans (Imm.trans hI56 hI64) hI73), rfl, ht.pick (l := [0, 3, 6, 7]) (by kernel_rfl)⟩
        · rintro t I45 L' ⟨j42, rfl, hI43, rfl, hK44⟩
          refine ge_at hK44 ?_
          refine ge_seq ?_
          refine gk_region (by kernel_rfl) ?_
          refine gl_pure 3 [0, 3, 6, 7] (K' := [(0, .string a0), (3, .slice A6 y1.1.length c7), (6, .int .i64 j42), (7, .int .i64 (IntKind.wrap .i64 (s27.2 + 1)))]) (by kernel_rfl) ?_
          refine gl_atE (by kernel_rfl) ?_
          obtain rfl := some_inj hb29
          exact ge_round fun t ht => ⟨(Imm.trans hI30 hI43), rfl, ht.pick (l := [0, 3, 6, 7]) (by kernel_rfl)⟩
      · have hb29 := cond_f hc39 hb29
        refine gk_exit (by kernel_rfl) ?_
        refine ge_seq_exit ?_
        obtain rfl := some_inj hb29
        refine ge_round_out (fun hrr => ?_) (by intro h; cases h)
        obtain rfl := hrr
        refine ge_block_hit (by kernel_rfl) ?_
        exact ge_mid fun t ht => ⟨_, rfl, hI30, rfl, ht.pick (l := [0, 3]) (by kernel_rfl)⟩
    · rintro t I36 L' ⟨r33, rfl, hI34, rfl, hK35⟩
      refine ge_at hK35 ?_
      refine ge_seq ?_
      refine gk_seq (by kernel_rfl) ?_
      refine gk_seq (by kernel_rfl) ?_
      obtain ⟨b84, hb85⟩ : ∃ z, z = ((((y1.1.length : Int) == 0) || (decide ((y1.1.length : Int) > 50))) || (decide ((a0.size : Int) > 2000))) := ⟨_, rfl⟩
      refine gk_join (fun t I' L' => I36 ≤ I' ∧ C8 ++ L = L' ∧ Knows 184 [(0, .string a0), (3, .slice A6 y1.1.length c7), (127, .bool b84)] t) ?_ ?_
      · refine gk_region (by kernel_rfl) ?_
        refine gl_pure 4 [0, 3, 118] (K' := [(0, .string a0), (3, .slice A6 y1.1.length c7), (118, .bool ((y1.1.length : Int) == 0))]) (by kernel_rfl) ?_
        refine gl_case 118 (b := ((y1.1.length : Int) == 0)) (by kernel_rfl) (fun hc87 => ?_) (fun hc87 => ?_)
        · refine gl_pure 9 [0, 3, 127] (K' := [(0, .string a0), (3, .slice A6 y1.1.length c7), (127, .bool true)]) (by kernel_rfl) ?_
          refine gl_atE (by kernel_rfl) ?_
          exact ge_mid fun t ht => ⟨(Imm.refl _), rfl, by rw [(show b84 = true from hb85.trans (by rw [hc87]; try rfl))]; exact ht.pick (l := [0, 3, 127]) (by kernel_rfl)⟩
        · refine gl_pure 5 [0, 3, 123] (K' := [(0, .string a0), (3, .slice A6 y1.1.length c7), (123, .bool (decide ((y1.1.length : Int) > 50)))]) (by kernel_rfl) ?_
          refine gl_case 123 (b := (decide ((y1.1.length : Int) > 50))) (by kernel_rfl) (fun hc88 => ?_) (fun hc88 => ?_)
          · refine gl_pure 4 [0, 3, 127] (K' := [(0, .string a0), (3, .slice A6 y1.1.length c7), (127, .bool true)]) (by kernel_rfl) ?_
            refine gl_atE (by kernel_rfl) ?_
            exact ge_mid fun t ht => ⟨(Imm.refl _), rfl, by rw [(show b84 = true from hb85.trans (by rw [hc87, hc88]; try rfl))]; exact ht.pick (l := [0, 3, 127]) (by kernel_rfl)⟩
          · refine gl_pure 4 [0, 3, 127] (K' := [(0, .string a0), (3, .slice A6 y1.1.length c7), (127, .bool (decide ((a0.size : Int) > 2000)))]) (by kernel_rfl) ?_
            refine gl_atE (by kernel_rfl) ?_
            exact ge_mid fun t ht => ⟨(Imm.refl _), rfl, by rw [(show b84 = (decide ((a0.size : Int) > 2000)) from hb85.trans (by rw [hc87, hc88]; try rfl))]; exact ht.pick (l := [0, 3, 127]) (by kernel_rfl)⟩
      · rintro t I86 L' ⟨hI82, rfl, hK83⟩
        subst hb85
        refine ge_at hK83 ?_
        refine ge_seq ?_
        refine gk_cond (b := ((((y1.1.length : Int) == 0) || (decide ((y1.1.length : Int) > 50))) || (decide ((a0.size : Int) > 2000)))) (by kernel_rfl) (by kernel_rfl) (fun hc89 => ?_) (fun hc89 => ?_)
        · have hr := cond_t hc89 hr
          refine gk_seq (by kernel_rfl) ?_
          obtain ⟨j90, hj91, hr⟩ := bind_some hr
          refine gk_join (fun t I' L' => I86 ≤ I' ∧ L = L' ∧ Knows 184 [(2, .bool j90)] t) ?_ ?_
          · refine gk_region (by kernel_rfl) ?_
            refine gl_pure 4 [131] (K' := [(131, .bool (decide ((y1.1.length : Int) > 0)))]) (by kernel_rfl) ?_
            refine gl_case 131 (b := (decide ((y1.1.length : Int) > 0))) (by kernel_rfl) (fun hc95 => ?_) (fun hc95 => ?_)
            · have hj91 := cond_t hc95 hj91
              obtain ⟨y96, hx97, hj91⟩ := bind_some hj91
              refine gl_callQ (by kernel_rfl) (tocsinlaw13_known_walk (r := y96) (hG.mono (Imm.trans (Imm.trans hI5 hI34) hI82)) hx97 _) ?_
              refine gl_pure 2 [2] (K' := [(2, .bool y96)]) (by kernel_rfl) ?_
              refine gl_reord (D := L) (Reord.skipC (Reord.refl _)) ?_
              refine gl_atE (by kernel_rfl) ?_
              obtain rfl := some_inj hj91
              exact ge_mid fun t ht => ⟨(Imm.refl _), rfl, ht.pick (l := [2]) (by kernel_rfl)⟩
            · have hj91 := cond_f hc95 hj91
              refine gl_pure 3 [2] (K' := [(2, .bool false)]) (by kernel_rfl) ?_
              refine gl_reord (D := L) (Reord.skipC (Reord.refl _)) ?_
              refine gl_atE (by kernel_rfl) ?_
              obtain rfl := some_inj hj91
              exact ge_mid fun t ht => ⟨(Imm.refl _), rfl, ht.pick (l := [2]) (by kernel_rfl)⟩
          · rintro t I94 L' ⟨hI92, rfl, hK93⟩
            refine ge_at hK93 ?_
            refine ge_seq ?_
            refine gk_ret (by kernel_rfl) ?_
            refine ge_seq_ret ?_
            obtain rfl := some_inj hr
            exact ge_result trivial (ResOk.tmp (by kernel_rfl) ResOk.nil) (Imm.trans (Imm.trans (Imm.trans hI5 hI34) hI82) hI92) ⟨rfl, rfl⟩
        · have hr := cond_f hc89 hr
          refine gk_skip (by kernel_rfl) ?_
          refine ge_seq ?_
          refine gk_seq (by kernel_rfl) ?_
          refine gk_seq (by kernel_rfl) ?_
          refine gk_region (by kernel_rfl) ?_
          refine gl_pure 1 [0, 3, 9] (K' := [(0, .string a0), (3, .slice A6 y1.1.length c7), (9, .int .i64 0)]) (by kernel_rfl) ?_
          refine gl_atE (by kernel_rfl) ?_
          refine ge_seq ?_
          obtain ⟨r102, hl103, hr⟩ := bind_some hr
          refine gk_join (fun t I' L' => ∃ r110, r102 = Sum.inl r110 ∧ I86 ≤ I' ∧ C8 ++ L = L' ∧ Knows 184 [(0, .string a0), (3, .slice A6 y1.1.length c7)] t) ?_ ?_
          · refine gk_block (by kernel_rfl) ?_
            refine gk_pick [0, 3, 9] (K' := [(0, .string a0), (3, .slice A6 y1.1.length c7), (9, .int .i64 0)]) (by kernel_rfl) ?_
            intro t hK
            refine gc_loop (tocsinlaw13_LexPlaces_l114 a0 y1) (fun s104 t I' L' => I86 ≤ I' ∧ C8 ++ L = L' ∧ Knows 184 [(0, .string a0), (3, .slice A6 y1.1.length c7), (9, .int .i64 s104)] t) (by kernel_rfl) ?_ hl103 ⟨(Imm.refl _), rfl, hK⟩
            rintro s104 o105 t I109 L' hb106 ⟨hI107, rfl, hK108⟩
            unfold tocsinlaw13_LexPlaces_l114 at hb106
            refine gk_at hK108 ?_
            refine gk_seq (by kernel_rfl) ?_
            refine gk_seq (by kernel_rfl) ?_
            refine gk_region (by kernel_rfl) ?_
            refine gl_pure 4 [0, 3, 9, 137] (K' := [(0, .string a0), (3, .slice A6 y1.1.length c7), (9, .int .i64 s104), (137, .bool (decide (s104 < (y1.1.length : Int))))]) (by kernel_rfl) ?_
            refine gl_atE (by kernel_rfl) ?_
            refine ge_seq ?_
            refine gk_cond (b := (decide (s104 < (y1.1.length : Int)))) (by kernel_rfl) (by kernel_rfl) (fun hc116 => ?_) (fun hc116 => ?_)
            · have hb106 := cond_t hc116 hb106
              refine gk_skip (by kernel_rfl) ?_
              refine ge_seq ?_
              refine gk_seq (by kernel_rfl) ?_
              refine gk_block (by kernel_rfl) ?_
              refine gk_seq (by kernel_rfl) ?_
              refine gk_region (by kernel_rfl) ?_
              refine gl_pure 3 [0, 3, 9, 141, 142, 143] (K' := [(0, .string a0), (3, .slice A6 y1.1.length c7), (9, .int .i64 s104), (141, .string a0), (142, .slice A6 y1.1.length c7), (143, .int .i64 s104)]) (by kernel_rfl) ?_
              obtain ⟨x117, hx118, hb106⟩ := bind_some hb106
              refine gl_indexAddrW (d := kS27) (c := c7) (T' := 22) (e := 28) (xs := (.tmp 142)) (xi := (.tmp 143)) (kd := .i64) hx118 (hO9.mono (Imm.trans (Imm.trans hI34 hI82) hI107)) (Upd.selfC _ _) (by kernel_rfl) (by kernel_rfl) (by kernel_rfl) (by kernel_rfl) (by kernel_rfl) (fun p119 cs120 hR121 hA122 hp125 => ?_)
              obtain rfl := kS27_open hR121
              refine gl_pure 1 [0, 3, 9, 141, 145] (K' := [(0, .string a0), (3, .slice A6 y1.1.length c7), (9, .int .i64 s104), (141, .string a0), (145, .pointer (some (p119.add 2)))]) (by kernel_rfl) ?_
              refine gl_loadO (T' := 3) (xp := (.tmp 145)) (p := (p119.add 2)) (c := .int .i64 x117.f2) (n := 1) (by kernel_rfl) (by kernel_rfl) (by kernel_rfl) (by kernel_rfl) (hA122.drop 2) ?_
              obtain ⟨s127, hx126, hb106⟩ := bind_some hb106
              refine gl_slice' (T' := 9) (xs := (.tmp 141)) (lo := none) (hi := (some (.tmp 146))) hx126 (by kernel_rfl) (by kernel_rfl) (by kernel_rfl) (by kernel_rfl) (by kernel_rfl) (by kernel_rfl) ?_
              obtain ⟨y128, hx129, hb106⟩ := bind_some hb106
              refine gl_call (by kernel_rfl) (lex_Tokens_walk (r := y128) (hG.mono (Imm.trans (Imm.trans (Imm.trans hI5 hI34) hI82) hI107)) hx129 _) ?_
              rintro v I130 L131 hI132 ⟨A133, c134, C135, hO136, rfl, rfl⟩
              refine gl_pure 7 [0, 3, 9, 10, 11] (K' := [(0, .string a0), (3, .slice A6 y1.1.length c7), (9, .int .i64 s104), (10, .slice A133 y128.1.length c134), (11, .int .i64 y128.2.1)]) (by kernel_rfl) ?_
              refine gl_atE (by kernel_rfl) ?_
              refine ge_seq ?_
              refine gk_seq (by kernel_rfl) ?_
              obtain ⟨j137, hj138, hb106⟩ := bind_some hb106
              refine gk_join (fun t I' L' => I130 ≤ I' ∧ C8 ++ L = L' ∧ Knows 184 [(0, .string a0), (3, .slice A6 y1.1.length c7), (9, .int .i64 s104), (170, .bool j137)] t) ?_ ?_
              · refine gk_draw 16 [(0, true), (1, true), (2, true), (3, true), (4, true), (5, true), (6, true), (7, true), (8, true), (9, true), (10, true), (11, true), (12, true), (13, true), (14, true), (15, true)] [] (fun p hp => by cases hp) (by kernel_rfl) (by kernel_rfl) (by kernel_rfl) ?_ (by kernel_rfl)
                refine gd_pure 3 [0, 3, 9, 10, 154] (K' := [(0, .string a0), (3, .slice A6 y1.1.length c7), (9, .int .i64 s104), (10, .slice A133 y128.1.length c134), (154, .bool (y128.2.1 != 0))]) (s' := [(3, true), (4, true), (5, true), (6, true), (7, true), (8, true), (9, true), (10, true), (11, true), (12, true), (13, true), (14, true), (15, true)]) (CC.refl (fun p hp => by cases hp)) (by kernel_rfl) ?_
                refine gd_case 154 (b := (y128.2.1 != 0)) (by kernel_rfl) (fun hc142 => ?_) (fun hc142 => ?_)
                · have hj138 := cond_t hc142 hj138
                  refine gd_pure 13 [0, 3, 9, 161, 164, 167] (K' := [(0, .string a0), (3, .slice A6 y1.1.length c7), (9, .int .i64 s104), (161, .bool true), (164, undef), (167, undef)]) (s' := []) (CC.refl (fun p hp => by cases hp)) (by kernel_rfl) ?_
                  refine gd_done ?_
                  refine gl_pure 3 [0, 3, 9, 170] (K' := [(0, .string a0), (3, .slice A6 y1.1.length c7), (9, .int .i64 s104), (170, .bool true)]) (by kernel_rfl) ?_
                  refine gl_reord (D := C8 ++ L) (Reord.step (Upd.app _ (Upd.rmC _ _)) (Reord.skipC (Reord.refl _))) ?_
                  refine gl_atE (by kernel_rfl) ?_
                  obtain rfl := some_inj hj138
                  exact ge_mid fun t ht => ⟨(Imm.refl _), rfl, ht.pick (l := [0, 3, 9, 170]) (by kernel_rfl)⟩
                · have hj138 := cond_f hc142 hj138
                  refine gd_pure 7 [0, 3, 9, 10, 161] (K' := [(0, .string a0), (3, .slice A6 y1.1.length c7), (9, .int .i64 s104), (10, .slice A133 y128.1.length c134), (161, .bool ((y128.1.length : Int) != (IntKind.wrap .i64 (s104 + 1))))]) (s' := [(10, true), (11, true), (12, true), (13, true), (14, true), (15, true)]) (CC.refl (fun p hp => by cases hp)) (by kernel_rfl) ?_
                  refine gd_case 161 (b := ((y128.1.length : Int) != (IntKind.wrap .i64 (s104 + 1)))) (by kernel_rfl) (fun hc143 => ?_) (fun hc143 => ?_)
                  · have hj138 := cond_t hc143 hj138
                    refine gd_pure 6 [0, 3, 9, 161, 164, 167] (K' := [(0, .string a0), (3, .slice A6 y1.1.length c7), (9, .int .i64 s104), (161, .bool true), (164, undef), (167, undef)]) (s' := []) (CC.refl (fun p hp => by cases hp)) (by kernel_rfl) ?_
                    refine gd_done ?_
                    refine gl_pure 3 [0, 3, 9, 170] (K' := [(0, .string a0), (3, .slice A6 y1.1.length c7), (9, .int .i64 s104), (170, .bool true)]) (by kernel_rfl) ?_
                    refine gl_reord (D := C8 ++ L) (Reord.step (Upd.app _ (Upd.rmC _ _)) (Reord.skipC (Reord.refl _))) ?_
                    refine gl_atE (by kernel_rfl) ?_
                    obtain rfl := some_inj hj138
                    exact ge_mid fun t ht => ⟨(Imm.refl _), rfl, ht.pick (l := [0, 3, 9, 170]) (by kernel_rfl)⟩
                  · have hj138 := cond_f hc143 hj138
                    refine gd_pure 2 [0, 3, 9, 161, 162, 163] (K' := [(0, .string a0), (3, .slice A6 y1.1.length c7), (9, .int .i64 s104), (161, .bool false), (162, .slice A133 y128.1.length c134), (163, .int .i64 s104)]) (s' := [(12, true), (13, true), (14, true), (15, true)]) (CC.refl (fun p hp => by cases hp)) (by kernel_rfl) ?_
                    obtain ⟨l145, hx144, hj138⟩ := bind_some hj138
                    have hlc146 := OwnS.lenc hO136
                    have hd147 := lx_take hx144
                    refine gd_q (v := .slice A133 l145.length c134) (by kernel_rfl) (by kernel_rfl) (CC.refl (fun p hp => by cases hp)) (fun I' L' T hC kk => gl_sliceH (A := A133) (c := c134) (n := 3) (T' := 22) (e := 28) (xs := (.tmp 162)) (lo := none) (hi := (some (.tmp 163))) hx144 hlc146 (by kernel_rfl) (by kernel_rfl) (by kernel_rfl) (by kernel_rfl) (by kernel_rfl) (by kernel_rfl) kk) ?_
                    refine gd_pure 2 [0, 3, 9, 161, 164, 165, 166] (K' := [(0, .string a0), (3, .slice A6 y1.1.length c7), (9, .int .i64 s104), (161, .bool false), (164, .slice A133 l145.length c134), (165, .slice A6 y1.1.length c7), (166, .int .i64 s104)]) (s' := [(15, true)]) (CC.refl (fun p hp => by cases hp)) (by kernel_rfl) ?_
                    obtain ⟨l149, hx148, hj138⟩ := bind_some hj138
                    have hlc150 := OwnS.lenc (hO9.mono (Imm.trans (Imm.trans (Imm.trans hI34 hI82) hI107) hI132))
                    have hd151 := lx_take hx148
                    refine gd_q (v := .slice A6 l149.length c7) (by kernel_rfl) (by kernel_rfl) (CC.refl (fun p hp => by cases hp)) (fun I' L' T hC kk => gl_sliceH (A := A6) (c := c7) (n := 3) (T' := 22) (e := 28) (xs := (.tmp 165)) (lo := none) (hi := (some (.tmp 166))) hx148 hlc150 (by kernel_rfl) (by kernel_rfl) (by kernel_rfl) (by kernel_rfl) (by kernel_rfl) (by kernel_rfl) kk) ?_
                    refine gd_done ?_
                    obtain ⟨y152, hx153, hj138⟩ := bind_some hj138
                    refine gl_callB (r := .bool y152) (Tk.step (Upd.rmC _ _) (Tk.step (Upd.rmC _ _) (Tk.nil _))) (by kernel_rfl) (fun J hJ hC => lex_Same_walk (r := y152) (RepS.head hd147 (OwnS.rest hO136 hJ hC.left)) (RepS.head hd151 (OwnS.rest (hO9.mono (Imm.trans (Imm.trans (Imm.trans hI34 hI82) hI107) hI132)) hJ hC.right.left)) hx153 _) ?_
                    refine gl_pure 2 [0, 3, 9, 170] (K' := [(0, .string a0), (3, .slice A6 y1.1.length c7), (9, .int .i64 s104), (170, .bool (!y152))]) (by kernel_rfl) ?_
                    refine gl_reord (D := C8 ++ L) (Reord.step (Upd.app _ (Upd.rmC _ _)) (Reord.skipC (Reord.refl _))) ?_
                    refine gl_atE (by kernel_rfl) ?_
                    obtain rfl := some_inj hj138
                    exact ge_mid fun t ht => ⟨(Imm.refl _), rfl, ht.pick (l := [0, 3, 9, 170]) (by kernel_rfl)⟩
              · rintro t I141 L' ⟨hI139, rfl, hK140⟩
                refine ge_at hK140 ?_
                refine ge_seq ?_
                refine gk_cond (b := j137) (by kernel_rfl) (by kernel_rfl) (fun hc154 => ?_) (fun hc154 => ?_)
                · have hb106 := cond_t hc154 hb106
                  refine gk_seq (by kernel_rfl) ?_
                  refine gk_region (by kernel_rfl) ?_
                  refine gl_pure 1 [2] (K' := [(2, .bool false)]) (by kernel_rfl) ?_
                  refine gl_atE (by kernel_rfl) ?_
                  refine ge_seq ?_
                  refine gk_reord (D := L) (Reord.skipC (Reord.refl _)) ?_
                  refine gk_ret (by kernel_rfl) ?_
                  refine ge_block_ret ?_
                  refine ge_seq_ret ?_
                  obtain rfl := some_inj hb106
                  refine ge_round_out (fun hrr => ?_) (by intro h; cases h)
                  obtain rfl := hrr
                  refine ge_block_ret ?_
                  refine ge_seq_ret ?_
                  refine ge_seq_ret ?_
                  obtain rfl := some_inj hr
                  exact ge_result trivial (ResOk.tmp (by kernel_rfl) ResOk.nil) (Imm.trans (Imm.trans (Imm.trans (Imm.trans (Imm.trans hI5 hI34) hI82) hI107) hI132) hI139) ⟨rfl, rfl⟩
                · have hb106 := cond_f hc154 hb106
                  refine gk_skip (by kernel_rfl) ?_
                  refine ge_block_normal ?_
                  refine ge_seq ?_
                  refine gk_region (by kernel_rfl) ?_
                  refine gl_pure 3 [0, 3, 9] (K' := [(0, .string a0), (3, .slice A6 y1.1.length c7), (9, .int .i64 (IntKind.wrap .i64 (s104 + 1)))]) (by kernel_rfl) ?_
                  refine gl_atE (by kernel_rfl) ?_
                  obtain rfl := some_inj hb106
                  exact ge_round fun t ht => ⟨(Imm.trans (Imm.trans hI107 hI132) hI139), rfl, ht.pick (l := [0, 3, 9]) (by kernel_rfl)⟩
            · have hb106 := cond_f hc116 hb106
              refine gk_exit (by kernel_rfl) ?_
              refine ge_seq_exit ?_
              obtain rfl := some_inj hb106
              refine ge_round_out (fun hrr => ?_) (by intro h; cases h)
              obtain rfl := hrr
              refine ge_block_hit (by kernel_rfl) ?_
              exact ge_mid fun t ht => ⟨_, rfl, hI107, rfl, ht.pick (l := [0, 3]) (by kernel_rfl)⟩
          · rintro t I113 L' ⟨r110, rfl, hI111, rfl, hK112⟩
            refine ge_at hK112 ?_
            refine ge_seq ?_
            refine gk_seq (by kernel_rfl) ?_
            obtain ⟨j155, hj156, hr⟩ := bind_some hr
            refine gk_join (fun t I' L' => I113 ≤ I' ∧ L = L' ∧ Knows 184 [(2, .bool j155)] t) ?_ ?_
            · refine gk_region (by kernel_rfl) ?_
              refine gl_pure 4 [0, 171, 174] (K' := [(0, .string a0), (171, .slice A6 y1.1.length c7), (174, .int .i64 (IntKind.wrap .i64 ((y1.1.length : Int) - 1)))]) (by kernel_rfl) ?_
              obtain ⟨x160, hx161, hj156⟩ := bind_some hj156
              refine gl_indexAddrW (d := kS27) (c := c7) (T' := 22) (e := 28) (xs := (.tmp 171)) (xi := (.tmp 174)) (kd := .i64) hx161 (hO9.mono (Imm.trans (Imm.trans hI34 hI82) hI111)) (Upd.selfC _ _) (by kernel_rfl) (by kernel_rfl) (by kernel_rfl) (by kernel_rfl) (by kernel_rfl) (fun p162 cs163 hR164 hA165 hp168 => ?_)
              obtain rfl := kS27_open hR164
              refine gl_pure 1 [0, 176] (K' := [(0, .string a0), (176, .pointer (some (p162.add 2)))]) (by kernel_rfl) ?_
              refine gl_loadO (T' := 3) (xp := (.tmp 176)) (p := (p162.add 2)) (c := .int .i64 x160.f2) (n := 1) (by kernel_rfl) (by kernel_rfl) (by kernel_rfl) (by kernel_rfl) (hA165.drop 2) ?_
              refine gl_pure 4 [181] (K' := [(181, .bool (x160.f2 == (a0.size : Int)))]) (by kernel_rfl) ?_
              refine gl_case 181 (b := (x160.f2 == (a0.size : Int))) (by kernel_rfl) (fun hc169 => ?_) (fun hc169 => ?_)
              · have hj156 := cond_t hc169 hj156
                obtain ⟨y170, hx171, hj156⟩ := bind_some hj156
                refine gl_callQ (by kernel_rfl) (tocsinlaw13_known_walk (r := y170) (hG.mono (Imm.trans (Imm.trans (Imm.trans hI5 hI34) hI82) hI111)) hx171 _) ?_
                refine gl_pure 2 [2] (K' := [(2, .bool y170)]) (by kernel_rfl) ?_
                refine gl_reord (D := L) (Reord.skipC (Reord.refl _)) ?_
                refine gl_atE (by kernel_rfl) ?_
                obtain rfl := some_inj hj156
                exact ge_mid fun t ht => ⟨(Imm.refl _), rfl, ht.pick (l := [2]) (by kernel_rfl)⟩
              · have hj156 := cond_f hc169 hj156
                refine gl_pure 3 [2] (K' := [(2, .bool false)]) (by kernel_rfl) ?_
                refine gl_reord (D := L) (Reord.skipC (Reord.refl _)) ?_
                refine gl_atE (by kernel_rfl) ?_
                obtain rfl := some_inj hj156
                exact ge_mid fun t ht => ⟨(Imm.refl _), rfl, ht.pick (l := [2]) (by kernel_rfl)⟩
            · rintro t I159 L' ⟨hI157, rfl, hK158⟩
              refine ge_at hK158 ?_
              refine ge_seq ?_
              refine gk_ret (by kernel_rfl) ?_
              obtain rfl := some_inj hr
              exact ge_result trivial (ResOk.tmp (by kernel_rfl) ResOk.nil) (Imm.trans (Imm.trans (Imm.trans (Imm.trans hI5 hI34) hI82) hI111) hI157) ⟨rfl, rfl⟩
end Go.Proofs.YtlhpclfkoblnkaaDoor
