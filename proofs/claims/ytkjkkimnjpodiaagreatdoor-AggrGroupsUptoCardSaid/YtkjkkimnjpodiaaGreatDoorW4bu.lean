/- Parts: W4b. -/
import Derived.Test.YtkjkkimnjpodiaaGreatDoorW4au
set_option linter.unusedVariables false
set_option linter.unusedSimpArgs false
set_option maxRecDepth 100000
namespace Go.Proofs.YtkjkkimnjpodiaaGreatDoor
open Go.GB
noncomputable def aggr_Groups_l61 (a1 : List ByteArray) (a2 : Bool) (y1 : (List S38) × Int) : ((List (List S76)) × (List (ByteArray × Int)) × (List (List S38)) × Int) → Option (((List (List S76)) × (List (ByteArray × Int)) × (List (List S38)) × Int) ⊕ ((List (List S38)) × (List (List S76)))) := fun s34 =>
  bif (decide (s34.2.2.2 < (y1.1.length : Int))) then
  (Option.bind (ix y1.1 s34.2.2.2) fun (x64 : S38) =>
    Option.bind (aggr_group x64.f0 a1 a2) fun (y79 : (List S76)) =>
    Option.bind (labels_Put [] y79) fun (y92 : (List Int) × Int) =>
    Option.bind (bif (!((mget Ky.str s34.2.1 (ofBytes y92.1)).isSome)) then
      (Option.bind (app s34.1 [y79]) fun (zs123 : List (List S76)) =>
        Option.bind (app s34.2.2.1 [([] : List S38)]) fun (zs133 : List (List S38)) =>
        some ((mput Ky.str s34.2.1 (ofBytes y92.1) (s34.2.2.1.length : Int)), zs133, (s34.2.2.1.length : Int), zs123))
      else
      (some (s34.2.1, s34.2.2.1, ((mget Ky.str s34.2.1 (ofBytes y92.1)).getD 0), s34.1))) fun (j101 : (List (ByteArray × Int)) × (List (List S38)) × Int × (List (List S76))) =>
    Option.bind (ix j101.2.1 j101.2.2.1) fun (x140 : List S38) =>
    Option.bind (app x140 [x64]) fun (zs160 : List S38) =>
    some (Sum.inl (j101.2.2.2, j101.1, (lset j101.2.1 j101.2.2.1 zs160), (IntKind.wrap .i64 (s34.2.2.2 + 1)))))
  else
  (some (Sum.inr (s34.2.2.1, s34.1)))
noncomputable def aggr_Groups_l198 (xs169 : List Int) : ((List Int) × Int) → Option (((List Int) × Int) ⊕ ((List Int))) := fun s183 =>
  bif (decide (s183.2 < (xs169.length : Int))) then
  (Option.bind (ix s183.1 s183.2) fun (x201 : Int) =>
    some (Sum.inl ((lset s183.1 s183.2 s183.2), (IntKind.wrap .i64 (s183.2 + 1)))))
  else
  (some (Sum.inr s183.1))
noncomputable def aggr_Groups_l270 (r32 : (List (List S38)) × (List (List S76))) (zs218 : List Int) : ((List (List S38)) × Int) → Option (((List (List S38)) × Int) ⊕ ((List (List S38)))) := fun s253 =>
  bif (decide (s253.2 < (zs218.length : Int))) then
  (Option.bind (ix zs218 s253.2) fun (x273 : Int) =>
    Option.bind (ix r32.1 x273) fun (x282 : List S38) =>
    Option.bind (app s253.1 [x282]) fun (zs297 : List (List S38)) =>
    some (Sum.inl (zs297, (IntKind.wrap .i64 (s253.2 + 1)))))
  else
  (some (Sum.inr s253.1))
noncomputable def aggr_Groups (a0 : List S38) (a1 : List ByteArray) (a2 : Bool) : Option ((List (List S38)) × Int) :=
  Option.bind (vec_Vector a0) fun (y1 : (List S38) × Int) =>
  bif (y1.2 != 0) then
  (some ([], y1.2))
  else
  (Option.bind (aggr_wrong a1) fun (y11 : Int) =>
    bif (y11 != 0) then
    (some ([], y11))
    else
    (Option.bind (loopO (aggr_Groups_l61 a1 a2 y1) ([], ([] : List (ByteArray × Int)), [], 0)) fun (r32 : (List (List S38)) × (List (List S76))) =>
      Option.bind (mkrow (0 : Int) (r32.1.length : Int) (r32.1.length : Int)) fun (xs169 : List Int) =>
      Option.bind (loopO (aggr_Groups_l198 xs169) (xs169, 0)) fun (r181 : (List Int)) =>
      sortBind (fun x0 x1 => aggr_Groups_1 x0 x1 r32.2) r181 fun (zs218 : List Int) =>
      Option.bind (loopO (aggr_Groups_l270 r32 zs218) ([], 0)) fun (r251 : (List (List S38))) =>
      some (r251, 0)))
theorem aggr_Groups_walk {a0 : List S38} {A0_0 : Option Addr} {n0_0 : Nat} {a1 : List ByteArray} {A1_0 : Option Addr} {n1_0 : Nat} {a2 : Bool} {I : Imm} {r : (List (List S38)) × Int} (hG : Gl I)  (hf0_0 : RepS kS38 I A0_0 n0_0 a0)  (hf1_0 : RepS Kd.str I A1_0 n1_0 a1) (hr : aggr_Groups a0 a1 a2 = some r) (L : Own) :
    CallsTo Tryz.prog 21 #[.slice A0_0 a0.length n0_0, .slice A1_0 a1.length n1_0, .bool a2] I L (fun v I' L' => ∃ A0 c0 C0, OwnS (Kd.sl kS38) 22 I' A0 c0 r.1 C0 ∧ v = .tuple #[.slice A0 r.1.length c0, .int .i64 r.2] ∧ C0 ++ L = L') := by
  unfold aggr_Groups at hr
  refine callsTo_body (N := 120) Tryz.func21 (by kernel_rfl) (by kernel_rfl) (by kernel_rfl) ?_
  refine gk_pick [0, 1, 2] (K' := [(0, .slice A0_0 a0.length n0_0), (1, .slice A1_0 a1.length n1_0), (2, .bool a2)]) (by kernel_rfl) ?_
  refine gk_seq (by kernel_rfl) ?_
  refine gk_region (by kernel_rfl) ?_
  refine gl_pure 2 [0, 1, 2] (K' := [(0, .slice A0_0 a0.length n0_0), (1, .slice A1_0 a1.length n1_0), (2, .bool a2)]) (by kernel_rfl) ?_
  refine gl_atE (by kernel_rfl) ?_
  refine ge_seq ?_
  refine gk_seq (by kernel_rfl) ?_
  refine gk_region (by kernel_rfl) ?_
  refine gl_pure 1 [1, 2, 27] (K' := [(1, .slice A1_0 a1.length n1_0), (2, .bool a2), (27, .slice A0_0 a0.length n0_0)]) (by kernel_rfl) ?_
  obtain ⟨y1, hx2, hr⟩ := bind_some hr
  refine gl_call (by kernel_rfl) (vec_Vector_walk (r := y1) hG hf0_0 hx2 _) ?_
  rintro v I3 L4 hI5 ⟨A6, c7, C8, hO9, rfl, rfl⟩
  refine gl_pure 5 [1, 2, 8, 9] (K' := [(1, .slice A1_0 a1.length n1_0), (2, .bool a2), (8, .slice A6 y1.1.length c7), (9, .int .i64 y1.2)]) (by kernel_rfl) ?_
  refine gl_atE (by kernel_rfl) ?_
  refine ge_seq ?_
  refine gk_seq (by kernel_rfl) ?_
  refine gk_seq (by kernel_rfl) ?_
  refine gk_region (by kernel_rfl) ?_
  refine gl_pure 2 [1, 2, 8, 9, 32] (K' := [(1, .slice A1_0 a1.length n1_0), (2, .bool a2), (8, .slice A6 y1.1.length c7), (9, .int .i64 y1.2), (32, .bool (y1.2 != 0))]) (by kernel_rfl) ?_
  refine gl_atE (by kernel_rfl) ?_
  refine ge_seq ?_
  refine gk_cond (b := (y1.2 != 0)) (by kernel_rfl) (by kernel_rfl) (fun hc10 => ?_) (fun hc10 => ?_)
  · have hr := cond_t hc10 hr
    refine gk_seq (by kernel_rfl) ?_
    refine gk_region (by kernel_rfl) ?_
    refine gl_pure 3 [6, 7] (K' := [(6, .slice none 0 0), (7, .int .i64 y1.2)]) (by kernel_rfl) ?_
    refine gl_atE (by kernel_rfl) ?_
    refine ge_seq ?_
    refine gk_reord (D := L) (Reord.skipC (Reord.refl _)) ?_
    refine gk_ret (by kernel_rfl) ?_
    refine ge_seq_ret ?_
    obtain rfl := some_inj hr
    exact ge_result trivial (ResOk.tmp (by kernel_rfl) (ResOk.tmp (by kernel_rfl) ResOk.nil)) hI5 ⟨none, 0, [], OwnS.nil _ _ _ _, rfl, rfl⟩
  · have hr := cond_f hc10 hr
    refine gk_skip (by kernel_rfl) ?_
    refine ge_seq ?_
    refine gk_seq (by kernel_rfl) ?_
    refine gk_seq (by kernel_rfl) ?_
    refine gk_region (by kernel_rfl) ?_
    refine gl_pure 1 [1, 2, 8, 34] (K' := [(1, .slice A1_0 a1.length n1_0), (2, .bool a2), (8, .slice A6 y1.1.length c7), (34, .slice A1_0 a1.length n1_0)]) (by kernel_rfl) ?_
    obtain ⟨y11, hx12, hr⟩ := bind_some hr
    refine gl_callQ (by kernel_rfl) (aggr_wrong_walk (r := y11) (hf1_0.mono hI5) hx12 _) ?_
    refine gl_pure 1 [1, 2, 8, 10] (K' := [(1, .slice A1_0 a1.length n1_0), (2, .bool a2), (8, .slice A6 y1.1.length c7), (10, .int .i64 y11)]) (by kernel_rfl) ?_
    refine gl_atE (by kernel_rfl) ?_
    refine ge_seq ?_
    refine gk_seq (by kernel_rfl) ?_
    refine gk_region (by kernel_rfl) ?_
    refine gl_pure 2 [1, 2, 8, 10, 37] (K' := [(1, .slice A1_0 a1.length n1_0), (2, .bool a2), (8, .slice A6 y1.1.length c7), (10, .int .i64 y11), (37, .bool (y11 != 0))]) (by kernel_rfl) ?_
    refine gl_atE (by kernel_rfl) ?_
    refine ge_seq ?_
    refine gk_cond (b := (y11 != 0)) (by kernel_rfl) (by kernel_rfl) (fun hc13 => ?_) (fun hc13 => ?_)
    · have hr := cond_t hc13 hr
      refine gk_seq (by kernel_rfl) ?_
      refine gk_region (by kernel_rfl) ?_
      refine gl_pure 3 [6, 7] (K' := [(6, .slice none 0 0), (7, .int .i64 y11)]) (by kernel_rfl) ?_
      refine gl_atE (by kernel_rfl) ?_
      refine ge_seq ?_
      refine gk_reord (D := L) (Reord.skipC (Reord.refl _)) ?_
      refine gk_ret (by kernel_rfl) ?_
      refine ge_seq_ret ?_
      obtain rfl := some_inj hr
      exact ge_result trivial (ResOk.tmp (by kernel_rfl) (ResOk.tmp (by kernel_rfl) ResOk.nil)) hI5 ⟨none, 0, [], OwnS.nil _ _ _ _, rfl, rfl⟩
    · have hr := cond_f hc13 hr
      refine gk_skip (by kernel_rfl) ?_
      refine ge_seq ?_
      refine gk_seq (by kernel_rfl) ?_
      refine gk_region (by kernel_rfl) ?_
      refine gl_makeMap (ky := Ky.str) (d := (Kd.int .i64)) (agg := false) (T' := 96) (by kernel_rfl) (by kernel_rfl) (fun g14 C15 hO16 => ?_)
      refine gl_pure 1 [1, 2, 8, 11] (K' := [(1, .slice A1_0 a1.length n1_0), (2, .bool a2), (8, .slice A6 y1.1.length c7), (11, .map (some g14))]) (by kernel_rfl) ?_
      refine gl_atE (by kernel_rfl) ?_
      refine ge_seq ?_
      refine gk_seq (by kernel_rfl) ?_
      refine gk_region (by kernel_rfl) ?_
      refine gl_alloc (T' := 97) (cs := #[.slice none 0 0]) (by kernel_rfl) (by kernel_rfl) (by kernel_rfl) (fun g17 => ?_)
      refine gl_atE (by kernel_rfl) ?_
      refine ge_seq ?_
      refine gk_seq (by kernel_rfl) ?_
      refine gk_region (by kernel_rfl) ?_
      refine gl_pure 1 [1, 2, 8, 11, 12, 13] (K' := [(1, .slice A1_0 a1.length n1_0), (2, .bool a2), (8, .slice A6 y1.1.length c7), (11, .map (some g14)), (12, .pointer (some ⟨g17, 0, none⟩)), (13, .slice none 0 0)]) (by kernel_rfl) ?_
      refine gl_atE (by kernel_rfl) ?_
      refine ge_seq ?_
      refine gk_seq (by kernel_rfl) ?_
      refine gk_seq (by kernel_rfl) ?_
      refine gk_region (by kernel_rfl) ?_
      refine gl_pure 3 [1, 2, 11, 12, 13, 40, 41, 42] (K' := [(1, .slice A1_0 a1.length n1_0), (2, .bool a2), (11, .map (some g14)), (12, .pointer (some ⟨g17, 0, none⟩)), (13, .slice none 0 0), (40, .slice A6 y1.1.length c7), (41, .int .i64 (y1.1.length : Int)), (42, .int .i64 0)]) (by kernel_rfl) ?_
      refine gl_atE (by kernel_rfl) ?_
      refine ge_seq ?_
      obtain ⟨r32, hl33, hr⟩ := bind_some hr
      refine gk_reord (D := C15 ++ ((g17, .cells #[.slice none 0 0] 97) :: (C8 ++ L))) (Reord.step (Upd.one _ (Upd.rmC _ _)) (Reord.step1 (Upd.rm1 _ _) (Reord.step (Upd.rmC _ _) (Reord.refl _)))) ?_
      refine gk_join (fun t I' L' => ∃ A51 n52 C53 A55 n56 C57, OwnD (KD.sl kS38 39) 22 I' A51 n52 r32.1 C53 ∧ OwnS (Kd.sl kS76) 36 I' A55 n56 r32.2 C57 ∧ I3 ≤ I' ∧ C53 ++ (C57 ++ ((g17, .cells #[.slice A55 r32.2.length n56] 97) :: L)) = L' ∧ Knows 120 [(12, .pointer (some ⟨g17, 0, none⟩)), (13, .slice A51 r32.1.length n52)] t) ?_ ?_
      · refine gk_block (by kernel_rfl) ?_
        refine gk_pick [1, 2, 11, 12, 13, 40, 41, 42] (K' := [(1, .slice A1_0 a1.length n1_0), (2, .bool a2), (11, .map (some g14)), (12, .pointer (some ⟨g17, 0, none⟩)), (13, .slice none 0 0), (40, .slice A6 y1.1.length c7), (41, .int .i64 (y1.1.length : Int)), (42, .int .i64 0)]) (by kernel_rfl) ?_
        intro t hK
        refine gc_loop (aggr_Groups_l61 a1 a2 y1) (fun s34 t I' L' => ∃ A38 n39 C40 C42 A44 n45 C46, OwnS (Kd.sl kS76) 36 I' A38 n39 s34.1 C40 ∧ OwnM Ky.str (Kd.int .i64) false I' g14 s34.2.1 C42 ∧ OwnD (KD.sl kS38 39) 22 I' A44 n45 s34.2.2.1 C46 ∧ I3 ≤ I' ∧ C40 ++ (C42 ++ (C46 ++ ((g17, .cells #[.slice A38 s34.1.length n39] 97) :: (C8 ++ L)))) = L' ∧ Knows 120 [(1, .slice A1_0 a1.length n1_0), (2, .bool a2), (11, .map (some g14)), (12, .pointer (some ⟨g17, 0, none⟩)), (13, .slice A44 s34.2.2.1.length n45), (40, .slice A6 y1.1.length c7), (41, .int .i64 (y1.1.length : Int)), (42, .int .i64 s34.2.2.2)] t) (by kernel_rfl) ?_ hl33 ⟨none, 0, [], C15, none, 0, [], OwnS.nil _ _ _ _, hO16, OwnD.nil _ _ _, (Imm.refl _), rfl, hK⟩
        rintro s34 o35 t I49 L' hb36 ⟨A38, n39, C40, C42, A44, n45, C46, hO41, hO43, hO47, hI37, rfl, hK48⟩
        unfold aggr_Groups_l61 at hb36
        refine gk_at hK48 ?_
        refine gk_seq (by kernel_rfl) ?_
        refine gk_region (by kernel_rfl) ?_
        refine gl_pure 1 [1, 2, 11, 12, 13, 40, 41, 42, 43] (K' := [(1, .slice A1_0 a1.length n1_0), (2, .bool a2), (11, .map (some g14)), (12, .pointer (some ⟨g17, 0, none⟩)), (13, .slice A44 s34.2.2.1.length n45), (40, .slice A6 y1.1.length c7), (41, .int .i64 (y1.1.length : Int)), (42, .int .i64 s34.2.2.2), (43, .bool (decide (s34.2.2.2 < (y1.1.length : Int))))]) (by kernel_rfl) ?_
        refine gl_atE (by kernel_rfl) ?_
        refine ge_seq ?_
        refine gk_seq (by kernel_rfl) ?_
        refine gk_cond (b := (decide (s34.2.2.2 < (y1.1.length : Int)))) (by kernel_rfl) (by kernel_rfl) (fun hc63 => ?_) (fun hc63 => ?_)
        · have hb36 := cond_t hc63 hb36
          refine gk_skip (by kernel_rfl) ?_
          refine ge_seq ?_
          refine gk_seq (by kernel_rfl) ?_
          refine gk_block (by kernel_rfl) ?_
          refine gk_seq (by kernel_rfl) ?_
          refine gk_region (by kernel_rfl) ?_
          obtain ⟨x64, hx65, hb36⟩ := bind_some hb36
          refine gl_indexAddrW (d := kS38) (c := c7) (T' := 22) (e := 39) (xs := (.tmp 40)) (xi := (.tmp 42)) (kd := .i64) hx65 (hO9.mono hI37) (Upd.app _ (Upd.app _ (Upd.app _ (Upd.one _ (Upd.selfC _ _))))) (by kernel_rfl) (by kernel_rfl) (by kernel_rfl) (by kernel_rfl) (by kernel_rfl) (fun p66 cs67 hR68 hA69 hp77 => ?_)
          obtain ⟨A72, n73, b75, hf74, hf76, rfl⟩ := kS38_open hR68
          refine gl_loadOA (T' := 39) (xp := (.tmp 44)) (p := p66) (cs := [.slice A72 x64.f0.length n73, .float .f64 b75]) (by kernel_rfl) (by kernel_rfl) (by kernel_rfl) (by kernel_rfl) (hA69.take 2) ?_
          refine gl_alloc (T' := 39) (cs := #[.slice none 0 0, .float .f64 0]) (by kernel_rfl) (by kernel_rfl) (by kernel_rfl) (fun g78 => ?_)
          refine gl_storeB (T' := 39) (xp := (.tmp 15)) (xv := (.tmp 45)) (v := .agg #[.slice A72 x64.f0.length n73, .float .f64 b75]) (g := g78) (off := 0) (cs := #[.slice none 0 0, .float .f64 0]) (cs' := #[.slice A72 x64.f0.length n73, .float .f64 b75]) (by kernel_rfl) (by kernel_rfl) (by kernel_rfl) (by kernel_rfl) (by kernel_rfl) (Upd.set _ _ _ _) ?_ (by kernel_rfl)
          refine gl_atE (by kernel_rfl) ?_
          refine ge_seq ?_
          refine gk_seq (by kernel_rfl) ?_
          refine gk_region (by kernel_rfl) ?_
          refine gl_pure 1 [1, 2, 11, 12, 13, 15, 40, 41, 42, 46] (K' := [(1, .slice A1_0 a1.length n1_0), (2, .bool a2), (11, .map (some g14)), (12, .pointer (some ⟨g17, 0, none⟩)), (13, .slice A44 s34.2.2.1.length n45), (15, .pointer (some ⟨g78, 0, none⟩)), (40, .slice A6 y1.1.length c7), (41, .int .i64 (y1.1.length : Int)), (42, .int .i64 s34.2.2.2), (46, .pointer (some ⟨g78, 0, none⟩))]) (by kernel_rfl) ?_
          refine gl_loadB (T' := 36) (xp := (.tmp 46)) (v := .slice A72 x64.f0.length n73) (g := g78) (off := 0) (cs := #[.slice A72 x64.f0.length n73, .float .f64 b75]) (e := 39) (fz := (0, 0)) (by kernel_rfl) (by kernel_rfl) (by kernel_rfl) List.mem_cons_self (by kernel_rfl) ?_
          refine gl_pure 2 [1, 2, 11, 12, 13, 15, 40, 41, 42, 47, 48, 49] (K' := [(1, .slice A1_0 a1.length n1_0), (2, .bool a2), (11, .map (some g14)), (12, .pointer (some ⟨g17, 0, none⟩)), (13, .slice A44 s34.2.2.1.length n45), (15, .pointer (some ⟨g78, 0, none⟩)), (40, .slice A6 y1.1.length c7), (41, .int .i64 (y1.1.length : Int)), (42, .int .i64 s34.2.2.2), (47, .slice A72 x64.f0.length n73), (48, .slice A1_0 a1.length n1_0), (49, .bool a2)]) (by kernel_rfl) ?_
          obtain ⟨y79, hx80, hb36⟩ := bind_some hb36
          refine gl_call (by kernel_rfl) (aggr_group_walk (r := y79) (hG.mono (Imm.trans hI5 hI37)) hf74 (hf1_0.mono (Imm.trans hI5 hI37)) hx80 _) ?_
          rintro v I81 L82 hI83 ⟨A84, c85, C86, hO87, rfl, rfl⟩
          refine gl_pure 1 [1, 2, 11, 12, 13, 15, 16, 40, 41, 42] (K' := [(1, .slice A1_0 a1.length n1_0), (2, .bool a2), (11, .map (some g14)), (12, .pointer (some ⟨g17, 0, none⟩)), (13, .slice A44 s34.2.2.1.length n45), (15, .pointer (some ⟨g78, 0, none⟩)), (16, .slice A84 y79.length c85), (40, .slice A6 y1.1.length c7), (41, .int .i64 (y1.1.length : Int)), (42, .int .i64 s34.2.2.2)]) (by kernel_rfl) ?_
          refine gl_atE (by kernel_rfl) ?_
          refine ge_seq ?_
          refine gk_seq (by kernel_rfl) ?_
          refine gk_region (by kernel_rfl) ?_
          refine gl_pure 1 [1, 2, 11, 12, 13, 15, 16, 40, 41, 42, 52] (K' := [(1, .slice A1_0 a1.length n1_0), (2, .bool a2), (11, .map (some g14)), (12, .pointer (some ⟨g17, 0, none⟩)), (13, .slice A44 s34.2.2.1.length n45), (15, .pointer (some ⟨g78, 0, none⟩)), (16, .slice A84 y79.length c85), (40, .slice A6 y1.1.length c7), (41, .int .i64 (y1.1.length : Int)), (42, .int .i64 s34.2.2.2), (52, .slice A84 y79.length c85)]) (by kernel_rfl) ?_
          refine gl_rest (Tk.step (Upd.rmC _ _) (Tk.nil _)) (fun J88 hJ89 hC90 => ?_)
          have hf91 := (OwnS.rest hO87 hJ89 hC90.left)
          obtain ⟨y92, hx93, hb36⟩ := bind_some hb36
          refine gl_call (by kernel_rfl) (labels_Put_walk (r := y92) (hG.mono (Imm.trans (Imm.trans (Imm.trans hI5 hI37) hI83) hJ89)) (RepS.nil _ _) hf91 hx93 _) ?_
          rintro v I94 L95 hI96 ⟨A97, c98, C99, hO100, rfl, rfl⟩
          refine gl_pure 5 [1, 2, 11, 12, 13, 15, 16, 17, 40, 41, 42] (K' := [(1, .slice A1_0 a1.length n1_0), (2, .bool a2), (11, .map (some g14)), (12, .pointer (some ⟨g17, 0, none⟩)), (13, .slice A44 s34.2.2.1.length n45), (15, .pointer (some ⟨g78, 0, none⟩)), (16, .slice A84 y79.length c85), (17, .slice A97 y92.1.length c98), (40, .slice A6 y1.1.length c7), (41, .int .i64 (y1.1.length : Int)), (42, .int .i64 s34.2.2.2)]) (by kernel_rfl) ?_
          refine gl_atE (by kernel_rfl) ?_
          refine ge_seq ?_
          refine gk_seq (by kernel_rfl) ?_
          refine gk_region (by kernel_rfl) ?_
          refine gl_pure 2 [1, 2, 11, 12, 13, 15, 16, 17, 40, 41, 42, 57, 58] (K' := [(1, .slice A1_0 a1.length n1_0), (2, .bool a2), (11, .map (some g14)), (12, .pointer (some ⟨g17, 0, none⟩)), (13, .slice A44 s34.2.2.1.length n45), (15, .pointer (some ⟨g78, 0, none⟩)), (16, .slice A84 y79.length c85), (17, .slice A97 y92.1.length c98), (40, .slice A6 y1.1.length c7), (41, .int .i64 (y1.1.length : Int)), (42, .int .i64 s34.2.2.2), (57, .map (some g14)), (58, .slice A97 y92.1.length c98)]) (by kernel_rfl) ?_
          refine gl_bytesStr (c := c98) (src := 98) (dst := 9) (e := 5) (n := 1) (x := (.tmp 58)) (by kernel_rfl) (by kernel_rfl) (by kernel_rfl) (by kernel_rfl) (by kernel_rfl) (by kernel_rfl) (OwnS.rd hO100 (Upd.selfC _ _)) ?_
          refine gl_lookupS (a := 9) (b := 3) (ds := .string) (ok := true) (T' := 96) (xm := (.tmp 57)) (xk := (.tmp 59)) (x := (ofBytes y92.1)) (z := 0) (uz := .int .i64 0) (fun x => .int .i64 x) valR_int (hO43.mono (Imm.trans (Imm.trans hI83 hJ89) hI96)) (fun q hq => (List.mem_append_right _ (List.mem_cons_of_mem _ (List.mem_append_right _ (List.mem_append_left _ hq))))) (by kernel_rfl) (by kernel_rfl) (by kernel_rfl) (by kernel_rfl) (by kernel_rfl) (by kernel_rfl) (by kernel_rfl) rfl ?_
          refine gl_pure 5 [1, 2, 11, 12, 13, 15, 16, 17, 19, 20, 40, 41, 42] (K' := [(1, .slice A1_0 a1.length n1_0), (2, .bool a2), (11, .map (some g14)), (12, .pointer (some ⟨g17, 0, none⟩)), (13, .slice A44 s34.2.2.1.length n45), (15, .pointer (some ⟨g78, 0, none⟩)), (16, .slice A84 y79.length c85), (17, .slice A97 y92.1.length c98), (19, .int .i64 ((mget Ky.str s34.2.1 (ofBytes y92.1)).getD 0)), (20, .bool ((mget Ky.str s34.2.1 (ofBytes y92.1)).isSome)), (40, .slice A6 y1.1.length c7), (41, .int .i64 (y1.1.length : Int)), (42, .int .i64 s34.2.2.2)]) (by kernel_rfl) ?_
          refine gl_atE (by kernel_rfl) ?_
          refine ge_seq ?_
          refine gk_seq (by kernel_rfl) ?_
          refine gk_seq (by kernel_rfl) ?_
          refine gk_region (by kernel_rfl) ?_
          refine gl_pure 2 [1, 2, 11, 12, 13, 15, 16, 17, 19, 40, 41, 42, 64] (K' := [(1, .slice A1_0 a1.length n1_0), (2, .bool a2), (11, .map (some g14)), (12, .pointer (some ⟨g17, 0, none⟩)), (13, .slice A44 s34.2.2.1.length n45), (15, .pointer (some ⟨g78, 0, none⟩)), (16, .slice A84 y79.length c85), (17, .slice A97 y92.1.length c98), (19, .int .i64 ((mget Ky.str s34.2.1 (ofBytes y92.1)).getD 0)), (40, .slice A6 y1.1.length c7), (41, .int .i64 (y1.1.length : Int)), (42, .int .i64 s34.2.2.2), (64, .bool (!((mget Ky.str s34.2.1 (ofBytes y92.1)).isSome)))]) (by kernel_rfl) ?_
          refine gl_atE (by kernel_rfl) ?_
          refine ge_seq ?_
          obtain ⟨j101, hj102, hb36⟩ := bind_some hb36
          refine gk_join (fun t I' L' => ∃ C104 A106 n107 C108 A110 n111 C112, OwnM Ky.str (Kd.int .i64) false I' g14 j101.1 C104 ∧ OwnD (KD.sl kS38 39) 22 I' A106 n107 j101.2.1 C108 ∧ OwnS (Kd.sl kS76) 36 I' A110 n111 j101.2.2.2 C112 ∧ I94 ≤ I' ∧ C104 ++ (C108 ++ (C112 ++ ((g78, .cells #[.slice A72 x64.f0.length n73, .float .f64 b75] 39) :: ((g17, .cells #[.slice A110 j101.2.2.2.length n111] 97) :: (C8 ++ L))))) = L' ∧ Knows 120 [(1, .slice A1_0 a1.length n1_0), (2, .bool a2), (11, .map (some g14)), (12, .pointer (some ⟨g17, 0, none⟩)), (13, .slice A106 j101.2.1.length n107), (15, .pointer (some ⟨g78, 0, none⟩)), (19, .int .i64 j101.2.2.1), (40, .slice A6 y1.1.length c7), (41, .int .i64 (y1.1.length : Int)), (42, .int .i64 s34.2.2.2)] t) ?_ ?_
          · refine gk_cond (b := (!((mget Ky.str s34.2.1 (ofBytes y92.1)).isSome))) (by kernel_rfl) (by kernel_rfl) (fun hc116 => ?_) (fun hc116 => ?_)
            · have hj102 := cond_t hc116 hj102
              refine gk_seq (by kernel_rfl) ?_
              refine gk_region (by kernel_rfl) ?_
              refine gl_pure 3 [1, 2, 11, 12, 13, 15, 16, 17, 19, 40, 41, 42] (K' := [(1, .slice A1_0 a1.length n1_0), (2, .bool a2), (11, .map (some g14)), (12, .pointer (some ⟨g17, 0, none⟩)), (13, .slice A44 s34.2.2.1.length n45), (15, .pointer (some ⟨g78, 0, none⟩)), (16, .slice A84 y79.length c85), (17, .slice A97 y92.1.length c98), (19, .int .i64 (s34.2.2.1.length : Int)), (40, .slice A6 y1.1.length c7), (41, .int .i64 (y1.1.length : Int)), (42, .int .i64 s34.2.2.2)]) (by kernel_rfl) ?_
              refine gl_atE (by kernel_rfl) ?_
              refine ge_seq ?_
              refine gk_seq (by kernel_rfl) ?_
              refine gk_region (by kernel_rfl) ?_
              refine gl_pure 2 [1, 2, 11, 12, 13, 15, 16, 19, 40, 41, 42, 67, 68] (K' := [(1, .slice A1_0 a1.length n1_0), (2, .bool a2), (11, .map (some g14)), (12, .pointer (some ⟨g17, 0, none⟩)), (13, .slice A44 s34.2.2.1.length n45), (15, .pointer (some ⟨g78, 0, none⟩)), (16, .slice A84 y79.length c85), (19, .int .i64 (s34.2.2.1.length : Int)), (40, .slice A6 y1.1.length c7), (41, .int .i64 (y1.1.length : Int)), (42, .int .i64 s34.2.2.2), (67, .map (some g14)), (68, .slice A97 y92.1.length c98)]) (by kernel_rfl) ?_
              refine gl_bytesStr (c := c98) (src := 98) (dst := 9) (e := 5) (n := 1) (x := (.tmp 68)) (by kernel_rfl) (by kernel_rfl) (by kernel_rfl) (by kernel_rfl) (by kernel_rfl) (by kernel_rfl) (OwnS.rd hO100 (Upd.selfC _ _)) ?_
              refine gl_pure 1 [1, 2, 11, 12, 13, 15, 16, 19, 40, 41, 42, 67, 69, 70] (K' := [(1, .slice A1_0 a1.length n1_0), (2, .bool a2), (11, .map (some g14)), (12, .pointer (some ⟨g17, 0, none⟩)), (13, .slice A44 s34.2.2.1.length n45), (15, .pointer (some ⟨g78, 0, none⟩)), (16, .slice A84 y79.length c85), (19, .int .i64 (s34.2.2.1.length : Int)), (40, .slice A6 y1.1.length c7), (41, .int .i64 (y1.1.length : Int)), (42, .int .i64 s34.2.2.2), (67, .map (some g14)), (69, .string (ofBytes y92.1)), (70, .int .i64 (s34.2.2.1.length : Int))]) (by kernel_rfl) ?_
              refine gl_mapUpdate (a := 9) (b := 3) (ds := .string) (T' := 96) (xm := (.tmp 67)) (xk := (.tmp 69)) (xv := (.tmp 70)) (x := (ofBytes y92.1)) (v := (s34.2.2.1.length : Int)) (u := .int .i64 (s34.2.2.1.length : Int)) (fun X => C99 ++ ((g78, .cells #[.slice A72 x64.f0.length n73, .float .f64 b75] 39) :: (C40 ++ (X ++ (C46 ++ ((g17, .cells #[.slice A38 s34.1.length n39] 97) :: (C8 ++ L))))))) (hO43.mono (Imm.trans (Imm.trans hI83 hJ89) hI96)) (fun X => (Upd.app _ (Upd.one _ (Upd.app _ (Upd.head _ X _))))) (by kernel_rfl) (by kernel_rfl) (by kernel_rfl) (by kernel_rfl) (by kernel_rfl) (by kernel_rfl) (by kernel_rfl) rfl (by kernel_rfl) (fun C117 hO118 => ?_)
              refine gl_atE (by kernel_rfl) ?_
              refine ge_seq ?_
              refine gk_seq (by kernel_rfl) ?_
              refine gk_region (by kernel_rfl) ?_
              refine gl_loadB (T' := 97) (xp := (.tmp 12)) (v := .slice A38 s34.1.length n39) (g := g17) (off := 0) (cs := #[.slice A38 s34.1.length n39]) (e := 97) (fz := (0, 0)) (by kernel_rfl) (by kernel_rfl) (by kernel_rfl) (List.mem_append_right _ (List.mem_cons_of_mem _ (List.mem_append_right _ (List.mem_append_right _ (List.mem_append_right _ List.mem_cons_self))))) (by kernel_rfl) ?_
              refine gl_pure 1 [1, 2, 11, 12, 13, 15, 19, 40, 41, 42, 71, 72] (K' := [(1, .slice A1_0 a1.length n1_0), (2, .bool a2), (11, .map (some g14)), (12, .pointer (some ⟨g17, 0, none⟩)), (13, .slice A44 s34.2.2.1.length n45), (15, .pointer (some ⟨g78, 0, none⟩)), (19, .int .i64 (s34.2.2.1.length : Int)), (40, .slice A6 y1.1.length c7), (41, .int .i64 (y1.1.length : Int)), (42, .int .i64 s34.2.2.2), (71, .slice A38 s34.1.length n39), (72, .slice A84 y79.length c85)]) (by kernel_rfl) ?_
              refine gl_buildSlice (T' := 97) (e := 36) (n := 1) (len := 1) (parts := #[(0, (.tmp 72))]) (l := [(0, .slice A84 y79.length c85)]) (cs := #[.slice A84 y79.length c85]) (by kernel_rfl) (by kernel_rfl) (by kernel_rfl) (by kernel_rfl) (by kernel_rfl) (fun g119 => ?_)
              have hO120 : OwnS (Kd.sl kS76) 36 I94 (some ⟨g119, 0, none⟩) 1 [y79] [(g119, .cells #[.slice A84 y79.length c85] 36)] := OwnS.lit (row_cons (l := [.slice A84 y79.length c85]) ⟨_, _, rfl, (hf91.mono hI96)⟩ (row_nil _ _)) rfl rfl rfl
              refine gl_reord (D := [(g119, .cells #[.slice A84 y79.length c85] 36)] ++ (C99 ++ ((g78, .cells #[.slice A72 x64.f0.length n73, .float .f64 b75] 39) :: (C40 ++ (C117 ++ (C46 ++ ((g17, .cells #[.slice A38 s34.1.length n39] 97) :: (C8 ++ L)))))))) (Reord.refl _) ?_
              obtain ⟨zs123, hz124, hj102⟩ := bind_some hj102
              refine gl_append (xv := .slice (some ⟨g119, 0, none⟩) [y79].length 1) (d := (Kd.sl kS76)) (t := 97) (tx := 97) (e := 36) (s := (.tmp 71)) (x := (.tmp 73)) (xs := s34.1) (fun X => [(g119, .cells #[.slice A84 y79.length c85] 36)] ++ (C99 ++ ((g78, .cells #[.slice A72 x64.f0.length n73, .float .f64 b75] 39) :: (X ++ (C117 ++ (C46 ++ ((g17, .cells #[.slice A38 s34.1.length n39] 97) :: (C8 ++ L)))))))) hz124 (by kernel_rfl) (by kernel_rfl) (by kernel_rfl) (by kernel_rfl) (by kernel_rfl) (by kernel_rfl) (fun X => (Upd.app _ (Upd.app _ (Upd.one _ (Upd.head _ X _))))) (hO41.mono (Imm.trans (Imm.trans hI83 hJ89) hI96)) (SrcOk.slice (c := 1) (e := 36) (n := 1) (OwnS.rd hO120 (Upd.selfC _ _)) (by kernel_rfl)) (fun A125 n126 C127 hO128 => ?_)
              refine gl_storeB (T' := 97) (xp := (.tmp 12)) (xv := (.tmp 74)) (v := .slice A125 zs123.length n126) (g := g17) (off := 0) (cs := #[.slice A38 s34.1.length n39]) (cs' := #[.slice A125 zs123.length n126]) (by kernel_rfl) (by kernel_rfl) (by kernel_rfl) (by kernel_rfl) (by kernel_rfl) (Upd.app _ (Upd.app _ (Upd.one _ (Upd.app _ (Upd.app _ (Upd.app _ (Upd.set _ _ _ _))))))) ?_ (by kernel_rfl)
              refine gl_atE (by kernel_rfl) ?_
              refine ge_seq ?_
              refine gk_region (by kernel_rfl) ?_
              refine gl_pure 1 [1, 2, 11, 12, 15, 19, 40, 41, 42, 75] (K' := [(1, .slice A1_0 a1.length n1_0), (2, .bool a2), (11, .map (some g14)), (12, .pointer (some ⟨g17, 0, none⟩)), (15, .pointer (some ⟨g78, 0, none⟩)), (19, .int .i64 (s34.2.2.1.length : Int)), (40, .slice A6 y1.1.length c7), (41, .int .i64 (y1.1.length : Int)), (42, .int .i64 s34.2.2.2), (75, .slice A44 s34.2.2.1.length n45)]) (by kernel_rfl) ?_
              refine gl_buildSlice (T' := 48) (e := 22) (n := 1) (len := 1) (parts := #[(0, (.const (.slice none 0 0)))]) (l := [(0, .slice none 0 0)]) (cs := #[.slice none 0 0]) (by kernel_rfl) (by kernel_rfl) (by kernel_rfl) (by kernel_rfl) (by kernel_rfl) (fun g129 => ?_)
              have hO130 : OwnS (Kd.sl kS38) 22 I94 (some ⟨g129, 0, none⟩) 1 [[]] [(g129, .cells #[.slice none 0 0] 22)] := OwnS.lit (row_cons (l := [.slice none 0 0]) ⟨_, _, rfl, (RepS.nil _ _)⟩ (row_nil _ _)) rfl rfl rfl
              refine gl_reord (D := [(g129, .cells #[.slice none 0 0] 22)] ++ ([(g119, .cells #[.slice A84 y79.length c85] 36)] ++ (C99 ++ ((g78, .cells #[.slice A72 x64.f0.length n73, .float .f64 b75] 39) :: (C127 ++ (C117 ++ (C46 ++ ((g17, .cells #[.slice A125 zs123.length n126] 97) :: (C8 ++ L))))))))) (Reord.refl _) ?_
              obtain ⟨zs133, hz134, hj102⟩ := bind_some hj102
              refine gl_reord (D := C46 ++ ([(g129, .cells #[.slice none 0 0] 22)] ++ ([(g119, .cells #[.slice A84 y79.length c85] 36)] ++ (C99 ++ ((g78, .cells #[.slice A72 x64.f0.length n73, .float .f64 b75] 39) :: (C127 ++ (C117 ++ ((g17, .cells #[.slice A125 zs123.length n126] 97) :: (C8 ++ L))))))))) (Reord.step (Upd.app _ (Upd.app _ (Upd.app _ (Upd.one _ (Upd.app _ (Upd.app _ (Upd.rmC _ _))))))) (Reord.step (Upd.rmC _ _) (Reord.step (Upd.rmC _ _) (Reord.step (Upd.rmC _ _) (Reord.step1 (Upd.rm1 _ _) (Reord.step (Upd.rmC _ _) (Reord.step (Upd.rmC _ _) (Reord.step1 (Upd.rm1 _ _) (Reord.step (Upd.rmC _ _) (Reord.refl _)))))))))) ?_
              have hq139 : (KD.sl kS38 39).R I94 ([] : List S38) [.slice none 0 0] [] := ⟨none, 0, rfl, OwnS.nil _ _ _ _⟩
              refine gl_appendD (A := A44) (c := n45) (C := C46) (Cy := []) (R := [(g129, .cells #[.slice none 0 0] 22)] ++ ([(g119, .cells #[.slice A84 y79.length c85] 36)] ++ (C99 ++ ((g78, .cells #[.slice A72 x64.f0.length n73, .float .f64 b75] 39) :: (C127 ++ (C117 ++ ((g17, .cells #[.slice A125 zs123.length n126] 97) :: (C8 ++ L)))))))) (cy := [.slice none 0 0]) (xv := .slice (some ⟨g129, 0, none⟩) [[]].length 1) (t := 48) (tx := 48) (s := (.tmp 75)) (x := (.tmp 76)) hz134 (by kernel_rfl) (by kernel_rfl) (by kernel_rfl) (by kernel_rfl) (by kernel_rfl) (by kernel_rfl) (hO47.mono (Imm.trans (Imm.trans hI83 hJ89) hI96)) hq139 (SrcOk.slice (c := 1) (e := 22) (n := 1) (OwnS.rd (OwnS.lit (row_cons (l := [.slice none 0 0]) ⟨rfl, rfl, KD.one (KD.sl kS38 39) hq139⟩ (row_nil _ _)) rfl rfl rfl : OwnS (Kd.raw 1) 22 I94 (some ⟨g129, 0, none⟩) 1 [[.slice none 0 0]] [(g129, .cells #[.slice none 0 0] 22)]) (Upd.app _ (Upd.selfC _ _))) (by kernel_rfl)) (fun A135 n136 C137 hO138 => ?_)
              refine gl_pure 1 [1, 2, 11, 12, 13, 15, 19, 40, 41, 42] (K' := [(1, .slice A1_0 a1.length n1_0), (2, .bool a2), (11, .map (some g14)), (12, .pointer (some ⟨g17, 0, none⟩)), (13, .slice A135 zs133.length n136), (15, .pointer (some ⟨g78, 0, none⟩)), (19, .int .i64 (s34.2.2.1.length : Int)), (40, .slice A6 y1.1.length c7), (41, .int .i64 (y1.1.length : Int)), (42, .int .i64 s34.2.2.2)]) (by kernel_rfl) ?_
              refine gl_reord (D := C117 ++ (C137 ++ (C127 ++ ((g78, .cells #[.slice A72 x64.f0.length n73, .float .f64 b75] 39) :: ((g17, .cells #[.slice A125 zs123.length n126] 97) :: (C8 ++ L)))))) (Reord.step (Upd.app _ (Upd.app _ (Upd.app _ (Upd.app _ (Upd.one _ (Upd.app _ (Upd.rmC _ _))))))) (Reord.step (Upd.rmC _ _) (Reord.step (Upd.app _ (Upd.app _ (Upd.app _ (Upd.one _ (Upd.rmC _ _))))) (Reord.step1 (Upd.app _ (Upd.app _ (Upd.app _ (Upd.rm1 _ _)))) (Reord.step1 (Upd.app _ (Upd.app _ (Upd.app _ (Upd.rm1 _ _)))) (Reord.step (Upd.app _ (Upd.app _ (Upd.app _ (Upd.rmC _ _)))) (Reord.skipC (Reord.skipC (Reord.skipC (Reord.refl _)))))))))) ?_
              refine gl_atE (by kernel_rfl) ?_
              obtain rfl := some_inj hj102
              exact ge_mid fun t ht => ⟨C117, A135, n136, C137, A125, n126, C127, hO118, hO138, hO128, (Imm.refl _), rfl, ht.pick (l := [1, 2, 11, 12, 13, 15, 19, 40, 41, 42]) (by kernel_rfl)⟩
            · have hj102 := cond_f hc116 hj102
              refine gk_reord (D := C42 ++ (C46 ++ (C40 ++ ((g78, .cells #[.slice A72 x64.f0.length n73, .float .f64 b75] 39) :: ((g17, .cells #[.slice A38 s34.1.length n39] 97) :: (C8 ++ L)))))) (Reord.step (Upd.app _ (Upd.one _ (Upd.app _ (Upd.rmC _ _)))) (Reord.step (Upd.app _ (Upd.one _ (Upd.app _ (Upd.rmC _ _)))) (Reord.step (Upd.app _ (Upd.one _ (Upd.rmC _ _))) (Reord.step1 (Upd.app _ (Upd.rm1 _ _)) (Reord.step1 (Upd.app _ (Upd.rm1 _ _)) (Reord.step (Upd.app _ (Upd.rmC _ _)) (Reord.skipC (Reord.refl _)))))))) ?_
              refine gk_skip (by kernel_rfl) ?_
              obtain rfl := some_inj hj102
              exact ge_mid fun t ht => ⟨C42, A44, n45, C46, A38, n39, C40, (hO43.mono (Imm.trans (Imm.trans hI83 hJ89) hI96)), (hO47.mono (Imm.trans (Imm.trans hI83 hJ89) hI96)), (hO41.mono (Imm.trans (Imm.trans hI83 hJ89) hI96)), (Imm.refl _), rfl, ht.pick (l := [1, 2, 11, 12, 13, 15, 19, 40, 41, 42]) (by kernel_rfl)⟩
          · rintro t I115 L' ⟨C104, A106, n107, C108, A110, n111, C112, hO105, hO109, hO113, hI103, rfl, hK114⟩
            refine ge_at hK114 ?_
            refine ge_seq ?_
            refine gk_drawS 10 [(0, true), (1, true), (2, true), (3, true), (4, true), (5, true), (6, true), (7, false), (8, false), (9, false)] [5] [(g78, .cells #[.slice A72 x64.f0.length n73, .float .f64 b75] 39), (g17, .cells #[.slice A110 j101.2.2.2.length n111] 97)] (C108 ++ [(g78, .cells #[.slice A72 x64.f0.length n73, .float .f64 b75] 39), (g17, .cells #[.slice A110 j101.2.2.2.length n111] 97)]) (List.forall_mem_append.2 ⟨fun q hq => (List.mem_append_right _ (List.mem_append_left _ hq)), (List.forall_mem_cons.2 ⟨(List.mem_append_right _ (List.mem_append_right _ (List.mem_append_right _ List.mem_cons_self))), (List.forall_mem_cons.2 ⟨(List.mem_append_right _ (List.mem_append_right _ (List.mem_append_right _ (List.mem_cons_of_mem _ List.mem_cons_self)))), (fun p hp => by cases hp)⟩)⟩)⟩) (fun p hp => List.mem_append_right _ ((fun p hp => hp) p hp)) (by kernel_rfl) (by kernel_rfl) (by kernel_rfl) ?_ (by kernel_rfl)
            refine gd_pure 4 [1, 2, 11, 12, 13, 15, 40, 41, 42, 78, 79, 80, 81] (K' := [(1, .slice A1_0 a1.length n1_0), (2, .bool a2), (11, .map (some g14)), (12, .pointer (some ⟨g17, 0, none⟩)), (13, .slice A106 j101.2.1.length n107), (15, .pointer (some ⟨g78, 0, none⟩)), (40, .slice A6 y1.1.length c7), (41, .int .i64 (y1.1.length : Int)), (42, .int .i64 s34.2.2.2), (78, .slice A106 j101.2.1.length n107), (79, .int .i64 j101.2.2.1), (80, .slice A106 j101.2.1.length n107), (81, .int .i64 j101.2.2.1)]) (s' := [(4, true), (5, true), (6, true), (7, false), (8, false), (9, false)]) (CC.refl (List.forall_mem_append.2 ⟨fun q hq => (List.mem_append_right _ (List.mem_append_left _ hq)), (List.forall_mem_cons.2 ⟨(List.mem_append_right _ (List.mem_append_right _ (List.mem_append_right _ List.mem_cons_self))), (List.forall_mem_cons.2 ⟨(List.mem_append_right _ (List.mem_append_right _ (List.mem_append_right _ (List.mem_cons_of_mem _ List.mem_cons_self)))), (fun p hp => by cases hp)⟩)⟩)⟩)) (by kernel_rfl) ?_
            obtain ⟨x140, hx141, hb36⟩ := bind_some hb36
            obtain ⟨cs142, C143, C144, hR145, hH146, hp147⟩ := OwnD.take hO109 hx141
            obtain ⟨A153, n154, rfl, hO155⟩ := hR145
            obtain ⟨p148, hA149, ha150, hg151⟩ := OwnH.at_ hH146
            have hi152 := ix_some hx141
            refine gd_q (v := .pointer (some p148)) (by kernel_rfl) (by kernel_rfl) (CC.refl (List.forall_mem_append.2 ⟨fun q hq => (List.mem_append_right _ (List.mem_append_left _ hq)), (List.forall_mem_cons.2 ⟨(List.mem_append_right _ (List.mem_append_right _ (List.mem_append_right _ List.mem_cons_self))), (List.forall_mem_cons.2 ⟨(List.mem_append_right _ (List.mem_append_right _ (List.mem_append_right _ (List.mem_cons_of_mem _ List.mem_cons_self)))), (fun p hp => by cases hp)⟩)⟩)⟩)) (fun I' L' T hC kk => gl_indexAddrF (c := n107) (T' := 48) (e := 22) (xs := (.tmp 80)) (xi := (.tmp 81)) (kd := .i64) ha150 hi152.1 hi152.2.1 (by kernel_rfl) (by kernel_rfl) (by kernel_rfl) (by kernel_rfl) (by kernel_rfl) kk) ?_
            refine gd_q (v := .slice A153 x140.length n154) (by kernel_rfl) (by kernel_rfl) (CC.refl (List.forall_mem_append.2 ⟨fun q hq => (List.mem_append_right _ (List.mem_append_left _ hq)), (List.forall_mem_cons.2 ⟨(List.mem_append_right _ (List.mem_append_right _ (List.mem_append_right _ List.mem_cons_self))), (List.forall_mem_cons.2 ⟨(List.mem_append_right _ (List.mem_append_right _ (List.mem_append_right _ (List.mem_cons_of_mem _ List.mem_cons_self)))), (fun p hp => by cases hp)⟩)⟩)⟩)) (fun I' L' T hC kk => gl_loadO (T' := 22) (xp := (.tmp 82)) (p := p148) (c := .slice A153 x140.length n154) (n := 1) (by kernel_rfl) (by kernel_rfl) (by kernel_rfl) (by kernel_rfl) ((OwnH.inC hp147 hA149) _ _ (fun q hq => hC.sub _ (List.mem_append_left _ hq))) kk) ?_
            refine gd_q (v := .agg #[.slice A72 x64.f0.length n73, .float .f64 b75]) (by kernel_rfl) (by kernel_rfl) (CC.refl (List.forall_mem_append.2 ⟨fun q hq => (List.mem_append_right _ (List.mem_append_left _ hq)), (List.forall_mem_cons.2 ⟨(List.mem_append_right _ (List.mem_append_right _ (List.mem_append_right _ List.mem_cons_self))), (List.forall_mem_cons.2 ⟨(List.mem_append_right _ (List.mem_append_right _ (List.mem_append_right _ (List.mem_cons_of_mem _ List.mem_cons_self)))), (fun p hp => by cases hp)⟩)⟩)⟩)) (fun I' L' T hC kk => gl_loadB (T' := 39) (xp := (.tmp 15)) (v := .agg #[.slice A72 x64.f0.length n73, .float .f64 b75]) (g := g78) (off := 0) (cs := #[.slice A72 x64.f0.length n73, .float .f64 b75]) (e := 39) (fz := (0, 0)) (by kernel_rfl) (by kernel_rfl) (by kernel_rfl) (hC.sub _ List.mem_cons_self) (by kernel_rfl) kk) ?_
            refine gd_one (by kernel_rfl) ?_
            refine gl_buildSlice (T' := 22) (e := 39) (n := 2) (len := 1) (parts := #[(0, (.tmp 84))]) (l := [(0, .agg #[.slice A72 x64.f0.length n73, .float .f64 b75])]) (cs := #[.slice A72 x64.f0.length n73, .float .f64 b75]) (by kernel_rfl) (by kernel_rfl) (by kernel_rfl) (by kernel_rfl) (by kernel_rfl) (fun g156 => ?_)
            have hO157 : OwnS kS38 39 I115 (some ⟨g156, 0, none⟩) 1 [x64] [(g156, .cells #[.slice A72 x64.f0.length n73, .float .f64 b75] 39)] := OwnS.lit (row_cons (l := [.slice A72 x64.f0.length n73, .float .f64 b75]) (kS38_mk (x := x64) (hf74.mono (Imm.trans (Imm.trans (Imm.trans hI83 hJ89) hI96) hI103)) hf76) (row_nil _ _)) rfl rfl rfl
            refine gl_reord (D := [(g156, .cells #[.slice A72 x64.f0.length n73, .float .f64 b75] 39)] ++ (C104 ++ (C108 ++ (C112 ++ ((g78, .cells #[.slice A72 x64.f0.length n73, .float .f64 b75] 39) :: ((g17, .cells #[.slice A110 j101.2.2.2.length n111] 97) :: (C8 ++ L))))))) (Reord.refl _) ?_
            refine gl_toD (by kernel_rfl) ⟨(Imm.refl _), (List.forall_mem_append.2 ⟨fun q hq => (List.mem_append_right _ (List.mem_append_right _ (List.mem_append_left _ hq))), (List.forall_mem_cons.2 ⟨(List.mem_append_right _ (List.mem_append_right _ (List.mem_append_right _ (List.mem_append_right _ List.mem_cons_self)))), (List.forall_mem_cons.2 ⟨(List.mem_append_right _ (List.mem_append_right _ (List.mem_append_right _ (List.mem_append_right _ (List.mem_cons_of_mem _ List.mem_cons_self))))), (fun p hp => by cases hp)⟩)⟩)⟩)⟩ ?_
            refine gd_flip (by kernel_rfl) (by kernel_rfl) ?_
            refine gl_reord (D := C108 ++ ([(g156, .cells #[.slice A72 x64.f0.length n73, .float .f64 b75] 39)] ++ (C104 ++ (C112 ++ ((g78, .cells #[.slice A72 x64.f0.length n73, .float .f64 b75] 39) :: ((g17, .cells #[.slice A110 j101.2.2.2.length n111] 97) :: (C8 ++ L))))))) (Reord.step (Upd.app _ (Upd.app _ (Upd.rmC _ _))) (Reord.step (Upd.rmC _ _) (Reord.step (Upd.rmC _ _) (Reord.step (Upd.rmC _ _) (Reord.step1 (Upd.rm1 _ _) (Reord.step1 (Upd.rm1 _ _) (Reord.step (Upd.rmC _ _) (Reord.refl _)))))))) ?_
            refine gl_split hp147 ?_
            obtain ⟨zs160, hz161, hb36⟩ := bind_some hb36
            refine gl_append (xv := .slice (some ⟨g156, 0, none⟩) [x64].length 1) (d := kS38) (t := 22) (tx := 22) (e := 39) (s := (.tmp 83)) (x := (.tmp 85)) (xs := x140) (fun X => C144 ++ (X ++ ([(g156, .cells #[.slice A72 x64.f0.length n73, .float .f64 b75] 39)] ++ (C104 ++ (C112 ++ ((g78, .cells #[.slice A72 x64.f0.length n73, .float .f64 b75] 39) :: ((g17, .cells #[.slice A110 j101.2.2.2.length n111] 97) :: (C8 ++ L)))))))) hz161 (by kernel_rfl) (by kernel_rfl) (by kernel_rfl) (by kernel_rfl) (by kernel_rfl) (by kernel_rfl) (fun X => (Upd.app _ (Upd.head _ X _))) hO155 (SrcOk.slice (c := 1) (e := 39) (n := 2) (OwnS.rd hO157 (Upd.app _ (Upd.app _ (Upd.selfC _ _)))) (by kernel_rfl)) (fun A162 n163 C164 hO165 => ?_)
            refine gl_toD (by kernel_rfl) ⟨(Imm.refl _), (List.forall_mem_cons.2 ⟨(List.mem_append_right _ (List.mem_append_right _ (List.mem_append_right _ (List.mem_append_right _ (List.mem_append_right _ List.mem_cons_self))))), (List.forall_mem_cons.2 ⟨(List.mem_append_right _ (List.mem_append_right _ (List.mem_append_right _ (List.mem_append_right _ (List.mem_append_right _ (List.mem_cons_of_mem _ List.mem_cons_self)))))), (fun p hp => by cases hp)⟩)⟩)⟩ ?_
            refine gd_one (by kernel_rfl) ?_
            refine gl_indexAddrF (c := n107) (T' := 48) (e := 22) (xs := (.tmp 78)) (xi := (.tmp 79)) (kd := .i64) ha150 hi152.1 hi152.2.1 (by kernel_rfl) (by kernel_rfl) (by kernel_rfl) (by kernel_rfl) (by kernel_rfl) ?_
            refine gl_toD (by kernel_rfl) ⟨(Imm.refl _), (List.forall_mem_cons.2 ⟨(List.mem_append_right _ (List.mem_append_right _ (List.mem_append_right _ (List.mem_append_right _ (List.mem_append_right _ List.mem_cons_self))))), (List.forall_mem_cons.2 ⟨(List.mem_append_right _ (List.mem_append_right _ (List.mem_append_right _ (List.mem_append_right _ (List.mem_append_right _ (List.mem_cons_of_mem _ List.mem_cons_self)))))), (fun p hp => by cases hp)⟩)⟩)⟩ ?_
            refine gd_done ?_
            have hl168 : j101.2.1.length = (lset j101.2.1 j101.2.2.1 zs160).length := by simp [lset]
            refine gl_storeD (T' := 22) (xp := (.tmp 87)) (xv := (.tmp 86)) (v := .slice A162 zs160.length n163) (off := 0) (x' := zs160) hH146 ⟨_, _, rfl, hO165⟩ hg151 (by kernel_rfl) (by kernel_rfl) (by kernel_rfl) (by kernel_rfl) (by kernel_rfl) (by kernel_rfl) (by kernel_rfl) (fun C166 hO167 => ?_)
            try rw [hl168]
            refine gl_atE (by kernel_rfl) ?_
            refine ge_block_normal ?_
            refine ge_seq ?_
            refine gk_region (by kernel_rfl) ?_
            refine gl_pure 2 [1, 2, 11, 12, 13, 40, 41, 42] (K' := [(1, .slice A1_0 a1.length n1_0), (2, .bool a2), (11, .map (some g14)), (12, .pointer (some ⟨g17, 0, none⟩)), (13, .slice A106 (lset j101.2.1 j101.2.2.1 zs160).length n107), (40, .slice A6 y1.1.length c7), (41, .int .i64 (y1.1.length : Int)), (42, .int .i64 (IntKind.wrap .i64 (s34.2.2.2 + 1)))]) (by kernel_rfl) ?_
            refine gl_reord (D := C112 ++ (C104 ++ (C166 ++ ((g17, .cells #[.slice A110 j101.2.2.2.length n111] 97) :: (C8 ++ L))))) (Reord.step (Upd.app _ (Upd.app _ (Upd.app _ (Upd.rmC _ _)))) (Reord.step (Upd.app _ (Upd.app _ (Upd.rmC _ _))) (Reord.step (Upd.rmC _ _) (Reord.step1 (Upd.app _ (Upd.one _ (Upd.rm1 _ _))) (Reord.step (Upd.app _ (Upd.one _ (Upd.rmC _ _))) (Reord.skipC (Reord.skip (Reord.refl _)))))))) ?_
            refine gl_atE (by kernel_rfl) ?_
            obtain rfl := some_inj hb36
            exact ge_round fun t ht => ⟨A110, n111, C112, C104, A106, n107, C166, hO113, hO105, hO167, (Imm.trans (Imm.trans (Imm.trans (Imm.trans hI37 hI83) hJ89) hI96) hI103), rfl, ht.pick (l := [1, 2, 11, 12, 13, 40, 41, 42]) (by kernel_rfl)⟩
        · have hb36 := cond_f hc63 hb36
          refine gk_reord (D := C46 ++ (C40 ++ ((g17, .cells #[.slice A38 s34.1.length n39] 97) :: L))) (Reord.step (Upd.app _ (Upd.app _ (Upd.rmC _ _))) (Reord.step (Upd.rmC _ _) (Reord.step1 (Upd.app _ (Upd.rm1 _ _)) (Reord.skipC (Reord.skipC (Reord.refl _)))))) ?_
          refine gk_exit (by kernel_rfl) ?_
          refine ge_seq_exit ?_
          obtain rfl := some_inj hb36
          refine ge_round_out (fun hrr => ?_) (by intro h; cases h)
          obtain rfl := hrr
          refine ge_block_hit (by kernel_rfl) ?_
          exact ge_mid fun t ht => ⟨A44, n45, C46, A38, n39, C40, hO47, hO41, hI37, rfl, ht.pick (l := [12, 13]) (by kernel_rfl)⟩
      · rintro t I60 L' ⟨A51, n52, C53, A55, n56, C57, hO54, hO58, hI50, rfl, hK59⟩
        refine ge_at hK59 ?_
        refine ge_seq ?_
        refine gk_seq (by kernel_rfl) ?_
        refine gk_region (by kernel_rfl) ?_
        refine gl_pure 2 [12, 13, 90] (K' := [(12, .pointer (some ⟨g17, 0, none⟩)), (13, .slice A51 r32.1.length n52), (90, .int .i64 (r32.1.length : Int))]) (by kernel_rfl) ?_
        obtain ⟨xs169, hx170, hr⟩ := bind_some hr
        refine gl_makeSlice (d := (Kd.int .i64)) (T' := 34) (e := 3) (lx := (.tmp 90)) (cx := (.tmp 90)) (kl := .i64) (kc := .i64) (zc := #[.int .i64 0]) hx170 (by kernel_rfl) (by kernel_rfl) (by kernel_rfl) (by kernel_rfl) (by kernel_rfl) (by kernel_rfl) (by kernel_rfl) rfl (fun A171 C172 hO173 => ?_)
        refine gl_pure 1 [12, 13, 21] (K' := [(12, .pointer (some ⟨g17, 0, none⟩)), (13, .slice A51 r32.1.length n52), (21, .slice A171 xs169.length ((r32.1.length : Int).toNat))]) (by kernel_rfl) ?_
        refine gl_atE (by kernel_rfl) ?_
        refine ge_seq ?_
        refine gk_seq (by kernel_rfl) ?_
        refine gk_seq (by kernel_rfl) ?_
        refine gk_region (by kernel_rfl) ?_
        refine gl_pure 3 [12, 13, 21, 93, 94] (K' := [(12, .pointer (some ⟨g17, 0, none⟩)), (13, .slice A51 r32.1.length n52), (21, .slice A171 xs169.length ((r32.1.length : Int).toNat)), (93, .int .i64 (xs169.length : Int)), (94, .int .i64 0)]) (by kernel_rfl) ?_
        refine gl_atE (by kernel_rfl) ?_
        refine ge_seq ?_
        obtain ⟨r181, hl182, hr⟩ := bind_some hr
        refine gk_join (fun t I' L' => ∃ C193, OwnS (Kd.int .i64) 3 I' A171 ((r32.1.length : Int).toNat) r181 C193 ∧ I60 ≤ I' ∧ C193 ++ (C53 ++ (C57 ++ ((g17, .cells #[.slice A55 r32.2.length n56] 97) :: L))) = L' ∧ Knows 120 [(12, .pointer (some ⟨g17, 0, none⟩)), (13, .slice A51 r32.1.length n52), (21, .slice A171 r181.length ((r32.1.length : Int).toNat))] t) ?_ ?_
        · refine gk_block (by kernel_rfl) ?_
          refine gk_pick [12, 13, 21, 93, 94] (K' := [(12, .pointer (some ⟨g17, 0, none⟩)), (13, .slice A51 r32.1.length n52), (21, .slice A171 xs169.length ((r32.1.length : Int).toNat)), (93, .int .i64 (xs169.length : Int)), (94, .int .i64 0)]) (by kernel_rfl) ?_
          intro t hK
          refine gc_loop (aggr_Groups_l198 xs169) (fun s183 t I' L' => ∃ C187, OwnS (Kd.int .i64) 3 I' A171 ((r32.1.length : Int).toNat) s183.1 C187 ∧ I60 ≤ I' ∧ C187 ++ (C53 ++ (C57 ++ ((g17, .cells #[.slice A55 r32.2.length n56] 97) :: L))) = L' ∧ Knows 120 [(12, .pointer (some ⟨g17, 0, none⟩)), (13, .slice A51 r32.1.length n52), (21, .slice A171 s183.1.length ((r32.1.length : Int).toNat)), (93, .int .i64 (xs169.length : Int)), (94, .int .i64 s183.2)] t) (by kernel_rfl) ?_ hl182 ⟨C172, hO173, (Imm.refl _), rfl, hK⟩
          rintro s183 o184 t I191 L' hb185 ⟨C187, hO188, hI186, rfl, hK190⟩
          unfold aggr_Groups_l198 at hb185
          refine gk_at hK190 ?_
          refine gk_seq (by kernel_rfl) ?_
          refine gk_region (by kernel_rfl) ?_
          refine gl_pure 1 [12, 13, 21, 93, 94, 95] (K' := [(12, .pointer (some ⟨g17, 0, none⟩)), (13, .slice A51 r32.1.length n52), (21, .slice A171 s183.1.length ((r32.1.length : Int).toNat)), (93, .int .i64 (xs169.length : Int)), (94, .int .i64 s183.2), (95, .bool (decide (s183.2 < (xs169.length : Int))))]) (by kernel_rfl) ?_
          refine gl_atE (by kernel_rfl) ?_
          refine ge_seq ?_
          refine gk_seq (by kernel_rfl) ?_
          refine gk_cond (b := (decide (s183.2 < (xs169.length : Int)))) (by kernel_rfl) (by kernel_rfl) (fun hc200 => ?_) (fun hc200 => ?_)
          · have hb185 := cond_t hc200 hb185
            refine gk_skip (by kernel_rfl) ?_
            refine ge_seq ?_
            refine gk_seq (by kernel_rfl) ?_
            refine gk_block (by kernel_rfl) ?_
            refine gk_seq (by kernel_rfl) ?_
            refine gk_region (by kernel_rfl) ?_
            refine gl_pure 2 [12, 13, 21, 22, 93, 94] (K' := [(12, .pointer (some ⟨g17, 0, none⟩)), (13, .slice A51 r32.1.length n52), (21, .slice A171 s183.1.length ((r32.1.length : Int).toNat)), (22, .int .i64 s183.2), (93, .int .i64 (xs169.length : Int)), (94, .int .i64 s183.2)]) (by kernel_rfl) ?_
            refine gl_atE (by kernel_rfl) ?_
            refine ge_seq ?_
            refine gk_region (by kernel_rfl) ?_
            refine gl_pure 3 [12, 13, 21, 93, 94, 97, 98, 99] (K' := [(12, .pointer (some ⟨g17, 0, none⟩)), (13, .slice A51 r32.1.length n52), (21, .slice A171 s183.1.length ((r32.1.length : Int).toNat)), (93, .int .i64 (xs169.length : Int)), (94, .int .i64 s183.2), (97, .slice A171 s183.1.length ((r32.1.length : Int).toNat)), (98, .int .i64 s183.2), (99, .int .i64 s183.2)]) (by kernel_rfl) ?_
            obtain ⟨x201, hx202, hb185⟩ := bind_some hb185
            refine gl_indexAddrW (d := (Kd.int .i64)) (c := ((r32.1.length : Int).toNat)) (T' := 34) (e := 3) (xs := (.tmp 97)) (xi := (.tmp 98)) (kd := .i64) hx202 hO188 (Upd.selfC _ _) (by kernel_rfl) (by kernel_rfl) (by kernel_rfl) (by kernel_rfl) (by kernel_rfl) (fun p203 cs204 hR205 hA206 hp209 => ?_)
            obtain rfl := hR205
            have hl212 : s183.1.length = (lset s183.1 s183.2 s183.2).length := by simp [lset]
            refine gl_storeE (d := (Kd.int .i64)) (T' := 3) (xp := (.tmp 100)) (xv := (.tmp 99)) (v := .int .i64 s183.2) (off := 0) (y := s183.2) (fun X => X ++ (C53 ++ (C57 ++ ((g17, .cells #[.slice A55 r32.2.length n56] 97) :: L)))) hx202 hO188 (fun X => (Upd.head _ X _)) hp209 (by kernel_rfl) (by kernel_rfl) (by kernel_rfl) (by kernel_rfl) (by kernel_rfl) (by kernel_rfl) (fun cs h => by obtain rfl := h; rfl) (by kernel_rfl) (fun C210 hO211 => ?_)
            try rw [hl212]
            refine gl_atE (by kernel_rfl) ?_
            refine ge_block_normal ?_
            refine ge_seq ?_
            refine gk_region (by kernel_rfl) ?_
            refine gl_pure 2 [12, 13, 21, 93, 94] (K' := [(12, .pointer (some ⟨g17, 0, none⟩)), (13, .slice A51 r32.1.length n52), (21, .slice A171 (lset s183.1 s183.2 s183.2).length ((r32.1.length : Int).toNat)), (93, .int .i64 (xs169.length : Int)), (94, .int .i64 (IntKind.wrap .i64 (s183.2 + 1)))]) (by kernel_rfl) ?_
            refine gl_atE (by kernel_rfl) ?_
            obtain rfl := some_inj hb185
            exact ge_round fun t ht => ⟨C210, hO211, hI186, rfl, ht.pick (l := [12, 13, 21, 93, 94]) (by kernel_rfl)⟩
          · have hb185 := cond_f hc200 hb185
            refine gk_exit (by kernel_rfl) ?_
            refine ge_seq_exit ?_
            obtain rfl := some_inj hb185
            refine ge_round_out (fun hrr => ?_) (by intro h; cases h)
            obtain rfl := hrr
            refine ge_block_hit (by kernel_rfl) ?_
            exact ge_mid fun t ht => ⟨C187, hO188, hI186, rfl, ht.pick (l := [12, 13, 21]) (by kernel_rfl)⟩
        · rintro t I197 L' ⟨C193, hO194, hI192, rfl, hK196⟩
          refine ge_at hK196 ?_
          refine ge_seq ?_
          refine gk_seq (by kernel_rfl) ?_
          refine gk_region (by kernel_rfl) ?_
          refine gl_pure 2 [13, 21, 102, 103] (K' := [(13, .slice A51 r32.1.length n52), (21, .slice A171 r181.length ((r32.1.length : Int).toNat)), (102, .slice A171 r181.length ((r32.1.length : Int).toNat)), (103, .func (.func 56) #[] #[.pointer (some ⟨g17, 0, none⟩)])]) (by kernel_rfl) ?_
          refine gl_rest (Tk.step (Upd.app _ (Upd.app _ (Upd.rmC _ _))) (Tk.step (Upd.app _ (Upd.app _ (Upd.rm1 _ _))) (Tk.nil _))) (fun J213 hJ214 hC215 => ?_)
          have hf216 := (OwnS.rest (hO58.mono hI192) hJ214 hC215.left)
          have hf217 := hC215.right.left.blk
          obtain ⟨hsa219, hsr220⟩ := sortBind_some hr
          refine gl_call (by kernel_rfl) (slices_SortFunc_55_56_walk (a0 := r181) (A := A171) (c := ((r32.1.length : Int).toNat)) (C := C193) (hO194.mono hJ214) hf217 hf216 hsa219 _) ?_
          rintro v I224 L225 hI226 ⟨zs218, C222, hz221, hO223, rfl, rfl⟩
          replace hr := hsr220 _ hz221
          have hl227 : r181.length = zs218.length := hz221.1.length_eq.symm
          try rw [hl227]
          refine gl_atE (by kernel_rfl) ?_
          refine ge_seq ?_
          refine gk_seq (by kernel_rfl) ?_
          refine gk_region (by kernel_rfl) ?_
          refine gl_pure 1 [13, 21, 23] (K' := [(13, .slice A51 r32.1.length n52), (21, .slice A171 zs218.length ((r32.1.length : Int).toNat)), (23, .slice none 0 0)]) (by kernel_rfl) ?_
          refine gl_atE (by kernel_rfl) ?_
          refine ge_seq ?_
          refine gk_seq (by kernel_rfl) ?_
          refine gk_seq (by kernel_rfl) ?_
          refine gk_region (by kernel_rfl) ?_
          refine gl_pure 3 [13, 23, 105, 106, 107] (K' := [(13, .slice A51 r32.1.length n52), (23, .slice none 0 0), (105, .slice A171 zs218.length ((r32.1.length : Int).toNat)), (106, .int .i64 (zs218.length : Int)), (107, .int .i64 0)]) (by kernel_rfl) ?_
          refine gl_atE (by kernel_rfl) ?_
          refine ge_seq ?_
          refine gk_rest (Tk.step (Upd.app _ (Upd.rmC _ _)) (Tk.nil _)) (fun J239 hJ240 hC241 => ?_)
          have hf242 := (OwnD.rest (hO54.mono (Imm.trans (Imm.trans hI192 hJ214) hI226)) hJ240 hC241.left)
          obtain ⟨r251, hl252, hr⟩ := bind_some hr
          refine gk_join (fun t I' L' => ∃ A264 n265 C266, OwnS (Kd.sl kS38) 22 I' A264 n265 r251 C266 ∧ J239 ≤ I' ∧ C266 ++ L = L' ∧ Knows 120 [(23, .slice A264 r251.length n265)] t) ?_ ?_
          · refine gk_block (by kernel_rfl) ?_
            refine gk_pick [13, 23, 105, 106, 107] (K' := [(13, .slice A51 r32.1.length n52), (23, .slice none 0 0), (105, .slice A171 zs218.length ((r32.1.length : Int).toNat)), (106, .int .i64 (zs218.length : Int)), (107, .int .i64 0)]) (by kernel_rfl) ?_
            intro t hK
            refine gc_loop (aggr_Groups_l270 r32 zs218) (fun s253 t I' L' => ∃ A257 n258 C259, OwnS (Kd.sl kS38) 22 I' A257 n258 s253.1 C259 ∧ J239 ≤ I' ∧ C259 ++ (C222 ++ L) = L' ∧ Knows 120 [(13, .slice A51 r32.1.length n52), (23, .slice A257 s253.1.length n258), (105, .slice A171 zs218.length ((r32.1.length : Int).toNat)), (106, .int .i64 (zs218.length : Int)), (107, .int .i64 s253.2)] t) (by kernel_rfl) ?_ hl252 ⟨none, 0, [], OwnS.nil _ _ _ _, (Imm.refl _), rfl, hK⟩
            rintro s253 o254 t I262 L' hb255 ⟨A257, n258, C259, hO260, hI256, rfl, hK261⟩
            unfold aggr_Groups_l270 at hb255
            refine gk_at hK261 ?_
            refine gk_seq (by kernel_rfl) ?_
            refine gk_region (by kernel_rfl) ?_
            refine gl_pure 1 [13, 23, 105, 106, 107, 108] (K' := [(13, .slice A51 r32.1.length n52), (23, .slice A257 s253.1.length n258), (105, .slice A171 zs218.length ((r32.1.length : Int).toNat)), (106, .int .i64 (zs218.length : Int)), (107, .int .i64 s253.2), (108, .bool (decide (s253.2 < (zs218.length : Int))))]) (by kernel_rfl) ?_
            refine gl_atE (by kernel_rfl) ?_
            refine ge_seq ?_
            refine gk_seq (by kernel_rfl) ?_
            refine gk_cond (b := (decide (s253.2 < (zs218.length : Int)))) (by kernel_rfl) (by kernel_rfl) (fun hc272 => ?_) (fun hc272 => ?_)
            · have hb255 := cond_t hc272 hb255
              refine gk_skip (by kernel_rfl) ?_
              refine ge_seq ?_
              refine gk_seq (by kernel_rfl) ?_
              refine gk_block (by kernel_rfl) ?_
              refine gk_seq (by kernel_rfl) ?_
              refine gk_region (by kernel_rfl) ?_
              obtain ⟨x273, hx274, hb255⟩ := bind_some hb255
              refine gl_indexAddrW (d := (Kd.int .i64)) (c := ((r32.1.length : Int).toNat)) (T' := 34) (e := 3) (xs := (.tmp 105)) (xi := (.tmp 107)) (kd := .i64) hx274 (hO223.mono (Imm.trans hJ240 hI256)) (Upd.app _ (Upd.selfC _ _)) (by kernel_rfl) (by kernel_rfl) (by kernel_rfl) (by kernel_rfl) (by kernel_rfl) (fun p275 cs276 hR277 hA278 hp281 => ?_)
              obtain rfl := hR277
              refine gl_loadO (T' := 3) (xp := (.tmp 109)) (p := p275) (c := .int .i64 x273) (n := 1) (by kernel_rfl) (by kernel_rfl) (by kernel_rfl) (by kernel_rfl) hA278 ?_
              refine gl_pure 1 [13, 23, 25, 105, 106, 107] (K' := [(13, .slice A51 r32.1.length n52), (23, .slice A257 s253.1.length n258), (25, .int .i64 x273), (105, .slice A171 zs218.length ((r32.1.length : Int).toNat)), (106, .int .i64 (zs218.length : Int)), (107, .int .i64 s253.2)]) (by kernel_rfl) ?_
              refine gl_atE (by kernel_rfl) ?_
              refine ge_seq ?_
              refine gk_region (by kernel_rfl) ?_
              refine gl_pure 3 [13, 105, 106, 107, 111, 112, 113] (K' := [(13, .slice A51 r32.1.length n52), (105, .slice A171 zs218.length ((r32.1.length : Int).toNat)), (106, .int .i64 (zs218.length : Int)), (107, .int .i64 s253.2), (111, .slice A257 s253.1.length n258), (112, .slice A51 r32.1.length n52), (113, .int .i64 x273)]) (by kernel_rfl) ?_
              obtain ⟨x282, hx283, hb255⟩ := bind_some hb255
              obtain ⟨p284, cs285, hR286, hA287, ha288⟩ := RepS.ixAt hx283 (hf242.mono hI256)
              have hi289 := ix_some hx283
              obtain ⟨A290, n291, rfl, hf292⟩ := sl_open hR286
              refine gl_indexAddrF (c := n52) (T' := 48) (e := 22) (xs := (.tmp 112)) (xi := (.tmp 113)) (kd := .i64) ha288 hi289.1 hi289.2.1 (by kernel_rfl) (by kernel_rfl) (by kernel_rfl) (by kernel_rfl) (by kernel_rfl) ?_
              refine gl_load (T' := 22) (xp := (.tmp 114)) (p := p284) (c := .slice A290 x282.length n291) (n := 1) (by kernel_rfl) (by kernel_rfl) (by kernel_rfl) (by kernel_rfl) hA287 ?_
              refine gl_buildSlice (T' := 48) (e := 22) (n := 1) (len := 1) (parts := #[(0, (.tmp 115))]) (l := [(0, .slice A290 x282.length n291)]) (cs := #[.slice A290 x282.length n291]) (by kernel_rfl) (by kernel_rfl) (by kernel_rfl) (by kernel_rfl) (by kernel_rfl) (fun g293 => ?_)
              have hO294 : OwnS (Kd.sl kS38) 22 I262 (some ⟨g293, 0, none⟩) 1 [x282] [(g293, .cells #[.slice A290 x282.length n291] 22)] := OwnS.lit (row_cons (l := [.slice A290 x282.length n291]) ⟨_, _, rfl, hf292⟩ (row_nil _ _)) rfl rfl rfl
              refine gl_reord (D := [(g293, .cells #[.slice A290 x282.length n291] 22)] ++ (C259 ++ (C222 ++ L))) (Reord.refl _) ?_
              obtain ⟨zs297, hz298, hb255⟩ := bind_some hb255
              refine gl_append (xv := .slice (some ⟨g293, 0, none⟩) [x282].length 1) (d := (Kd.sl kS38)) (t := 48) (tx := 48) (e := 22) (s := (.tmp 111)) (x := (.tmp 116)) (xs := s253.1) (fun X => [(g293, .cells #[.slice A290 x282.length n291] 22)] ++ (X ++ (C222 ++ L))) hz298 (by kernel_rfl) (by kernel_rfl) (by kernel_rfl) (by kernel_rfl) (by kernel_rfl) (by kernel_rfl) (fun X => (Upd.app _ (Upd.head _ X _))) hO260 (SrcOk.slice (c := 1) (e := 22) (n := 1) (OwnS.rd hO294 (Upd.selfC _ _)) (by kernel_rfl)) (fun A299 n300 C301 hO302 => ?_)
              refine gl_pure 1 [13, 23, 105, 106, 107] (K' := [(13, .slice A51 r32.1.length n52), (23, .slice A299 zs297.length n300), (105, .slice A171 zs218.length ((r32.1.length : Int).toNat)), (106, .int .i64 (zs218.length : Int)), (107, .int .i64 s253.2)]) (by kernel_rfl) ?_
              refine gl_atE (by kernel_rfl) ?_
              refine ge_block_normal ?_
              refine ge_seq ?_
              refine gk_region (by kernel_rfl) ?_
              refine gl_pure 2 [13, 23, 105, 106, 107] (K' := [(13, .slice A51 r32.1.length n52), (23, .slice A299 zs297.length n300), (105, .slice A171 zs218.length ((r32.1.length : Int).toNat)), (106, .int .i64 (zs218.length : Int)), (107, .int .i64 (IntKind.wrap .i64 (s253.2 + 1)))]) (by kernel_rfl) ?_
              refine gl_reord (D := C301 ++ (C222 ++ L)) (Reord.step (Upd.app _ (Upd.rmC _ _)) (Reord.step (Upd.app _ (Upd.rmC _ _)) (Reord.skipC (Reord.refl _)))) ?_
              refine gl_atE (by kernel_rfl) ?_
              obtain rfl := some_inj hb255
              exact ge_round fun t ht => ⟨A299, n300, C301, hO302, hI256, rfl, ht.pick (l := [13, 23, 105, 106, 107]) (by kernel_rfl)⟩
            · have hb255 := cond_f hc272 hb255
              refine gk_reord (D := C259 ++ L) (Reord.step (Upd.rmC _ _) (Reord.skipC (Reord.refl _))) ?_
              refine gk_exit (by kernel_rfl) ?_
              refine ge_seq_exit ?_
              obtain rfl := some_inj hb255
              refine ge_round_out (fun hrr => ?_) (by intro h; cases h)
              obtain rfl := hrr
              refine ge_block_hit (by kernel_rfl) ?_
              exact ge_mid fun t ht => ⟨A257, n258, C259, hO260, hI256, rfl, ht.pick (l := [23]) (by kernel_rfl)⟩
          · rintro t I269 L' ⟨A264, n265, C266, hO267, hI263, rfl, hK268⟩
            refine ge_at hK268 ?_
            refine ge_seq ?_
            refine gk_seq (by kernel_rfl) ?_
            refine gk_region (by kernel_rfl) ?_
            refine gl_pure 3 [6, 7] (K' := [(6, .slice A264 r251.length n265), (7, .int .i64 0)]) (by kernel_rfl) ?_
            refine gl_atE (by kernel_rfl) ?_
            refine ge_seq ?_
            refine gk_ret (by kernel_rfl) ?_
            obtain rfl := some_inj hr
            exact ge_result trivial (ResOk.tmp (by kernel_rfl) (ResOk.tmp (by kernel_rfl) ResOk.nil)) (Imm.trans (Imm.trans (Imm.trans (Imm.trans (Imm.trans (Imm.trans hI5 hI50) hI192) hJ214) hI226) hJ240) hI263) ⟨A264, n265, C266, hO267, rfl, rfl⟩
noncomputable def tocsinref04_letter (a0 : Int) : Bool :=
  ((((decide (a0 ≥ 97)) && (decide (a0 ≤ 122))) || ((decide (a0 ≥ 65)) && (decide (a0 ≤ 90)))) || (a0 == 95))
theorem tocsinref04_letter_walk {a0 : Int} {I : Imm} {r : Bool}  (hr : tocsinref04_letter a0 = r) (L : Own) :
    CallsTo Tryz.prog 157 #[.int .u8 a0] I L (fun v I' L' => v = .bool r ∧ L = L') := by
  replace hr : some (tocsinref04_letter a0) = some r := congrArg some hr
  unfold tocsinref04_letter at hr
  refine callsTo_body (N := 21) Tryz.func157 (by kernel_rfl) (by kernel_rfl) (by kernel_rfl) ?_
  refine gk_pick [0] (K' := [(0, .int .u8 a0)]) (by kernel_rfl) ?_
  refine gk_seq (by kernel_rfl) ?_
  refine gk_region (by kernel_rfl) ?_
  refine gl_pure 1 [0] (K' := [(0, .int .u8 a0)]) (by kernel_rfl) ?_
  refine gl_atE (by kernel_rfl) ?_
  refine ge_seq ?_
  refine gk_seq (by kernel_rfl) ?_
  obtain ⟨b3, hb4⟩ : ∃ z, z = ((((decide (a0 ≥ 97)) && (decide (a0 ≤ 122))) || ((decide (a0 ≥ 65)) && (decide (a0 ≤ 90)))) || (a0 == 95)) := ⟨_, rfl⟩
  refine gk_join (fun t I' L' => I ≤ I' ∧ L = L' ∧ Knows 21 [(2, .bool b3)] t) ?_ ?_
  · refine gk_region (by kernel_rfl) ?_
    refine gl_pure 3 [0, 5] (K' := [(0, .int .u8 a0), (5, .bool (decide (a0 ≥ 97)))]) (by kernel_rfl) ?_
    refine gl_case 5 (b := (decide (a0 ≥ 97))) (by kernel_rfl) (fun hc6 => ?_) (fun hc6 => ?_)
    · refine gl_pure 4 [0, 9] (K' := [(0, .int .u8 a0), (9, .bool (decide (a0 ≤ 122)))]) (by kernel_rfl) ?_
      refine gl_case 9 (b := (decide (a0 ≤ 122))) (by kernel_rfl) (fun hc7 => ?_) (fun hc7 => ?_)
      · refine gl_pure 12 [2] (K' := [(2, .bool true)]) (by kernel_rfl) ?_
        refine gl_atE (by kernel_rfl) ?_
        exact ge_mid fun t ht => ⟨(Imm.refl _), rfl, by rw [(show b3 = true from hb4.trans (by first | (rw [hc6, hc7]; done) | (rw [hc6, hc7]; rfl) | (simp [hc6, hc7]; done) | (simp only [hc6, hc7]; rfl) | (simp at *; omega)))]; exact ht.pick (l := [2]) (by kernel_rfl)⟩
      · refine gl_pure 3 [0, 9, 12] (K' := [(0, .int .u8 a0), (9, .bool false), (12, .bool (decide (a0 ≥ 65)))]) (by kernel_rfl) ?_
        refine gl_case 12 (b := (decide (a0 ≥ 65))) (by kernel_rfl) (fun hc8 => ?_) (fun hc8 => ?_)
        · refine gl_pure 5 [0, 17] (K' := [(0, .int .u8 a0), (17, .bool (decide (a0 ≤ 90)))]) (by kernel_rfl) ?_
          refine gl_case 17 (b := (decide (a0 ≤ 90))) (by kernel_rfl) (fun hc9 => ?_) (fun hc9 => ?_)
          · refine gl_pure 4 [2] (K' := [(2, .bool true)]) (by kernel_rfl) ?_
            refine gl_atE (by kernel_rfl) ?_
            exact ge_mid fun t ht => ⟨(Imm.refl _), rfl, by rw [(show b3 = true from hb4.trans (by first | (rw [hc6, hc7, hc8, hc9]; done) | (rw [hc6, hc7, hc8, hc9]; rfl) | (simp [hc6, hc7, hc8, hc9]; done) | (simp only [hc6, hc7, hc8, hc9]; rfl) | (simp at *; omega)))]; exact ht.pick (l := [2]) (by kernel_rfl)⟩
          · refine gl_pure 4 [2] (K' := [(2, .bool (a0 == 95))]) (by kernel_rfl) ?_
            refine gl_atE (by kernel_rfl) ?_
            exact ge_mid fun t ht => ⟨(Imm.refl _), rfl, by rw [(show b3 = (a0 == 95) from hb4.trans (by first | (rw [hc6, hc7, hc8, hc9]; done) | (rw [hc6, hc7, hc8, hc9]; rfl) | (simp [hc6, hc7, hc8, hc9]; done) | (simp only [hc6, hc7, hc8, hc9]; rfl) | (simp at *; omega)))]; exact ht.pick (l := [2]) (by kernel_rfl)⟩
        · refine gl_pure 9 [2] (K' := [(2, .bool (a0 == 95))]) (by kernel_rfl) ?_
          refine gl_atE (by kernel_rfl) ?_
          exact ge_mid fun t ht => ⟨(Imm.refl _), rfl, by rw [(show b3 = (a0 == 95) from hb4.trans (by first | (rw [hc6, hc7, hc8]; done) | (rw [hc6, hc7, hc8]; rfl) | (simp [hc6, hc7, hc8]; done) | (simp only [hc6, hc7, hc8]; rfl) | (simp at *; omega)))]; exact ht.pick (l := [2]) (by kernel_rfl)⟩
    · refine gl_pure 7 [0, 9, 12] (K' := [(0, .int .u8 a0), (9, .bool false), (12, .bool (decide (a0 ≥ 65)))]) (by kernel_rfl) ?_
      refine gl_case 12 (b := (decide (a0 ≥ 65))) (by kernel_rfl) (fun hc10 => ?_) (fun hc10 => ?_)
      · refine gl_pure 5 [0, 17] (K' := [(0, .int .u8 a0), (17, .bool (decide (a0 ≤ 90)))]) (by kernel_rfl) ?_
        refine gl_case 17 (b := (decide (a0 ≤ 90))) (by kernel_rfl) (fun hc11 => ?_) (fun hc11 => ?_)
        · refine gl_pure 4 [2] (K' := [(2, .bool true)]) (by kernel_rfl) ?_
          refine gl_atE (by kernel_rfl) ?_
          exact ge_mid fun t ht => ⟨(Imm.refl _), rfl, by rw [(show b3 = true from hb4.trans (by first | (rw [hc6, hc10, hc11]; done) | (rw [hc6, hc10, hc11]; rfl) | (simp [hc6, hc10, hc11]; done) | (simp only [hc6, hc10, hc11]; rfl) | (simp at *; omega)))]; exact ht.pick (l := [2]) (by kernel_rfl)⟩
        · refine gl_pure 4 [2] (K' := [(2, .bool (a0 == 95))]) (by kernel_rfl) ?_
          refine gl_atE (by kernel_rfl) ?_
          exact ge_mid fun t ht => ⟨(Imm.refl _), rfl, by rw [(show b3 = (a0 == 95) from hb4.trans (by first | (rw [hc6, hc10, hc11]; done) | (rw [hc6, hc10, hc11]; rfl) | (simp [hc6, hc10, hc11]; done) | (simp only [hc6, hc10, hc11]; rfl) | (simp at *; omega)))]; exact ht.pick (l := [2]) (by kernel_rfl)⟩
      · refine gl_pure 9 [2] (K' := [(2, .bool (a0 == 95))]) (by kernel_rfl) ?_
        refine gl_atE (by kernel_rfl) ?_
        exact ge_mid fun t ht => ⟨(Imm.refl _), rfl, by rw [(show b3 = (a0 == 95) from hb4.trans (by first | (rw [hc6, hc10]; done) | (rw [hc6, hc10]; rfl) | (simp [hc6, hc10]; done) | (simp only [hc6, hc10]; rfl) | (simp at *; omega)))]; exact ht.pick (l := [2]) (by kernel_rfl)⟩
  · rintro t I5 L' ⟨hI1, rfl, hK2⟩
    subst hb4
    refine ge_at hK2 ?_
    refine ge_seq ?_
    refine gk_ret (by kernel_rfl) ?_
    obtain rfl := some_inj hr
    exact ge_result trivial (ResOk.tmp (by kernel_rfl) ResOk.nil) hI1 ⟨rfl, rfl⟩
noncomputable def tocsinref04_digit (a0 : Int) : Bool :=
  ((decide (a0 ≥ 48)) && (decide (a0 ≤ 57)))
theorem tocsinref04_digit_walk {a0 : Int} {I : Imm} {r : Bool}  (hr : tocsinref04_digit a0 = r) (L : Own) :
    CallsTo Tryz.prog 158 #[.int .u8 a0] I L (fun v I' L' => v = .bool r ∧ L = L') := by
  replace hr : some (tocsinref04_digit a0) = some r := congrArg some hr
  unfold tocsinref04_digit at hr
  refine callsTo_body (N := 9) Tryz.func158 (by kernel_rfl) (by kernel_rfl) (by kernel_rfl) ?_
  refine gk_pick [0] (K' := [(0, .int .u8 a0)]) (by kernel_rfl) ?_
  refine gk_seq (by kernel_rfl) ?_
  refine gk_region (by kernel_rfl) ?_
  refine gl_pure 1 [0] (K' := [(0, .int .u8 a0)]) (by kernel_rfl) ?_
  refine gl_atE (by kernel_rfl) ?_
  refine ge_seq ?_
  refine gk_seq (by kernel_rfl) ?_
  obtain ⟨b3, hb4⟩ : ∃ z, z = ((decide (a0 ≥ 48)) && (decide (a0 ≤ 57))) := ⟨_, rfl⟩
  refine gk_join (fun t I' L' => I ≤ I' ∧ L = L' ∧ Knows 9 [(2, .bool b3)] t) ?_ ?_
  · refine gk_region (by kernel_rfl) ?_
    refine gl_pure 3 [0, 5] (K' := [(0, .int .u8 a0), (5, .bool (decide (a0 ≥ 48)))]) (by kernel_rfl) ?_
    refine gl_case 5 (b := (decide (a0 ≥ 48))) (by kernel_rfl) (fun hc6 => ?_) (fun hc6 => ?_)
    · refine gl_pure 4 [2] (K' := [(2, .bool (decide (a0 ≤ 57)))]) (by kernel_rfl) ?_
      refine gl_atE (by kernel_rfl) ?_
      exact ge_mid fun t ht => ⟨(Imm.refl _), rfl, by rw [(show b3 = (decide (a0 ≤ 57)) from hb4.trans (by first | (rw [hc6]; done) | (rw [hc6]; rfl) | (simp [hc6]; done) | (simp only [hc6]; rfl) | (simp at *; omega)))]; exact ht.pick (l := [2]) (by kernel_rfl)⟩
    · refine gl_pure 4 [2] (K' := [(2, .bool false)]) (by kernel_rfl) ?_
      refine gl_atE (by kernel_rfl) ?_
      exact ge_mid fun t ht => ⟨(Imm.refl _), rfl, by rw [(show b3 = false from hb4.trans (by first | (rw [hc6]; done) | (rw [hc6]; rfl) | (simp [hc6]; done) | (simp only [hc6]; rfl) | (simp at *; omega)))]; exact ht.pick (l := [2]) (by kernel_rfl)⟩
  · rintro t I5 L' ⟨hI1, rfl, hK2⟩
    subst hb4
    refine ge_at hK2 ?_
    refine ge_seq ?_
    refine gk_ret (by kernel_rfl) ?_
    obtain rfl := some_inj hr
    exact ge_result trivial (ResOk.tmp (by kernel_rfl) ResOk.nil) hI1 ⟨rfl, rfl⟩
noncomputable def tocsinref04_Name_l24 (a0 : ByteArray) : Int → Option ((Int) ⊕ ((Unit) ⊕ (Bool))) := fun s14 =>
  bif (decide (s14 < (a0.size : Int))) then
  (Option.bind (Option.bind (bx a0 s14) fun (c32 : Int) =>
      bif (!(tocsinref04_letter c32)) then
      (bif (s14 == 0) then
        (some true)
        else
        (Option.bind (bx a0 s14) fun (c36 : Int) =>
          some (!(tocsinref04_digit c36))))
      else
      (some false)) fun (j27 : Bool) =>
    bif j27 then
    (some (Sum.inr (Sum.inr false)))
    else
    (some (Sum.inl (IntKind.wrap .i64 (s14 + 1)))))
  else
  (some (Sum.inr (Sum.inl ())))
noncomputable def tocsinref04_Name (a0 : ByteArray) : Option Bool :=
  bif ((a0.toList == (⟨#[]⟩ : ByteArray).toList) || (decide ((a0.size : Int) > 64))) then
  (some false)
  else
  (Option.bind (loopO (tocsinref04_Name_l24 a0) 0) fun (r12 : (Unit) ⊕ (Bool)) =>
    match r12 with
    | Sum.inl r20 => some true
    | Sum.inr v39 => some v39)
theorem tocsinref04_Name_walk {a0 : ByteArray} {I : Imm} {r : Bool}  (hr : tocsinref04_Name a0 = some r) (L : Own) :
    CallsTo Tryz.prog 116 #[.string a0] I L (fun v I' L' => v = .bool r ∧ L = L') := by
  unfold tocsinref04_Name at hr
  refine callsTo_body (N := 33) Tryz.func116 (by kernel_rfl) (by kernel_rfl) (by kernel_rfl) ?_
  refine gk_pick [0] (K' := [(0, .string a0)]) (by kernel_rfl) ?_
  refine gk_seq (by kernel_rfl) ?_
  refine gk_region (by kernel_rfl) ?_
  refine gl_pure 1 [0] (K' := [(0, .string a0)]) (by kernel_rfl) ?_
  refine gl_atE (by kernel_rfl) ?_
  refine ge_seq ?_
  refine gk_seq (by kernel_rfl) ?_
  refine gk_seq (by kernel_rfl) ?_
  obtain ⟨b3, hb4⟩ : ∃ z, z = ((a0.toList == (⟨#[]⟩ : ByteArray).toList) || (decide ((a0.size : Int) > 64))) := ⟨_, rfl⟩
  refine gk_join (fun t I' L' => I ≤ I' ∧ L = L' ∧ Knows 33 [(0, .string a0), (10, .bool b3)] t) ?_ ?_
  · refine gk_region (by kernel_rfl) ?_
    refine gl_pure 3 [0, 6] (K' := [(0, .string a0), (6, .bool (a0.toList == (⟨#[]⟩ : ByteArray).toList))]) (by kernel_rfl) ?_
    refine gl_case 6 (b := (a0.toList == (⟨#[]⟩ : ByteArray).toList)) (by kernel_rfl) (fun hc6 => ?_) (fun hc6 => ?_)
    · refine gl_pure 4 [0, 10] (K' := [(0, .string a0), (10, .bool true)]) (by kernel_rfl) ?_
      refine gl_atE (by kernel_rfl) ?_
      exact ge_mid fun t ht => ⟨(Imm.refl _), rfl, by rw [(show b3 = true from hb4.trans (by first | (rw [hc6]; done) | (rw [hc6]; rfl) | (simp [hc6]; done) | (simp only [hc6]; rfl) | (simp at *; omega)))]; exact ht.pick (l := [0, 10]) (by kernel_rfl)⟩
    · refine gl_pure 4 [0, 10] (K' := [(0, .string a0), (10, .bool (decide ((a0.size : Int) > 64)))]) (by kernel_rfl) ?_
      refine gl_atE (by kernel_rfl) ?_
      exact ge_mid fun t ht => ⟨(Imm.refl _), rfl, by rw [(show b3 = (decide ((a0.size : Int) > 64)) from hb4.trans (by first | (rw [hc6]; done) | (rw [hc6]; rfl) | (simp [hc6]; done) | (simp only [hc6]; rfl) | (simp at *; omega)))]; exact ht.pick (l := [0, 10]) (by kernel_rfl)⟩
  · rintro t I5 L' ⟨hI1, rfl, hK2⟩
    subst hb4
    refine ge_at hK2 ?_
    refine ge_seq ?_
    refine gk_cond (b := ((a0.toList == (⟨#[]⟩ : ByteArray).toList) || (decide ((a0.size : Int) > 64)))) (by kernel_rfl) (by kernel_rfl) (fun hc7 => ?_) (fun hc7 => ?_)
    · have hr := cond_t hc7 hr
      refine gk_seq (by kernel_rfl) ?_
      refine gk_region (by kernel_rfl) ?_
      refine gl_pure 1 [2] (K' := [(2, .bool false)]) (by kernel_rfl) ?_
      refine gl_atE (by kernel_rfl) ?_
      refine ge_seq ?_
      refine gk_ret (by kernel_rfl) ?_
      refine ge_seq_ret ?_
      obtain rfl := some_inj hr
      exact ge_result trivial (ResOk.tmp (by kernel_rfl) ResOk.nil) hI1 ⟨rfl, rfl⟩
    · have hr := cond_f hc7 hr
      refine gk_skip (by kernel_rfl) ?_
      refine ge_seq ?_
      refine gk_seq (by kernel_rfl) ?_
      refine gk_seq (by kernel_rfl) ?_
      refine gk_region (by kernel_rfl) ?_
      refine gl_pure 3 [0, 12, 13] (K' := [(0, .string a0), (12, .int .i64 (a0.size : Int)), (13, .int .i64 0)]) (by kernel_rfl) ?_
      refine gl_atE (by kernel_rfl) ?_
      refine ge_seq ?_
      obtain ⟨r12, hl13, hr⟩ := bind_some hr
      refine gk_join (fun t I' L' => ∃ r20, r12 = Sum.inl r20 ∧ I5 ≤ I' ∧ L = L' ∧ Knows 33 [] t) ?_ ?_
      · refine gk_block (by kernel_rfl) ?_
        refine gk_pick [0, 12, 13] (K' := [(0, .string a0), (12, .int .i64 (a0.size : Int)), (13, .int .i64 0)]) (by kernel_rfl) ?_
        intro t hK
        refine gc_loop (tocsinref04_Name_l24 a0) (fun s14 t I' L' => I5 ≤ I' ∧ L = L' ∧ Knows 33 [(0, .string a0), (12, .int .i64 (a0.size : Int)), (13, .int .i64 s14)] t) (by kernel_rfl) ?_ hl13 ⟨(Imm.refl _), rfl, hK⟩
        rintro s14 o15 t I19 L' hb16 ⟨hI17, rfl, hK18⟩
        unfold tocsinref04_Name_l24 at hb16
        refine gk_at hK18 ?_
        refine gk_seq (by kernel_rfl) ?_
        refine gk_region (by kernel_rfl) ?_
        refine gl_pure 1 [0, 12, 13, 14] (K' := [(0, .string a0), (12, .int .i64 (a0.size : Int)), (13, .int .i64 s14), (14, .bool (decide (s14 < (a0.size : Int))))]) (by kernel_rfl) ?_
        refine gl_atE (by kernel_rfl) ?_
        refine ge_seq ?_
        refine gk_seq (by kernel_rfl) ?_
        refine gk_cond (b := (decide (s14 < (a0.size : Int)))) (by kernel_rfl) (by kernel_rfl) (fun hc26 => ?_) (fun hc26 => ?_)
        · have hb16 := cond_t hc26 hb16
          refine gk_skip (by kernel_rfl) ?_
          refine ge_seq ?_
          refine gk_seq (by kernel_rfl) ?_
          refine gk_block (by kernel_rfl) ?_
          refine gk_seq (by kernel_rfl) ?_
          refine gk_region (by kernel_rfl) ?_
          refine gl_pure 2 [0, 3, 12, 13] (K' := [(0, .string a0), (3, .int .i64 s14), (12, .int .i64 (a0.size : Int)), (13, .int .i64 s14)]) (by kernel_rfl) ?_
          refine gl_atE (by kernel_rfl) ?_
          refine ge_seq ?_
          refine gk_seq (by kernel_rfl) ?_
          obtain ⟨j27, hj28, hb16⟩ := bind_some hb16
          refine gk_join (fun t I' L' => I19 ≤ I' ∧ L = L' ∧ Knows 33 [(0, .string a0), (12, .int .i64 (a0.size : Int)), (13, .int .i64 s14), (31, .bool j27)] t) ?_ ?_
          · refine gk_region (by kernel_rfl) ?_
            refine gl_pure 2 [0, 3, 12, 13, 16, 17] (K' := [(0, .string a0), (3, .int .i64 s14), (12, .int .i64 (a0.size : Int)), (13, .int .i64 s14), (16, .string a0), (17, .int .i64 s14)]) (by kernel_rfl) ?_
            obtain ⟨c32, hx33, hj28⟩ := bind_some hj28
            refine gl_index' (T' := 9) (xs := (.tmp 16)) (xi := (.tmp 17)) (kd := .i64) hx33 (by kernel_rfl) (by kernel_rfl) (by kernel_rfl) (by kernel_rfl) (by kernel_rfl) ?_
            refine gl_callQ (by kernel_rfl) (tocsinref04_letter_walk (r := (tocsinref04_letter c32))  rfl _) ?_
            refine gl_pure 2 [0, 3, 12, 13, 21] (K' := [(0, .string a0), (3, .int .i64 s14), (12, .int .i64 (a0.size : Int)), (13, .int .i64 s14), (21, .bool (!(tocsinref04_letter c32)))]) (by kernel_rfl) ?_
            refine gl_case 21 (b := (!(tocsinref04_letter c32))) (by kernel_rfl) (fun hc34 => ?_) (fun hc34 => ?_)
            · have hj28 := cond_t hc34 hj28
              refine gl_pure 3 [0, 3, 12, 13, 21, 24] (K' := [(0, .string a0), (3, .int .i64 s14), (12, .int .i64 (a0.size : Int)), (13, .int .i64 s14), (21, .bool true), (24, .bool (s14 == 0))]) (by kernel_rfl) ?_
              refine gl_case 24 (b := (s14 == 0)) (by kernel_rfl) (fun hc35 => ?_) (fun hc35 => ?_)
              · have hj28 := cond_t hc35 hj28
                refine gl_pure 7 [0, 12, 13, 31] (K' := [(0, .string a0), (12, .int .i64 (a0.size : Int)), (13, .int .i64 s14), (31, .bool true)]) (by kernel_rfl) ?_
                refine gl_atE (by kernel_rfl) ?_
                obtain rfl := some_inj hj28
                exact ge_mid fun t ht => ⟨(Imm.refl _), rfl, ht.pick (l := [0, 12, 13, 31]) (by kernel_rfl)⟩
              · have hj28 := cond_f hc35 hj28
                refine gl_pure 2 [0, 12, 13, 21, 24, 25, 26] (K' := [(0, .string a0), (12, .int .i64 (a0.size : Int)), (13, .int .i64 s14), (21, .bool true), (24, .bool false), (25, .string a0), (26, .int .i64 s14)]) (by kernel_rfl) ?_
                obtain ⟨c36, hx37, hj28⟩ := bind_some hj28
                refine gl_index' (T' := 9) (xs := (.tmp 25)) (xi := (.tmp 26)) (kd := .i64) hx37 (by kernel_rfl) (by kernel_rfl) (by kernel_rfl) (by kernel_rfl) (by kernel_rfl) ?_
                refine gl_callQ (by kernel_rfl) (tocsinref04_digit_walk (r := (tocsinref04_digit c36))  rfl _) ?_
                refine gl_pure 3 [0, 12, 13, 31] (K' := [(0, .string a0), (12, .int .i64 (a0.size : Int)), (13, .int .i64 s14), (31, .bool (!(tocsinref04_digit c36)))]) (by kernel_rfl) ?_
                refine gl_atE (by kernel_rfl) ?_
                obtain rfl := some_inj hj28
                exact ge_mid fun t ht => ⟨(Imm.refl _), rfl, ht.pick (l := [0, 12, 13, 31]) (by kernel_rfl)⟩
            · have hj28 := cond_f hc34 hj28
              refine gl_pure 10 [0, 12, 13, 31] (K' := [(0, .string a0), (12, .int .i64 (a0.size : Int)), (13, .int .i64 s14), (31, .bool false)]) (by kernel_rfl) ?_
              refine gl_atE (by kernel_rfl) ?_
              obtain rfl := some_inj hj28
              exact ge_mid fun t ht => ⟨(Imm.refl _), rfl, ht.pick (l := [0, 12, 13, 31]) (by kernel_rfl)⟩
          · rintro t I31 L' ⟨hI29, rfl, hK30⟩
            refine ge_at hK30 ?_
            refine ge_seq ?_
            refine gk_cond (b := j27) (by kernel_rfl) (by kernel_rfl) (fun hc38 => ?_) (fun hc38 => ?_)
            · have hb16 := cond_t hc38 hb16
              refine gk_seq (by kernel_rfl) ?_
              refine gk_region (by kernel_rfl) ?_
              refine gl_pure 1 [2] (K' := [(2, .bool false)]) (by kernel_rfl) ?_
              refine gl_atE (by kernel_rfl) ?_
              refine ge_seq ?_
              refine gk_ret (by kernel_rfl) ?_
              refine ge_block_ret ?_
              refine ge_seq_ret ?_
              obtain rfl := some_inj hb16
              refine ge_round_out (fun hrr => ?_) (by intro h; cases h)
              obtain rfl := hrr
              refine ge_block_ret ?_
              refine ge_seq_ret ?_
              refine ge_seq_ret ?_
              obtain rfl := some_inj hr
              exact ge_result trivial (ResOk.tmp (by kernel_rfl) ResOk.nil) (Imm.trans (Imm.trans hI1 hI17) hI29) ⟨rfl, rfl⟩
            · have hb16 := cond_f hc38 hb16
              refine gk_skip (by kernel_rfl) ?_
              refine ge_block_normal ?_
              refine ge_seq ?_
              refine gk_region (by kernel_rfl) ?_
              refine gl_pure 2 [0, 12, 13] (K' := [(0, .string a0), (12, .int .i64 (a0.size : Int)), (13, .int .i64 (IntKind.wrap .i64 (s14 + 1)))]) (by kernel_rfl) ?_
              refine gl_atE (by kernel_rfl) ?_
              obtain rfl := some_inj hb16
              exact ge_round fun t ht => ⟨(Imm.trans hI17 hI29), rfl, ht.pick (l := [0, 12, 13]) (by kernel_rfl)⟩
        · have hb16 := cond_f hc26 hb16
          refine gk_exit (by kernel_rfl) ?_
          refine ge_seq_exit ?_
          obtain rfl := some_inj hb16
          refine ge_round_out (fun hrr => ?_) (by intro h; cases h)
          obtain rfl := hrr
          refine ge_block_hit (by kernel_rfl) ?_
          exact ge_mid fun t ht => ⟨_, rfl, hI17, rfl, ht.pick (l := []) (by kernel_rfl)⟩
      · rintro t I23 L' ⟨r20, rfl, hI21, rfl, hK22⟩
        refine ge_at hK22 ?_
        refine ge_seq ?_
        refine gk_seq (by kernel_rfl) ?_
        refine gk_region (by kernel_rfl) ?_
        refine gl_pure 1 [2] (K' := [(2, .bool true)]) (by kernel_rfl) ?_
        refine gl_atE (by kernel_rfl) ?_
        refine ge_seq ?_
        refine gk_ret (by kernel_rfl) ?_
        obtain rfl := some_inj hr
        exact ge_result trivial (ResOk.tmp (by kernel_rfl) ResOk.nil) (Imm.trans hI1 hI21) ⟨rfl, rfl⟩
noncomputable def tocsinref01_Utf8_l79 (a0 : ByteArray) (s7 : Int) (j37 : Int × Int × Int) : (Int × Int) → Option ((Int × Int) ⊕ ((Int) ⊕ ((Int) ⊕ ((Int) ⊕ ((Unit) ⊕ (Bool)))))) := fun s69 =>
  bif (decide (s69.2 ≤ j37.1)) then
  (Option.bind (bif (decide ((IntKind.wrap .i64 (s7 + s69.2)) ≥ (a0.size : Int))) then
      (some true)
      else
      (Option.bind (bx a0 (IntKind.wrap .i64 (s7 + s69.2))) fun (c88 : Int) =>
        some ((bitAnd .u8 c88 192) != 128))) fun (j82 : Bool) =>
    bif j82 then
    (some (Sum.inr (Sum.inr (Sum.inr (Sum.inr (Sum.inr false))))))
    else
    (Option.bind (bx a0 (IntKind.wrap .i64 (s7 + s69.2))) fun (c91 : Int) =>
      some (Sum.inl ((IntKind.wrap .i64 ((IntKind.wrap .i64 (s69.1 * 64)) + (IntKind.wrap .i64 (bitAnd .u8 c91 63)))), (IntKind.wrap .i64 (s69.2 + 1))))))
  else
  (some (Sum.inr (Sum.inl s69.1)))
noncomputable def tocsinref01_Utf8_l17 (a0 : ByteArray) : Int → Option ((Int) ⊕ ((Unit) ⊕ (Bool))) := fun s7 =>
  bif (decide (s7 < (a0.size : Int))) then
  (Option.bind ((Option.bind (bx a0 s7) fun (c26 : Int) =>
      bif (decide ((IntKind.wrap .i64 c26) < 128)) then
      (some (Sum.inl (IntKind.wrap .i64 (s7 + 1))))
      else
      (Option.bind ((bif ((decide ((IntKind.wrap .i64 c26) ≥ 194)) && (decide ((IntKind.wrap .i64 c26) < 224))) then
          (some (Sum.inl (1, 128, (bitAnd .i64 (IntKind.wrap .i64 c26) 31))))
          else
          (Option.bind ((bif ((decide ((IntKind.wrap .i64 c26) ≥ 224)) && (decide ((IntKind.wrap .i64 c26) < 240))) then
              (some (Sum.inl (2, 2048, (bitAnd .i64 (IntKind.wrap .i64 c26) 15))))
              else
              (bif ((decide ((IntKind.wrap .i64 c26) ≥ 240)) && (decide ((IntKind.wrap .i64 c26) < 245))) then
                (some (Sum.inl (3, 65536, (bitAnd .i64 (IntKind.wrap .i64 c26) 7))))
                else
                (some (Sum.inr (Sum.inr (Sum.inr (Sum.inr (Sum.inr false))))))) : Option ((Int × Int × Int) ⊕ ((Int × Int × Int) ⊕ ((Int) ⊕ ((Int) ⊕ ((Unit) ⊕ (Bool)))))))) fun (j48 : (Int × Int × Int) ⊕ ((Int × Int × Int) ⊕ ((Int) ⊕ ((Int) ⊕ ((Unit) ⊕ (Bool)))))) =>
            match j48 with
            | Sum.inl j50 => some (Sum.inl (j50.1, j50.2.1, j50.2.2))
            | Sum.inr v62 => some v62) : Option ((Int × Int × Int) ⊕ ((Int) ⊕ ((Int) ⊕ ((Unit) ⊕ (Bool))))))) fun (j35 : (Int × Int × Int) ⊕ ((Int) ⊕ ((Int) ⊕ ((Unit) ⊕ (Bool))))) =>
        match j35 with
        | Sum.inl j37 => Option.bind (loopO (tocsinref01_Utf8_l79 a0 s7 j37) (j37.2.2, 1)) fun (r67 : (Int) ⊕ ((Int) ⊕ ((Int) ⊕ ((Unit) ⊕ (Bool))))) =>
          match r67 with
          | Sum.inl r75 => bif (((decide (r75 < j37.2.1)) || (decide (r75 > 1114111))) || ((decide (r75 ≥ 55296)) && (decide (r75 < 57344)))) then
            (some (Sum.inr (Sum.inr (Sum.inr false))))
            else
            (some (Sum.inl (IntKind.wrap .i64 ((IntKind.wrap .i64 (s7 + j37.1)) + 1))))
          | Sum.inr v102 => some v102
        | Sum.inr v103 => some v103) : Option ((Int) ⊕ ((Int) ⊕ ((Unit) ⊕ (Bool)))))) fun (j20 : (Int) ⊕ ((Int) ⊕ ((Unit) ⊕ (Bool)))) =>
    match j20 with
    | Sum.inl j22 => some (Sum.inl j22)
    | Sum.inr v104 => some v104)
  else
  (some (Sum.inr (Sum.inl ())))
noncomputable def tocsinref01_Utf8 (a0 : ByteArray) : Option Bool :=
  Option.bind (loopO (tocsinref01_Utf8_l17 a0) 0) fun (r5 : (Unit) ⊕ (Bool)) =>
  match r5 with
  | Sum.inl r13 => some true
  | Sum.inr v105 => some v105
theorem tocsinref01_Utf8_walk {a0 : ByteArray} {I : Imm} {r : Bool}  (hr : tocsinref01_Utf8 a0 = some r) (L : Own) :
    CallsTo Tryz.prog 155 #[.string a0] I L (fun v I' L' => v = .bool r ∧ L = L') := by
  unfold tocsinref01_Utf8 at hr
  refine callsTo_body (N := 98) Tryz.func155 (by kernel_rfl) (by kernel_rfl) (by kernel_rfl) ?_
  refine gk_pick [0] (K' := [(0, .string a0)]) (by kernel_rfl) ?_
  refine gk_seq (by kernel_rfl) ?_
  refine gk_region (by kernel_rfl) ?_
  refine gl_pure 1 [0] (K' := [(0, .string a0)]) (by kernel_rfl) ?_
  refine gl_atE (by kernel_rfl) ?_
  refine ge_seq ?_
  refine gk_seq (by kernel_rfl) ?_
  refine gk_seq (by kernel_rfl) ?_
  refine gk_region (by kernel_rfl) ?_
  refine gl_pure 1 [0, 3] (K' := [(0, .string a0), (3, .int .i64 0)]) (by kernel_rfl) ?_
  refine gl_atE (by kernel_rfl) ?_
  refine ge_seq ?_
  obtain ⟨r5, hl6, hr⟩ := bind_some hr
  refine gk_join (fun t I' L' => ∃ r13, r5 = Sum.inl r13 ∧ I ≤ I' ∧ L = L' ∧ Knows 98 [] t) ?_ ?_
  · refine gk_block (by kernel_rfl) ?_
    refine gk_pick [0, 3] (K' := [(0, .string a0), (3, .int .i64 0)]) (by kernel_rfl) ?_
    intro t hK
    refine gc_loop (tocsinref01_Utf8_l17 a0) (fun s7 t I' L' => I ≤ I' ∧ L = L' ∧ Knows 98 [(0, .string a0), (3, .int .i64 s7)] t) (by kernel_rfl) ?_ hl6 ⟨(Imm.refl _), rfl, hK⟩
    rintro s7 o8 t I12 L' hb9 ⟨hI10, rfl, hK11⟩
    unfold tocsinref01_Utf8_l17 at hb9
    refine gk_at hK11 ?_
    refine gk_seq (by kernel_rfl) ?_
    refine gk_seq (by kernel_rfl) ?_
    refine gk_region (by kernel_rfl) ?_
    refine gl_pure 4 [0, 3, 12] (K' := [(0, .string a0), (3, .int .i64 s7), (12, .bool (decide (s7 < (a0.size : Int))))]) (by kernel_rfl) ?_
    refine gl_atE (by kernel_rfl) ?_
    refine ge_seq ?_
    refine gk_cond (b := (decide (s7 < (a0.size : Int)))) (by kernel_rfl) (by kernel_rfl) (fun hc19 => ?_) (fun hc19 => ?_)
    · have hb9 := cond_t hc19 hb9
      refine gk_skip (by kernel_rfl) ?_
      refine ge_seq ?_
      obtain ⟨j20, hj21, hb9⟩ := bind_some hb9
      refine gk_join (fun t I' L' => ∃ j22, j20 = Sum.inl j22 ∧ I12 ≤ I' ∧ L = L' ∧ Knows 98 [(0, .string a0), (3, .int .i64 j22)] t) ?_ ?_
      · refine gk_block (by kernel_rfl) ?_
        refine gk_seq (by kernel_rfl) ?_
        refine gk_region (by kernel_rfl) ?_
        refine gl_pure 2 [0, 3, 13, 14] (K' := [(0, .string a0), (3, .int .i64 s7), (13, .string a0), (14, .int .i64 s7)]) (by kernel_rfl) ?_
        obtain ⟨c26, hx27, hj21⟩ := bind_some hj21
        refine gl_index' (T' := 9) (xs := (.tmp 13)) (xi := (.tmp 14)) (kd := .i64) hx27 (by kernel_rfl) (by kernel_rfl) (by kernel_rfl) (by kernel_rfl) (by kernel_rfl) ?_
        refine gl_pure 2 [0, 3, 4] (K' := [(0, .string a0), (3, .int .i64 s7), (4, .int .i64 (IntKind.wrap .i64 c26))]) (by kernel_rfl) ?_
        refine gl_atE (by kernel_rfl) ?_
        refine ge_seq ?_
        refine gk_seq (by kernel_rfl) ?_
        refine gk_region (by kernel_rfl) ?_
        refine gl_pure 1 [0, 3, 4] (K' := [(0, .string a0), (3, .int .i64 s7), (4, .int .i64 (IntKind.wrap .i64 c26))]) (by kernel_rfl) ?_
        refine gl_atE (by kernel_rfl) ?_
        refine ge_seq ?_
        refine gk_seq (by kernel_rfl) ?_
        refine gk_region (by kernel_rfl) ?_
        refine gl_pure 1 [0, 3, 4] (K' := [(0, .string a0), (3, .int .i64 s7), (4, .int .i64 (IntKind.wrap .i64 c26))]) (by kernel_rfl) ?_
        refine gl_atE (by kernel_rfl) ?_
        refine ge_seq ?_
        refine gk_seq (by kernel_rfl) ?_
        refine gk_region (by kernel_rfl) ?_
        refine gl_pure 1 [0, 3, 4] (K' := [(0, .string a0), (3, .int .i64 s7), (4, .int .i64 (IntKind.wrap .i64 c26))]) (by kernel_rfl) ?_
        refine gl_atE (by kernel_rfl) ?_
        refine ge_seq ?_
        refine gk_seq (by kernel_rfl) ?_
        refine gk_block (by kernel_rfl) ?_
        refine gk_seq (by kernel_rfl) ?_
        refine gk_region (by kernel_rfl) ?_
        refine gl_pure 3 [0, 3, 4, 17] (K' := [(0, .string a0), (3, .int .i64 s7), (4, .int .i64 (IntKind.wrap .i64 c26)), (17, .bool (decide ((IntKind.wrap .i64 c26) < 128)))]) (by kernel_rfl) ?_
        refine gl_atE (by kernel_rfl) ?_
        refine ge_seq ?_
        refine gk_cond (b := (decide ((IntKind.wrap .i64 c26) < 128))) (by kernel_rfl) (by kernel_rfl) (fun hc28 => ?_) (fun hc28 => ?_)
        · have hj21 := cond_t hc28 hj21
          refine gk_seq (by kernel_rfl) ?_
          refine gk_region (by kernel_rfl) ?_
          refine gl_pure 3 [0, 3] (K' := [(0, .string a0), (3, .int .i64 (IntKind.wrap .i64 (s7 + 1)))]) (by kernel_rfl) ?_
          refine gl_atE (by kernel_rfl) ?_
          refine ge_seq ?_
          refine gk_exit (by kernel_rfl) ?_
          refine ge_block_miss (by kernel_rfl) ?_
          refine ge_seq_exit ?_
          refine ge_block_hit (by kernel_rfl) ?_
          obtain rfl := some_inj hj21
          exact ge_mid fun t ht => ⟨_, rfl, (Imm.refl _), rfl, ht.pick (l := [0, 3]) (by kernel_rfl)⟩
        · have hj21 := cond_f hc28 hj21
          refine gk_seq (by kernel_rfl) ?_
          obtain ⟨b31, hb32⟩ : ∃ z, z = ((decide ((IntKind.wrap .i64 c26) ≥ 194)) && (decide ((IntKind.wrap .i64 c26) < 224))) := ⟨_, rfl⟩
          refine gk_join (fun t I' L' => I12 ≤ I' ∧ L = L' ∧ Knows 98 [(0, .string a0), (3, .int .i64 s7), (4, .int .i64 (IntKind.wrap .i64 c26)), (22, .bool b31)] t) ?_ ?_
          · refine gk_region (by kernel_rfl) ?_
            refine gl_pure 3 [0, 3, 4, 25] (K' := [(0, .string a0), (3, .int .i64 s7), (4, .int .i64 (IntKind.wrap .i64 c26)), (25, .bool (decide ((IntKind.wrap .i64 c26) ≥ 194)))]) (by kernel_rfl) ?_
            refine gl_case 25 (b := (decide ((IntKind.wrap .i64 c26) ≥ 194))) (by kernel_rfl) (fun hc34 => ?_) (fun hc34 => ?_)
            · refine gl_pure 4 [0, 3, 4, 22] (K' := [(0, .string a0), (3, .int .i64 s7), (4, .int .i64 (IntKind.wrap .i64 c26)), (22, .bool (decide ((IntKind.wrap .i64 c26) < 224)))]) (by kernel_rfl) ?_
              refine gl_atE (by kernel_rfl) ?_
              exact ge_mid fun t ht => ⟨(Imm.refl _), rfl, by rw [(show b31 = (decide ((IntKind.wrap .i64 c26) < 224)) from hb32.trans (by first | (rw [hc34]; done) | (rw [hc34]; rfl) | (simp [hc34]; done) | (simp only [hc34]; rfl) | (simp at *; omega)))]; exact ht.pick (l := [0, 3, 4, 22]) (by kernel_rfl)⟩
            · refine gl_pure 4 [0, 3, 4, 22] (K' := [(0, .string a0), (3, .int .i64 s7), (4, .int .i64 (IntKind.wrap .i64 c26)), (22, .bool false)]) (by kernel_rfl) ?_
              refine gl_atE (by kernel_rfl) ?_
              exact ge_mid fun t ht => ⟨(Imm.refl _), rfl, by rw [(show b31 = false from hb32.trans (by first | (rw [hc34]; done) | (rw [hc34]; rfl) | (simp [hc34]; done) | (simp only [hc34]; rfl) | (simp at *; omega)))]; exact ht.pick (l := [0, 3, 4, 22]) (by kernel_rfl)⟩
          · rintro t I33 L' ⟨hI29, rfl, hK30⟩
            subst hb32
            refine ge_at hK30 ?_
            refine ge_seq ?_
            obtain ⟨j35, hj36, hj21⟩ := bind_some hj21
            refine gk_join (fun t I' L' => ∃ j37, j35 = Sum.inl j37 ∧ I33 ≤ I' ∧ L = L' ∧ Knows 98 [(0, .string a0), (3, .int .i64 s7), (5, .int .i64 j37.1), (6, .int .i64 j37.2.1), (7, .int .i64 j37.2.2)] t) ?_ ?_
            · refine gk_cond (b := ((decide ((IntKind.wrap .i64 c26) ≥ 194)) && (decide ((IntKind.wrap .i64 c26) < 224)))) (by kernel_rfl) (by kernel_rfl) (fun hc41 => ?_) (fun hc41 => ?_)
              · have hj36 := cond_t hc41 hj36
                refine gk_seq (by kernel_rfl) ?_
                refine gk_region (by kernel_rfl) ?_
                refine gl_pure 1 [0, 3, 4, 5] (K' := [(0, .string a0), (3, .int .i64 s7), (4, .int .i64 (IntKind.wrap .i64 c26)), (5, .int .i64 1)]) (by kernel_rfl) ?_
                refine gl_atE (by kernel_rfl) ?_
                refine ge_seq ?_
                refine gk_seq (by kernel_rfl) ?_
                refine gk_region (by kernel_rfl) ?_
                refine gl_pure 1 [0, 3, 4, 5, 6] (K' := [(0, .string a0), (3, .int .i64 s7), (4, .int .i64 (IntKind.wrap .i64 c26)), (5, .int .i64 1), (6, .int .i64 128)]) (by kernel_rfl) ?_
                refine gl_atE (by kernel_rfl) ?_
                refine ge_seq ?_
                refine gk_region (by kernel_rfl) ?_
                refine gl_pure 3 [0, 3, 5, 6, 7] (K' := [(0, .string a0), (3, .int .i64 s7), (5, .int .i64 1), (6, .int .i64 128), (7, .int .i64 (bitAnd .i64 (IntKind.wrap .i64 c26) 31))]) (by kernel_rfl) ?_
                refine gl_atE (by kernel_rfl) ?_
                obtain rfl := some_inj hj36
                exact ge_mid fun t ht => ⟨_, rfl, (Imm.refl _), rfl, ht.pick (l := [0, 3, 5, 6, 7]) (by kernel_rfl)⟩
              · have hj36 := cond_f hc41 hj36
                refine gk_seq (by kernel_rfl) ?_
                obtain ⟨b44, hb45⟩ : ∃ z, z = ((decide ((IntKind.wrap .i64 c26) ≥ 224)) && (decide ((IntKind.wrap .i64 c26) < 240))) := ⟨_, rfl⟩
                refine gk_join (fun t I' L' => I33 ≤ I' ∧ L = L' ∧ Knows 98 [(0, .string a0), (3, .int .i64 s7), (4, .int .i64 (IntKind.wrap .i64 c26)), (31, .bool b44)] t) ?_ ?_
                · refine gk_region (by kernel_rfl) ?_
                  refine gl_pure 3 [0, 3, 4, 34] (K' := [(0, .string a0), (3, .int .i64 s7), (4, .int .i64 (IntKind.wrap .i64 c26)), (34, .bool (decide ((IntKind.wrap .i64 c26) ≥ 224)))]) (by kernel_rfl) ?_
                  refine gl_case 34 (b := (decide ((IntKind.wrap .i64 c26) ≥ 224))) (by kernel_rfl) (fun hc47 => ?_) (fun hc47 => ?_)
                  · refine gl_pure 4 [0, 3, 4, 31] (K' := [(0, .string a0), (3, .int .i64 s7), (4, .int .i64 (IntKind.wrap .i64 c26)), (31, .bool (decide ((IntKind.wrap .i64 c26) < 240)))]) (by kernel_rfl) ?_
                    refine gl_atE (by kernel_rfl) ?_
                    exact ge_mid fun t ht => ⟨(Imm.refl _), rfl, by rw [(show b44 = (decide ((IntKind.wrap .i64 c26) < 240)) from hb45.trans (by first | (rw [hc47]; done) | (rw [hc47]; rfl) | (simp [hc47]; done) | (simp only [hc47]; rfl) | (simp at *; omega)))]; exact ht.pick (l := [0, 3, 4, 31]) (by kernel_rfl)⟩
                  · refine gl_pure 4 [0, 3, 4, 31] (K' := [(0, .string a0), (3, .int .i64 s7), (4, .int .i64 (IntKind.wrap .i64 c26)), (31, .bool false)]) (by kernel_rfl) ?_
                    refine gl_atE (by kernel_rfl) ?_
                    exact ge_mid fun t ht => ⟨(Imm.refl _), rfl, by rw [(show b44 = false from hb45.trans (by first | (rw [hc47]; done) | (rw [hc47]; rfl) | (simp [hc47]; done) | (simp only [hc47]; rfl) | (simp at *; omega)))]; exact ht.pick (l := [0, 3, 4, 31]) (by kernel_rfl)⟩
                · rintro t I46 L' ⟨hI42, rfl, hK43⟩
                  subst hb45
                  refine ge_at hK43 ?_
                  refine ge_seq ?_
                  obtain ⟨j48, hj49, hj36⟩ := bind_some hj36
                  refine gk_join (fun t I' L' => ∃ j50, j48 = Sum.inl j50 ∧ I46 ≤ I' ∧ L = L' ∧ Knows 98 [(0, .string a0), (3, .int .i64 s7), (5, .int .i64 j50.1), (6, .int .i64 j50.2.1), (7, .int .i64 j50.2.2)] t) ?_ ?_
                  · refine gk_cond (b := ((decide ((IntKind.wrap .i64 c26) ≥ 224)) && (decide ((IntKind.wrap .i64 c26) < 240)))) (by kernel_rfl) (by kernel_rfl) (fun hc54 => ?_) (fun hc54 => ?_)
                    · have hj49 := cond_t hc54 hj49
                      refine gk_seq (by kernel_rfl) ?_
                      refine gk_region (by kernel_rfl) ?_
                      refine gl_pure 1 [0, 3, 4, 5] (K' := [(0, .string a0), (3, .int .i64 s7), (4, .int .i64 (IntKind.wrap .i64 c26)), (5, .int .i64 2)]) (by kernel_rfl) ?_
                      refine gl_atE (by kernel_rfl) ?_
                      refine ge_seq ?_
                      refine gk_seq (by kernel_rfl) ?_
                      refine gk_region (by kernel_rfl) ?_
                      refine gl_pure 1 [0, 3, 4, 5, 6] (K' := [(0, .string a0), (3, .int .i64 s7), (4, .int .i64 (IntKind.wrap .i64 c26)), (5, .int .i64 2), (6, .int .i64 2048)]) (by kernel_rfl) ?_
                      refine gl_atE (by kernel_rfl) ?_
                      refine ge_seq ?_
                      refine gk_region (by kernel_rfl) ?_
                      refine gl_pure 3 [0, 3, 5, 6, 7] (K' := [(0, .string a0), (3, .int .i64 s7), (5, .int .i64 2), (6, .int .i64 2048), (7, .int .i64 (bitAnd .i64 (IntKind.wrap .i64 c26) 15))]) (by kernel_rfl) ?_
                      refine gl_atE (by kernel_rfl) ?_
                      obtain rfl := some_inj hj49
                      exact ge_mid fun t ht => ⟨_, rfl, (Imm.refl _), rfl, ht.pick (l := [0, 3, 5, 6, 7]) (by kernel_rfl)⟩
                    · have hj49 := cond_f hc54 hj49
                      refine gk_seq (by kernel_rfl) ?_
                      obtain ⟨b57, hb58⟩ : ∃ z, z = ((decide ((IntKind.wrap .i64 c26) ≥ 240)) && (decide ((IntKind.wrap .i64 c26) < 245))) := ⟨_, rfl⟩
                      refine gk_join (fun t I' L' => I46 ≤ I' ∧ L = L' ∧ Knows 98 [(0, .string a0), (3, .int .i64 s7), (4, .int .i64 (IntKind.wrap .i64 c26)), (40, .bool b57)] t) ?_ ?_
                      · refine gk_region (by kernel_rfl) ?_
                        refine gl_pure 3 [0, 3, 4, 43] (K' := [(0, .string a0), (3, .int .i64 s7), (4, .int .i64 (IntKind.wrap .i64 c26)), (43, .bool (decide ((IntKind.wrap .i64 c26) ≥ 240)))]) (by kernel_rfl) ?_
                        refine gl_case 43 (b := (decide ((IntKind.wrap .i64 c26) ≥ 240))) (by kernel_rfl) (fun hc60 => ?_) (fun hc60 => ?_)
                        · refine gl_pure 4 [0, 3, 4, 40] (K' := [(0, .string a0), (3, .int .i64 s7), (4, .int .i64 (IntKind.wrap .i64 c26)), (40, .bool (decide ((IntKind.wrap .i64 c26) < 245)))]) (by kernel_rfl) ?_
                          refine gl_atE (by kernel_rfl) ?_
                          exact ge_mid fun t ht => ⟨(Imm.refl _), rfl, by rw [(show b57 = (decide ((IntKind.wrap .i64 c26) < 245)) from hb58.trans (by first | (rw [hc60]; done) | (rw [hc60]; rfl) | (simp [hc60]; done) | (simp only [hc60]; rfl) | (simp at *; omega)))]; exact ht.pick (l := [0, 3, 4, 40]) (by kernel_rfl)⟩
                        · refine gl_pure 4 [0, 3, 4, 40] (K' := [(0, .string a0), (3, .int .i64 s7), (4, .int .i64 (IntKind.wrap .i64 c26)), (40, .bool false)]) (by kernel_rfl) ?_
                          refine gl_atE (by kernel_rfl) ?_
                          exact ge_mid fun t ht => ⟨(Imm.refl _), rfl, by rw [(show b57 = false from hb58.trans (by first | (rw [hc60]; done) | (rw [hc60]; rfl) | (simp [hc60]; done) | (simp only [hc60]; rfl) | (simp at *; omega)))]; exact ht.pick (l := [0, 3, 4, 40]) (by kernel_rfl)⟩
                      · rintro t I59 L' ⟨hI55, rfl, hK56⟩
                        subst hb58
                        refine ge_at hK56 ?_
                        refine ge_seq ?_
                        refine gk_cond (b := ((decide ((IntKind.wrap .i64 c26) ≥ 240)) && (decide ((IntKind.wrap .i64 c26) < 245)))) (by kernel_rfl) (by kernel_rfl) (fun hc61 => ?_) (fun hc61 => ?_)
                        · have hj49 := cond_t hc61 hj49
                          refine gk_seq (by kernel_rfl) ?_
                          refine gk_region (by kernel_rfl) ?_
                          refine gl_pure 1 [0, 3, 4, 5] (K' := [(0, .string a0), (3, .int .i64 s7), (4, .int .i64 (IntKind.wrap .i64 c26)), (5, .int .i64 3)]) (by kernel_rfl) ?_
                          refine gl_atE (by kernel_rfl) ?_
                          refine ge_seq ?_
                          refine gk_seq (by kernel_rfl) ?_
                          refine gk_region (by kernel_rfl) ?_
                          refine gl_pure 1 [0, 3, 4, 5, 6] (K' := [(0, .string a0), (3, .int .i64 s7), (4, .int .i64 (IntKind.wrap .i64 c26)), (5, .int .i64 3), (6, .int .i64 65536)]) (by kernel_rfl) ?_
                          refine gl_atE (by kernel_rfl) ?_
                          refine ge_seq ?_
                          refine gk_region (by kernel_rfl) ?_
                          refine gl_pure 3 [0, 3, 5, 6, 7] (K' := [(0, .string a0), (3, .int .i64 s7), (5, .int .i64 3), (6, .int .i64 65536), (7, .int .i64 (bitAnd .i64 (IntKind.wrap .i64 c26) 7))]) (by kernel_rfl) ?_
                          refine gl_atE (by kernel_rfl) ?_
                          obtain rfl := some_inj hj49
                          exact ge_mid fun t ht => ⟨_, rfl, hI55, rfl, ht.pick (l := [0, 3, 5, 6, 7]) (by kernel_rfl)⟩
                        · have hj49 := cond_f hc61 hj49
                          refine gk_seq (by kernel_rfl) ?_
                          refine gk_region (by kernel_rfl) ?_
                          refine gl_pure 1 [2] (K' := [(2, .bool false)]) (by kernel_rfl) ?_
                          refine gl_atE (by kernel_rfl) ?_
                          refine ge_seq ?_
                          refine gk_ret (by kernel_rfl) ?_
                          refine ge_seq_ret ?_
                          obtain rfl := some_inj hj49
                          refine ge_seq_ret ?_
                          obtain rfl := some_inj hj36
                          refine ge_block_ret ?_
                          refine ge_seq_ret ?_
                          refine ge_block_ret ?_
                          refine ge_seq_ret ?_
                          obtain rfl := some_inj hj21
                          obtain rfl := some_inj hb9
                          refine ge_round_out (fun hrr => ?_) (by intro h; cases h)
                          obtain rfl := hrr
                          refine ge_block_ret ?_
                          refine ge_seq_ret ?_
                          refine ge_seq_ret ?_
                          obtain rfl := some_inj hr
                          exact ge_result trivial (ResOk.tmp (by kernel_rfl) ResOk.nil) (Imm.trans (Imm.trans (Imm.trans hI10 hI29) hI42) hI55) ⟨rfl, rfl⟩
                  · rintro t I53 L' ⟨j50, rfl, hI51, rfl, hK52⟩
                    refine ge_at hK52 ?_
                    obtain rfl := some_inj hj36
                    exact ge_mid fun t ht => ⟨_, rfl, (Imm.trans hI42 hI51), rfl, ht.pick (l := [0, 3, 5, 6, 7]) (by kernel_rfl)⟩
            · rintro t I40 L' ⟨j37, rfl, hI38, rfl, hK39⟩
              refine ge_at hK39 ?_
              refine ge_block_normal ?_
              refine ge_seq ?_
              refine gk_seq (by kernel_rfl) ?_
              refine gk_seq (by kernel_rfl) ?_
              refine gk_region (by kernel_rfl) ?_
              refine gl_pure 1 [0, 3, 5, 6, 7, 8] (K' := [(0, .string a0), (3, .int .i64 s7), (5, .int .i64 j37.1), (6, .int .i64 j37.2.1), (7, .int .i64 j37.2.2), (8, .int .i64 1)]) (by kernel_rfl) ?_
              refine gl_atE (by kernel_rfl) ?_
              refine ge_seq ?_
              obtain ⟨r67, hl68, hj21⟩ := bind_some hj21
              refine gk_join (fun t I' L' => ∃ r75, r67 = Sum.inl r75 ∧ I40 ≤ I' ∧ L = L' ∧ Knows 98 [(0, .string a0), (3, .int .i64 s7), (5, .int .i64 j37.1), (6, .int .i64 j37.2.1), (7, .int .i64 r75)] t) ?_ ?_
              · refine gk_block (by kernel_rfl) ?_
                refine gk_pick [0, 3, 5, 6, 7, 8] (K' := [(0, .string a0), (3, .int .i64 s7), (5, .int .i64 j37.1), (6, .int .i64 j37.2.1), (7, .int .i64 j37.2.2), (8, .int .i64 1)]) (by kernel_rfl) ?_
                intro t hK
                refine gc_loop (tocsinref01_Utf8_l79 a0 s7 j37) (fun s69 t I' L' => I40 ≤ I' ∧ L = L' ∧ Knows 98 [(0, .string a0), (3, .int .i64 s7), (5, .int .i64 j37.1), (6, .int .i64 j37.2.1), (7, .int .i64 s69.1), (8, .int .i64 s69.2)] t) (by kernel_rfl) ?_ hl68 ⟨(Imm.refl _), rfl, hK⟩
                rintro s69 o70 t I74 L' hb71 ⟨hI72, rfl, hK73⟩
                unfold tocsinref01_Utf8_l79 at hb71
                refine gk_at hK73 ?_
                refine gk_seq (by kernel_rfl) ?_
                refine gk_seq (by kernel_rfl) ?_
                refine gk_region (by kernel_rfl) ?_
                refine gl_pure 3 [0, 3, 5, 6, 7, 8, 51] (K' := [(0, .string a0), (3, .int .i64 s7), (5, .int .i64 j37.1), (6, .int .i64 j37.2.1), (7, .int .i64 s69.1), (8, .int .i64 s69.2), (51, .bool (decide (s69.2 ≤ j37.1)))]) (by kernel_rfl) ?_
                refine gl_atE (by kernel_rfl) ?_
                refine ge_seq ?_
                refine gk_cond (b := (decide (s69.2 ≤ j37.1))) (by kernel_rfl) (by kernel_rfl) (fun hc81 => ?_) (fun hc81 => ?_)
                · have hb71 := cond_t hc81 hb71
                  refine gk_skip (by kernel_rfl) ?_
                  refine ge_seq ?_
                  refine gk_seq (by kernel_rfl) ?_
                  refine gk_block (by kernel_rfl) ?_
                  refine gk_seq (by kernel_rfl) ?_
                  refine gk_seq (by kernel_rfl) ?_
                  obtain ⟨j82, hj83, hb71⟩ := bind_some hb71
                  refine gk_join (fun t I' L' => I74 ≤ I' ∧ L = L' ∧ Knows 98 [(0, .string a0), (3, .int .i64 s7), (5, .int .i64 j37.1), (6, .int .i64 j37.2.1), (7, .int .i64 s69.1), (8, .int .i64 s69.2), (68, .bool j82)] t) ?_ ?_
                  · refine gk_region (by kernel_rfl) ?_
                    refine gl_pure 7 [0, 3, 5, 6, 7, 8, 60] (K' := [(0, .string a0), (3, .int .i64 s7), (5, .int .i64 j37.1), (6, .int .i64 j37.2.1), (7, .int .i64 s69.1), (8, .int .i64 s69.2), (60, .bool (decide ((IntKind.wrap .i64 (s7 + s69.2)) ≥ (a0.size : Int))))]) (by kernel_rfl) ?_
                    refine gl_case 60 (b := (decide ((IntKind.wrap .i64 (s7 + s69.2)) ≥ (a0.size : Int)))) (by kernel_rfl) (fun hc87 => ?_) (fun hc87 => ?_)
                    · have hj83 := cond_t hc87 hj83
                      refine gl_pure 8 [0, 3, 5, 6, 7, 8, 68] (K' := [(0, .string a0), (3, .int .i64 s7), (5, .int .i64 j37.1), (6, .int .i64 j37.2.1), (7, .int .i64 s69.1), (8, .int .i64 s69.2), (68, .bool true)]) (by kernel_rfl) ?_
                      refine gl_atE (by kernel_rfl) ?_
                      obtain rfl := some_inj hj83
                      exact ge_mid fun t ht => ⟨(Imm.refl _), rfl, ht.pick (l := [0, 3, 5, 6, 7, 8, 68]) (by kernel_rfl)⟩
                    · have hj83 := cond_f hc87 hj83
                      refine gl_pure 4 [0, 3, 5, 6, 7, 8, 60, 61, 64] (K' := [(0, .string a0), (3, .int .i64 s7), (5, .int .i64 j37.1), (6, .int .i64 j37.2.1), (7, .int .i64 s69.1), (8, .int .i64 s69.2), (60, .bool false), (61, .string a0), (64, .int .i64 (IntKind.wrap .i64 (s7 + s69.2)))]) (by kernel_rfl) ?_
                      obtain ⟨c88, hx89, hj83⟩ := bind_some hj83
                      refine gl_index' (T' := 9) (xs := (.tmp 61)) (xi := (.tmp 64)) (kd := .i64) hx89 (by kernel_rfl) (by kernel_rfl) (by kernel_rfl) (by kernel_rfl) (by kernel_rfl) ?_
                      refine gl_pure 3 [0, 3, 5, 6, 7, 8, 68] (K' := [(0, .string a0), (3, .int .i64 s7), (5, .int .i64 j37.1), (6, .int .i64 j37.2.1), (7, .int .i64 s69.1), (8, .int .i64 s69.2), (68, .bool ((bitAnd .u8 c88 192) != 128))]) (by kernel_rfl) ?_
                      refine gl_atE (by kernel_rfl) ?_
                      obtain rfl := some_inj hj83
                      exact ge_mid fun t ht => ⟨(Imm.refl _), rfl, ht.pick (l := [0, 3, 5, 6, 7, 8, 68]) (by kernel_rfl)⟩
                  · rintro t I86 L' ⟨hI84, rfl, hK85⟩
                    refine ge_at hK85 ?_
                    refine ge_seq ?_
                    refine gk_cond (b := j82) (by kernel_rfl) (by kernel_rfl) (fun hc90 => ?_) (fun hc90 => ?_)
                    · have hb71 := cond_t hc90 hb71
                      refine gk_seq (by kernel_rfl) ?_
                      refine gk_region (by kernel_rfl) ?_
                      refine gl_pure 1 [2] (K' := [(2, .bool false)]) (by kernel_rfl) ?_
                      refine gl_atE (by kernel_rfl) ?_
                      refine ge_seq ?_
                      refine gk_ret (by kernel_rfl) ?_
                      refine ge_seq_ret ?_
                      refine ge_block_ret ?_
                      refine ge_seq_ret ?_
                      obtain rfl := some_inj hb71
                      refine ge_round_out (fun hrr => ?_) (by intro h; cases h)
                      obtain rfl := hrr
                      refine ge_block_ret ?_
                      refine ge_seq_ret ?_
                      refine ge_seq_ret ?_
                      refine ge_block_ret ?_
                      refine ge_seq_ret ?_
                      obtain rfl := some_inj hj21
                      obtain rfl := some_inj hb9
                      refine ge_round_out (fun hrr => ?_) (by intro h; cases h)
                      obtain rfl := hrr
                      refine ge_block_ret ?_
                      refine ge_seq_ret ?_
                      refine ge_seq_ret ?_
                      obtain rfl := some_inj hr
                      exact ge_result trivial (ResOk.tmp (by kernel_rfl) ResOk.nil) (Imm.trans (Imm.trans (Imm.trans (Imm.trans hI10 hI29) hI38) hI72) hI84) ⟨rfl, rfl⟩
                    · have hb71 := cond_f hc90 hb71
                      refine gk_skip (by kernel_rfl) ?_
                      refine ge_seq ?_
                      refine gk_region (by kernel_rfl) ?_
                      refine gl_pure 6 [0, 3, 5, 6, 8, 70, 71, 74] (K' := [(0, .string a0), (3, .int .i64 s7), (5, .int .i64 j37.1), (6, .int .i64 j37.2.1), (8, .int .i64 s69.2), (70, .int .i64 (IntKind.wrap .i64 (s69.1 * 64))), (71, .string a0), (74, .int .i64 (IntKind.wrap .i64 (s7 + s69.2)))]) (by kernel_rfl) ?_
                      obtain ⟨c91, hx92, hb71⟩ := bind_some hb71
                      refine gl_index' (T' := 9) (xs := (.tmp 71)) (xi := (.tmp 74)) (kd := .i64) hx92 (by kernel_rfl) (by kernel_rfl) (by kernel_rfl) (by kernel_rfl) (by kernel_rfl) ?_
                      refine gl_pure 4 [0, 3, 5, 6, 7, 8] (K' := [(0, .string a0), (3, .int .i64 s7), (5, .int .i64 j37.1), (6, .int .i64 j37.2.1), (7, .int .i64 (IntKind.wrap .i64 ((IntKind.wrap .i64 (s69.1 * 64)) + (IntKind.wrap .i64 (bitAnd .u8 c91 63))))), (8, .int .i64 s69.2)]) (by kernel_rfl) ?_
                      refine gl_atE (by kernel_rfl) ?_
                      refine ge_block_normal ?_
                      refine ge_seq ?_
                      refine gk_region (by kernel_rfl) ?_
                      refine gl_pure 3 [0, 3, 5, 6, 7, 8] (K' := [(0, .string a0), (3, .int .i64 s7), (5, .int .i64 j37.1), (6, .int .i64 j37.2.1), (7, .int .i64 (IntKind.wrap .i64 ((IntKind.wrap .i64 (s69.1 * 64)) + (IntKind.wrap .i64 (bitAnd .u8 c91 63))))), (8, .int .i64 (IntKind.wrap .i64 (s69.2 + 1)))]) (by kernel_rfl) ?_
                      refine gl_atE (by kernel_rfl) ?_
                      obtain rfl := some_inj hb71
                      exact ge_round fun t ht => ⟨(Imm.trans hI72 hI84), rfl, ht.pick (l := [0, 3, 5, 6, 7, 8]) (by kernel_rfl)⟩
                · have hb71 := cond_f hc81 hb71
                  refine gk_exit (by kernel_rfl) ?_
                  refine ge_seq_exit ?_
                  obtain rfl := some_inj hb71
                  refine ge_round_out (fun hrr => ?_) (by intro h; cases h)
                  obtain rfl := hrr
                  refine ge_block_hit (by kernel_rfl) ?_
                  exact ge_mid fun t ht => ⟨_, rfl, hI72, rfl, ht.pick (l := [0, 3, 5, 6, 7]) (by kernel_rfl)⟩
              · rintro t I78 L' ⟨r75, rfl, hI76, rfl, hK77⟩
                refine ge_at hK77 ?_
                refine ge_seq ?_
                refine gk_seq (by kernel_rfl) ?_
                refine gk_seq (by kernel_rfl) ?_
                obtain ⟨b95, hb96⟩ : ∃ z, z = (((decide (r75 < j37.2.1)) || (decide (r75 > 1114111))) || ((decide (r75 ≥ 55296)) && (decide (r75 < 57344)))) := ⟨_, rfl⟩
                refine gk_join (fun t I' L' => I78 ≤ I' ∧ L = L' ∧ Knows 98 [(0, .string a0), (3, .int .i64 s7), (5, .int .i64 j37.1), (93, .bool b95)] t) ?_ ?_
                · refine gk_region (by kernel_rfl) ?_
                  refine gl_pure 4 [0, 3, 5, 7, 82] (K' := [(0, .string a0), (3, .int .i64 s7), (5, .int .i64 j37.1), (7, .int .i64 r75), (82, .bool (decide (r75 < j37.2.1)))]) (by kernel_rfl) ?_
                  refine gl_case 82 (b := (decide (r75 < j37.2.1))) (by kernel_rfl) (fun hc98 => ?_) (fun hc98 => ?_)
                  · refine gl_pure 11 [0, 3, 5, 93] (K' := [(0, .string a0), (3, .int .i64 s7), (5, .int .i64 j37.1), (93, .bool true)]) (by kernel_rfl) ?_
                    refine gl_atE (by kernel_rfl) ?_
                    exact ge_mid fun t ht => ⟨(Imm.refl _), rfl, by rw [(show b95 = true from hb96.trans (by first | (rw [hc98]; done) | (rw [hc98]; rfl) | (simp [hc98]; done) | (simp only [hc98]; rfl) | (simp at *; omega)))]; exact ht.pick (l := [0, 3, 5, 93]) (by kernel_rfl)⟩
                  · refine gl_pure 4 [0, 3, 5, 7, 86] (K' := [(0, .string a0), (3, .int .i64 s7), (5, .int .i64 j37.1), (7, .int .i64 r75), (86, .bool (decide (r75 > 1114111)))]) (by kernel_rfl) ?_
                    refine gl_case 86 (b := (decide (r75 > 1114111))) (by kernel_rfl) (fun hc99 => ?_) (fun hc99 => ?_)
                    · refine gl_pure 7 [0, 3, 5, 93] (K' := [(0, .string a0), (3, .int .i64 s7), (5, .int .i64 j37.1), (93, .bool true)]) (by kernel_rfl) ?_
                      refine gl_atE (by kernel_rfl) ?_
                      exact ge_mid fun t ht => ⟨(Imm.refl _), rfl, by rw [(show b95 = true from hb96.trans (by first | (rw [hc98, hc99]; done) | (rw [hc98, hc99]; rfl) | (simp [hc98, hc99]; done) | (simp only [hc98, hc99]; rfl) | (simp at *; omega)))]; exact ht.pick (l := [0, 3, 5, 93]) (by kernel_rfl)⟩
                    · refine gl_pure 3 [0, 3, 5, 7, 86, 89] (K' := [(0, .string a0), (3, .int .i64 s7), (5, .int .i64 j37.1), (7, .int .i64 r75), (86, .bool false), (89, .bool (decide (r75 ≥ 55296)))]) (by kernel_rfl) ?_
                      refine gl_case 89 (b := (decide (r75 ≥ 55296))) (by kernel_rfl) (fun hc100 => ?_) (fun hc100 => ?_)
                      · refine gl_pure 4 [0, 3, 5, 93] (K' := [(0, .string a0), (3, .int .i64 s7), (5, .int .i64 j37.1), (93, .bool (decide (r75 < 57344)))]) (by kernel_rfl) ?_
                        refine gl_atE (by kernel_rfl) ?_
                        exact ge_mid fun t ht => ⟨(Imm.refl _), rfl, by rw [(show b95 = (decide (r75 < 57344)) from hb96.trans (by first | (rw [hc98, hc99, hc100]; done) | (rw [hc98, hc99, hc100]; rfl) | (simp [hc98, hc99, hc100]; done) | (simp only [hc98, hc99, hc100]; rfl) | (simp at *; omega)))]; exact ht.pick (l := [0, 3, 5, 93]) (by kernel_rfl)⟩
                      · refine gl_pure 4 [0, 3, 5, 93] (K' := [(0, .string a0), (3, .int .i64 s7), (5, .int .i64 j37.1), (93, .bool false)]) (by kernel_rfl) ?_
                        refine gl_atE (by kernel_rfl) ?_
                        exact ge_mid fun t ht => ⟨(Imm.refl _), rfl, by rw [(show b95 = false from hb96.trans (by first | (rw [hc98, hc99, hc100]; done) | (rw [hc98, hc99, hc100]; rfl) | (simp [hc98, hc99, hc100]; done) | (simp only [hc98, hc99, hc100]; rfl) | (simp at *; omega)))]; exact ht.pick (l := [0, 3, 5, 93]) (by kernel_rfl)⟩
                · rintro t I97 L' ⟨hI93, rfl, hK94⟩
                  subst hb96
                  refine ge_at hK94 ?_
                  refine ge_seq ?_
                  refine gk_cond (b := (((decide (r75 < j37.2.1)) || (decide (r75 > 1114111))) || ((decide (r75 ≥ 55296)) && (decide (r75 < 57344))))) (by kernel_rfl) (by kernel_rfl) (fun hc101 => ?_) (fun hc101 => ?_)
                  · have hj21 := cond_t hc101 hj21
                    refine gk_seq (by kernel_rfl) ?_
                    refine gk_region (by kernel_rfl) ?_
                    refine gl_pure 1 [2] (K' := [(2, .bool false)]) (by kernel_rfl) ?_
                    refine gl_atE (by kernel_rfl) ?_
                    refine ge_seq ?_
                    refine gk_ret (by kernel_rfl) ?_
                    refine ge_seq_ret ?_
                    refine ge_block_ret ?_
                    refine ge_seq_ret ?_
                    obtain rfl := some_inj hj21
                    obtain rfl := some_inj hb9
                    refine ge_round_out (fun hrr => ?_) (by intro h; cases h)
                    obtain rfl := hrr
                    refine ge_block_ret ?_
                    refine ge_seq_ret ?_
                    refine ge_seq_ret ?_
                    obtain rfl := some_inj hr
                    exact ge_result trivial (ResOk.tmp (by kernel_rfl) ResOk.nil) (Imm.trans (Imm.trans (Imm.trans (Imm.trans hI10 hI29) hI38) hI76) hI93) ⟨rfl, rfl⟩
                  · have hj21 := cond_f hc101 hj21
                    refine gk_skip (by kernel_rfl) ?_
                    refine ge_seq ?_
                    refine gk_region (by kernel_rfl) ?_
                    refine gl_pure 5 [0, 3] (K' := [(0, .string a0), (3, .int .i64 (IntKind.wrap .i64 ((IntKind.wrap .i64 (s7 + j37.1)) + 1)))]) (by kernel_rfl) ?_
                    refine gl_atE (by kernel_rfl) ?_
                    refine ge_block_normal ?_
                    obtain rfl := some_inj hj21
                    exact ge_mid fun t ht => ⟨_, rfl, (Imm.trans (Imm.trans (Imm.trans hI29 hI38) hI76) hI93), rfl, ht.pick (l := [0, 3]) (by kernel_rfl)⟩
      · rintro t I25 L' ⟨j22, rfl, hI23, rfl, hK24⟩
        refine ge_at hK24 ?_
        obtain rfl := some_inj hb9
        exact ge_round fun t ht => ⟨(Imm.trans hI10 hI23), rfl, ht.pick (l := [0, 3]) (by kernel_rfl)⟩
    · have hb9 := cond_f hc19 hb9
      refine gk_exit (by kernel_rfl) ?_
      refine ge_seq_exit ?_
      obtain rfl := some_inj hb9
      refine ge_round_out (fun hrr => ?_) (by intro h; cases h)
      obtain rfl := hrr
      refine ge_block_hit (by kernel_rfl) ?_
      exact ge_mid fun t ht => ⟨_, rfl, hI10, rfl, ht.pick (l := []) (by kernel_rfl)⟩
  · rintro t I16 L' ⟨r13, rfl, hI14, rfl, hK15⟩
    refine ge_at hK15 ?_
    refine ge_seq ?_
    refine gk_seq (by kernel_rfl) ?_
    refine gk_region (by kernel_rfl) ?_
    refine gl_pure 1 [2] (K' := [(2, .bool true)]) (by kernel_rfl) ?_
    refine gl_atE (by kernel_rfl) ?_
    refine ge_seq ?_
    refine gk_ret (by kernel_rfl) ?_
    obtain rfl := some_inj hr
    exact ge_result trivial (ResOk.tmp (by kernel_rfl) ResOk.nil) hI14 ⟨rfl, rfl⟩
noncomputable def tocsinref04_one (a0 : S76) : Option Int :=
  Option.bind (tocsinref04_Name a0.f0) fun (y2 : Bool) =>
  bif (!y2) then
  (some 40)
  else
  (bif (a0.f1.toList == (⟨#[]⟩ : ByteArray).toList) then
    (some 41)
    else
    (bif (decide ((a0.f1.size : Int) > 256)) then
      (some 4)
      else
      (Option.bind (tocsinref01_Utf8 a0.f1) fun (y7 : Bool) =>
        bif (!y7) then
        (some 12)
        else
        (some 0))))
theorem tocsinref04_one_walk {a0 : S76} {I : Imm} {r : Int}  (hr : tocsinref04_one a0 = some r) (L : Own) :
    CallsTo Tryz.prog 110 #[.agg #[.string a0.f0, .string a0.f1]] I L (fun v I' L' => v = .int .i64 r ∧ L = L') := by
  unfold tocsinref04_one at hr
  refine callsTo_body (N := 22) Tryz.func110 (by kernel_rfl) (by kernel_rfl) (by kernel_rfl) ?_
  refine gk_pick [0] (K' := [(0, .agg #[.string a0.f0, .string a0.f1])]) (by kernel_rfl) ?_
  refine gk_seq (by kernel_rfl) ?_
  refine gk_region (by kernel_rfl) ?_
  refine gl_box (T' := 77) (x := (.tmp 0)) (v := .agg #[.string a0.f0, .string a0.f1]) (cs := #[.string a0.f0, .string a0.f1]) (by kernel_rfl) (by kernel_rfl) (by kernel_rfl) (by kernel_rfl) (fun g1 => ?_)
  refine gl_pure 1 [1] (K' := [(1, .pointer (some ⟨g1, 0, none⟩))]) (by kernel_rfl) ?_
  refine gl_atE (by kernel_rfl) ?_
  refine ge_seq ?_
  refine gk_seq (by kernel_rfl) ?_
  refine gk_block (by kernel_rfl) ?_
  refine gk_seq (by kernel_rfl) ?_
  refine gk_region (by kernel_rfl) ?_
  refine gl_pure 1 [1, 4] (K' := [(1, .pointer (some ⟨g1, 0, none⟩)), (4, .pointer (some ⟨g1, 0, none⟩))]) (by kernel_rfl) ?_
  refine gl_loadB (T' := 9) (xp := (.tmp 4)) (v := .string a0.f0) (g := g1) (off := 0) (cs := #[.string a0.f0, .string a0.f1]) (e := 77) (fz := (0, 0)) (by kernel_rfl) (by kernel_rfl) (by kernel_rfl) List.mem_cons_self (by kernel_rfl) ?_
  obtain ⟨y2, hx3, hr⟩ := bind_some hr
  refine gl_callQ (by kernel_rfl) (tocsinref04_Name_walk (r := y2)  hx3 _) ?_
  refine gl_pure 2 [1, 3] (K' := [(1, .pointer (some ⟨g1, 0, none⟩)), (3, .bool (!y2))]) (by kernel_rfl) ?_
  refine gl_atE (by kernel_rfl) ?_
  refine ge_seq ?_
  refine gk_cond (b := (!y2)) (by kernel_rfl) (by kernel_rfl) (fun hc4 => ?_) (fun hc4 => ?_)
  · have hr := cond_t hc4 hr
    refine gk_seq (by kernel_rfl) ?_
    refine gk_region (by kernel_rfl) ?_
    refine gl_pure 1 [2] (K' := [(2, .int .i64 40)]) (by kernel_rfl) ?_
    refine gl_atE (by kernel_rfl) ?_
    refine ge_seq ?_
    refine gk_reord (D := L) (Reord.skip (Reord.refl _)) ?_
    refine gk_ret (by kernel_rfl) ?_
    refine ge_block_ret ?_
    refine ge_seq_ret ?_
    obtain rfl := some_inj hr
    exact ge_result trivial (ResOk.tmp (by kernel_rfl) ResOk.nil) (Imm.refl _) ⟨rfl, rfl⟩
  · have hr := cond_f hc4 hr
    refine gk_seq (by kernel_rfl) ?_
    refine gk_region (by kernel_rfl) ?_
    refine gl_pure 1 [1, 9] (K' := [(1, .pointer (some ⟨g1, 0, none⟩)), (9, .pointer (some ⟨g1, 1, none⟩))]) (by kernel_rfl) ?_
    refine gl_loadB (T' := 9) (xp := (.tmp 9)) (v := .string a0.f1) (g := g1) (off := 1) (cs := #[.string a0.f0, .string a0.f1]) (e := 77) (fz := (0, 0)) (by kernel_rfl) (by kernel_rfl) (by kernel_rfl) List.mem_cons_self (by kernel_rfl) ?_
    refine gl_pure 2 [1, 8] (K' := [(1, .pointer (some ⟨g1, 0, none⟩)), (8, .bool (a0.f1.toList == (⟨#[]⟩ : ByteArray).toList))]) (by kernel_rfl) ?_
    refine gl_atE (by kernel_rfl) ?_
    refine ge_seq ?_
    refine gk_cond (b := (a0.f1.toList == (⟨#[]⟩ : ByteArray).toList)) (by kernel_rfl) (by kernel_rfl) (fun hc5 => ?_) (fun hc5 => ?_)
    · have hr := cond_t hc5 hr
      refine gk_seq (by kernel_rfl) ?_
      refine gk_region (by kernel_rfl) ?_
      refine gl_pure 1 [2] (K' := [(2, .int .i64 41)]) (by kernel_rfl) ?_
      refine gl_atE (by kernel_rfl) ?_
      refine ge_seq ?_
      refine gk_reord (D := L) (Reord.skip (Reord.refl _)) ?_
      refine gk_ret (by kernel_rfl) ?_
      refine ge_block_ret ?_
      refine ge_seq_ret ?_
      obtain rfl := some_inj hr
      exact ge_result trivial (ResOk.tmp (by kernel_rfl) ResOk.nil) (Imm.refl _) ⟨rfl, rfl⟩
    · have hr := cond_f hc5 hr
      refine gk_seq (by kernel_rfl) ?_
      refine gk_region (by kernel_rfl) ?_
      refine gl_pure 1 [1, 13] (K' := [(1, .pointer (some ⟨g1, 0, none⟩)), (13, .pointer (some ⟨g1, 1, none⟩))]) (by kernel_rfl) ?_
      refine gl_loadB (T' := 9) (xp := (.tmp 13)) (v := .string a0.f1) (g := g1) (off := 1) (cs := #[.string a0.f0, .string a0.f1]) (e := 77) (fz := (0, 0)) (by kernel_rfl) (by kernel_rfl) (by kernel_rfl) List.mem_cons_self (by kernel_rfl) ?_
      refine gl_pure 3 [1, 12] (K' := [(1, .pointer (some ⟨g1, 0, none⟩)), (12, .bool (decide ((a0.f1.size : Int) > 256)))]) (by kernel_rfl) ?_
      refine gl_atE (by kernel_rfl) ?_
      refine ge_seq ?_
      refine gk_cond (b := (decide ((a0.f1.size : Int) > 256))) (by kernel_rfl) (by kernel_rfl) (fun hc6 => ?_) (fun hc6 => ?_)
      · have hr := cond_t hc6 hr
        refine gk_seq (by kernel_rfl) ?_
        refine gk_region (by kernel_rfl) ?_
        refine gl_pure 1 [2] (K' := [(2, .int .i64 4)]) (by kernel_rfl) ?_
        refine gl_atE (by kernel_rfl) ?_
        refine ge_seq ?_
        refine gk_reord (D := L) (Reord.skip (Reord.refl _)) ?_
        refine gk_ret (by kernel_rfl) ?_
        refine ge_block_ret ?_
        refine ge_seq_ret ?_
        obtain rfl := some_inj hr
        exact ge_result trivial (ResOk.tmp (by kernel_rfl) ResOk.nil) (Imm.refl _) ⟨rfl, rfl⟩
      · have hr := cond_f hc6 hr
        refine gk_seq (by kernel_rfl) ?_
        refine gk_region (by kernel_rfl) ?_
        refine gl_pure 1 [18] (K' := [(18, .pointer (some ⟨g1, 1, none⟩))]) (by kernel_rfl) ?_
        refine gl_loadB (T' := 9) (xp := (.tmp 18)) (v := .string a0.f1) (g := g1) (off := 1) (cs := #[.string a0.f0, .string a0.f1]) (e := 77) (fz := (0, 0)) (by kernel_rfl) (by kernel_rfl) (by kernel_rfl) List.mem_cons_self (by kernel_rfl) ?_
        obtain ⟨y7, hx8, hr⟩ := bind_some hr
        refine gl_callQ (by kernel_rfl) (tocsinref01_Utf8_walk (r := y7)  hx8 _) ?_
        refine gl_pure 2 [17] (K' := [(17, .bool (!y7))]) (by kernel_rfl) ?_
        refine gl_atE (by kernel_rfl) ?_
        refine ge_seq ?_
        refine gk_cond (b := (!y7)) (by kernel_rfl) (by kernel_rfl) (fun hc9 => ?_) (fun hc9 => ?_)
        · have hr := cond_t hc9 hr
          refine gk_seq (by kernel_rfl) ?_
          refine gk_region (by kernel_rfl) ?_
          refine gl_pure 1 [2] (K' := [(2, .int .i64 12)]) (by kernel_rfl) ?_
          refine gl_atE (by kernel_rfl) ?_
          refine ge_seq ?_
          refine gk_reord (D := L) (Reord.skip (Reord.refl _)) ?_
          refine gk_ret (by kernel_rfl) ?_
          refine ge_block_ret ?_
          refine ge_seq_ret ?_
          obtain rfl := some_inj hr
          exact ge_result trivial (ResOk.tmp (by kernel_rfl) ResOk.nil) (Imm.refl _) ⟨rfl, rfl⟩
        · have hr := cond_f hc9 hr
          refine gk_skip (by kernel_rfl) ?_
          refine ge_block_normal ?_
          refine ge_seq ?_
          refine gk_seq (by kernel_rfl) ?_
          refine gk_region (by kernel_rfl) ?_
          refine gl_pure 1 [2] (K' := [(2, .int .i64 0)]) (by kernel_rfl) ?_
          refine gl_atE (by kernel_rfl) ?_
          refine ge_seq ?_
          refine gk_reord (D := L) (Reord.skip (Reord.refl _)) ?_
          refine gk_ret (by kernel_rfl) ?_
          obtain rfl := some_inj hr
          exact ge_result trivial (ResOk.tmp (by kernel_rfl) ResOk.nil) (Imm.refl _) ⟨rfl, rfl⟩
noncomputable def tocsinref04_Right_l18 (a0 : List S76) : Int → Option ((Int) ⊕ ((Unit) ⊕ (Int × Int))) := fun s8 =>
  bif (decide (s8 < (a0.length : Int))) then
  (Option.bind (ix a0 s8) fun (x21 : S76) =>
    Option.bind (tocsinref04_one x21) fun (y30 : Int) =>
    bif (y30 != 0) then
    (some (Sum.inr (Sum.inr (y30, s8))))
    else
    (Option.bind (bif (decide (s8 > 0)) then
        (Option.bind (ix a0 (IntKind.wrap .i64 (s8 - 1))) fun (x39 : S76) =>
          some (!(Op.bytesLess x39.f0.toList x21.f0.toList)))
        else
        (some false)) fun (j33 : Bool) =>
      bif j33 then
      (some (Sum.inr (Sum.inr (3, s8))))
      else
      (some (Sum.inl (IntKind.wrap .i64 (s8 + 1))))))
  else
  (some (Sum.inr (Sum.inl ())))
noncomputable def tocsinref04_Right (a0 : List S76) : Option (Int × Int) :=
  bif (decide ((a0.length : Int) > 16)) then
  (some (8, 0))
  else
  (Option.bind (loopO (tocsinref04_Right_l18 a0) 0) fun (r6 : (Unit) ⊕ (Int × Int)) =>
    match r6 with
    | Sum.inl r14 => some (0, 0)
    | Sum.inr v48 => some v48)
theorem tocsinref04_Right_walk {a0 : List S76} {A0_0 : Option Addr} {n0_0 : Nat} {I : Imm} {r : Int × Int}  (hf0_0 : RepS kS76 I A0_0 n0_0 a0) (hr : tocsinref04_Right a0 = some r) (L : Own) :
    CallsTo Tryz.prog 58 #[.slice A0_0 a0.length n0_0] I L (fun v I' L' => v = .tuple #[.int .i64 r.1, .int .i64 r.2] ∧ L = L') := by
  unfold tocsinref04_Right at hr
  refine callsTo_body (N := 38) Tryz.func58 (by kernel_rfl) (by kernel_rfl) (by kernel_rfl) ?_
  refine gk_pick [0] (K' := [(0, .slice A0_0 a0.length n0_0)]) (by kernel_rfl) ?_
  refine gk_seq (by kernel_rfl) ?_
  refine gk_region (by kernel_rfl) ?_
  refine gl_pure 2 [0] (K' := [(0, .slice A0_0 a0.length n0_0)]) (by kernel_rfl) ?_
  refine gl_atE (by kernel_rfl) ?_
  refine ge_seq ?_
  refine gk_seq (by kernel_rfl) ?_
  refine gk_seq (by kernel_rfl) ?_
  refine gk_region (by kernel_rfl) ?_
  refine gl_pure 3 [0, 9] (K' := [(0, .slice A0_0 a0.length n0_0), (9, .bool (decide ((a0.length : Int) > 16)))]) (by kernel_rfl) ?_
  refine gl_atE (by kernel_rfl) ?_
  refine ge_seq ?_
  refine gk_cond (b := (decide ((a0.length : Int) > 16))) (by kernel_rfl) (by kernel_rfl) (fun hc1 => ?_) (fun hc1 => ?_)
  · have hr := cond_t hc1 hr
    refine gk_seq (by kernel_rfl) ?_
    refine gk_region (by kernel_rfl) ?_
    refine gl_pure 2 [2, 3] (K' := [(2, .int .i64 8), (3, .int .i64 0)]) (by kernel_rfl) ?_
    refine gl_atE (by kernel_rfl) ?_
    refine ge_seq ?_
    refine gk_ret (by kernel_rfl) ?_
    refine ge_seq_ret ?_
    obtain rfl := some_inj hr
    exact ge_result trivial (ResOk.tmp (by kernel_rfl) (ResOk.tmp (by kernel_rfl) ResOk.nil)) (Imm.refl _) ⟨rfl, rfl⟩
  · have hr := cond_f hc1 hr
    refine gk_skip (by kernel_rfl) ?_
    refine ge_seq ?_
    refine gk_seq (by kernel_rfl) ?_
    refine gk_seq (by kernel_rfl) ?_
    refine gk_region (by kernel_rfl) ?_
    refine gl_pure 3 [0, 10, 11, 12] (K' := [(0, .slice A0_0 a0.length n0_0), (10, .slice A0_0 a0.length n0_0), (11, .int .i64 (a0.length : Int)), (12, .int .i64 0)]) (by kernel_rfl) ?_
    refine gl_atE (by kernel_rfl) ?_
    refine ge_seq ?_
    obtain ⟨r6, hl7, hr⟩ := bind_some hr
    refine gk_join (fun t I' L' => ∃ r14, r6 = Sum.inl r14 ∧ I ≤ I' ∧ L = L' ∧ Knows 38 [] t) ?_ ?_
    · refine gk_block (by kernel_rfl) ?_
      refine gk_pick [0, 10, 11, 12] (K' := [(0, .slice A0_0 a0.length n0_0), (10, .slice A0_0 a0.length n0_0), (11, .int .i64 (a0.length : Int)), (12, .int .i64 0)]) (by kernel_rfl) ?_
      intro t hK
      refine gc_loop (tocsinref04_Right_l18 a0) (fun s8 t I' L' => I ≤ I' ∧ L = L' ∧ Knows 38 [(0, .slice A0_0 a0.length n0_0), (10, .slice A0_0 a0.length n0_0), (11, .int .i64 (a0.length : Int)), (12, .int .i64 s8)] t) (by kernel_rfl) ?_ hl7 ⟨(Imm.refl _), rfl, hK⟩
      rintro s8 o9 t I13 L' hb10 ⟨hI11, rfl, hK12⟩
      unfold tocsinref04_Right_l18 at hb10
      refine gk_at hK12 ?_
      refine gk_seq (by kernel_rfl) ?_
      refine gk_region (by kernel_rfl) ?_
      refine gl_pure 1 [0, 10, 11, 12, 13] (K' := [(0, .slice A0_0 a0.length n0_0), (10, .slice A0_0 a0.length n0_0), (11, .int .i64 (a0.length : Int)), (12, .int .i64 s8), (13, .bool (decide (s8 < (a0.length : Int))))]) (by kernel_rfl) ?_
      refine gl_atE (by kernel_rfl) ?_
      refine ge_seq ?_
      refine gk_seq (by kernel_rfl) ?_
      refine gk_cond (b := (decide (s8 < (a0.length : Int)))) (by kernel_rfl) (by kernel_rfl) (fun hc20 => ?_) (fun hc20 => ?_)
      · have hb10 := cond_t hc20 hb10
        refine gk_skip (by kernel_rfl) ?_
        refine ge_seq ?_
        refine gk_seq (by kernel_rfl) ?_
        refine gk_block (by kernel_rfl) ?_
        refine gk_seq (by kernel_rfl) ?_
        refine gk_region (by kernel_rfl) ?_
        refine gl_pure 1 [0, 10, 11, 12, 14] (K' := [(0, .slice A0_0 a0.length n0_0), (10, .slice A0_0 a0.length n0_0), (11, .int .i64 (a0.length : Int)), (12, .int .i64 s8), (14, .int .i64 s8)]) (by kernel_rfl) ?_
        obtain ⟨x21, hx22, hb10⟩ := bind_some hb10
        obtain ⟨p23, cs24, hR25, hA26, ha27⟩ := RepS.ixAt hx22 (hf0_0.mono hI11)
        have hi28 := ix_some hx22
        obtain rfl := kS76_open hR25
        refine gl_indexAddrF (c := n0_0) (T' := 36) (e := 77) (xs := (.tmp 10)) (xi := (.tmp 12)) (kd := .i64) ha27 hi28.1 hi28.2.1 (by kernel_rfl) (by kernel_rfl) (by kernel_rfl) (by kernel_rfl) (by kernel_rfl) ?_
        refine gl_loadA (T' := 77) (xp := (.tmp 15)) (p := p23) (cs := [.string x21.f0, .string x21.f1]) (by kernel_rfl) (by kernel_rfl) (by kernel_rfl) (by kernel_rfl) (hA26.take 2) ?_
        refine gl_alloc (T' := 77) (cs := #[.string (⟨#[]⟩ : ByteArray), .string (⟨#[]⟩ : ByteArray)]) (by kernel_rfl) (by kernel_rfl) (by kernel_rfl) (fun g29 => ?_)
        refine gl_pure 1 [0, 4, 5, 10, 11, 12, 16] (K' := [(0, .slice A0_0 a0.length n0_0), (4, .int .i64 s8), (5, .pointer (some ⟨g29, 0, none⟩)), (10, .slice A0_0 a0.length n0_0), (11, .int .i64 (a0.length : Int)), (12, .int .i64 s8), (16, .agg #[.string x21.f0, .string x21.f1])]) (by kernel_rfl) ?_
        refine gl_storeB (T' := 77) (xp := (.tmp 5)) (xv := (.tmp 16)) (v := .agg #[.string x21.f0, .string x21.f1]) (g := g29) (off := 0) (cs := #[.string (⟨#[]⟩ : ByteArray), .string (⟨#[]⟩ : ByteArray)]) (cs' := #[.string x21.f0, .string x21.f1]) (by kernel_rfl) (by kernel_rfl) (by kernel_rfl) (by kernel_rfl) (by kernel_rfl) (Upd.set _ _ _ _) ?_ (by kernel_rfl)
        refine gl_atE (by kernel_rfl) ?_
        refine ge_seq ?_
        refine gk_seq (by kernel_rfl) ?_
        refine gk_seq (by kernel_rfl) ?_
        refine gk_region (by kernel_rfl) ?_
        refine gl_loadB (T' := 77) (xp := (.tmp 5)) (v := .agg #[.string x21.f0, .string x21.f1]) (g := g29) (off := 0) (cs := #[.string x21.f0, .string x21.f1]) (e := 77) (fz := (0, 0)) (by kernel_rfl) (by kernel_rfl) (by kernel_rfl) List.mem_cons_self (by kernel_rfl) ?_
        obtain ⟨y30, hx31, hb10⟩ := bind_some hb10
        refine gl_callQ (by kernel_rfl) (tocsinref04_one_walk (r := y30)  hx31 _) ?_
        refine gl_pure 1 [0, 4, 5, 6, 10, 11, 12] (K' := [(0, .slice A0_0 a0.length n0_0), (4, .int .i64 s8), (5, .pointer (some ⟨g29, 0, none⟩)), (6, .int .i64 y30), (10, .slice A0_0 a0.length n0_0), (11, .int .i64 (a0.length : Int)), (12, .int .i64 s8)]) (by kernel_rfl) ?_
        refine gl_atE (by kernel_rfl) ?_
        refine ge_seq ?_
        refine gk_seq (by kernel_rfl) ?_
        refine gk_region (by kernel_rfl) ?_
        refine gl_pure 2 [0, 4, 5, 6, 10, 11, 12, 20] (K' := [(0, .slice A0_0 a0.length n0_0), (4, .int .i64 s8), (5, .pointer (some ⟨g29, 0, none⟩)), (6, .int .i64 y30), (10, .slice A0_0 a0.length n0_0), (11, .int .i64 (a0.length : Int)), (12, .int .i64 s8), (20, .bool (y30 != 0))]) (by kernel_rfl) ?_
        refine gl_atE (by kernel_rfl) ?_
        refine ge_seq ?_
        refine gk_cond (b := (y30 != 0)) (by kernel_rfl) (by kernel_rfl) (fun hc32 => ?_) (fun hc32 => ?_)
        · have hb10 := cond_t hc32 hb10
          refine gk_seq (by kernel_rfl) ?_
          refine gk_region (by kernel_rfl) ?_
          refine gl_pure 4 [2, 3] (K' := [(2, .int .i64 y30), (3, .int .i64 s8)]) (by kernel_rfl) ?_
          refine gl_atE (by kernel_rfl) ?_
          refine ge_seq ?_
          refine gk_reord (D := L) (Reord.skip (Reord.refl _)) ?_
          refine gk_ret (by kernel_rfl) ?_
          refine ge_seq_ret ?_
          refine ge_block_ret ?_
          refine ge_seq_ret ?_
          obtain rfl := some_inj hb10
          refine ge_round_out (fun hrr => ?_) (by intro h; cases h)
          obtain rfl := hrr
          refine ge_block_ret ?_
          refine ge_seq_ret ?_
          refine ge_seq_ret ?_
          obtain rfl := some_inj hr
          exact ge_result trivial (ResOk.tmp (by kernel_rfl) (ResOk.tmp (by kernel_rfl) ResOk.nil)) hI11 ⟨rfl, rfl⟩
        · have hb10 := cond_f hc32 hb10
          refine gk_skip (by kernel_rfl) ?_
          refine ge_seq ?_
          refine gk_seq (by kernel_rfl) ?_
          obtain ⟨j33, hj34, hb10⟩ := bind_some hb10
          refine gk_join (fun t I' L' => I13 ≤ I' ∧ L = L' ∧ Knows 38 [(0, .slice A0_0 a0.length n0_0), (4, .int .i64 s8), (10, .slice A0_0 a0.length n0_0), (11, .int .i64 (a0.length : Int)), (12, .int .i64 s8), (35, .bool j33)] t) ?_ ?_
          · refine gk_draw 13 [(0, true), (1, true), (2, true), (3, true), (4, true), (5, true), (6, true), (7, true), (8, true), (9, true), (10, true), (11, true), (12, true)] [(g29, .cells #[.string x21.f0, .string x21.f1] 77)] (List.forall_mem_cons.2 ⟨List.mem_cons_self, (fun p hp => by cases hp)⟩) (by kernel_rfl) (by kernel_rfl) (by kernel_rfl) ?_ (by kernel_rfl)
            refine gd_pure 3 [0, 4, 5, 10, 11, 12, 25] (K' := [(0, .slice A0_0 a0.length n0_0), (4, .int .i64 s8), (5, .pointer (some ⟨g29, 0, none⟩)), (10, .slice A0_0 a0.length n0_0), (11, .int .i64 (a0.length : Int)), (12, .int .i64 s8), (25, .bool (decide (s8 > 0)))]) (s' := [(3, true), (4, true), (5, true), (6, true), (7, true), (8, true), (9, true), (10, true), (11, true), (12, true)]) (CC.refl (List.forall_mem_cons.2 ⟨List.mem_cons_self, (fun p hp => by cases hp)⟩)) (by kernel_rfl) ?_
            refine gd_case 25 (b := (decide (s8 > 0))) (by kernel_rfl) (fun hc38 => ?_) (fun hc38 => ?_)
            · have hj34 := cond_t hc38 hj34
              refine gd_pure 3 [0, 4, 5, 10, 11, 12, 25, 26, 28] (K' := [(0, .slice A0_0 a0.length n0_0), (4, .int .i64 s8), (5, .pointer (some ⟨g29, 0, none⟩)), (10, .slice A0_0 a0.length n0_0), (11, .int .i64 (a0.length : Int)), (12, .int .i64 s8), (25, .bool true), (26, .slice A0_0 a0.length n0_0), (28, .int .i64 (IntKind.wrap .i64 (s8 - 1)))]) (s' := [(6, true), (7, true), (8, true), (9, true), (10, true), (11, true), (12, true)]) (CC.refl (List.forall_mem_cons.2 ⟨List.mem_cons_self, (fun p hp => by cases hp)⟩)) (by kernel_rfl) ?_
              obtain ⟨x39, hx40, hj34⟩ := bind_some hj34
              obtain ⟨p41, cs42, hR43, hA44, ha45⟩ := RepS.ixAt hx40 (hf0_0.mono hI11)
              have hi46 := ix_some hx40
              obtain rfl := kS76_open hR43
              refine gd_q (v := .pointer (some p41)) (by kernel_rfl) (by kernel_rfl) (CC.refl (List.forall_mem_cons.2 ⟨List.mem_cons_self, (fun p hp => by cases hp)⟩)) (fun I' L' T hC kk => gl_indexAddrF (c := n0_0) (T' := 36) (e := 77) (xs := (.tmp 26)) (xi := (.tmp 28)) (kd := .i64) ha45 hi46.1 hi46.2.1 (by kernel_rfl) (by kernel_rfl) (by kernel_rfl) (by kernel_rfl) (by kernel_rfl) kk) ?_
              refine gd_pure 1 [0, 4, 5, 10, 11, 12, 25, 30] (K' := [(0, .slice A0_0 a0.length n0_0), (4, .int .i64 s8), (5, .pointer (some ⟨g29, 0, none⟩)), (10, .slice A0_0 a0.length n0_0), (11, .int .i64 (a0.length : Int)), (12, .int .i64 s8), (25, .bool true), (30, .pointer (some (p41.add 0)))]) (s' := [(8, true), (9, true), (10, true), (11, true), (12, true)]) (CC.refl (List.forall_mem_cons.2 ⟨List.mem_cons_self, (fun p hp => by cases hp)⟩)) (by kernel_rfl) ?_
              refine gd_q (v := .string x39.f0) (by kernel_rfl) (by kernel_rfl) (CC.refl (List.forall_mem_cons.2 ⟨List.mem_cons_self, (fun p hp => by cases hp)⟩)) (fun I' L' T hC kk => gl_load (T' := 9) (xp := (.tmp 30)) (p := (p41.add 0)) (c := .string x39.f0) (n := 1) (by kernel_rfl) (by kernel_rfl) (by kernel_rfl) (by kernel_rfl) ((hA44.drop 0).mono hC.le) kk) ?_
              refine gd_pure 1 [0, 4, 10, 11, 12, 25, 31, 32] (K' := [(0, .slice A0_0 a0.length n0_0), (4, .int .i64 s8), (10, .slice A0_0 a0.length n0_0), (11, .int .i64 (a0.length : Int)), (12, .int .i64 s8), (25, .bool true), (31, .string x39.f0), (32, .pointer (some ⟨g29, 0, none⟩))]) (s' := [(10, true), (11, true), (12, true)]) (CC.refl (List.forall_mem_cons.2 ⟨List.mem_cons_self, (fun p hp => by cases hp)⟩)) (by kernel_rfl) ?_
              refine gd_q (v := .string x21.f0) (by kernel_rfl) (by kernel_rfl) (CC.refl (List.forall_mem_cons.2 ⟨List.mem_cons_self, (fun p hp => by cases hp)⟩)) (fun I' L' T hC kk => gl_loadB (T' := 9) (xp := (.tmp 32)) (v := .string x21.f0) (g := g29) (off := 0) (cs := #[.string x21.f0, .string x21.f1]) (e := 77) (fz := (0, 0)) (by kernel_rfl) (by kernel_rfl) (by kernel_rfl) (hC.sub _ List.mem_cons_self) (by kernel_rfl) kk) ?_
              refine gd_pure 2 [0, 4, 10, 11, 12, 35] (K' := [(0, .slice A0_0 a0.length n0_0), (4, .int .i64 s8), (10, .slice A0_0 a0.length n0_0), (11, .int .i64 (a0.length : Int)), (12, .int .i64 s8), (35, .bool (!(Op.bytesLess x39.f0.toList x21.f0.toList)))]) (s' := []) (CC.refl (List.forall_mem_cons.2 ⟨List.mem_cons_self, (fun p hp => by cases hp)⟩)) (by kernel_rfl) ?_
              refine gd_done ?_
              refine gl_reord (D := L) (Reord.skip (Reord.refl _)) ?_
              refine gl_atE (by kernel_rfl) ?_
              obtain rfl := some_inj hj34
              exact ge_mid fun t ht => ⟨(Imm.refl _), rfl, ht.pick (l := [0, 4, 10, 11, 12, 35]) (by kernel_rfl)⟩
            · have hj34 := cond_f hc38 hj34
              refine gd_pure 10 [0, 4, 10, 11, 12, 35] (K' := [(0, .slice A0_0 a0.length n0_0), (4, .int .i64 s8), (10, .slice A0_0 a0.length n0_0), (11, .int .i64 (a0.length : Int)), (12, .int .i64 s8), (35, .bool false)]) (s' := []) (CC.refl (List.forall_mem_cons.2 ⟨List.mem_cons_self, (fun p hp => by cases hp)⟩)) (by kernel_rfl) ?_
              refine gd_done ?_
              refine gl_reord (D := L) (Reord.skip (Reord.refl _)) ?_
              refine gl_atE (by kernel_rfl) ?_
              obtain rfl := some_inj hj34
              exact ge_mid fun t ht => ⟨(Imm.refl _), rfl, ht.pick (l := [0, 4, 10, 11, 12, 35]) (by kernel_rfl)⟩
          · rintro t I37 L' ⟨hI35, rfl, hK36⟩
            refine ge_at hK36 ?_
            refine ge_seq ?_
            refine gk_cond (b := j33) (by kernel_rfl) (by kernel_rfl) (fun hc47 => ?_) (fun hc47 => ?_)
            · have hb10 := cond_t hc47 hb10
              refine gk_seq (by kernel_rfl) ?_
              refine gk_region (by kernel_rfl) ?_
              refine gl_pure 3 [2, 3] (K' := [(2, .int .i64 3), (3, .int .i64 s8)]) (by kernel_rfl) ?_
              refine gl_atE (by kernel_rfl) ?_
              refine ge_seq ?_
              refine gk_ret (by kernel_rfl) ?_
              refine ge_block_ret ?_
              refine ge_seq_ret ?_
              obtain rfl := some_inj hb10
              refine ge_round_out (fun hrr => ?_) (by intro h; cases h)
              obtain rfl := hrr
              refine ge_block_ret ?_
              refine ge_seq_ret ?_
              refine ge_seq_ret ?_
              obtain rfl := some_inj hr
              exact ge_result trivial (ResOk.tmp (by kernel_rfl) (ResOk.tmp (by kernel_rfl) ResOk.nil)) (Imm.trans hI11 hI35) ⟨rfl, rfl⟩
            · have hb10 := cond_f hc47 hb10
              refine gk_skip (by kernel_rfl) ?_
              refine ge_block_normal ?_
              refine ge_seq ?_
              refine gk_region (by kernel_rfl) ?_
              refine gl_pure 2 [0, 10, 11, 12] (K' := [(0, .slice A0_0 a0.length n0_0), (10, .slice A0_0 a0.length n0_0), (11, .int .i64 (a0.length : Int)), (12, .int .i64 (IntKind.wrap .i64 (s8 + 1)))]) (by kernel_rfl) ?_
              refine gl_atE (by kernel_rfl) ?_
              obtain rfl := some_inj hb10
              exact ge_round fun t ht => ⟨(Imm.trans hI11 hI35), rfl, ht.pick (l := [0, 10, 11, 12]) (by kernel_rfl)⟩
      · have hb10 := cond_f hc20 hb10
        refine gk_exit (by kernel_rfl) ?_
        refine ge_seq_exit ?_
        obtain rfl := some_inj hb10
        refine ge_round_out (fun hrr => ?_) (by intro h; cases h)
        obtain rfl := hrr
        refine ge_block_hit (by kernel_rfl) ?_
        exact ge_mid fun t ht => ⟨_, rfl, hI11, rfl, ht.pick (l := []) (by kernel_rfl)⟩
    · rintro t I17 L' ⟨r14, rfl, hI15, rfl, hK16⟩
      refine ge_at hK16 ?_
      refine ge_seq ?_
      refine gk_seq (by kernel_rfl) ?_
      refine gk_region (by kernel_rfl) ?_
      refine gl_pure 2 [2, 3] (K' := [(2, .int .i64 0), (3, .int .i64 0)]) (by kernel_rfl) ?_
      refine gl_atE (by kernel_rfl) ?_
      refine ge_seq ?_
      refine gk_ret (by kernel_rfl) ?_
      obtain rfl := some_inj hr
      exact ge_result trivial (ResOk.tmp (by kernel_rfl) (ResOk.tmp (by kernel_rfl) ResOk.nil)) hI15 ⟨rfl, rfl⟩
noncomputable def tocsinref09_Own (a0 : List S76) : Option (List S76) :=
  Option.bind (app ([] : List S76) a0) fun (zs1 : List S76) =>
  some zs1
theorem tocsinref09_Own_walk {a0 : List S76} {A0_0 : Option Addr} {n0_0 : Nat} {I : Imm} {r : (List S76)}  (hf0_0 : RepS kS76 I A0_0 n0_0 a0) (hr : tocsinref09_Own a0 = some r) (L : Own) :
    CallsTo Tryz.prog 60 #[.slice A0_0 a0.length n0_0] I L (fun v I' L' => ∃ A0 c0 C0, OwnS kS76 77 I' A0 c0 r C0 ∧ v = .slice A0 r.length c0 ∧ C0 ++ L = L') := by
  unfold tocsinref09_Own at hr
  refine callsTo_body (N := 8) Tryz.func60 (by kernel_rfl) (by kernel_rfl) (by kernel_rfl) ?_
  refine gk_pick [0] (K' := [(0, .slice A0_0 a0.length n0_0)]) (by kernel_rfl) ?_
  refine gk_seq (by kernel_rfl) ?_
  refine gk_region (by kernel_rfl) ?_
  refine gl_pure 1 [0] (K' := [(0, .slice A0_0 a0.length n0_0)]) (by kernel_rfl) ?_
  refine gl_atE (by kernel_rfl) ?_
  refine ge_seq ?_
  refine gk_seq (by kernel_rfl) ?_
  refine gk_region (by kernel_rfl) ?_
  refine gl_pure 1 [0, 3] (K' := [(0, .slice A0_0 a0.length n0_0), (3, .slice none 0 0)]) (by kernel_rfl) ?_
  refine gl_atE (by kernel_rfl) ?_
  refine ge_seq ?_
  refine gk_seq (by kernel_rfl) ?_
  refine gk_region (by kernel_rfl) ?_
  refine gl_pure 2 [4, 5] (K' := [(4, .slice none 0 0), (5, .slice A0_0 a0.length n0_0)]) (by kernel_rfl) ?_
  obtain ⟨zs1, hz2, hr⟩ := bind_some hr
  refine gl_append (xv := .slice A0_0 a0.length n0_0) (d := kS76) (t := 36) (tx := 36) (e := 77) (s := (.tmp 4)) (x := (.tmp 5)) (xs := []) (A := none) (c := 0) (C := []) (fun X => X ++ L) hz2 (by kernel_rfl) (by kernel_rfl) (by kernel_rfl) (by kernel_rfl) (by kernel_rfl) (by kernel_rfl) (fun X => Upd.new X _) (OwnS.nil _ _ _ none) (SrcOk.slice (c := n0_0) (e := 77) (n := 2) (RepS.rd hf0_0 _) (by kernel_rfl)) (fun A3 n4 C5 hO6 => ?_)
  refine gl_pure 1 [3] (K' := [(3, .slice A3 zs1.length n4)]) (by kernel_rfl) ?_
  refine gl_atE (by kernel_rfl) ?_
  refine ge_seq ?_
  refine gk_seq (by kernel_rfl) ?_
  refine gk_region (by kernel_rfl) ?_
  refine gl_pure 2 [2] (K' := [(2, .slice A3 zs1.length n4)]) (by kernel_rfl) ?_
  refine gl_atE (by kernel_rfl) ?_
  refine ge_seq ?_
  refine gk_ret (by kernel_rfl) ?_
  obtain rfl := some_inj hr
  exact ge_result trivial (ResOk.tmp (by kernel_rfl) ResOk.nil) (Imm.refl _) ⟨A3, n4, C5, hO6, rfl, rfl⟩
noncomputable def tocsinref04_side (a0 : ByteArray) (a1 : ByteArray) : Int :=
  bif (Op.bytesLess a0.toList a1.toList) then
  ((-1))
  else
  (bif (!((Op.bytesLess a0.toList a1.toList) || (a0.toList == a1.toList))) then
    (1)
    else
    (0))
theorem tocsinref04_side_walk {a0 : ByteArray} {a1 : ByteArray} {I : Imm} {r : Int}  (hr : tocsinref04_side a0 a1 = r) (L : Own) :
    CallsTo Tryz.prog 111 #[.string a0, .string a1] I L (fun v I' L' => v = .int .i64 r ∧ L = L') := by
  replace hr : some (tocsinref04_side a0 a1) = some r := congrArg some hr
  unfold tocsinref04_side at hr
  refine callsTo_body (N := 11) Tryz.func111 (by kernel_rfl) (by kernel_rfl) (by kernel_rfl) ?_
  refine gk_pick [0, 1] (K' := [(0, .string a0), (1, .string a1)]) (by kernel_rfl) ?_
  refine gk_seq (by kernel_rfl) ?_
  refine gk_region (by kernel_rfl) ?_
  refine gl_pure 1 [0, 1] (K' := [(0, .string a0), (1, .string a1)]) (by kernel_rfl) ?_
  refine gl_atE (by kernel_rfl) ?_
  refine ge_seq ?_
  refine gk_seq (by kernel_rfl) ?_
  refine gk_seq (by kernel_rfl) ?_
  refine gk_region (by kernel_rfl) ?_
  refine gl_pure 3 [0, 1, 7] (K' := [(0, .string a0), (1, .string a1), (7, .bool (Op.bytesLess a0.toList a1.toList))]) (by kernel_rfl) ?_
  refine gl_atE (by kernel_rfl) ?_
  refine ge_seq ?_
  refine gk_cond (b := (Op.bytesLess a0.toList a1.toList)) (by kernel_rfl) (by kernel_rfl) (fun hc1 => ?_) (fun hc1 => ?_)
  · have hr := scond_t hc1 hr
    refine gk_seq (by kernel_rfl) ?_
    refine gk_region (by kernel_rfl) ?_
    refine gl_pure 1 [4] (K' := [(4, .int .i64 (-1))]) (by kernel_rfl) ?_
    refine gl_atE (by kernel_rfl) ?_
    refine ge_seq ?_
    refine gk_ret (by kernel_rfl) ?_
    refine ge_seq_ret ?_
    obtain rfl := some_inj hr
    exact ge_result trivial (ResOk.tmp (by kernel_rfl) ResOk.nil) (Imm.refl _) ⟨rfl, rfl⟩
  · have hr := scond_f hc1 hr
    refine gk_skip (by kernel_rfl) ?_
    refine ge_seq ?_
    refine gk_seq (by kernel_rfl) ?_
    refine gk_seq (by kernel_rfl) ?_
    refine gk_region (by kernel_rfl) ?_
    refine gl_pure 3 [10] (K' := [(10, .bool (!((Op.bytesLess a0.toList a1.toList) || (a0.toList == a1.toList))))]) (by kernel_rfl) ?_
    refine gl_atE (by kernel_rfl) ?_
    refine ge_seq ?_
    refine gk_cond (b := (!((Op.bytesLess a0.toList a1.toList) || (a0.toList == a1.toList)))) (by kernel_rfl) (by kernel_rfl) (fun hc2 => ?_) (fun hc2 => ?_)
    · have hr := scond_t hc2 hr
      refine gk_seq (by kernel_rfl) ?_
      refine gk_region (by kernel_rfl) ?_
      refine gl_pure 1 [4] (K' := [(4, .int .i64 1)]) (by kernel_rfl) ?_
      refine gl_atE (by kernel_rfl) ?_
      refine ge_seq ?_
      refine gk_ret (by kernel_rfl) ?_
      refine ge_seq_ret ?_
      obtain rfl := some_inj hr
      exact ge_result trivial (ResOk.tmp (by kernel_rfl) ResOk.nil) (Imm.refl _) ⟨rfl, rfl⟩
    · have hr := scond_f hc2 hr
      refine gk_skip (by kernel_rfl) ?_
      refine ge_seq ?_
      refine gk_seq (by kernel_rfl) ?_
      refine gk_region (by kernel_rfl) ?_
      refine gl_pure 1 [4] (K' := [(4, .int .i64 0)]) (by kernel_rfl) ?_
      refine gl_atE (by kernel_rfl) ?_
      refine ge_seq ?_
      refine gk_ret (by kernel_rfl) ?_
      obtain rfl := some_inj hr
      exact ge_result trivial (ResOk.tmp (by kernel_rfl) ResOk.nil) (Imm.refl _) ⟨rfl, rfl⟩
noncomputable def tocsinref04_Compare_l17 (a0 : List S76) (a1 : List S76) : Int → Option ((Int) ⊕ ((Unit) ⊕ (Int))) := fun s7 =>
  bif ((decide (s7 < (a0.length : Int))) && (decide (s7 < (a1.length : Int)))) then
  (Option.bind (ix a0 s7) fun (x26 : S76) =>
    Option.bind (ix a1 s7) fun (x34 : S76) =>
    bif ((tocsinref04_side x26.f0 x34.f0) != 0) then
    (some (Sum.inr (Sum.inr (tocsinref04_side x26.f0 x34.f0))))
    else
    (Option.bind (ix a0 s7) fun (x43 : S76) =>
      Option.bind (ix a1 s7) fun (x51 : S76) =>
      bif ((tocsinref04_side x43.f1 x51.f1) != 0) then
      (some (Sum.inr (Sum.inr (tocsinref04_side x43.f1 x51.f1))))
      else
      (some (Sum.inl (IntKind.wrap .i64 (s7 + 1))))))
  else
  (some (Sum.inr (Sum.inl ())))
noncomputable def tocsinref04_Compare (a0 : List S76) (a1 : List S76) : Option Int :=
  Option.bind (loopO (tocsinref04_Compare_l17 a0 a1) 0) fun (r5 : (Unit) ⊕ (Int)) =>
  match r5 with
  | Sum.inl r13 => bif (decide ((a0.length : Int) < (a1.length : Int))) then
    (some (-1))
    else
    (bif (decide ((a0.length : Int) > (a1.length : Int))) then
      (some 1)
      else
      (some 0))
  | Sum.inr v62 => some v62
theorem tocsinref04_Compare_walk {a0 : List S76} {A0_0 : Option Addr} {n0_0 : Nat} {a1 : List S76} {A1_0 : Option Addr} {n1_0 : Nat} {I : Imm} {r : Int}  (hf0_0 : RepS kS76 I A0_0 n0_0 a0)  (hf1_0 : RepS kS76 I A1_0 n1_0 a1) (hr : tocsinref04_Compare a0 a1 = some r) (L : Own) :
    CallsTo Tryz.prog 59 #[.slice A0_0 a0.length n0_0, .slice A1_0 a1.length n1_0] I L (fun v I' L' => v = .int .i64 r ∧ L = L') := by
  unfold tocsinref04_Compare at hr
  refine callsTo_body (N := 58) Tryz.func59 (by kernel_rfl) (by kernel_rfl) (by kernel_rfl) ?_
  refine gk_pick [0, 1] (K' := [(0, .slice A0_0 a0.length n0_0), (1, .slice A1_0 a1.length n1_0)]) (by kernel_rfl) ?_
  refine gk_seq (by kernel_rfl) ?_
  refine gk_region (by kernel_rfl) ?_
  refine gl_pure 1 [0, 1] (K' := [(0, .slice A0_0 a0.length n0_0), (1, .slice A1_0 a1.length n1_0)]) (by kernel_rfl) ?_
  refine gl_atE (by kernel_rfl) ?_
  refine ge_seq ?_
  refine gk_seq (by kernel_rfl) ?_
  refine gk_seq (by kernel_rfl) ?_
  refine gk_region (by kernel_rfl) ?_
  refine gl_pure 1 [0, 1, 5] (K' := [(0, .slice A0_0 a0.length n0_0), (1, .slice A1_0 a1.length n1_0), (5, .int .i64 0)]) (by kernel_rfl) ?_
  refine gl_atE (by kernel_rfl) ?_
  refine ge_seq ?_
  obtain ⟨r5, hl6, hr⟩ := bind_some hr
  refine gk_join (fun t I' L' => ∃ r13, r5 = Sum.inl r13 ∧ I ≤ I' ∧ L = L' ∧ Knows 58 [(0, .slice A0_0 a0.length n0_0), (1, .slice A1_0 a1.length n1_0)] t) ?_ ?_
  · refine gk_block (by kernel_rfl) ?_
    refine gk_pick [0, 1, 5] (K' := [(0, .slice A0_0 a0.length n0_0), (1, .slice A1_0 a1.length n1_0), (5, .int .i64 0)]) (by kernel_rfl) ?_
    intro t hK
    refine gc_loop (tocsinref04_Compare_l17 a0 a1) (fun s7 t I' L' => I ≤ I' ∧ L = L' ∧ Knows 58 [(0, .slice A0_0 a0.length n0_0), (1, .slice A1_0 a1.length n1_0), (5, .int .i64 s7)] t) (by kernel_rfl) ?_ hl6 ⟨(Imm.refl _), rfl, hK⟩
    rintro s7 o8 t I12 L' hb9 ⟨hI10, rfl, hK11⟩
    unfold tocsinref04_Compare_l17 at hb9
    refine gk_at hK11 ?_
    refine gk_seq (by kernel_rfl) ?_
    refine gk_seq (by kernel_rfl) ?_
    obtain ⟨b21, hb22⟩ : ∃ z, z = ((decide (s7 < (a0.length : Int))) && (decide (s7 < (a1.length : Int)))) := ⟨_, rfl⟩
    refine gk_join (fun t I' L' => I12 ≤ I' ∧ L = L' ∧ Knows 58 [(0, .slice A0_0 a0.length n0_0), (1, .slice A1_0 a1.length n1_0), (5, .int .i64 s7), (17, .bool b21)] t) ?_ ?_
    · refine gk_region (by kernel_rfl) ?_
      refine gl_pure 5 [0, 1, 5, 12] (K' := [(0, .slice A0_0 a0.length n0_0), (1, .slice A1_0 a1.length n1_0), (5, .int .i64 s7), (12, .bool (decide (s7 < (a0.length : Int))))]) (by kernel_rfl) ?_
      refine gl_case 12 (b := (decide (s7 < (a0.length : Int)))) (by kernel_rfl) (fun hc24 => ?_) (fun hc24 => ?_)
      · refine gl_pure 5 [0, 1, 5, 17] (K' := [(0, .slice A0_0 a0.length n0_0), (1, .slice A1_0 a1.length n1_0), (5, .int .i64 s7), (17, .bool (decide (s7 < (a1.length : Int))))]) (by kernel_rfl) ?_
        refine gl_atE (by kernel_rfl) ?_
        exact ge_mid fun t ht => ⟨(Imm.refl _), rfl, by rw [(show b21 = (decide (s7 < (a1.length : Int))) from hb22.trans (by first | (rw [hc24]; done) | (rw [hc24]; rfl) | (simp [hc24]; done) | (simp only [hc24]; rfl) | (simp at *; omega)))]; exact ht.pick (l := [0, 1, 5, 17]) (by kernel_rfl)⟩
      · refine gl_pure 5 [0, 1, 5, 17] (K' := [(0, .slice A0_0 a0.length n0_0), (1, .slice A1_0 a1.length n1_0), (5, .int .i64 s7), (17, .bool false)]) (by kernel_rfl) ?_
        refine gl_atE (by kernel_rfl) ?_
        exact ge_mid fun t ht => ⟨(Imm.refl _), rfl, by rw [(show b21 = false from hb22.trans (by first | (rw [hc24]; done) | (rw [hc24]; rfl) | (simp [hc24]; done) | (simp only [hc24]; rfl) | (simp at *; omega)))]; exact ht.pick (l := [0, 1, 5, 17]) (by kernel_rfl)⟩
    · rintro t I23 L' ⟨hI19, rfl, hK20⟩
      subst hb22
      refine ge_at hK20 ?_
      refine ge_seq ?_
      refine gk_cond (b := ((decide (s7 < (a0.length : Int))) && (decide (s7 < (a1.length : Int))))) (by kernel_rfl) (by kernel_rfl) (fun hc25 => ?_) (fun hc25 => ?_)
      · have hb9 := cond_t hc25 hb9
        refine gk_skip (by kernel_rfl) ?_
        refine ge_seq ?_
        refine gk_seq (by kernel_rfl) ?_
        refine gk_block (by kernel_rfl) ?_
        refine gk_seq (by kernel_rfl) ?_
        refine gk_seq (by kernel_rfl) ?_
        refine gk_draw 10 [(0, true), (1, true), (2, true), (3, true), (4, true), (5, true), (6, true), (7, true), (8, true), (9, true)] [] (fun p hp => by cases hp) (by kernel_rfl) (by kernel_rfl) (by kernel_rfl) ?_ (by kernel_rfl)
        refine gd_pure 2 [0, 1, 5, 20, 21] (K' := [(0, .slice A0_0 a0.length n0_0), (1, .slice A1_0 a1.length n1_0), (5, .int .i64 s7), (20, .slice A0_0 a0.length n0_0), (21, .int .i64 s7)]) (s' := [(2, true), (3, true), (4, true), (5, true), (6, true), (7, true), (8, true), (9, true)]) (CC.refl (fun p hp => by cases hp)) (by kernel_rfl) ?_
        obtain ⟨x26, hx27, hb9⟩ := bind_some hb9
        obtain ⟨p28, cs29, hR30, hA31, ha32⟩ := RepS.ixAt hx27 (hf0_0.mono (Imm.trans hI10 hI19))
        have hi33 := ix_some hx27
        obtain rfl := kS76_open hR30
        refine gd_q (v := .pointer (some p28)) (by kernel_rfl) (by kernel_rfl) (CC.refl (fun p hp => by cases hp)) (fun I' L' T hC kk => gl_indexAddrF (c := n0_0) (T' := 36) (e := 77) (xs := (.tmp 20)) (xi := (.tmp 21)) (kd := .i64) ha32 hi33.1 hi33.2.1 (by kernel_rfl) (by kernel_rfl) (by kernel_rfl) (by kernel_rfl) (by kernel_rfl) kk) ?_
        refine gd_pure 1 [0, 1, 5, 23] (K' := [(0, .slice A0_0 a0.length n0_0), (1, .slice A1_0 a1.length n1_0), (5, .int .i64 s7), (23, .pointer (some (p28.add 0)))]) (s' := [(4, true), (5, true), (6, true), (7, true), (8, true), (9, true)]) (CC.refl (fun p hp => by cases hp)) (by kernel_rfl) ?_
        refine gd_q (v := .string x26.f0) (by kernel_rfl) (by kernel_rfl) (CC.refl (fun p hp => by cases hp)) (fun I' L' T hC kk => gl_load (T' := 9) (xp := (.tmp 23)) (p := (p28.add 0)) (c := .string x26.f0) (n := 1) (by kernel_rfl) (by kernel_rfl) (by kernel_rfl) (by kernel_rfl) ((hA31.drop 0).mono hC.le) kk) ?_
        refine gd_pure 2 [0, 1, 5, 24, 25, 26] (K' := [(0, .slice A0_0 a0.length n0_0), (1, .slice A1_0 a1.length n1_0), (5, .int .i64 s7), (24, .string x26.f0), (25, .slice A1_0 a1.length n1_0), (26, .int .i64 s7)]) (s' := [(7, true), (8, true), (9, true)]) (CC.refl (fun p hp => by cases hp)) (by kernel_rfl) ?_
        obtain ⟨x34, hx35, hb9⟩ := bind_some hb9
        obtain ⟨p36, cs37, hR38, hA39, ha40⟩ := RepS.ixAt hx35 (hf1_0.mono (Imm.trans hI10 hI19))
        have hi41 := ix_some hx35
        obtain rfl := kS76_open hR38
        refine gd_q (v := .pointer (some p36)) (by kernel_rfl) (by kernel_rfl) (CC.refl (fun p hp => by cases hp)) (fun I' L' T hC kk => gl_indexAddrF (c := n1_0) (T' := 36) (e := 77) (xs := (.tmp 25)) (xi := (.tmp 26)) (kd := .i64) ha40 hi41.1 hi41.2.1 (by kernel_rfl) (by kernel_rfl) (by kernel_rfl) (by kernel_rfl) (by kernel_rfl) kk) ?_
        refine gd_pure 1 [0, 1, 5, 24, 28] (K' := [(0, .slice A0_0 a0.length n0_0), (1, .slice A1_0 a1.length n1_0), (5, .int .i64 s7), (24, .string x26.f0), (28, .pointer (some (p36.add 0)))]) (s' := [(9, true)]) (CC.refl (fun p hp => by cases hp)) (by kernel_rfl) ?_
        refine gd_q (v := .string x34.f0) (by kernel_rfl) (by kernel_rfl) (CC.refl (fun p hp => by cases hp)) (fun I' L' T hC kk => gl_load (T' := 9) (xp := (.tmp 28)) (p := (p36.add 0)) (c := .string x34.f0) (n := 1) (by kernel_rfl) (by kernel_rfl) (by kernel_rfl) (by kernel_rfl) ((hA39.drop 0).mono hC.le) kk) ?_
        refine gd_done ?_
        refine gl_callQ (by kernel_rfl) (tocsinref04_side_walk (r := (tocsinref04_side x26.f0 x34.f0))  rfl _) ?_
        refine gl_pure 1 [0, 1, 5, 6] (K' := [(0, .slice A0_0 a0.length n0_0), (1, .slice A1_0 a1.length n1_0), (5, .int .i64 s7), (6, .int .i64 (tocsinref04_side x26.f0 x34.f0))]) (by kernel_rfl) ?_
        refine gl_atE (by kernel_rfl) ?_
        refine ge_seq ?_
        refine gk_seq (by kernel_rfl) ?_
        refine gk_region (by kernel_rfl) ?_
        refine gl_pure 2 [0, 1, 5, 6, 32] (K' := [(0, .slice A0_0 a0.length n0_0), (1, .slice A1_0 a1.length n1_0), (5, .int .i64 s7), (6, .int .i64 (tocsinref04_side x26.f0 x34.f0)), (32, .bool ((tocsinref04_side x26.f0 x34.f0) != 0))]) (by kernel_rfl) ?_
        refine gl_atE (by kernel_rfl) ?_
        refine ge_seq ?_
        refine gk_cond (b := ((tocsinref04_side x26.f0 x34.f0) != 0)) (by kernel_rfl) (by kernel_rfl) (fun hc42 => ?_) (fun hc42 => ?_)
        · have hb9 := cond_t hc42 hb9
          refine gk_seq (by kernel_rfl) ?_
          refine gk_region (by kernel_rfl) ?_
          refine gl_pure 2 [4] (K' := [(4, .int .i64 (tocsinref04_side x26.f0 x34.f0))]) (by kernel_rfl) ?_
          refine gl_atE (by kernel_rfl) ?_
          refine ge_seq ?_
          refine gk_ret (by kernel_rfl) ?_
          refine ge_seq_ret ?_
          refine ge_block_ret ?_
          refine ge_seq_ret ?_
          obtain rfl := some_inj hb9
          refine ge_round_out (fun hrr => ?_) (by intro h; cases h)
          obtain rfl := hrr
          refine ge_block_ret ?_
          refine ge_seq_ret ?_
          refine ge_seq_ret ?_
          obtain rfl := some_inj hr
          exact ge_result trivial (ResOk.tmp (by kernel_rfl) ResOk.nil) (Imm.trans hI10 hI19) ⟨rfl, rfl⟩
        · have hb9 := cond_f hc42 hb9
          refine gk_skip (by kernel_rfl) ?_
          refine ge_seq ?_
          refine gk_seq (by kernel_rfl) ?_
          refine gk_draw 10 [(0, true), (1, true), (2, true), (3, true), (4, true), (5, true), (6, true), (7, true), (8, true), (9, true)] [] (fun p hp => by cases hp) (by kernel_rfl) (by kernel_rfl) (by kernel_rfl) ?_ (by kernel_rfl)
          refine gd_pure 2 [0, 1, 5, 34, 35] (K' := [(0, .slice A0_0 a0.length n0_0), (1, .slice A1_0 a1.length n1_0), (5, .int .i64 s7), (34, .slice A0_0 a0.length n0_0), (35, .int .i64 s7)]) (s' := [(2, true), (3, true), (4, true), (5, true), (6, true), (7, true), (8, true), (9, true)]) (CC.refl (fun p hp => by cases hp)) (by kernel_rfl) ?_
          obtain ⟨x43, hx44, hb9⟩ := bind_some hb9
          obtain ⟨p45, cs46, hR47, hA48, ha49⟩ := RepS.ixAt hx44 (hf0_0.mono (Imm.trans hI10 hI19))
          have hi50 := ix_some hx44
          obtain rfl := kS76_open hR47
          refine gd_q (v := .pointer (some p45)) (by kernel_rfl) (by kernel_rfl) (CC.refl (fun p hp => by cases hp)) (fun I' L' T hC kk => gl_indexAddrF (c := n0_0) (T' := 36) (e := 77) (xs := (.tmp 34)) (xi := (.tmp 35)) (kd := .i64) ha49 hi50.1 hi50.2.1 (by kernel_rfl) (by kernel_rfl) (by kernel_rfl) (by kernel_rfl) (by kernel_rfl) kk) ?_
          refine gd_pure 1 [0, 1, 5, 37] (K' := [(0, .slice A0_0 a0.length n0_0), (1, .slice A1_0 a1.length n1_0), (5, .int .i64 s7), (37, .pointer (some (p45.add 1)))]) (s' := [(4, true), (5, true), (6, true), (7, true), (8, true), (9, true)]) (CC.refl (fun p hp => by cases hp)) (by kernel_rfl) ?_
          refine gd_q (v := .string x43.f1) (by kernel_rfl) (by kernel_rfl) (CC.refl (fun p hp => by cases hp)) (fun I' L' T hC kk => gl_load (T' := 9) (xp := (.tmp 37)) (p := (p45.add 1)) (c := .string x43.f1) (n := 1) (by kernel_rfl) (by kernel_rfl) (by kernel_rfl) (by kernel_rfl) ((hA48.drop 1).mono hC.le) kk) ?_
          refine gd_pure 2 [0, 1, 5, 38, 39, 40] (K' := [(0, .slice A0_0 a0.length n0_0), (1, .slice A1_0 a1.length n1_0), (5, .int .i64 s7), (38, .string x43.f1), (39, .slice A1_0 a1.length n1_0), (40, .int .i64 s7)]) (s' := [(7, true), (8, true), (9, true)]) (CC.refl (fun p hp => by cases hp)) (by kernel_rfl) ?_
          obtain ⟨x51, hx52, hb9⟩ := bind_some hb9
          obtain ⟨p53, cs54, hR55, hA56, ha57⟩ := RepS.ixAt hx52 (hf1_0.mono (Imm.trans hI10 hI19))
          have hi58 := ix_some hx52
          obtain rfl := kS76_open hR55
          refine gd_q (v := .pointer (some p53)) (by kernel_rfl) (by kernel_rfl) (CC.refl (fun p hp => by cases hp)) (fun I' L' T hC kk => gl_indexAddrF (c := n1_0) (T' := 36) (e := 77) (xs := (.tmp 39)) (xi := (.tmp 40)) (kd := .i64) ha57 hi58.1 hi58.2.1 (by kernel_rfl) (by kernel_rfl) (by kernel_rfl) (by kernel_rfl) (by kernel_rfl) kk) ?_
          refine gd_pure 1 [0, 1, 5, 38, 42] (K' := [(0, .slice A0_0 a0.length n0_0), (1, .slice A1_0 a1.length n1_0), (5, .int .i64 s7), (38, .string x43.f1), (42, .pointer (some (p53.add 1)))]) (s' := [(9, true)]) (CC.refl (fun p hp => by cases hp)) (by kernel_rfl) ?_
          refine gd_q (v := .string x51.f1) (by kernel_rfl) (by kernel_rfl) (CC.refl (fun p hp => by cases hp)) (fun I' L' T hC kk => gl_load (T' := 9) (xp := (.tmp 42)) (p := (p53.add 1)) (c := .string x51.f1) (n := 1) (by kernel_rfl) (by kernel_rfl) (by kernel_rfl) (by kernel_rfl) ((hA56.drop 1).mono hC.le) kk) ?_
          refine gd_done ?_
          refine gl_callQ (by kernel_rfl) (tocsinref04_side_walk (r := (tocsinref04_side x43.f1 x51.f1))  rfl _) ?_
          refine gl_pure 1 [0, 1, 5, 7] (K' := [(0, .slice A0_0 a0.length n0_0), (1, .slice A1_0 a1.length n1_0), (5, .int .i64 s7), (7, .int .i64 (tocsinref04_side x43.f1 x51.f1))]) (by kernel_rfl) ?_
          refine gl_atE (by kernel_rfl) ?_
          refine ge_seq ?_
          refine gk_seq (by kernel_rfl) ?_
          refine gk_region (by kernel_rfl) ?_
          refine gl_pure 2 [0, 1, 5, 7, 46] (K' := [(0, .slice A0_0 a0.length n0_0), (1, .slice A1_0 a1.length n1_0), (5, .int .i64 s7), (7, .int .i64 (tocsinref04_side x43.f1 x51.f1)), (46, .bool ((tocsinref04_side x43.f1 x51.f1) != 0))]) (by kernel_rfl) ?_
          refine gl_atE (by kernel_rfl) ?_
          refine ge_seq ?_
          refine gk_cond (b := ((tocsinref04_side x43.f1 x51.f1) != 0)) (by kernel_rfl) (by kernel_rfl) (fun hc59 => ?_) (fun hc59 => ?_)
          · have hb9 := cond_t hc59 hb9
            refine gk_seq (by kernel_rfl) ?_
            refine gk_region (by kernel_rfl) ?_
            refine gl_pure 2 [4] (K' := [(4, .int .i64 (tocsinref04_side x43.f1 x51.f1))]) (by kernel_rfl) ?_
            refine gl_atE (by kernel_rfl) ?_
            refine ge_seq ?_
            refine gk_ret (by kernel_rfl) ?_
            refine ge_block_ret ?_
            refine ge_seq_ret ?_
            obtain rfl := some_inj hb9
            refine ge_round_out (fun hrr => ?_) (by intro h; cases h)
            obtain rfl := hrr
            refine ge_block_ret ?_
            refine ge_seq_ret ?_
            refine ge_seq_ret ?_
            obtain rfl := some_inj hr
            exact ge_result trivial (ResOk.tmp (by kernel_rfl) ResOk.nil) (Imm.trans hI10 hI19) ⟨rfl, rfl⟩
          · have hb9 := cond_f hc59 hb9
            refine gk_skip (by kernel_rfl) ?_
            refine ge_block_normal ?_
            refine ge_seq ?_
            refine gk_region (by kernel_rfl) ?_
            refine gl_pure 3 [0, 1, 5] (K' := [(0, .slice A0_0 a0.length n0_0), (1, .slice A1_0 a1.length n1_0), (5, .int .i64 (IntKind.wrap .i64 (s7 + 1)))]) (by kernel_rfl) ?_
            refine gl_atE (by kernel_rfl) ?_
            obtain rfl := some_inj hb9
            exact ge_round fun t ht => ⟨(Imm.trans hI10 hI19), rfl, ht.pick (l := [0, 1, 5]) (by kernel_rfl)⟩
      · have hb9 := cond_f hc25 hb9
        refine gk_exit (by kernel_rfl) ?_
        refine ge_seq_exit ?_
        obtain rfl := some_inj hb9
        refine ge_round_out (fun hrr => ?_) (by intro h; cases h)
        obtain rfl := hrr
        refine ge_block_hit (by kernel_rfl) ?_
        exact ge_mid fun t ht => ⟨_, rfl, (Imm.trans hI10 hI19), rfl, ht.pick (l := [0, 1]) (by kernel_rfl)⟩
  · rintro t I16 L' ⟨r13, rfl, hI14, rfl, hK15⟩
    refine ge_at hK15 ?_
    refine ge_seq ?_
    refine gk_seq (by kernel_rfl) ?_
    refine gk_seq (by kernel_rfl) ?_
    refine gk_region (by kernel_rfl) ?_
    refine gl_pure 5 [0, 1, 52] (K' := [(0, .slice A0_0 a0.length n0_0), (1, .slice A1_0 a1.length n1_0), (52, .bool (decide ((a0.length : Int) < (a1.length : Int))))]) (by kernel_rfl) ?_
    refine gl_atE (by kernel_rfl) ?_
    refine ge_seq ?_
    refine gk_cond (b := (decide ((a0.length : Int) < (a1.length : Int)))) (by kernel_rfl) (by kernel_rfl) (fun hc60 => ?_) (fun hc60 => ?_)
    · have hr := cond_t hc60 hr
      refine gk_seq (by kernel_rfl) ?_
      refine gk_region (by kernel_rfl) ?_
      refine gl_pure 1 [4] (K' := [(4, .int .i64 (-1))]) (by kernel_rfl) ?_
      refine gl_atE (by kernel_rfl) ?_
      refine ge_seq ?_
      refine gk_ret (by kernel_rfl) ?_
      refine ge_seq_ret ?_
      obtain rfl := some_inj hr
      exact ge_result trivial (ResOk.tmp (by kernel_rfl) ResOk.nil) hI14 ⟨rfl, rfl⟩
    · have hr := cond_f hc60 hr
      refine gk_skip (by kernel_rfl) ?_
      refine ge_seq ?_
      refine gk_seq (by kernel_rfl) ?_
      refine gk_seq (by kernel_rfl) ?_
      refine gk_region (by kernel_rfl) ?_
      refine gl_pure 5 [57] (K' := [(57, .bool (decide ((a0.length : Int) > (a1.length : Int))))]) (by kernel_rfl) ?_
      refine gl_atE (by kernel_rfl) ?_
      refine ge_seq ?_
      refine gk_cond (b := (decide ((a0.length : Int) > (a1.length : Int)))) (by kernel_rfl) (by kernel_rfl) (fun hc61 => ?_) (fun hc61 => ?_)
      · have hr := cond_t hc61 hr
        refine gk_seq (by kernel_rfl) ?_
        refine gk_region (by kernel_rfl) ?_
        refine gl_pure 1 [4] (K' := [(4, .int .i64 1)]) (by kernel_rfl) ?_
        refine gl_atE (by kernel_rfl) ?_
        refine ge_seq ?_
        refine gk_ret (by kernel_rfl) ?_
        refine ge_seq_ret ?_
        obtain rfl := some_inj hr
        exact ge_result trivial (ResOk.tmp (by kernel_rfl) ResOk.nil) hI14 ⟨rfl, rfl⟩
      · have hr := cond_f hc61 hr
        refine gk_skip (by kernel_rfl) ?_
        refine ge_seq ?_
        refine gk_seq (by kernel_rfl) ?_
        refine gk_region (by kernel_rfl) ?_
        refine gl_pure 1 [4] (K' := [(4, .int .i64 0)]) (by kernel_rfl) ?_
        refine gl_atE (by kernel_rfl) ?_
        refine ge_seq ?_
        refine gk_ret (by kernel_rfl) ?_
        obtain rfl := some_inj hr
        exact ge_result trivial (ResOk.tmp (by kernel_rfl) ResOk.nil) hI14 ⟨rfl, rfl⟩
noncomputable def tocsinref04_Same (a0 : List S76) (a1 : List S76) : Option Bool :=
  Option.bind (tocsinref04_Compare a0 a1) fun (y1 : Int) =>
  some (y1 == 0)
theorem tocsinref04_Same_walk {a0 : List S76} {A0_0 : Option Addr} {n0_0 : Nat} {a1 : List S76} {A1_0 : Option Addr} {n1_0 : Nat} {I : Imm} {r : Bool}  (hf0_0 : RepS kS76 I A0_0 n0_0 a0)  (hf1_0 : RepS kS76 I A1_0 n1_0 a1) (hr : tocsinref04_Same a0 a1 = some r) (L : Own) :
    CallsTo Tryz.prog 33 #[.slice A0_0 a0.length n0_0, .slice A1_0 a1.length n1_0] I L (fun v I' L' => v = .bool r ∧ L = L') := by
  unfold tocsinref04_Same at hr
  refine callsTo_body (N := 9) Tryz.func33 (by kernel_rfl) (by kernel_rfl) (by kernel_rfl) ?_
  refine gk_pick [0, 1] (K' := [(0, .slice A0_0 a0.length n0_0), (1, .slice A1_0 a1.length n1_0)]) (by kernel_rfl) ?_
  refine gk_seq (by kernel_rfl) ?_
  refine gk_region (by kernel_rfl) ?_
  refine gl_pure 1 [0, 1] (K' := [(0, .slice A0_0 a0.length n0_0), (1, .slice A1_0 a1.length n1_0)]) (by kernel_rfl) ?_
  refine gl_atE (by kernel_rfl) ?_
  refine ge_seq ?_
  refine gk_seq (by kernel_rfl) ?_
  refine gk_region (by kernel_rfl) ?_
  refine gl_pure 2 [5, 6] (K' := [(5, .slice A0_0 a0.length n0_0), (6, .slice A1_0 a1.length n1_0)]) (by kernel_rfl) ?_
  obtain ⟨y1, hx2, hr⟩ := bind_some hr
  refine gl_callQ (by kernel_rfl) (tocsinref04_Compare_walk (r := y1) hf0_0 hf1_0 hx2 _) ?_
  refine gl_pure 2 [4] (K' := [(4, .bool (y1 == 0))]) (by kernel_rfl) ?_
  refine gl_atE (by kernel_rfl) ?_
  refine ge_seq ?_
  refine gk_ret (by kernel_rfl) ?_
  obtain rfl := some_inj hr
  exact ge_result trivial (ResOk.tmp (by kernel_rfl) ResOk.nil) (Imm.refl _) ⟨rfl, rfl⟩
noncomputable def tocsinref15_Vector_l18 (a0 : List S38) : Int → Option ((Int) ⊕ ((Unit) ⊕ ((List S38) × Int))) := fun s8 =>
  bif (decide (s8 < (a0.length : Int))) then
  (Option.bind (ix a0 s8) fun (x21 : S38) =>
    Option.bind (tocsinref04_Right x21.f0) fun (y34 : Int × Int) =>
    bif (y34.1 != 0) then
    (some (Sum.inr (Sum.inr ([], 41))))
    else
    (some (Sum.inl (IntKind.wrap .i64 (s8 + 1)))))
  else
  (some (Sum.inr (Sum.inl ())))
noncomputable def tocsinref15_Vector_l88 (a0 : List S38) (s53 : (List S38) × Bool × Int) : Int → Option ((Int) ⊕ (Int)) := fun s79 =>
  Option.bind (bif (decide (s79 > 0)) then
    (Option.bind (ix s53.1 (IntKind.wrap .i64 (s79 - 1))) fun (x96 : S38) =>
      Option.bind (ix a0 s53.2.2) fun (x110 : S38) =>
      Option.bind (tocsinref04_Compare x96.f0 x110.f0) fun (y123 : Int) =>
      some (decide (y123 > 0)))
    else
    (some false)) fun (j90 : Bool) =>
  bif j90 then
  (some (Sum.inl (IntKind.wrap .i64 (s79 - 1))))
  else
  (some (Sum.inr s79))
noncomputable def tocsinref15_Vector_l70 (a0 : List S38) : ((List S38) × Bool × Int) → Option (((List S38) × Bool × Int) ⊕ ((List S38) × Bool)) := fun s53 =>
  bif (decide (s53.2.2 < (a0.length : Int))) then
  (Option.bind (loopO (tocsinref15_Vector_l88 a0 s53) (s53.1.length : Int)) fun (r77 : Int) =>
    Option.bind (bif s53.2.1 then
      (some true)
      else
      (bif (decide (r77 > 0)) then
        (Option.bind (ix s53.1 (IntKind.wrap .i64 (r77 - 1))) fun (x133 : S38) =>
          Option.bind (ix a0 s53.2.2) fun (x147 : S38) =>
          Option.bind (tocsinref04_Same x133.f0 x147.f0) fun (y160 : Bool) =>
          some y160)
        else
        (some false))) fun (j126 : Bool) =>
    Option.bind (lx s53.1 0 r77) fun (l163 : List S38) =>
    Option.bind (app ([] : List S38) l163) fun (zs166 : List S38) =>
    Option.bind (ix a0 s53.2.2) fun (x172 : S38) =>
    Option.bind (ix a0 s53.2.2) fun (x185 : S38) =>
    Option.bind (tocsinref09_Own x172.f0) fun (y198 : (List S76)) =>
    Option.bind (app zs166 [(⟨y198, x185.f1⟩ : S38)]) fun (zs215 : List S38) =>
    Option.bind (lx s53.1 r77 (s53.1.length : Int)) fun (l222 : List S38) =>
    Option.bind (app zs215 l222) fun (zs225 : List S38) =>
    some (Sum.inl (zs225, j126, (IntKind.wrap .i64 (s53.2.2 + 1)))))
  else
  (some (Sum.inr (s53.1, s53.2.1)))
noncomputable def tocsinref15_Vector (a0 : List S38) : Option ((List S38) × Int) :=
  bif (decide ((a0.length : Int) > 1000)) then
  (some ([], 7))
  else
  (Option.bind (loopO (tocsinref15_Vector_l18 a0) 0) fun (r6 : (Unit) ⊕ ((List S38) × Int)) =>
    match r6 with
    | Sum.inl r14 => Option.bind (loopO (tocsinref15_Vector_l70 a0) ([], false, 0)) fun (r51 : (List S38) × Bool) =>
      bif r51.2 then
      (some ([], 150))
      else
      (some (r51.1, 0))
    | Sum.inr v232 => some v232)
theorem tocsinref15_Vector_walk {a0 : List S38} {A0_0 : Option Addr} {n0_0 : Nat} {I : Imm} {r : (List S38) × Int}  (hf0_0 : RepS kS38 I A0_0 n0_0 a0) (hr : tocsinref15_Vector a0 = some r) (L : Own) :
    CallsTo Tryz.prog 23 #[.slice A0_0 a0.length n0_0] I L (fun v I' L' => ∃ A0 c0 C0, OwnS kS38 39 I' A0 c0 r.1 C0 ∧ v = .tuple #[.slice A0 r.1.length c0, .int .i64 r.2] ∧ C0 ++ L = L') := by
  unfold tocsinref15_Vector at hr
  refine callsTo_body (N := 106) Tryz.func23 (by kernel_rfl) (by kernel_rfl) (by kernel_rfl) ?_
  refine gk_pick [0] (K' := [(0, .slice A0_0 a0.length n0_0)]) (by kernel_rfl) ?_
  refine gk_seq (by kernel_rfl) ?_
  refine gk_region (by kernel_rfl) ?_
  refine gl_pure 2 [0] (K' := [(0, .slice A0_0 a0.length n0_0)]) (by kernel_rfl) ?_
  refine gl_atE (by kernel_rfl) ?_
  refine ge_seq ?_
  refine gk_seq (by kernel_rfl) ?_
  refine gk_seq (by kernel_rfl) ?_
  refine gk_region (by kernel_rfl) ?_
  refine gl_pure 3 [0, 14] (K' := [(0, .slice A0_0 a0.length n0_0), (14, .bool (decide ((a0.length : Int) > 1000)))]) (by kernel_rfl) ?_
  refine gl_atE (by kernel_rfl) ?_
  refine ge_seq ?_
  refine gk_cond (b := (decide ((a0.length : Int) > 1000))) (by kernel_rfl) (by kernel_rfl) (fun hc1 => ?_) (fun hc1 => ?_)
  · have hr := cond_t hc1 hr
    refine gk_seq (by kernel_rfl) ?_
    refine gk_region (by kernel_rfl) ?_
    refine gl_pure 2 [2, 3] (K' := [(2, .slice none 0 0), (3, .int .i64 7)]) (by kernel_rfl) ?_
    refine gl_atE (by kernel_rfl) ?_
    refine ge_seq ?_
    refine gk_ret (by kernel_rfl) ?_
    refine ge_seq_ret ?_
    obtain rfl := some_inj hr
    exact ge_result trivial (ResOk.tmp (by kernel_rfl) (ResOk.tmp (by kernel_rfl) ResOk.nil)) (Imm.refl _) ⟨none, 0, [], OwnS.nil _ _ _ _, rfl, rfl⟩
  · have hr := cond_f hc1 hr
    refine gk_skip (by kernel_rfl) ?_
    refine ge_seq ?_
    refine gk_seq (by kernel_rfl) ?_
    refine gk_seq (by kernel_rfl) ?_
    refine gk_region (by kernel_rfl) ?_
    refine gl_pure 1 [0, 4] (K' := [(0, .slice A0_0 a0.length n0_0), (4, .int .i64 0)]) (by kernel_rfl) ?_
    refine gl_atE (by kernel_rfl) ?_
    refine ge_seq ?_
    obtain ⟨r6, hl7, hr⟩ := bind_some hr
    refine gk_join (fun t I' L' => ∃ r14, r6 = Sum.inl r14 ∧ I ≤ I' ∧ L = L' ∧ Knows 106 [(0, .slice A0_0 a0.length n0_0)] t) ?_ ?_
    · refine gk_block (by kernel_rfl) ?_
      refine gk_pick [0, 4] (K' := [(0, .slice A0_0 a0.length n0_0), (4, .int .i64 0)]) (by kernel_rfl) ?_
      intro t hK
      refine gc_loop (tocsinref15_Vector_l18 a0) (fun s8 t I' L' => I ≤ I' ∧ L = L' ∧ Knows 106 [(0, .slice A0_0 a0.length n0_0), (4, .int .i64 s8)] t) (by kernel_rfl) ?_ hl7 ⟨(Imm.refl _), rfl, hK⟩
      rintro s8 o9 t I13 L' hb10 ⟨hI11, rfl, hK12⟩
      unfold tocsinref15_Vector_l18 at hb10
      refine gk_at hK12 ?_
      refine gk_seq (by kernel_rfl) ?_
      refine gk_seq (by kernel_rfl) ?_
      refine gk_region (by kernel_rfl) ?_
      refine gl_pure 4 [0, 4, 18] (K' := [(0, .slice A0_0 a0.length n0_0), (4, .int .i64 s8), (18, .bool (decide (s8 < (a0.length : Int))))]) (by kernel_rfl) ?_
      refine gl_atE (by kernel_rfl) ?_
      refine ge_seq ?_
      refine gk_cond (b := (decide (s8 < (a0.length : Int)))) (by kernel_rfl) (by kernel_rfl) (fun hc20 => ?_) (fun hc20 => ?_)
      · have hb10 := cond_t hc20 hb10
        refine gk_skip (by kernel_rfl) ?_
        refine ge_seq ?_
        refine gk_seq (by kernel_rfl) ?_
        refine gk_block (by kernel_rfl) ?_
        refine gk_seq (by kernel_rfl) ?_
        refine gk_region (by kernel_rfl) ?_
        refine gl_pure 2 [0, 4, 22, 23] (K' := [(0, .slice A0_0 a0.length n0_0), (4, .int .i64 s8), (22, .slice A0_0 a0.length n0_0), (23, .int .i64 s8)]) (by kernel_rfl) ?_
        obtain ⟨x21, hx22, hb10⟩ := bind_some hb10
        obtain ⟨p23, cs24, hR25, hA26, ha27⟩ := RepS.ixAt hx22 (hf0_0.mono hI11)
        have hi28 := ix_some hx22
        obtain ⟨A29, n30, b32, hf31, hf33, rfl⟩ := kS38_open hR25
        refine gl_indexAddrF (c := n0_0) (T' := 22) (e := 39) (xs := (.tmp 22)) (xi := (.tmp 23)) (kd := .i64) ha27 hi28.1 hi28.2.1 (by kernel_rfl) (by kernel_rfl) (by kernel_rfl) (by kernel_rfl) (by kernel_rfl) ?_
        refine gl_pure 1 [0, 4, 25] (K' := [(0, .slice A0_0 a0.length n0_0), (4, .int .i64 s8), (25, .pointer (some (p23.add 0)))]) (by kernel_rfl) ?_
        refine gl_load (T' := 36) (xp := (.tmp 25)) (p := (p23.add 0)) (c := .slice A29 x21.f0.length n30) (n := 1) (by kernel_rfl) (by kernel_rfl) (by kernel_rfl) (by kernel_rfl) (hA26.drop 0) ?_
        obtain ⟨y34, hx35, hb10⟩ := bind_some hb10
        refine gl_callQ (by kernel_rfl) (tocsinref04_Right_walk (r := y34) hf31 hx35 _) ?_
        refine gl_pure 5 [0, 4, 5] (K' := [(0, .slice A0_0 a0.length n0_0), (4, .int .i64 s8), (5, .int .i64 y34.1)]) (by kernel_rfl) ?_
        refine gl_atE (by kernel_rfl) ?_
        refine ge_seq ?_
        refine gk_seq (by kernel_rfl) ?_
        refine gk_region (by kernel_rfl) ?_
        refine gl_pure 2 [0, 4, 31] (K' := [(0, .slice A0_0 a0.length n0_0), (4, .int .i64 s8), (31, .bool (y34.1 != 0))]) (by kernel_rfl) ?_
        refine gl_atE (by kernel_rfl) ?_
        refine ge_seq ?_
        refine gk_cond (b := (y34.1 != 0)) (by kernel_rfl) (by kernel_rfl) (fun hc36 => ?_) (fun hc36 => ?_)
        · have hb10 := cond_t hc36 hb10
          refine gk_seq (by kernel_rfl) ?_
          refine gk_region (by kernel_rfl) ?_
          refine gl_pure 2 [2, 3] (K' := [(2, .slice none 0 0), (3, .int .i64 41)]) (by kernel_rfl) ?_
          refine gl_atE (by kernel_rfl) ?_
          refine ge_seq ?_
          refine gk_ret (by kernel_rfl) ?_
          refine ge_block_ret ?_
          refine ge_seq_ret ?_
          obtain rfl := some_inj hb10
          refine ge_round_out (fun hrr => ?_) (by intro h; cases h)
          obtain rfl := hrr
          refine ge_block_ret ?_
          refine ge_seq_ret ?_
          refine ge_seq_ret ?_
          obtain rfl := some_inj hr
          exact ge_result trivial (ResOk.tmp (by kernel_rfl) (ResOk.tmp (by kernel_rfl) ResOk.nil)) hI11 ⟨none, 0, [], OwnS.nil _ _ _ _, rfl, rfl⟩
        · have hb10 := cond_f hc36 hb10
          refine gk_skip (by kernel_rfl) ?_
          refine ge_block_normal ?_
          refine ge_seq ?_
          refine gk_region (by kernel_rfl) ?_
          refine gl_pure 3 [0, 4] (K' := [(0, .slice A0_0 a0.length n0_0), (4, .int .i64 (IntKind.wrap .i64 (s8 + 1)))]) (by kernel_rfl) ?_
          refine gl_atE (by kernel_rfl) ?_
          obtain rfl := some_inj hb10
          exact ge_round fun t ht => ⟨hI11, rfl, ht.pick (l := [0, 4]) (by kernel_rfl)⟩
      · have hb10 := cond_f hc20 hb10
        refine gk_exit (by kernel_rfl) ?_
        refine ge_seq_exit ?_
        obtain rfl := some_inj hb10
        refine ge_round_out (fun hrr => ?_) (by intro h; cases h)
        obtain rfl := hrr
        refine ge_block_hit (by kernel_rfl) ?_
        exact ge_mid fun t ht => ⟨_, rfl, hI11, rfl, ht.pick (l := [0]) (by kernel_rfl)⟩
    · rintro t I17 L' ⟨r14, rfl, hI15, rfl, hK16⟩
      refine ge_at hK16 ?_
      refine ge_seq ?_
      refine gk_seq (by kernel_rfl) ?_
      refine gk_region (by kernel_rfl) ?_
      refine gl_pure 1 [0, 7] (K' := [(0, .slice A0_0 a0.length n0_0), (7, .slice none 0 0)]) (by kernel_rfl) ?_
      refine gl_atE (by kernel_rfl) ?_
      refine ge_seq ?_
      refine gk_seq (by kernel_rfl) ?_
      refine gk_region (by kernel_rfl) ?_
      refine gl_pure 1 [0, 7, 8] (K' := [(0, .slice A0_0 a0.length n0_0), (7, .slice none 0 0), (8, .bool false)]) (by kernel_rfl) ?_
      refine gl_atE (by kernel_rfl) ?_
      refine ge_seq ?_
      refine gk_seq (by kernel_rfl) ?_
      refine gk_seq (by kernel_rfl) ?_
      refine gk_region (by kernel_rfl) ?_
      refine gl_pure 1 [0, 7, 8, 9] (K' := [(0, .slice A0_0 a0.length n0_0), (7, .slice none 0 0), (8, .bool false), (9, .int .i64 0)]) (by kernel_rfl) ?_
      refine gl_atE (by kernel_rfl) ?_
      refine ge_seq ?_
      obtain ⟨r51, hl52, hr⟩ := bind_some hr
      refine gk_join (fun t I' L' => ∃ A64 n65 C66, OwnS kS38 39 I' A64 n65 r51.1 C66 ∧ I17 ≤ I' ∧ C66 ++ L = L' ∧ Knows 106 [(7, .slice A64 r51.1.length n65), (8, .bool r51.2)] t) ?_ ?_
      · refine gk_block (by kernel_rfl) ?_
        refine gk_pick [0, 7, 8, 9] (K' := [(0, .slice A0_0 a0.length n0_0), (7, .slice none 0 0), (8, .bool false), (9, .int .i64 0)]) (by kernel_rfl) ?_
        intro t hK
        refine gc_loop (tocsinref15_Vector_l70 a0) (fun s53 t I' L' => ∃ A57 n58 C59, OwnS kS38 39 I' A57 n58 s53.1 C59 ∧ I17 ≤ I' ∧ C59 ++ L = L' ∧ Knows 106 [(0, .slice A0_0 a0.length n0_0), (7, .slice A57 s53.1.length n58), (8, .bool s53.2.1), (9, .int .i64 s53.2.2)] t) (by kernel_rfl) ?_ hl52 ⟨none, 0, [], OwnS.nil _ _ _ _, (Imm.refl _), rfl, hK⟩
        rintro s53 o54 t I62 L' hb55 ⟨A57, n58, C59, hO60, hI56, rfl, hK61⟩
        unfold tocsinref15_Vector_l70 at hb55
        refine gk_at hK61 ?_
        refine gk_seq (by kernel_rfl) ?_
        refine gk_seq (by kernel_rfl) ?_
        refine gk_region (by kernel_rfl) ?_
        refine gl_pure 4 [0, 7, 8, 9, 35] (K' := [(0, .slice A0_0 a0.length n0_0), (7, .slice A57 s53.1.length n58), (8, .bool s53.2.1), (9, .int .i64 s53.2.2), (35, .bool (decide (s53.2.2 < (a0.length : Int))))]) (by kernel_rfl) ?_
        refine gl_atE (by kernel_rfl) ?_
        refine ge_seq ?_
        refine gk_cond (b := (decide (s53.2.2 < (a0.length : Int)))) (by kernel_rfl) (by kernel_rfl) (fun hc72 => ?_) (fun hc72 => ?_)
        · have hb55 := cond_t hc72 hb55
          refine gk_skip (by kernel_rfl) ?_
          refine ge_seq ?_
          refine gk_seq (by kernel_rfl) ?_
          refine gk_block (by kernel_rfl) ?_
          refine gk_seq (by kernel_rfl) ?_
          refine gk_region (by kernel_rfl) ?_
          refine gl_pure 3 [0, 7, 8, 9, 10] (K' := [(0, .slice A0_0 a0.length n0_0), (7, .slice A57 s53.1.length n58), (8, .bool s53.2.1), (9, .int .i64 s53.2.2), (10, .int .i64 (s53.1.length : Int))]) (by kernel_rfl) ?_
          refine gl_atE (by kernel_rfl) ?_
          refine ge_seq ?_
          refine gk_seq (by kernel_rfl) ?_
          obtain ⟨r77, hl78, hb55⟩ := bind_some hb55
          refine gk_join (fun t I' L' => I62 ≤ I' ∧ C59 ++ L = L' ∧ Knows 106 [(0, .slice A0_0 a0.length n0_0), (7, .slice A57 s53.1.length n58), (8, .bool s53.2.1), (9, .int .i64 s53.2.2), (10, .int .i64 r77)] t) ?_ ?_
          · refine gk_block (by kernel_rfl) ?_
            refine gk_pick [0, 7, 8, 9, 10] (K' := [(0, .slice A0_0 a0.length n0_0), (7, .slice A57 s53.1.length n58), (8, .bool s53.2.1), (9, .int .i64 s53.2.2), (10, .int .i64 (s53.1.length : Int))]) (by kernel_rfl) ?_
            intro t hK
            refine gc_loop (tocsinref15_Vector_l88 a0 s53) (fun s79 t I' L' => I62 ≤ I' ∧ C59 ++ L = L' ∧ Knows 106 [(0, .slice A0_0 a0.length n0_0), (7, .slice A57 s53.1.length n58), (8, .bool s53.2.1), (9, .int .i64 s53.2.2), (10, .int .i64 s79)] t) (by kernel_rfl) ?_ hl78 ⟨(Imm.refl _), rfl, hK⟩
            rintro s79 o80 t I84 L' hb81 ⟨hI82, rfl, hK83⟩
            unfold tocsinref15_Vector_l88 at hb81
            refine gk_at hK83 ?_
            refine gk_seq (by kernel_rfl) ?_
            refine gk_seq (by kernel_rfl) ?_
            obtain ⟨j90, hj91, hb81⟩ := bind_some hb81
            refine gk_join (fun t I' L' => I84 ≤ I' ∧ C59 ++ L = L' ∧ Knows 106 [(0, .slice A0_0 a0.length n0_0), (7, .slice A57 s53.1.length n58), (8, .bool s53.2.1), (9, .int .i64 s53.2.2), (10, .int .i64 s79), (56, .bool j90)] t) ?_ ?_
            · refine gk_draw 14 [(0, true), (1, true), (2, true), (3, true), (4, true), (5, true), (6, true), (7, true), (8, true), (9, true), (10, true), (11, true), (12, true), (13, true)] (C59 ++ []) (List.forall_mem_append.2 ⟨fun q hq => (List.mem_append_left _ hq), (fun p hp => by cases hp)⟩) (by kernel_rfl) (by kernel_rfl) (by kernel_rfl) ?_ (by kernel_rfl)
              refine gd_pure 3 [0, 7, 8, 9, 10, 42] (K' := [(0, .slice A0_0 a0.length n0_0), (7, .slice A57 s53.1.length n58), (8, .bool s53.2.1), (9, .int .i64 s53.2.2), (10, .int .i64 s79), (42, .bool (decide (s79 > 0)))]) (s' := [(3, true), (4, true), (5, true), (6, true), (7, true), (8, true), (9, true), (10, true), (11, true), (12, true), (13, true)]) (CC.refl (List.forall_mem_append.2 ⟨fun q hq => (List.mem_append_left _ hq), (fun p hp => by cases hp)⟩)) (by kernel_rfl) ?_
              refine gd_case 42 (b := (decide (s79 > 0))) (by kernel_rfl) (fun hc95 => ?_) (fun hc95 => ?_)
              · have hj91 := cond_t hc95 hj91
                refine gd_pure 3 [0, 7, 8, 9, 10, 42, 43, 45] (K' := [(0, .slice A0_0 a0.length n0_0), (7, .slice A57 s53.1.length n58), (8, .bool s53.2.1), (9, .int .i64 s53.2.2), (10, .int .i64 s79), (42, .bool true), (43, .slice A57 s53.1.length n58), (45, .int .i64 (IntKind.wrap .i64 (s79 - 1)))]) (s' := [(6, true), (7, true), (8, true), (9, true), (10, true), (11, true), (12, true), (13, true)]) (CC.refl (List.forall_mem_append.2 ⟨fun q hq => (List.mem_append_left _ hq), (fun p hp => by cases hp)⟩)) (by kernel_rfl) ?_
                obtain ⟨x96, hx97, hj91⟩ := bind_some hj91
                obtain ⟨p98, cs99, hR100, hA101, ha102, hg109⟩ := OwnS.ixAtG hx97 (hO60.mono hI82)
                have hi103 := ix_some hx97
                obtain ⟨A104, n105, b107, hf106, hf108, rfl⟩ := kS38_open hR100
                refine gd_q (v := .pointer (some p98)) (by kernel_rfl) (by kernel_rfl) (CC.refl (List.forall_mem_append.2 ⟨fun q hq => (List.mem_append_left _ hq), (fun p hp => by cases hp)⟩)) (fun I' L' T hC kk => gl_indexAddrF (c := n58) (T' := 22) (e := 39) (xs := (.tmp 43)) (xi := (.tmp 45)) (kd := .i64) ha102 hi103.1 hi103.2.1 (by kernel_rfl) (by kernel_rfl) (by kernel_rfl) (by kernel_rfl) (by kernel_rfl) kk) ?_
                refine gd_pure 1 [0, 7, 8, 9, 10, 42, 47] (K' := [(0, .slice A0_0 a0.length n0_0), (7, .slice A57 s53.1.length n58), (8, .bool s53.2.1), (9, .int .i64 s53.2.2), (10, .int .i64 s79), (42, .bool true), (47, .pointer (some (p98.add 0)))]) (s' := [(8, true), (9, true), (10, true), (11, true), (12, true), (13, true)]) (CC.refl (List.forall_mem_append.2 ⟨fun q hq => (List.mem_append_left _ hq), (fun p hp => by cases hp)⟩)) (by kernel_rfl) ?_
                refine gd_q (v := .slice A104 x96.f0.length n105) (by kernel_rfl) (by kernel_rfl) (CC.refl (List.forall_mem_append.2 ⟨fun q hq => (List.mem_append_left _ hq), (fun p hp => by cases hp)⟩)) (fun I' L' T hC kk => gl_loadO (T' := 36) (xp := (.tmp 47)) (p := (p98.add 0)) (c := .slice A104 x96.f0.length n105) (n := 1) (by kernel_rfl) (by kernel_rfl) (by kernel_rfl) (by kernel_rfl) ((fun I' L' h => (hA101 I' L' h).drop 0) _ _ (fun q hq => hC.sub _ (List.mem_append_left _ hq))) kk) ?_
                refine gd_pure 2 [0, 7, 8, 9, 10, 42, 48, 49, 50] (K' := [(0, .slice A0_0 a0.length n0_0), (7, .slice A57 s53.1.length n58), (8, .bool s53.2.1), (9, .int .i64 s53.2.2), (10, .int .i64 s79), (42, .bool true), (48, .slice A104 x96.f0.length n105), (49, .slice A0_0 a0.length n0_0), (50, .int .i64 s53.2.2)]) (s' := [(11, true), (12, true), (13, true)]) (CC.refl (List.forall_mem_append.2 ⟨fun q hq => (List.mem_append_left _ hq), (fun p hp => by cases hp)⟩)) (by kernel_rfl) ?_
                obtain ⟨x110, hx111, hj91⟩ := bind_some hj91
                obtain ⟨p112, cs113, hR114, hA115, ha116⟩ := RepS.ixAt hx111 (hf0_0.mono (Imm.trans (Imm.trans hI15 hI56) hI82))
                have hi117 := ix_some hx111
                obtain ⟨A118, n119, b121, hf120, hf122, rfl⟩ := kS38_open hR114
                refine gd_q (v := .pointer (some p112)) (by kernel_rfl) (by kernel_rfl) (CC.refl (List.forall_mem_append.2 ⟨fun q hq => (List.mem_append_left _ hq), (fun p hp => by cases hp)⟩)) (fun I' L' T hC kk => gl_indexAddrF (c := n0_0) (T' := 22) (e := 39) (xs := (.tmp 49)) (xi := (.tmp 50)) (kd := .i64) ha116 hi117.1 hi117.2.1 (by kernel_rfl) (by kernel_rfl) (by kernel_rfl) (by kernel_rfl) (by kernel_rfl) kk) ?_
                refine gd_pure 1 [0, 7, 8, 9, 10, 42, 48, 52] (K' := [(0, .slice A0_0 a0.length n0_0), (7, .slice A57 s53.1.length n58), (8, .bool s53.2.1), (9, .int .i64 s53.2.2), (10, .int .i64 s79), (42, .bool true), (48, .slice A104 x96.f0.length n105), (52, .pointer (some (p112.add 0)))]) (s' := [(13, true)]) (CC.refl (List.forall_mem_append.2 ⟨fun q hq => (List.mem_append_left _ hq), (fun p hp => by cases hp)⟩)) (by kernel_rfl) ?_
                refine gd_q (v := .slice A118 x110.f0.length n119) (by kernel_rfl) (by kernel_rfl) (CC.refl (List.forall_mem_append.2 ⟨fun q hq => (List.mem_append_left _ hq), (fun p hp => by cases hp)⟩)) (fun I' L' T hC kk => gl_load (T' := 36) (xp := (.tmp 52)) (p := (p112.add 0)) (c := .slice A118 x110.f0.length n119) (n := 1) (by kernel_rfl) (by kernel_rfl) (by kernel_rfl) (by kernel_rfl) ((hA115.drop 0).mono hC.le) kk) ?_
                refine gd_done ?_
                obtain ⟨y123, hx124, hj91⟩ := bind_some hj91
                refine gl_callQ (by kernel_rfl) (tocsinref04_Compare_walk (r := y123) hf106 hf120 hx124 _) ?_
                refine gl_pure 2 [0, 7, 8, 9, 10, 56] (K' := [(0, .slice A0_0 a0.length n0_0), (7, .slice A57 s53.1.length n58), (8, .bool s53.2.1), (9, .int .i64 s53.2.2), (10, .int .i64 s79), (56, .bool (decide (y123 > 0)))]) (by kernel_rfl) ?_
                refine gl_atE (by kernel_rfl) ?_
                obtain rfl := some_inj hj91
                exact ge_mid fun t ht => ⟨(Imm.refl _), rfl, ht.pick (l := [0, 7, 8, 9, 10, 56]) (by kernel_rfl)⟩
              · have hj91 := cond_f hc95 hj91
                refine gd_pure 11 [0, 7, 8, 9, 10, 42, 48, 53] (K' := [(0, .slice A0_0 a0.length n0_0), (7, .slice A57 s53.1.length n58), (8, .bool s53.2.1), (9, .int .i64 s53.2.2), (10, .int .i64 s79), (42, .bool false), (48, undef), (53, undef)]) (s' := []) (CC.refl (List.forall_mem_append.2 ⟨fun q hq => (List.mem_append_left _ hq), (fun p hp => by cases hp)⟩)) (by kernel_rfl) ?_
                refine gd_done ?_
                refine gl_pure 3 [0, 7, 8, 9, 10, 56] (K' := [(0, .slice A0_0 a0.length n0_0), (7, .slice A57 s53.1.length n58), (8, .bool s53.2.1), (9, .int .i64 s53.2.2), (10, .int .i64 s79), (56, .bool false)]) (by kernel_rfl) ?_
                refine gl_atE (by kernel_rfl) ?_
                obtain rfl := some_inj hj91
                exact ge_mid fun t ht => ⟨(Imm.refl _), rfl, ht.pick (l := [0, 7, 8, 9, 10, 56]) (by kernel_rfl)⟩
            · rintro t I94 L' ⟨hI92, rfl, hK93⟩
              refine ge_at hK93 ?_
              refine ge_seq ?_
              refine gk_cond (b := j90) (by kernel_rfl) (by kernel_rfl) (fun hc125 => ?_) (fun hc125 => ?_)
              · have hb81 := cond_t hc125 hb81
                refine gk_skip (by kernel_rfl) ?_
                refine ge_seq ?_
                refine gk_block (by kernel_rfl) ?_
                refine gk_region (by kernel_rfl) ?_
                refine gl_pure 3 [0, 7, 8, 9, 10] (K' := [(0, .slice A0_0 a0.length n0_0), (7, .slice A57 s53.1.length n58), (8, .bool s53.2.1), (9, .int .i64 s53.2.2), (10, .int .i64 (IntKind.wrap .i64 (s79 - 1)))]) (by kernel_rfl) ?_
                refine gl_atE (by kernel_rfl) ?_
                refine ge_block_normal ?_
                obtain rfl := some_inj hb81
                exact ge_round fun t ht => ⟨(Imm.trans hI82 hI92), rfl, ht.pick (l := [0, 7, 8, 9, 10]) (by kernel_rfl)⟩
              · have hb81 := cond_f hc125 hb81
                refine gk_exit (by kernel_rfl) ?_
                refine ge_seq_exit ?_
                obtain rfl := some_inj hb81
                refine ge_round_out (fun hrr => ?_) (by intro h; cases h)
                obtain rfl := hrr
                refine ge_block_hit (by kernel_rfl) ?_
                exact ge_mid fun t ht => ⟨(Imm.trans hI82 hI92), rfl, ht.pick (l := [0, 7, 8, 9, 10]) (by kernel_rfl)⟩
          · rintro t I87 L' ⟨hI85, rfl, hK86⟩
            refine ge_at hK86 ?_
            refine ge_seq ?_
            refine gk_seq (by kernel_rfl) ?_
            obtain ⟨j126, hj127, hb55⟩ := bind_some hb55
            refine gk_join (fun t I' L' => I87 ≤ I' ∧ C59 ++ L = L' ∧ Knows 106 [(0, .slice A0_0 a0.length n0_0), (7, .slice A57 s53.1.length n58), (8, .bool j126), (9, .int .i64 s53.2.2), (10, .int .i64 r77)] t) ?_ ?_
            · refine gk_draw 16 [(0, true), (1, true), (2, true), (3, true), (4, true), (5, true), (6, true), (7, true), (8, true), (9, true), (10, true), (11, true), (12, true), (13, true), (14, true), (15, true)] (C59 ++ []) (List.forall_mem_append.2 ⟨fun q hq => (List.mem_append_left _ hq), (fun p hp => by cases hp)⟩) (by kernel_rfl) (by kernel_rfl) (by kernel_rfl) ?_ (by kernel_rfl)
              refine gd_pure 2 [0, 7, 8, 9, 10, 60] (K' := [(0, .slice A0_0 a0.length n0_0), (7, .slice A57 s53.1.length n58), (8, .bool s53.2.1), (9, .int .i64 s53.2.2), (10, .int .i64 r77), (60, .bool s53.2.1)]) (s' := [(2, true), (3, true), (4, true), (5, true), (6, true), (7, true), (8, true), (9, true), (10, true), (11, true), (12, true), (13, true), (14, true), (15, true)]) (CC.refl (List.forall_mem_append.2 ⟨fun q hq => (List.mem_append_left _ hq), (fun p hp => by cases hp)⟩)) (by kernel_rfl) ?_
              refine gd_case 60 (b := s53.2.1) (by kernel_rfl) (fun hc131 => ?_) (fun hc131 => ?_)
              · have hj127 := cond_t hc131 hj127
                refine gd_pure 14 [0, 7, 8, 9, 10, 60, 63, 69, 74] (K' := [(0, .slice A0_0 a0.length n0_0), (7, .slice A57 s53.1.length n58), (8, .bool s53.2.1), (9, .int .i64 s53.2.2), (10, .int .i64 r77), (60, .bool true), (63, undef), (69, undef), (74, undef)]) (s' := []) (CC.refl (List.forall_mem_append.2 ⟨fun q hq => (List.mem_append_left _ hq), (fun p hp => by cases hp)⟩)) (by kernel_rfl) ?_
                refine gd_done ?_
                refine gl_pure 4 [0, 7, 8, 9, 10] (K' := [(0, .slice A0_0 a0.length n0_0), (7, .slice A57 s53.1.length n58), (8, .bool true), (9, .int .i64 s53.2.2), (10, .int .i64 r77)]) (by kernel_rfl) ?_
                refine gl_atE (by kernel_rfl) ?_
                obtain rfl := some_inj hj127
                exact ge_mid fun t ht => ⟨(Imm.refl _), rfl, ht.pick (l := [0, 7, 8, 9, 10]) (by kernel_rfl)⟩
              · have hj127 := cond_f hc131 hj127
                refine gd_pure 3 [0, 7, 8, 9, 10, 60, 63] (K' := [(0, .slice A0_0 a0.length n0_0), (7, .slice A57 s53.1.length n58), (8, .bool s53.2.1), (9, .int .i64 s53.2.2), (10, .int .i64 r77), (60, .bool false), (63, .bool (decide (r77 > 0)))]) (s' := [(5, true), (6, true), (7, true), (8, true), (9, true), (10, true), (11, true), (12, true), (13, true), (14, true), (15, true)]) (CC.refl (List.forall_mem_append.2 ⟨fun q hq => (List.mem_append_left _ hq), (fun p hp => by cases hp)⟩)) (by kernel_rfl) ?_
                refine gd_case 63 (b := (decide (r77 > 0))) (by kernel_rfl) (fun hc132 => ?_) (fun hc132 => ?_)
                · have hj127 := cond_t hc132 hj127
                  refine gd_pure 3 [0, 7, 8, 9, 10, 60, 63, 64, 66] (K' := [(0, .slice A0_0 a0.length n0_0), (7, .slice A57 s53.1.length n58), (8, .bool s53.2.1), (9, .int .i64 s53.2.2), (10, .int .i64 r77), (60, .bool false), (63, .bool true), (64, .slice A57 s53.1.length n58), (66, .int .i64 (IntKind.wrap .i64 (r77 - 1)))]) (s' := [(8, true), (9, true), (10, true), (11, true), (12, true), (13, true), (14, true), (15, true)]) (CC.refl (List.forall_mem_append.2 ⟨fun q hq => (List.mem_append_left _ hq), (fun p hp => by cases hp)⟩)) (by kernel_rfl) ?_
                  obtain ⟨x133, hx134, hj127⟩ := bind_some hj127
                  obtain ⟨p135, cs136, hR137, hA138, ha139, hg146⟩ := OwnS.ixAtG hx134 (hO60.mono hI85)
                  have hi140 := ix_some hx134
                  obtain ⟨A141, n142, b144, hf143, hf145, rfl⟩ := kS38_open hR137
                  refine gd_q (v := .pointer (some p135)) (by kernel_rfl) (by kernel_rfl) (CC.refl (List.forall_mem_append.2 ⟨fun q hq => (List.mem_append_left _ hq), (fun p hp => by cases hp)⟩)) (fun I' L' T hC kk => gl_indexAddrF (c := n58) (T' := 22) (e := 39) (xs := (.tmp 64)) (xi := (.tmp 66)) (kd := .i64) ha139 hi140.1 hi140.2.1 (by kernel_rfl) (by kernel_rfl) (by kernel_rfl) (by kernel_rfl) (by kernel_rfl) kk) ?_
                  refine gd_pure 1 [0, 7, 8, 9, 10, 60, 63, 68] (K' := [(0, .slice A0_0 a0.length n0_0), (7, .slice A57 s53.1.length n58), (8, .bool s53.2.1), (9, .int .i64 s53.2.2), (10, .int .i64 r77), (60, .bool false), (63, .bool true), (68, .pointer (some (p135.add 0)))]) (s' := [(10, true), (11, true), (12, true), (13, true), (14, true), (15, true)]) (CC.refl (List.forall_mem_append.2 ⟨fun q hq => (List.mem_append_left _ hq), (fun p hp => by cases hp)⟩)) (by kernel_rfl) ?_
                  refine gd_q (v := .slice A141 x133.f0.length n142) (by kernel_rfl) (by kernel_rfl) (CC.refl (List.forall_mem_append.2 ⟨fun q hq => (List.mem_append_left _ hq), (fun p hp => by cases hp)⟩)) (fun I' L' T hC kk => gl_loadO (T' := 36) (xp := (.tmp 68)) (p := (p135.add 0)) (c := .slice A141 x133.f0.length n142) (n := 1) (by kernel_rfl) (by kernel_rfl) (by kernel_rfl) (by kernel_rfl) ((fun I' L' h => (hA138 I' L' h).drop 0) _ _ (fun q hq => hC.sub _ (List.mem_append_left _ hq))) kk) ?_
                  refine gd_pure 2 [0, 7, 8, 9, 10, 60, 63, 69, 70, 71] (K' := [(0, .slice A0_0 a0.length n0_0), (7, .slice A57 s53.1.length n58), (8, .bool s53.2.1), (9, .int .i64 s53.2.2), (10, .int .i64 r77), (60, .bool false), (63, .bool true), (69, .slice A141 x133.f0.length n142), (70, .slice A0_0 a0.length n0_0), (71, .int .i64 s53.2.2)]) (s' := [(13, true), (14, true), (15, true)]) (CC.refl (List.forall_mem_append.2 ⟨fun q hq => (List.mem_append_left _ hq), (fun p hp => by cases hp)⟩)) (by kernel_rfl) ?_
                  obtain ⟨x147, hx148, hj127⟩ := bind_some hj127
                  obtain ⟨p149, cs150, hR151, hA152, ha153⟩ := RepS.ixAt hx148 (hf0_0.mono (Imm.trans (Imm.trans hI15 hI56) hI85))
                  have hi154 := ix_some hx148
                  obtain ⟨A155, n156, b158, hf157, hf159, rfl⟩ := kS38_open hR151
                  refine gd_q (v := .pointer (some p149)) (by kernel_rfl) (by kernel_rfl) (CC.refl (List.forall_mem_append.2 ⟨fun q hq => (List.mem_append_left _ hq), (fun p hp => by cases hp)⟩)) (fun I' L' T hC kk => gl_indexAddrF (c := n0_0) (T' := 22) (e := 39) (xs := (.tmp 70)) (xi := (.tmp 71)) (kd := .i64) ha153 hi154.1 hi154.2.1 (by kernel_rfl) (by kernel_rfl) (by kernel_rfl) (by kernel_rfl) (by kernel_rfl) kk) ?_
                  refine gd_pure 1 [0, 7, 8, 9, 10, 60, 63, 69, 73] (K' := [(0, .slice A0_0 a0.length n0_0), (7, .slice A57 s53.1.length n58), (8, .bool s53.2.1), (9, .int .i64 s53.2.2), (10, .int .i64 r77), (60, .bool false), (63, .bool true), (69, .slice A141 x133.f0.length n142), (73, .pointer (some (p149.add 0)))]) (s' := [(15, true)]) (CC.refl (List.forall_mem_append.2 ⟨fun q hq => (List.mem_append_left _ hq), (fun p hp => by cases hp)⟩)) (by kernel_rfl) ?_
                  refine gd_q (v := .slice A155 x147.f0.length n156) (by kernel_rfl) (by kernel_rfl) (CC.refl (List.forall_mem_append.2 ⟨fun q hq => (List.mem_append_left _ hq), (fun p hp => by cases hp)⟩)) (fun I' L' T hC kk => gl_load (T' := 36) (xp := (.tmp 73)) (p := (p149.add 0)) (c := .slice A155 x147.f0.length n156) (n := 1) (by kernel_rfl) (by kernel_rfl) (by kernel_rfl) (by kernel_rfl) ((hA152.drop 0).mono hC.le) kk) ?_
                  refine gd_done ?_
                  obtain ⟨y160, hx161, hj127⟩ := bind_some hj127
                  refine gl_callQ (by kernel_rfl) (tocsinref04_Same_walk (r := y160) hf143 hf157 hx161 _) ?_
                  refine gl_pure 3 [0, 7, 8, 9, 10] (K' := [(0, .slice A0_0 a0.length n0_0), (7, .slice A57 s53.1.length n58), (8, .bool y160), (9, .int .i64 s53.2.2), (10, .int .i64 r77)]) (by kernel_rfl) ?_
                  refine gl_atE (by kernel_rfl) ?_
                  obtain rfl := some_inj hj127
                  exact ge_mid fun t ht => ⟨(Imm.refl _), rfl, ht.pick (l := [0, 7, 8, 9, 10]) (by kernel_rfl)⟩
                · have hj127 := cond_f hc132 hj127
                  refine gd_pure 11 [0, 7, 8, 9, 10, 60, 63, 69, 74] (K' := [(0, .slice A0_0 a0.length n0_0), (7, .slice A57 s53.1.length n58), (8, .bool s53.2.1), (9, .int .i64 s53.2.2), (10, .int .i64 r77), (60, .bool false), (63, .bool false), (69, undef), (74, undef)]) (s' := []) (CC.refl (List.forall_mem_append.2 ⟨fun q hq => (List.mem_append_left _ hq), (fun p hp => by cases hp)⟩)) (by kernel_rfl) ?_
                  refine gd_done ?_
                  refine gl_pure 4 [0, 7, 8, 9, 10] (K' := [(0, .slice A0_0 a0.length n0_0), (7, .slice A57 s53.1.length n58), (8, .bool false), (9, .int .i64 s53.2.2), (10, .int .i64 r77)]) (by kernel_rfl) ?_
                  refine gl_atE (by kernel_rfl) ?_
                  obtain rfl := some_inj hj127
                  exact ge_mid fun t ht => ⟨(Imm.refl _), rfl, ht.pick (l := [0, 7, 8, 9, 10]) (by kernel_rfl)⟩
            · rintro t I130 L' ⟨hI128, rfl, hK129⟩
              refine ge_at hK129 ?_
              refine ge_seq ?_
              refine gk_seq (by kernel_rfl) ?_
              refine gk_region (by kernel_rfl) ?_
              refine gl_pure 1 [0, 7, 8, 9, 10, 11] (K' := [(0, .slice A0_0 a0.length n0_0), (7, .slice A57 s53.1.length n58), (8, .bool j126), (9, .int .i64 s53.2.2), (10, .int .i64 r77), (11, .slice none 0 0)]) (by kernel_rfl) ?_
              refine gl_atE (by kernel_rfl) ?_
              refine ge_seq ?_
              refine gk_seq (by kernel_rfl) ?_
              refine gk_region (by kernel_rfl) ?_
              refine gl_pure 3 [0, 7, 8, 9, 10, 78, 79, 80] (K' := [(0, .slice A0_0 a0.length n0_0), (7, .slice A57 s53.1.length n58), (8, .bool j126), (9, .int .i64 s53.2.2), (10, .int .i64 r77), (78, .slice none 0 0), (79, .slice A57 s53.1.length n58), (80, .int .i64 r77)]) (by kernel_rfl) ?_
              obtain ⟨l163, hx162, hb55⟩ := bind_some hb55
              have hlc164 := OwnS.lenc (hO60.mono (Imm.trans hI85 hI128))
              have hd165 := lx_take hx162
              refine gl_sliceH (A := A57) (c := n58) (n := 2) (T' := 22) (e := 39) (xs := (.tmp 79)) (lo := none) (hi := (some (.tmp 80))) hx162 hlc164 (by kernel_rfl) (by kernel_rfl) (by kernel_rfl) (by kernel_rfl) (by kernel_rfl) (by kernel_rfl) ?_
              obtain ⟨zs166, hz167, hb55⟩ := bind_some hb55
              refine gl_append (xv := .slice A57 l163.length n58) (d := kS38) (t := 22) (tx := 22) (e := 39) (s := (.tmp 78)) (x := (.tmp 81)) (xs := []) (A := none) (c := 0) (C := []) (fun X => X ++ (C59 ++ L)) hz167 (by kernel_rfl) (by kernel_rfl) (by kernel_rfl) (by kernel_rfl) (by kernel_rfl) (by kernel_rfl) (fun X => Upd.new X _) (OwnS.nil _ _ _ none) (SrcOk.slice (c := n58) (e := 39) (n := 2) (OwnS.rd (OwnS.head hd165 (hO60.mono (Imm.trans hI85 hI128))) (Upd.selfC _ _)) (by kernel_rfl)) (fun A168 n169 C170 hO171 => ?_)
              refine gl_pure 1 [0, 7, 8, 9, 10, 11] (K' := [(0, .slice A0_0 a0.length n0_0), (7, .slice A57 s53.1.length n58), (8, .bool j126), (9, .int .i64 s53.2.2), (10, .int .i64 r77), (11, .slice A168 zs166.length n169)]) (by kernel_rfl) ?_
              refine gl_atE (by kernel_rfl) ?_
              refine ge_seq ?_
              refine gk_seq (by kernel_rfl) ?_
              refine gk_draw 14 [(0, true), (1, true), (2, true), (3, true), (4, true), (5, true), (7, true), (8, true), (9, true), (10, true), (11, true), (6, false), (12, true), (13, false)] [] (fun p hp => by cases hp) (by kernel_rfl) (by kernel_rfl) (by kernel_rfl) ?_ (by kernel_rfl)
              refine gd_pure 3 [0, 7, 8, 9, 10, 11, 83, 84, 85] (K' := [(0, .slice A0_0 a0.length n0_0), (7, .slice A57 s53.1.length n58), (8, .bool j126), (9, .int .i64 s53.2.2), (10, .int .i64 r77), (11, .slice A168 zs166.length n169), (83, .slice A168 zs166.length n169), (84, .slice A0_0 a0.length n0_0), (85, .int .i64 s53.2.2)]) (s' := [(3, true), (4, true), (5, true), (7, true), (8, true), (9, true), (10, true), (11, true), (6, false), (12, true), (13, false)]) (CC.refl (fun p hp => by cases hp)) (by kernel_rfl) ?_
              obtain ⟨x172, hx173, hb55⟩ := bind_some hb55
              obtain ⟨p174, cs175, hR176, hA177, ha178⟩ := RepS.ixAt hx173 (hf0_0.mono (Imm.trans (Imm.trans (Imm.trans hI15 hI56) hI85) hI128))
              have hi179 := ix_some hx173
              obtain ⟨A180, n181, b183, hf182, hf184, rfl⟩ := kS38_open hR176
              refine gd_q (v := .pointer (some p174)) (by kernel_rfl) (by kernel_rfl) (CC.refl (fun p hp => by cases hp)) (fun I' L' T hC kk => gl_indexAddrF (c := n0_0) (T' := 22) (e := 39) (xs := (.tmp 84)) (xi := (.tmp 85)) (kd := .i64) ha178 hi179.1 hi179.2.1 (by kernel_rfl) (by kernel_rfl) (by kernel_rfl) (by kernel_rfl) (by kernel_rfl) kk) ?_
              refine gd_pure 1 [0, 7, 8, 9, 10, 11, 83, 87] (K' := [(0, .slice A0_0 a0.length n0_0), (7, .slice A57 s53.1.length n58), (8, .bool j126), (9, .int .i64 s53.2.2), (10, .int .i64 r77), (11, .slice A168 zs166.length n169), (83, .slice A168 zs166.length n169), (87, .pointer (some (p174.add 0)))]) (s' := [(5, true), (7, true), (8, true), (9, true), (10, true), (11, true), (6, false), (12, true), (13, false)]) (CC.refl (fun p hp => by cases hp)) (by kernel_rfl) ?_
              refine gd_q (v := .slice A180 x172.f0.length n181) (by kernel_rfl) (by kernel_rfl) (CC.refl (fun p hp => by cases hp)) (fun I' L' T hC kk => gl_load (T' := 36) (xp := (.tmp 87)) (p := (p174.add 0)) (c := .slice A180 x172.f0.length n181) (n := 1) (by kernel_rfl) (by kernel_rfl) (by kernel_rfl) (by kernel_rfl) ((hA177.drop 0).mono hC.le) kk) ?_
              refine gd_pure 2 [0, 7, 8, 9, 10, 11, 83, 88, 90, 91] (K' := [(0, .slice A0_0 a0.length n0_0), (7, .slice A57 s53.1.length n58), (8, .bool j126), (9, .int .i64 s53.2.2), (10, .int .i64 r77), (11, .slice A168 zs166.length n169), (83, .slice A168 zs166.length n169), (88, .slice A180 x172.f0.length n181), (90, .slice A0_0 a0.length n0_0), (91, .int .i64 s53.2.2)]) (s' := [(9, true), (10, true), (11, true), (6, false), (12, true), (13, false)]) (CC.refl (fun p hp => by cases hp)) (by kernel_rfl) ?_
              obtain ⟨x185, hx186, hb55⟩ := bind_some hb55
              obtain ⟨p187, cs188, hR189, hA190, ha191⟩ := RepS.ixAt hx186 (hf0_0.mono (Imm.trans (Imm.trans (Imm.trans hI15 hI56) hI85) hI128))
              have hi192 := ix_some hx186
              obtain ⟨A193, n194, b196, hf195, hf197, rfl⟩ := kS38_open hR189
              refine gd_q (v := .pointer (some p187)) (by kernel_rfl) (by kernel_rfl) (CC.refl (fun p hp => by cases hp)) (fun I' L' T hC kk => gl_indexAddrF (c := n0_0) (T' := 22) (e := 39) (xs := (.tmp 90)) (xi := (.tmp 91)) (kd := .i64) ha191 hi192.1 hi192.2.1 (by kernel_rfl) (by kernel_rfl) (by kernel_rfl) (by kernel_rfl) (by kernel_rfl) kk) ?_
              refine gd_pure 1 [0, 7, 8, 9, 10, 11, 83, 88, 93] (K' := [(0, .slice A0_0 a0.length n0_0), (7, .slice A57 s53.1.length n58), (8, .bool j126), (9, .int .i64 s53.2.2), (10, .int .i64 r77), (11, .slice A168 zs166.length n169), (83, .slice A168 zs166.length n169), (88, .slice A180 x172.f0.length n181), (93, .pointer (some (p187.add 1)))]) (s' := [(11, true), (6, false), (12, true), (13, false)]) (CC.refl (fun p hp => by cases hp)) (by kernel_rfl) ?_
              refine gd_q (v := .float .f64 b196) (by kernel_rfl) (by kernel_rfl) (CC.refl (fun p hp => by cases hp)) (fun I' L' T hC kk => gl_load (T' := 37) (xp := (.tmp 93)) (p := (p187.add 1)) (c := .float .f64 b196) (n := 1) (by kernel_rfl) (by kernel_rfl) (by kernel_rfl) (by kernel_rfl) ((hA190.drop 1).mono hC.le) kk) ?_
              refine gd_one (by kernel_rfl) ?_
              obtain ⟨y198, hx199, hb55⟩ := bind_some hb55
              refine gl_call (by kernel_rfl) (tocsinref09_Own_walk (r := y198) hf182 hx199 _) ?_
              rintro v I200 L201 hI202 ⟨A203, c204, C205, hO206, rfl, rfl⟩
              refine gl_toD (by kernel_rfl) ⟨hI202, (fun p hp => by cases hp)⟩ ?_
              refine gd_pure 1 [0, 7, 8, 9, 10, 11, 83, 95] (K' := [(0, .slice A0_0 a0.length n0_0), (7, .slice A57 s53.1.length n58), (8, .bool j126), (9, .int .i64 s53.2.2), (10, .int .i64 r77), (11, .slice A168 zs166.length n169), (83, .slice A168 zs166.length n169), (95, .agg #[.slice A203 y198.length c204, .float .f64 b196])]) (s' := [(13, false)]) (CC.refl (fun p hp => by cases hp)) (by kernel_rfl) ?_
              refine gd_one (by kernel_rfl) ?_
              refine gl_rest (Tk.step (Upd.rmC _ _) (Tk.nil _)) (fun J207 hJ208 hC209 => ?_)
              have hf210 := (OwnS.rest hO206 hJ208 hC209.left)
              refine gl_buildSlice (T' := 22) (e := 39) (n := 2) (len := 1) (parts := #[(0, (.tmp 95))]) (l := [(0, .agg #[.slice A203 y198.length c204, .float .f64 b196])]) (cs := #[.slice A203 y198.length c204, .float .f64 b196]) (by kernel_rfl) (by kernel_rfl) (by kernel_rfl) (by kernel_rfl) (by kernel_rfl) (fun g211 => ?_)
              have hO212 : OwnS kS38 39 J207 (some ⟨g211, 0, none⟩) 1 [(⟨y198, x185.f1⟩ : S38)] [(g211, .cells #[.slice A203 y198.length c204, .float .f64 b196] 39)] := OwnS.lit (row_cons (l := [.slice A203 y198.length c204, .float .f64 b196]) (kS38_mk (x := (⟨y198, x185.f1⟩ : S38)) hf210 hf197) (row_nil _ _)) rfl rfl rfl
              refine gl_reord (D := [(g211, .cells #[.slice A203 y198.length c204, .float .f64 b196] 39)] ++ (C170 ++ (C59 ++ L))) (Reord.refl _) ?_
              refine gl_toD (by kernel_rfl) ⟨hJ208, (fun p hp => by cases hp)⟩ ?_
              refine gd_done ?_
              obtain ⟨zs215, hz216, hb55⟩ := bind_some hb55
              refine gl_append (xv := .slice (some ⟨g211, 0, none⟩) [(⟨y198, x185.f1⟩ : S38)].length 1) (d := kS38) (t := 22) (tx := 22) (e := 39) (s := (.tmp 83)) (x := (.tmp 96)) (xs := zs166) (fun X => [(g211, .cells #[.slice A203 y198.length c204, .float .f64 b196] 39)] ++ (X ++ (C59 ++ L))) hz216 (by kernel_rfl) (by kernel_rfl) (by kernel_rfl) (by kernel_rfl) (by kernel_rfl) (by kernel_rfl) (fun X => (Upd.app _ (Upd.head _ X _))) (hO171.mono (Imm.trans hI202 hJ208)) (SrcOk.slice (c := 1) (e := 39) (n := 2) (OwnS.rd hO212 (Upd.selfC _ _)) (by kernel_rfl)) (fun A217 n218 C219 hO220 => ?_)
              refine gl_pure 1 [0, 7, 8, 9, 10, 11] (K' := [(0, .slice A0_0 a0.length n0_0), (7, .slice A57 s53.1.length n58), (8, .bool j126), (9, .int .i64 s53.2.2), (10, .int .i64 r77), (11, .slice A217 zs215.length n218)]) (by kernel_rfl) ?_
              refine gl_atE (by kernel_rfl) ?_
              refine ge_seq ?_
              refine gk_seq (by kernel_rfl) ?_
              refine gk_region (by kernel_rfl) ?_
              refine gl_pure 3 [0, 8, 9, 98, 99, 100] (K' := [(0, .slice A0_0 a0.length n0_0), (8, .bool j126), (9, .int .i64 s53.2.2), (98, .slice A217 zs215.length n218), (99, .slice A57 s53.1.length n58), (100, .int .i64 r77)]) (by kernel_rfl) ?_
              obtain ⟨l222, hx221, hb55⟩ := bind_some hb55
              have hlc223 := OwnS.lenc (hO60.mono (Imm.trans (Imm.trans (Imm.trans hI85 hI128) hI202) hJ208))
              have hV224 := OwnS.view hx221 (hO60.mono (Imm.trans (Imm.trans (Imm.trans hI85 hI128) hI202) hJ208))
              refine gl_sliceT (A := A57) (c := n58) (n := 2) (T' := 22) (e := 39) (xs := (.tmp 99)) (lo := (some (.tmp 100))) hx221 hlc223 (by kernel_rfl) (by kernel_rfl) (by kernel_rfl) (by kernel_rfl) (by kernel_rfl) ?_
              obtain ⟨zs225, hz226, hb55⟩ := bind_some hb55
              refine gl_append (xv := .slice (viewA A57 r77 2 n58) l222.length (n58 - (r77).toNat)) (d := kS38) (t := 22) (tx := 22) (e := 39) (s := (.tmp 98)) (x := (.tmp 101)) (xs := zs215) (fun X => [(g211, .cells #[.slice A203 y198.length c204, .float .f64 b196] 39)] ++ (X ++ (C59 ++ L))) hz226 (by kernel_rfl) (by kernel_rfl) (by kernel_rfl) (by kernel_rfl) (by kernel_rfl) (by kernel_rfl) (fun X => (Upd.app _ (Upd.head _ X _))) hO220 (SrcOk.slice (c := (n58 - (r77).toNat)) (e := 39) (n := 2) (OwnS.rdT hx221 hV224 (hO60.mono (Imm.trans (Imm.trans (Imm.trans hI85 hI128) hI202) hJ208)) (Upd.app _ (Upd.app _ (Upd.selfC _ _)))) (by kernel_rfl)) (fun A227 n228 C229 hO230 => ?_)
              refine gl_pure 1 [0, 8, 9, 11] (K' := [(0, .slice A0_0 a0.length n0_0), (8, .bool j126), (9, .int .i64 s53.2.2), (11, .slice A227 zs225.length n228)]) (by kernel_rfl) ?_
              refine gl_atE (by kernel_rfl) ?_
              refine ge_seq ?_
              refine gk_region (by kernel_rfl) ?_
              refine gl_pure 2 [0, 7, 8, 9] (K' := [(0, .slice A0_0 a0.length n0_0), (7, .slice A227 zs225.length n228), (8, .bool j126), (9, .int .i64 s53.2.2)]) (by kernel_rfl) ?_
              refine gl_atE (by kernel_rfl) ?_
              refine ge_block_normal ?_
              refine ge_seq ?_
              refine gk_region (by kernel_rfl) ?_
              refine gl_pure 3 [0, 7, 8, 9] (K' := [(0, .slice A0_0 a0.length n0_0), (7, .slice A227 zs225.length n228), (8, .bool j126), (9, .int .i64 (IntKind.wrap .i64 (s53.2.2 + 1)))]) (by kernel_rfl) ?_
              refine gl_reord (D := C229 ++ L) (Reord.step (Upd.app _ (Upd.rmC _ _)) (Reord.skipC (Reord.skipC (Reord.refl _)))) ?_
              refine gl_atE (by kernel_rfl) ?_
              obtain rfl := some_inj hb55
              exact ge_round fun t ht => ⟨A227, n228, C229, hO230, (Imm.trans (Imm.trans (Imm.trans (Imm.trans hI56 hI85) hI128) hI202) hJ208), rfl, ht.pick (l := [0, 7, 8, 9]) (by kernel_rfl)⟩
        · have hb55 := cond_f hc72 hb55
          refine gk_exit (by kernel_rfl) ?_
          refine ge_seq_exit ?_
          obtain rfl := some_inj hb55
          refine ge_round_out (fun hrr => ?_) (by intro h; cases h)
          obtain rfl := hrr
          refine ge_block_hit (by kernel_rfl) ?_
          exact ge_mid fun t ht => ⟨A57, n58, C59, hO60, hI56, rfl, ht.pick (l := [7, 8]) (by kernel_rfl)⟩
      · rintro t I69 L' ⟨A64, n65, C66, hO67, hI63, rfl, hK68⟩
        refine ge_at hK68 ?_
        refine ge_seq ?_
        refine gk_seq (by kernel_rfl) ?_
        refine gk_seq (by kernel_rfl) ?_
        refine gk_region (by kernel_rfl) ?_
        refine gl_pure 1 [7, 104] (K' := [(7, .slice A64 r51.1.length n65), (104, .bool r51.2)]) (by kernel_rfl) ?_
        refine gl_atE (by kernel_rfl) ?_
        refine ge_seq ?_
        refine gk_cond (b := r51.2) (by kernel_rfl) (by kernel_rfl) (fun hc231 => ?_) (fun hc231 => ?_)
        · have hr := cond_t hc231 hr
          refine gk_seq (by kernel_rfl) ?_
          refine gk_region (by kernel_rfl) ?_
          refine gl_pure 2 [2, 3] (K' := [(2, .slice none 0 0), (3, .int .i64 150)]) (by kernel_rfl) ?_
          refine gl_atE (by kernel_rfl) ?_
          refine ge_seq ?_
          refine gk_reord (D := L) (Reord.skipC (Reord.refl _)) ?_
          refine gk_ret (by kernel_rfl) ?_
          refine ge_seq_ret ?_
          obtain rfl := some_inj hr
          exact ge_result trivial (ResOk.tmp (by kernel_rfl) (ResOk.tmp (by kernel_rfl) ResOk.nil)) (Imm.trans hI15 hI63) ⟨none, 0, [], OwnS.nil _ _ _ _, rfl, rfl⟩
        · have hr := cond_f hc231 hr
          refine gk_skip (by kernel_rfl) ?_
          refine ge_seq ?_
          refine gk_seq (by kernel_rfl) ?_
          refine gk_region (by kernel_rfl) ?_
          refine gl_pure 3 [2, 3] (K' := [(2, .slice A64 r51.1.length n65), (3, .int .i64 0)]) (by kernel_rfl) ?_
          refine gl_atE (by kernel_rfl) ?_
          refine ge_seq ?_
          refine gk_ret (by kernel_rfl) ?_
          obtain rfl := some_inj hr
          exact ge_result trivial (ResOk.tmp (by kernel_rfl) (ResOk.tmp (by kernel_rfl) ResOk.nil)) (Imm.trans hI15 hI63) ⟨A64, n65, C66, hO67, rfl, rfl⟩
noncomputable def tocsinref16_Named_l17 (a0 : List ByteArray) : Int → Option ((Int) ⊕ ((Unit) ⊕ (Bool))) := fun s7 =>
  bif (decide (s7 < (a0.length : Int))) then
  (Option.bind (ix a0 s7) fun (x20 : ByteArray) =>
    Option.bind (tocsinref04_Name x20) fun (y28 : Bool) =>
    bif (!y28) then
    (some (Sum.inr (Sum.inr false)))
    else
    (some (Sum.inl (IntKind.wrap .i64 (s7 + 1)))))
  else
  (some (Sum.inr (Sum.inl ())))
noncomputable def tocsinref16_Named (a0 : List ByteArray) : Option Bool :=
  Option.bind (loopO (tocsinref16_Named_l17 a0) 0) fun (r5 : (Unit) ⊕ (Bool)) =>
  match r5 with
  | Sum.inl r13 => some true
  | Sum.inr v31 => some v31
theorem tocsinref16_Named_walk {a0 : List ByteArray} {A0_0 : Option Addr} {n0_0 : Nat} {I : Imm} {r : Bool}  (hf0_0 : RepS Kd.str I A0_0 n0_0 a0) (hr : tocsinref16_Named a0 = some r) (L : Own) :
    CallsTo Tryz.prog 68 #[.slice A0_0 a0.length n0_0] I L (fun v I' L' => v = .bool r ∧ L = L') := by
  unfold tocsinref16_Named at hr
  refine callsTo_body (N := 15) Tryz.func68 (by kernel_rfl) (by kernel_rfl) (by kernel_rfl) ?_
  refine gk_pick [0] (K' := [(0, .slice A0_0 a0.length n0_0)]) (by kernel_rfl) ?_
  refine gk_seq (by kernel_rfl) ?_
  refine gk_region (by kernel_rfl) ?_
  refine gl_pure 1 [0] (K' := [(0, .slice A0_0 a0.length n0_0)]) (by kernel_rfl) ?_
  refine gl_atE (by kernel_rfl) ?_
  refine ge_seq ?_
  refine gk_seq (by kernel_rfl) ?_
  refine gk_seq (by kernel_rfl) ?_
  refine gk_region (by kernel_rfl) ?_
  refine gl_pure 3 [5, 6, 7] (K' := [(5, .slice A0_0 a0.length n0_0), (6, .int .i64 (a0.length : Int)), (7, .int .i64 0)]) (by kernel_rfl) ?_
  refine gl_atE (by kernel_rfl) ?_
  refine ge_seq ?_
  obtain ⟨r5, hl6, hr⟩ := bind_some hr
  refine gk_join (fun t I' L' => ∃ r13, r5 = Sum.inl r13 ∧ I ≤ I' ∧ L = L' ∧ Knows 15 [] t) ?_ ?_
  · refine gk_block (by kernel_rfl) ?_
    refine gk_pick [5, 6, 7] (K' := [(5, .slice A0_0 a0.length n0_0), (6, .int .i64 (a0.length : Int)), (7, .int .i64 0)]) (by kernel_rfl) ?_
    intro t hK
    refine gc_loop (tocsinref16_Named_l17 a0) (fun s7 t I' L' => I ≤ I' ∧ L = L' ∧ Knows 15 [(5, .slice A0_0 a0.length n0_0), (6, .int .i64 (a0.length : Int)), (7, .int .i64 s7)] t) (by kernel_rfl) ?_ hl6 ⟨(Imm.refl _), rfl, hK⟩
    rintro s7 o8 t I12 L' hb9 ⟨hI10, rfl, hK11⟩
    unfold tocsinref16_Named_l17 at hb9
    refine gk_at hK11 ?_
    refine gk_seq (by kernel_rfl) ?_
    refine gk_region (by kernel_rfl) ?_
    refine gl_pure 1 [5, 6, 7, 8] (K' := [(5, .slice A0_0 a0.length n0_0), (6, .int .i64 (a0.length : Int)), (7, .int .i64 s7), (8, .bool (decide (s7 < (a0.length : Int))))]) (by kernel_rfl) ?_
    refine gl_atE (by kernel_rfl) ?_
    refine ge_seq ?_
    refine gk_seq (by kernel_rfl) ?_
    refine gk_cond (b := (decide (s7 < (a0.length : Int)))) (by kernel_rfl) (by kernel_rfl) (fun hc19 => ?_) (fun hc19 => ?_)
    · have hb9 := cond_t hc19 hb9
      refine gk_skip (by kernel_rfl) ?_
      refine ge_seq ?_
      refine gk_seq (by kernel_rfl) ?_
      refine gk_block (by kernel_rfl) ?_
      refine gk_seq (by kernel_rfl) ?_
      refine gk_region (by kernel_rfl) ?_
      obtain ⟨x20, hx21, hb9⟩ := bind_some hb9
      obtain ⟨p22, cs23, hR24, hA25, ha26⟩ := RepS.ixAt hx21 (hf0_0.mono hI10)
      have hi27 := ix_some hx21
      obtain rfl := hR24
      refine gl_indexAddrF (c := n0_0) (T' := 23) (e := 9) (xs := (.tmp 5)) (xi := (.tmp 7)) (kd := .i64) ha26 hi27.1 hi27.2.1 (by kernel_rfl) (by kernel_rfl) (by kernel_rfl) (by kernel_rfl) (by kernel_rfl) ?_
      refine gl_load (T' := 9) (xp := (.tmp 9)) (p := p22) (c := .string x20) (n := 1) (by kernel_rfl) (by kernel_rfl) (by kernel_rfl) (by kernel_rfl) hA25 ?_
      refine gl_pure 1 [4, 5, 6, 7] (K' := [(4, .string x20), (5, .slice A0_0 a0.length n0_0), (6, .int .i64 (a0.length : Int)), (7, .int .i64 s7)]) (by kernel_rfl) ?_
      refine gl_atE (by kernel_rfl) ?_
      refine ge_seq ?_
      refine gk_seq (by kernel_rfl) ?_
      refine gk_region (by kernel_rfl) ?_
      refine gl_pure 1 [5, 6, 7, 11] (K' := [(5, .slice A0_0 a0.length n0_0), (6, .int .i64 (a0.length : Int)), (7, .int .i64 s7), (11, .string x20)]) (by kernel_rfl) ?_
      obtain ⟨y28, hx29, hb9⟩ := bind_some hb9
      refine gl_callQ (by kernel_rfl) (tocsinref04_Name_walk (r := y28)  hx29 _) ?_
      refine gl_pure 1 [5, 6, 7, 13] (K' := [(5, .slice A0_0 a0.length n0_0), (6, .int .i64 (a0.length : Int)), (7, .int .i64 s7), (13, .bool (!y28))]) (by kernel_rfl) ?_
      refine gl_atE (by kernel_rfl) ?_
      refine ge_seq ?_
      refine gk_cond (b := (!y28)) (by kernel_rfl) (by kernel_rfl) (fun hc30 => ?_) (fun hc30 => ?_)
      · have hb9 := cond_t hc30 hb9
        refine gk_seq (by kernel_rfl) ?_
        refine gk_region (by kernel_rfl) ?_
        refine gl_pure 1 [2] (K' := [(2, .bool false)]) (by kernel_rfl) ?_
        refine gl_atE (by kernel_rfl) ?_
        refine ge_seq ?_
        refine gk_ret (by kernel_rfl) ?_
        refine ge_block_ret ?_
        refine ge_seq_ret ?_
        obtain rfl := some_inj hb9
        refine ge_round_out (fun hrr => ?_) (by intro h; cases h)
        obtain rfl := hrr
        refine ge_block_ret ?_
        refine ge_seq_ret ?_
        refine ge_seq_ret ?_
        obtain rfl := some_inj hr
        exact ge_result trivial (ResOk.tmp (by kernel_rfl) ResOk.nil) hI10 ⟨rfl, rfl⟩
      · have hb9 := cond_f hc30 hb9
        refine gk_skip (by kernel_rfl) ?_
        refine ge_block_normal ?_
        refine ge_seq ?_
        refine gk_region (by kernel_rfl) ?_
        refine gl_pure 2 [5, 6, 7] (K' := [(5, .slice A0_0 a0.length n0_0), (6, .int .i64 (a0.length : Int)), (7, .int .i64 (IntKind.wrap .i64 (s7 + 1)))]) (by kernel_rfl) ?_
        refine gl_atE (by kernel_rfl) ?_
        obtain rfl := some_inj hb9
        exact ge_round fun t ht => ⟨hI10, rfl, ht.pick (l := [5, 6, 7]) (by kernel_rfl)⟩
    · have hb9 := cond_f hc19 hb9
      refine gk_exit (by kernel_rfl) ?_
      refine ge_seq_exit ?_
      obtain rfl := some_inj hb9
      refine ge_round_out (fun hrr => ?_) (by intro h; cases h)
      obtain rfl := hrr
      refine ge_block_hit (by kernel_rfl) ?_
      exact ge_mid fun t ht => ⟨_, rfl, hI10, rfl, ht.pick (l := []) (by kernel_rfl)⟩
  · rintro t I16 L' ⟨r13, rfl, hI14, rfl, hK15⟩
    refine ge_at hK15 ?_
    refine ge_seq ?_
    refine gk_seq (by kernel_rfl) ?_
    refine gk_region (by kernel_rfl) ?_
    refine gl_pure 1 [2] (K' := [(2, .bool true)]) (by kernel_rfl) ?_
    refine gl_atE (by kernel_rfl) ?_
    refine ge_seq ?_
    refine gk_ret (by kernel_rfl) ?_
    obtain rfl := some_inj hr
    exact ge_result trivial (ResOk.tmp (by kernel_rfl) ResOk.nil) hI14 ⟨rfl, rfl⟩
noncomputable def tocsinref04_has_l17 (a0 : List ByteArray) (a1 : ByteArray) : Int → Option ((Int) ⊕ ((Unit) ⊕ (Bool))) := fun s7 =>
  bif (decide (s7 < (a0.length : Int))) then
  (Option.bind (ix a0 s7) fun (x20 : ByteArray) =>
    bif (x20.toList == a1.toList) then
    (some (Sum.inr (Sum.inr true)))
    else
    (some (Sum.inl (IntKind.wrap .i64 (s7 + 1)))))
  else
  (some (Sum.inr (Sum.inl ())))
noncomputable def tocsinref04_has (a0 : List ByteArray) (a1 : ByteArray) : Option Bool :=
  Option.bind (loopO (tocsinref04_has_l17 a0 a1) 0) fun (r5 : (Unit) ⊕ (Bool)) =>
  match r5 with
  | Sum.inl r13 => some false
  | Sum.inr v29 => some v29
theorem tocsinref04_has_walk {a0 : List ByteArray} {A0_0 : Option Addr} {n0_0 : Nat} {a1 : ByteArray} {I : Imm} {r : Bool}  (hf0_0 : RepS Kd.str I A0_0 n0_0 a0) (hr : tocsinref04_has a0 a1 = some r) (L : Own) :
    CallsTo Tryz.prog 159 #[.slice A0_0 a0.length n0_0, .string a1] I L (fun v I' L' => v = .bool r ∧ L = L') := by
  unfold tocsinref04_has at hr
  refine callsTo_body (N := 17) Tryz.func159 (by kernel_rfl) (by kernel_rfl) (by kernel_rfl) ?_
  refine gk_pick [0, 1] (K' := [(0, .slice A0_0 a0.length n0_0), (1, .string a1)]) (by kernel_rfl) ?_
  refine gk_seq (by kernel_rfl) ?_
  refine gk_region (by kernel_rfl) ?_
  refine gl_pure 1 [0, 1] (K' := [(0, .slice A0_0 a0.length n0_0), (1, .string a1)]) (by kernel_rfl) ?_
  refine gl_atE (by kernel_rfl) ?_
  refine ge_seq ?_
  refine gk_seq (by kernel_rfl) ?_
  refine gk_seq (by kernel_rfl) ?_
  refine gk_region (by kernel_rfl) ?_
  refine gl_pure 3 [1, 7, 8, 9] (K' := [(1, .string a1), (7, .slice A0_0 a0.length n0_0), (8, .int .i64 (a0.length : Int)), (9, .int .i64 0)]) (by kernel_rfl) ?_
  refine gl_atE (by kernel_rfl) ?_
  refine ge_seq ?_
  obtain ⟨r5, hl6, hr⟩ := bind_some hr
  refine gk_join (fun t I' L' => ∃ r13, r5 = Sum.inl r13 ∧ I ≤ I' ∧ L = L' ∧ Knows 17 [] t) ?_ ?_
  · refine gk_block (by kernel_rfl) ?_
    refine gk_pick [1, 7, 8, 9] (K' := [(1, .string a1), (7, .slice A0_0 a0.length n0_0), (8, .int .i64 (a0.length : Int)), (9, .int .i64 0)]) (by kernel_rfl) ?_
    intro t hK
    refine gc_loop (tocsinref04_has_l17 a0 a1) (fun s7 t I' L' => I ≤ I' ∧ L = L' ∧ Knows 17 [(1, .string a1), (7, .slice A0_0 a0.length n0_0), (8, .int .i64 (a0.length : Int)), (9, .int .i64 s7)] t) (by kernel_rfl) ?_ hl6 ⟨(Imm.refl _), rfl, hK⟩
    rintro s7 o8 t I12 L' hb9 ⟨hI10, rfl, hK11⟩
    unfold tocsinref04_has_l17 at hb9
    refine gk_at hK11 ?_
    refine gk_seq (by kernel_rfl) ?_
    refine gk_region (by kernel_rfl) ?_
    refine gl_pure 1 [1, 7, 8, 9, 10] (K' := [(1, .string a1), (7, .slice A0_0 a0.length n0_0), (8, .int .i64 (a0.length : Int)), (9, .int .i64 s7), (10, .bool (decide (s7 < (a0.length : Int))))]) (by kernel_rfl) ?_
    refine gl_atE (by kernel_rfl) ?_
    refine ge_seq ?_
    refine gk_seq (by kernel_rfl) ?_
    refine gk_cond (b := (decide (s7 < (a0.length : Int)))) (by kernel_rfl) (by kernel_rfl) (fun hc19 => ?_) (fun hc19 => ?_)
    · have hb9 := cond_t hc19 hb9
      refine gk_skip (by kernel_rfl) ?_
      refine ge_seq ?_
      refine gk_seq (by kernel_rfl) ?_
      refine gk_block (by kernel_rfl) ?_
      refine gk_seq (by kernel_rfl) ?_
      refine gk_region (by kernel_rfl) ?_
      obtain ⟨x20, hx21, hb9⟩ := bind_some hb9
      obtain ⟨p22, cs23, hR24, hA25, ha26⟩ := RepS.ixAt hx21 (hf0_0.mono hI10)
      have hi27 := ix_some hx21
      obtain rfl := hR24
      refine gl_indexAddrF (c := n0_0) (T' := 23) (e := 9) (xs := (.tmp 7)) (xi := (.tmp 9)) (kd := .i64) ha26 hi27.1 hi27.2.1 (by kernel_rfl) (by kernel_rfl) (by kernel_rfl) (by kernel_rfl) (by kernel_rfl) ?_
      refine gl_load (T' := 9) (xp := (.tmp 11)) (p := p22) (c := .string x20) (n := 1) (by kernel_rfl) (by kernel_rfl) (by kernel_rfl) (by kernel_rfl) hA25 ?_
      refine gl_pure 1 [1, 6, 7, 8, 9] (K' := [(1, .string a1), (6, .string x20), (7, .slice A0_0 a0.length n0_0), (8, .int .i64 (a0.length : Int)), (9, .int .i64 s7)]) (by kernel_rfl) ?_
      refine gl_atE (by kernel_rfl) ?_
      refine ge_seq ?_
      refine gk_seq (by kernel_rfl) ?_
      refine gk_region (by kernel_rfl) ?_
      refine gl_pure 3 [1, 7, 8, 9, 15] (K' := [(1, .string a1), (7, .slice A0_0 a0.length n0_0), (8, .int .i64 (a0.length : Int)), (9, .int .i64 s7), (15, .bool (x20.toList == a1.toList))]) (by kernel_rfl) ?_
      refine gl_atE (by kernel_rfl) ?_
      refine ge_seq ?_
      refine gk_cond (b := (x20.toList == a1.toList)) (by kernel_rfl) (by kernel_rfl) (fun hc28 => ?_) (fun hc28 => ?_)
      · have hb9 := cond_t hc28 hb9
        refine gk_seq (by kernel_rfl) ?_
        refine gk_region (by kernel_rfl) ?_
        refine gl_pure 1 [4] (K' := [(4, .bool true)]) (by kernel_rfl) ?_
        refine gl_atE (by kernel_rfl) ?_
        refine ge_seq ?_
        refine gk_ret (by kernel_rfl) ?_
        refine ge_block_ret ?_
        refine ge_seq_ret ?_
        obtain rfl := some_inj hb9
        refine ge_round_out (fun hrr => ?_) (by intro h; cases h)
        obtain rfl := hrr
        refine ge_block_ret ?_
        refine ge_seq_ret ?_
        refine ge_seq_ret ?_
        obtain rfl := some_inj hr
        exact ge_result trivial (ResOk.tmp (by kernel_rfl) ResOk.nil) hI10 ⟨rfl, rfl⟩
      · have hb9 := cond_f hc28 hb9
        refine gk_skip (by kernel_rfl) ?_
        refine ge_block_normal ?_
        refine ge_seq ?_
        refine gk_region (by kernel_rfl) ?_
        refine gl_pure 2 [1, 7, 8, 9] (K' := [(1, .string a1), (7, .slice A0_0 a0.length n0_0), (8, .int .i64 (a0.length : Int)), (9, .int .i64 (IntKind.wrap .i64 (s7 + 1)))]) (by kernel_rfl) ?_
        refine gl_atE (by kernel_rfl) ?_
        obtain rfl := some_inj hb9
        exact ge_round fun t ht => ⟨hI10, rfl, ht.pick (l := [1, 7, 8, 9]) (by kernel_rfl)⟩
    · have hb9 := cond_f hc19 hb9
      refine gk_exit (by kernel_rfl) ?_
      refine ge_seq_exit ?_
      obtain rfl := some_inj hb9
      refine ge_round_out (fun hrr => ?_) (by intro h; cases h)
      obtain rfl := hrr
      refine ge_block_hit (by kernel_rfl) ?_
      exact ge_mid fun t ht => ⟨_, rfl, hI10, rfl, ht.pick (l := []) (by kernel_rfl)⟩
  · rintro t I16 L' ⟨r13, rfl, hI14, rfl, hK15⟩
    refine ge_at hK15 ?_
    refine ge_seq ?_
    refine gk_seq (by kernel_rfl) ?_
    refine gk_region (by kernel_rfl) ?_
    refine gl_pure 1 [4] (K' := [(4, .bool false)]) (by kernel_rfl) ?_
    refine gl_atE (by kernel_rfl) ?_
    refine ge_seq ?_
    refine gk_ret (by kernel_rfl) ?_
    obtain rfl := some_inj hr
    exact ge_result trivial (ResOk.tmp (by kernel_rfl) ResOk.nil) hI14 ⟨rfl, rfl⟩
end Go.Proofs.YtkjkkimnjpodiaaGreatDoor
