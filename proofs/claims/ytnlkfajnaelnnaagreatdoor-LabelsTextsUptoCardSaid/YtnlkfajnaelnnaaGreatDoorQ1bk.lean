/- Parts: Q1b. -/
import Derived.Test.YtnlkfajnaelnnaaGreatDoorQ1ak
set_option linter.unusedVariables false
set_option linter.unusedSimpArgs false
set_option maxRecDepth 100000
namespace Go.Proofs.YtnlkfajnaelnnaaGreatDoor
open Go.GB
/-! 65 tocsinref04_Pick  -/
noncomputable def tocsinref04_Pick_l28 (a0 : List S49) (a1 : List ByteArray) (a2 : Bool) : ((List S49) × Int) → Option (((List S49) × Int) ⊕ ((List S49))) := fun s11 =>
 bif (decide (s11.2 < (a0.length : Int))) then
 (Option.bind (ix a0 s11.2) fun (x31 : S49) =>
  Option.bind (tocsinref04_has a1 x31.f0) fun (y40 : Bool) =>
  Option.bind (bif (y40 == a2) then
   (Option.bind (app s11.1 [x31]) fun (zs56 : List S49) =>
    some zs56)
   else
   (some s11.1)) fun (j42 : (List S49)) =>
  some (Sum.inl (j42, (IntKind.wrap .i64 (s11.2 + 1)))))
 else
 (some (Sum.inr s11.1))
noncomputable def tocsinref04_Pick (a0 : List S49) (a1 : List ByteArray) (a2 : Bool) : Option (List S49) :=
 Option.bind (loopO (tocsinref04_Pick_l28 a0 a1 a2) ([], 0)) fun (r9 : (List S49)) =>
 some r9
theorem tocsinref04_Pick_walk {a0 : List S49} {A0_0 : Option Addr} {n0_0 : Nat} {a1 : List ByteArray} {A1_0 : Option Addr} {n1_0 : Nat} {a2 : Bool} {I : Imm} {r : (List S49)}  (hf0_0 : RepS kS49 I A0_0 n0_0 a0)  (hf1_0 : RepS Kd.str I A1_0 n1_0 a1) (hr : tocsinref04_Pick a0 a1 a2 = some r) (L : Own) :
  CallsTo Tryz.prog 65 #[.slice A0_0 a0.length n0_0, .slice A1_0 a1.length n1_0, .bool a2] I L (fun v I' L' => ∃ A0 c0 C0, OwnS kS49 50 I' A0 c0 r C0 ∧ v = .slice A0 r.length c0 ∧ C0 ++ L = L') := by
 unfold tocsinref04_Pick at hr
 refine callsTo_body (N := 28) Tryz.func65 (by kernel_rfl) (by kernel_rfl) (by kernel_rfl) ?_
 refine qq [0, 1, 2] [(0, .slice A0_0 a0.length n0_0), (1, .slice A1_0 a1.length n1_0), (2, .bool a2)] (qk (qR (qp 1 [0, 1, 2] [(0, .slice A0_0 a0.length n0_0), (1, .slice A1_0 a1.length n1_0), (2, .bool a2)] (qE (qs (qk (qR (qp 1 [0, 1, 2, 7] [(0, .slice A0_0 a0.length n0_0), (1, .slice A1_0 a1.length n1_0), (2, .bool a2), (7, .slice none 0 0)] (qE (qs (qk ?_)))))))))))
 refine qk (qR (qp 3 [1, 2, 7, 10, 11, 12] [(1, .slice A1_0 a1.length n1_0), (2, .bool a2), (7, .slice none 0 0), (10, .slice A0_0 a0.length n0_0), (11, .int .i64 (a0.length : Int)), (12, .int .i64 0)] (qE (qs ?_))))
 obtain ⟨r9, hl10, hr⟩ := bind_some hr
 refine gk_join (fun t I' L' => ∃ A22 n23 C24, OwnS kS49 50 I' A22 n23 r9 C24 ∧ I ≤ I' ∧ C24 ++ L = L' ∧ Knows 28 [(7, .slice A22 r9.length n23)] t) ?_ ?_
 ·refine qb (qq [1, 2, 7, 10, 11, 12] [(1, .slice A1_0 a1.length n1_0), (2, .bool a2), (7, .slice none 0 0), (10, .slice A0_0 a0.length n0_0), (11, .int .i64 (a0.length : Int)), (12, .int .i64 0)] ?_)
  intro t hK
  refine gc_loop (tocsinref04_Pick_l28 a0 a1 a2) (fun s11 t I' L' => ∃ A15 n16 C17, OwnS kS49 50 I' A15 n16 s11.1 C17 ∧ I ≤ I' ∧ C17 ++ L = L' ∧ Knows 28 [(1, .slice A1_0 a1.length n1_0), (2, .bool a2), (7, .slice A15 s11.1.length n16), (10, .slice A0_0 a0.length n0_0), (11, .int .i64 (a0.length : Int)), (12, .int .i64 s11.2)] t) (by kernel_rfl) ?_ hl10 ⟨none, 0, [], OwnS.nil _ _ _ _, (Imm.refl _), rfl, hK⟩
  rintro s11 o12 t I20 L' hb13 ⟨A15, n16, C17, hO18, hI14, rfl, hK19⟩
  unfold tocsinref04_Pick_l28 at hb13
  refine gk_at hK19 ?_
  refine qk (qR (qp 1 [1, 2, 7, 10, 11, 12, 13] [(1, .slice A1_0 a1.length n1_0), (2, .bool a2), (7, .slice A15 s11.1.length n16), (10, .slice A0_0 a0.length n0_0), (11, .int .i64 (a0.length : Int)), (12, .int .i64 s11.2), (13, .bool (decide (s11.2 < (a0.length : Int))))] (qE (qs (qk ?_)))))
  refine gk_cond (b := (decide (s11.2 < (a0.length : Int)))) (by kernel_rfl) (by kernel_rfl) (fun hc30 => ?_) (fun hc30 => ?_)
  ·have hb13 := cond_t hc30 hb13
   refine qx (qs (qk (qb (qk (qR ?_)))))
   obtain ⟨x31, hx32, hb13⟩ := bind_some hb13
   obtain ⟨p33, cs34, hR35, hA36, ha37⟩ := RepS.ixAt hx32 (hf0_0.mono hI14)
   have hi38 := ix_some hx32
   obtain rfl := kS49_open hR35
   refine gl_indexAddrF (c := n0_0) (T' := 22) (e := 50) (xs := (.tmp 10)) (xi := (.tmp 12)) (kd := .i64) ha37 hi38.1 hi38.2.1 (by kernel_rfl) (by kernel_rfl) (by kernel_rfl) (by kernel_rfl) (by kernel_rfl) ?_
   refine gl_loadA (T' := 50) (xp := (.tmp 14)) (p := p33) (cs := [.string x31.f0, .string x31.f1]) (by kernel_rfl) (by kernel_rfl) (by kernel_rfl) (by kernel_rfl) (hA36.take 2) ?_
   refine gl_alloc (T' := 50) (cs := #[.string (⟨#[]⟩ : ByteArray), .string (⟨#[]⟩ : ByteArray)]) (by kernel_rfl) (by kernel_rfl) (by kernel_rfl) (fun g39 => ?_)
   refine gl_storeB (T' := 50) (xp := (.tmp 9)) (xv := (.tmp 15)) (v := .agg #[.string x31.f0, .string x31.f1]) (g := g39) (off := 0) (cs := #[.string (⟨#[]⟩ : ByteArray), .string (⟨#[]⟩ : ByteArray)]) (cs' := #[.string x31.f0, .string x31.f1]) (by kernel_rfl) (by kernel_rfl) (by kernel_rfl) (by kernel_rfl) (by kernel_rfl) (Upd.set _ _ _ _) ?_ (by kernel_rfl)
   refine qE (qs (qk (qR (qp 2 [1, 2, 7, 9, 10, 11, 12, 16, 17] [(1, .slice A1_0 a1.length n1_0), (2, .bool a2), (7, .slice A15 s11.1.length n16), (9, .pointer (some ⟨g39, 0, none⟩)), (10, .slice A0_0 a0.length n0_0), (11, .int .i64 (a0.length : Int)), (12, .int .i64 s11.2), (16, .slice A1_0 a1.length n1_0), (17, .pointer (some ⟨g39, 0, none⟩))] ?_))))
   refine gl_loadB (T' := 9) (xp := (.tmp 17)) (v := .string x31.f0) (g := g39) (off := 0) (cs := #[.string x31.f0, .string x31.f1]) (e := 50) (fz := (0, 0)) (by kernel_rfl) (by kernel_rfl) (by kernel_rfl) mcs (by kernel_rfl) ?_
   obtain ⟨y40, hx41, hb13⟩ := bind_some hb13
   refine gl_callQ (by kernel_rfl) (tocsinref04_has_walk (r := y40) (hf1_0.mono hI14) hx41 _) ?_
   refine qp 2 [1, 2, 7, 9, 10, 11, 12, 21] [(1, .slice A1_0 a1.length n1_0), (2, .bool a2), (7, .slice A15 s11.1.length n16), (9, .pointer (some ⟨g39, 0, none⟩)), (10, .slice A0_0 a0.length n0_0), (11, .int .i64 (a0.length : Int)), (12, .int .i64 s11.2), (21, .bool (y40 == a2))] (qE (qs ?_))
   obtain ⟨j42, hj43, hb13⟩ := bind_some hb13
   refine gk_join (fun t I' L' => ∃ A45 n46 C47, OwnS kS49 50 I' A45 n46 j42 C47 ∧ I20 ≤ I' ∧ C47 ++ L = L' ∧ Knows 28 [(1, .slice A1_0 a1.length n1_0), (2, .bool a2), (7, .slice A45 j42.length n46), (10, .slice A0_0 a0.length n0_0), (11, .int .i64 (a0.length : Int)), (12, .int .i64 s11.2)] t) ?_ ?_
   ·refine gk_cond (b := (y40 == a2)) (by kernel_rfl) (by kernel_rfl) (fun hc51 => ?_) (fun hc51 => ?_)
    ·have hj43 := cond_t hc51 hj43
     refine qR (qp 1 [1, 2, 9, 10, 11, 12, 22] [(1, .slice A1_0 a1.length n1_0), (2, .bool a2), (9, .pointer (some ⟨g39, 0, none⟩)), (10, .slice A0_0 a0.length n0_0), (11, .int .i64 (a0.length : Int)), (12, .int .i64 s11.2), (22, .slice A15 s11.1.length n16)] ?_)
     refine gl_loadB (T' := 50) (xp := (.tmp 9)) (v := .agg #[.string x31.f0, .string x31.f1]) (g := g39) (off := 0) (cs := #[.string x31.f0, .string x31.f1]) (e := 50) (fz := (0, 0)) (by kernel_rfl) (by kernel_rfl) (by kernel_rfl) mcs (by kernel_rfl) ?_
     refine gl_buildSlice (T' := 22) (e := 50) (n := 2) (len := 1) (parts := #[(0, (.tmp 23))]) (l := [(0, .agg #[.string x31.f0, .string x31.f1])]) (cs := #[.string x31.f0, .string x31.f1]) (by kernel_rfl) (by kernel_rfl) (by kernel_rfl) (by kernel_rfl) (by kernel_rfl) (fun g52 => ?_)
     have hO53 : OwnS kS49 50 I20 (some ⟨g52, 0, none⟩) 1 [x31] [(g52, .cells #[.string x31.f0, .string x31.f1] 50)] := OwnS.lit (row_cons (l := [.string x31.f0, .string x31.f1]) (kS49_mk (x := x31) ) (row_nil _ _)) rfl rfl rfl
     refine gl_reord (D := [(g52, .cells #[.string x31.f0, .string x31.f1] 50)] ++ ((g39, .cells #[.string x31.f0, .string x31.f1] 50) :: (C17 ++ L))) (Reord.refl _) ?_
     obtain ⟨zs56, hz57, hj43⟩ := bind_some hj43
     refine gl_append (xv := .slice (some ⟨g52, 0, none⟩) [x31].length 1) (d := kS49) (t := 22) (tx := 22) (e := 50) (s := (.tmp 22)) (x := (.tmp 24)) (xs := s11.1) (fun X => [(g52, .cells #[.string x31.f0, .string x31.f1] 50)] ++ ((g39, .cells #[.string x31.f0, .string x31.f1] 50) :: (X ++ L))) hz57 (by kernel_rfl) (by kernel_rfl) (by kernel_rfl) (by kernel_rfl) (by kernel_rfl) (by kernel_rfl) (fun X => (Upd.app _ (Upd.one _ (Upd.head _ X _)))) hO18 (SrcOk.slice (c := 1) (e := 50) (n := 2) (OwnS.rd hO53 (Upd.selfC _ _)) (by kernel_rfl)) (fun A58 n59 C60 hO61 => ?_)
     refine qp 1 [1, 2, 7, 10, 11, 12] [(1, .slice A1_0 a1.length n1_0), (2, .bool a2), (7, .slice A58 zs56.length n59), (10, .slice A0_0 a0.length n0_0), (11, .int .i64 (a0.length : Int)), (12, .int .i64 s11.2)] ?_
     refine gl_reord (D := C60 ++ L) (Reord.step (Upd.app _ (Upd.one _ (Upd.rmC _ _))) (Reord.skipC (Reord.skip (Reord.refl _)))) ?_
     refine qE ?_
     obtain rfl := some_inj hj43
     exact ge_mid fun t ht => ⟨A58, n59, C60, hO61, (Imm.refl _), rfl, ht.pick (l := [1, 2, 7, 10, 11, 12]) (by kernel_rfl)⟩
    ·have hj43 := cond_f hc51 hj43
     refine gk_reord (D := C17 ++ L) (Reord.step (Upd.one _ (Upd.rmC _ _)) (Reord.skip (Reord.refl _))) ?_
     refine qx ?_
     obtain rfl := some_inj hj43
     exact ge_mid fun t ht => ⟨A15, n16, C17, hO18, (Imm.refl _), rfl, ht.pick (l := [1, 2, 7, 10, 11, 12]) (by kernel_rfl)⟩
   ·rintro t I50 L' ⟨A45, n46, C47, hO48, hI44, rfl, hK49⟩
    refine ge_at hK49 ?_
    refine qn (qs (qR (qp 2 [1, 2, 7, 10, 11, 12] [(1, .slice A1_0 a1.length n1_0), (2, .bool a2), (7, .slice A45 j42.length n46), (10, .slice A0_0 a0.length n0_0), (11, .int .i64 (a0.length : Int)), (12, .int .i64 (IntKind.wrap .i64 (s11.2 + 1)))] (qE ?_))))
    obtain rfl := some_inj hb13
    exact ge_round fun t ht => ⟨A45, n46, C47, hO48, (Imm.trans hI14 hI44), rfl, ht.pick (l := [1, 2, 7, 10, 11, 12]) (by kernel_rfl)⟩
  ·have hb13 := cond_f hc30 hb13
   refine qe (qf ?_)
   obtain rfl := some_inj hb13
   refine ge_round_out (fun hrr => ?_) (by intro h; cases h)
   obtain rfl := hrr
   refine qh ?_
   exact ge_mid fun t ht => ⟨A15, n16, C17, hO18, hI14, rfl, ht.pick (l := [7]) (by kernel_rfl)⟩
 ·rintro t I27 L' ⟨A22, n23, C24, hO25, hI21, rfl, hK26⟩
  refine ge_at hK26 ?_
  refine qs (qk (qR (qp 2 [6] [(6, .slice A22 r9.length n23)] (qE (qs (qt ?_))))))
  obtain rfl := some_inj hr
  exact ge_result trivial (ResOk.tmp (by kernel_rfl) ResOk.nil) hI21 ⟨A22, n23, C24, hO25, rfl, rfl⟩
/-! 66 tocsinref04_Quoted  -/
noncomputable def tocsinref04_Quoted_l32 (a0 : ByteArray) : ((List Int) × Int) → Option (((List Int) × Int) ⊕ ((List Int))) := fun s15 =>
 bif (decide (s15.2 < (a0.size : Int))) then
 (Option.bind (bx a0 s15.2) fun (c35 : Int) =>
  Option.bind (bif (c35 == 92) then
   (some (c35 == 92))
   else
   (some (c35 == 34))) fun (j37 : Bool) =>
  Option.bind (bif j37 then
   (Option.bind (bx a0 s15.2) fun (c53 : Int) =>
    Option.bind (app s15.1 [92, c53]) fun (zs59 : List Int) =>
    some zs59)
   else
   (Option.bind (bif (c35 == 10) then
     (Option.bind (app s15.1 [92, 110]) fun (zs79 : List Int) =>
      some zs79)
     else
     (Option.bind (bx a0 s15.2) fun (c85 : Int) =>
      Option.bind (app s15.1 [c85]) fun (zs91 : List Int) =>
      some zs91)) fun (j65 : (List Int)) =>
    some j65)) fun (j43 : (List Int)) =>
  some (Sum.inl (j43, (IntKind.wrap .i64 (s15.2 + 1)))))
 else
 (some (Sum.inr s15.1))
noncomputable def tocsinref04_Quoted (a0 : ByteArray) : Option ByteArray :=
 Option.bind (loopO (tocsinref04_Quoted_l32 a0) ([34], 0)) fun (r13 : (List Int)) =>
 Option.bind (app r13 [34]) fun (zs101 : List Int) =>
 some (ofBytes zs101)
theorem tocsinref04_Quoted_walk {a0 : ByteArray} {I : Imm} {r : ByteArray}  (hr : tocsinref04_Quoted a0 = some r) (L : Own) :
  CallsTo Tryz.prog 66 #[.string a0] I L (fun v I' L' => v = .string r ∧ L = L') := by
 unfold tocsinref04_Quoted at hr
 refine callsTo_body (N := 40) Tryz.func66 (by kernel_rfl) (by kernel_rfl) (by kernel_rfl) ?_
 refine qq [0] [(0, .string a0)] (qk (qR (qp 1 [0] [(0, .string a0)] (qE (qs (qk (qR ?_)))))))
 refine gl_buildSlice (T' := 51) (e := 5) (n := 1) (len := 1) (parts := #[(0, (.const (.int .u8 34)))]) (l := [(0, .int .u8 34)]) (cs := #[.int .u8 34]) (by kernel_rfl) (by kernel_rfl) (by kernel_rfl) (by kernel_rfl) (by kernel_rfl) (fun g1 => ?_)
 have hO2 : OwnS (Kd.int .u8) 5 I (some ⟨g1, 0, none⟩) 1 [34] [(g1, .cells #[.int .u8 34] 5)] := OwnS.lit (row_cons (l := [.int .u8 34]) rfl (row_nil _ _)) rfl rfl rfl
 refine gl_reord (D := [(g1, .cells #[.int .u8 34] 5)] ++ L) (Reord.refl _) ?_
 refine qp 1 [0, 3] [(0, .string a0), (3, .slice (some ⟨g1, 0, none⟩) [34].length 1)] (qE (qs (qk (qk (qR (qp 3 [0, 3, 7, 8] [(0, .string a0), (3, .slice (some ⟨g1, 0, none⟩) [34].length 1), (7, .int .i64 (a0.size : Int)), (8, .int .i64 0)] (qE (qs ?_))))))))
 obtain ⟨r13, hl14, hr⟩ := bind_some hr
 refine gk_join (fun t I' L' => ∃ A26 n27 C28, OwnS (Kd.int .u8) 5 I' A26 n27 r13 C28 ∧ I ≤ I' ∧ C28 ++ L = L' ∧ Knows 40 [(3, .slice A26 r13.length n27)] t) ?_ ?_
 ·refine qb (qq [0, 3, 7, 8] [(0, .string a0), (3, .slice (some ⟨g1, 0, none⟩) [34].length 1), (7, .int .i64 (a0.size : Int)), (8, .int .i64 0)] ?_)
  intro t hK
  refine gc_loop (tocsinref04_Quoted_l32 a0) (fun s15 t I' L' => ∃ A19 n20 C21, OwnS (Kd.int .u8) 5 I' A19 n20 s15.1 C21 ∧ I ≤ I' ∧ C21 ++ L = L' ∧ Knows 40 [(0, .string a0), (3, .slice A19 s15.1.length n20), (7, .int .i64 (a0.size : Int)), (8, .int .i64 s15.2)] t) (by kernel_rfl) ?_ hl14 ⟨(some ⟨g1, 0, none⟩), 1, [(g1, .cells #[.int .u8 34] 5)], hO2, (Imm.refl _), rfl, hK⟩
  rintro s15 o16 t I24 L' hb17 ⟨A19, n20, C21, hO22, hI18, rfl, hK23⟩
  unfold tocsinref04_Quoted_l32 at hb17
  refine gk_at hK23 ?_
  refine qk (qR (qp 1 [0, 3, 7, 8, 9] [(0, .string a0), (3, .slice A19 s15.1.length n20), (7, .int .i64 (a0.size : Int)), (8, .int .i64 s15.2), (9, .bool (decide (s15.2 < (a0.size : Int))))] (qE (qs (qk ?_)))))
  refine gk_cond (b := (decide (s15.2 < (a0.size : Int)))) (by kernel_rfl) (by kernel_rfl) (fun hc34 => ?_) (fun hc34 => ?_)
  ·have hb17 := cond_t hc34 hb17
   refine qx (qs (qk (qb (qk (qR (qp 2 [0, 3, 4, 7, 8] [(0, .string a0), (3, .slice A19 s15.1.length n20), (4, .int .i64 s15.2), (7, .int .i64 (a0.size : Int)), (8, .int .i64 s15.2)] (qE (qs (qk (qR (qp 2 [0, 3, 4, 7, 8, 11, 12] [(0, .string a0), (3, .slice A19 s15.1.length n20), (4, .int .i64 s15.2), (7, .int .i64 (a0.size : Int)), (8, .int .i64 s15.2), (11, .string a0), (12, .int .i64 s15.2)] ?_)))))))))))
   obtain ⟨c35, hx36, hb17⟩ := bind_some hb17
   refine gl_index' (T' := 9) (xs := (.tmp 11)) (xi := (.tmp 12)) (kd := .i64) hx36 (by kernel_rfl) (by kernel_rfl) (by kernel_rfl) (by kernel_rfl) (by kernel_rfl) ?_
   refine qE (qs (qb (qk (qk (qR (qp 2 [0, 3, 4, 7, 8, 13, 20] [(0, .string a0), (3, .slice A19 s15.1.length n20), (4, .int .i64 s15.2), (7, .int .i64 (a0.size : Int)), (8, .int .i64 s15.2), (13, .int .u8 c35), (20, .bool (c35 == 92))] (qE (qs ?_))))))))
   obtain ⟨j37, hj38, hb17⟩ := bind_some hb17
   refine gk_join (fun t I' L' => I24 ≤ I' ∧ C21 ++ L = L' ∧ Knows 40 [(0, .string a0), (3, .slice A19 s15.1.length n20), (4, .int .i64 s15.2), (7, .int .i64 (a0.size : Int)), (8, .int .i64 s15.2), (13, .int .u8 c35), (20, .bool j37)] t) ?_ ?_
   ·refine gk_cond (b := (c35 == 92)) (by kernel_rfl) (by kernel_rfl) (fun hc42 => ?_) (fun hc42 => ?_)
    ·have hj38 := cond_t hc42 hj38
     refine qx ?_
     obtain rfl := some_inj hj38
     exact ge_mid fun t ht => ⟨(Imm.refl _), rfl, ht.pick (l := [0, 3, 4, 7, 8, 13, 20]) (by kernel_rfl)⟩
    ·have hj38 := cond_f hc42 hj38
     refine qR (qp 2 [0, 3, 4, 7, 8, 13, 20] [(0, .string a0), (3, .slice A19 s15.1.length n20), (4, .int .i64 s15.2), (7, .int .i64 (a0.size : Int)), (8, .int .i64 s15.2), (13, .int .u8 c35), (20, .bool (c35 == 34))] (qE ?_))
     obtain rfl := some_inj hj38
     exact ge_mid fun t ht => ⟨(Imm.refl _), rfl, ht.pick (l := [0, 3, 4, 7, 8, 13, 20]) (by kernel_rfl)⟩
   ·rintro t I41 L' ⟨hI39, rfl, hK40⟩
    refine ge_at hK40 ?_
    refine qs ?_
    obtain ⟨j43, hj44, hb17⟩ := bind_some hb17
    refine gk_join (fun t I' L' => ∃ A46 n47 C48, OwnS (Kd.int .u8) 5 I' A46 n47 j43 C48 ∧ I41 ≤ I' ∧ C48 ++ L = L' ∧ Knows 40 [(0, .string a0), (3, .slice A46 j43.length n47), (7, .int .i64 (a0.size : Int)), (8, .int .i64 s15.2)] t) ?_ ?_
    ·refine gk_cond (b := j37) (by kernel_rfl) (by kernel_rfl) (fun hc52 => ?_) (fun hc52 => ?_)
     ·have hj44 := cond_t hc52 hj44
      refine qR (qp 3 [0, 7, 8, 23, 24, 25] [(0, .string a0), (7, .int .i64 (a0.size : Int)), (8, .int .i64 s15.2), (23, .slice A19 s15.1.length n20), (24, .string a0), (25, .int .i64 s15.2)] ?_)
      obtain ⟨c53, hx54, hj44⟩ := bind_some hj44
      refine gl_index' (T' := 9) (xs := (.tmp 24)) (xi := (.tmp 25)) (kd := .i64) hx54 (by kernel_rfl) (by kernel_rfl) (by kernel_rfl) (by kernel_rfl) (by kernel_rfl) ?_
      refine gl_buildSlice (T' := 51) (e := 5) (n := 1) (len := 2) (parts := #[(0, (.const (.int .u8 92))), (1, (.tmp 26))]) (l := [(0, .int .u8 92), (1, .int .u8 c53)]) (cs := #[.int .u8 92, .int .u8 c53]) (by kernel_rfl) (by kernel_rfl) (by kernel_rfl) (by kernel_rfl) (by kernel_rfl) (fun g55 => ?_)
      have hO56 : OwnS (Kd.int .u8) 5 I41 (some ⟨g55, 0, none⟩) 2 [92, c53] [(g55, .cells #[.int .u8 92, .int .u8 c53] 5)] := OwnS.lit (row_cons (l := [.int .u8 92]) rfl (row_cons (l := [.int .u8 c53]) rfl (row_nil _ _))) rfl rfl rfl
      refine gl_reord (D := [(g55, .cells #[.int .u8 92, .int .u8 c53] 5)] ++ (C21 ++ L)) (Reord.refl _) ?_
      obtain ⟨zs59, hz60, hj44⟩ := bind_some hj44
      refine gl_append (xv := .slice (some ⟨g55, 0, none⟩) [92, c53].length 2) (d := (Kd.int .u8)) (t := 51) (tx := 51) (e := 5) (s := (.tmp 23)) (x := (.tmp 27)) (xs := s15.1) (fun X => [(g55, .cells #[.int .u8 92, .int .u8 c53] 5)] ++ (X ++ L)) hz60 (by kernel_rfl) (by kernel_rfl) (by kernel_rfl) (by kernel_rfl) (by kernel_rfl) (by kernel_rfl) (fun X => (Upd.app _ (Upd.head _ X _))) (hO22.mono hI39) (SrcOk.slice (c := 2) (e := 5) (n := 1) (OwnS.rd hO56 (Upd.selfC _ _)) (by kernel_rfl)) (fun A61 n62 C63 hO64 => ?_)
      refine qp 1 [0, 3, 7, 8] [(0, .string a0), (3, .slice A61 zs59.length n62), (7, .int .i64 (a0.size : Int)), (8, .int .i64 s15.2)] ?_
      refine gl_reord (D := C63 ++ L) (Reord.step (Upd.app _ (Upd.rmC _ _)) (Reord.skipC (Reord.refl _))) ?_
      refine qE ?_
      obtain rfl := some_inj hj44
      exact ge_mid fun t ht => ⟨A61, n62, C63, hO64, (Imm.refl _), rfl, ht.pick (l := [0, 3, 7, 8]) (by kernel_rfl)⟩
     ·have hj44 := cond_f hc52 hj44
      refine qk (qR (qp 2 [0, 3, 4, 7, 8, 29] [(0, .string a0), (3, .slice A19 s15.1.length n20), (4, .int .i64 s15.2), (7, .int .i64 (a0.size : Int)), (8, .int .i64 s15.2), (29, .bool (c35 == 10))] (qE (qs ?_))))
      obtain ⟨j65, hj66, hj44⟩ := bind_some hj44
      refine gk_join (fun t I' L' => ∃ A68 n69 C70, OwnS (Kd.int .u8) 5 I' A68 n69 j65 C70 ∧ I41 ≤ I' ∧ C70 ++ L = L' ∧ Knows 40 [(0, .string a0), (3, .slice A68 j65.length n69), (7, .int .i64 (a0.size : Int)), (8, .int .i64 s15.2)] t) ?_ ?_
      ·refine gk_cond (b := (c35 == 10)) (by kernel_rfl) (by kernel_rfl) (fun hc74 => ?_) (fun hc74 => ?_)
       ·have hj66 := cond_t hc74 hj66
        refine qR (qp 1 [0, 7, 8, 31] [(0, .string a0), (7, .int .i64 (a0.size : Int)), (8, .int .i64 s15.2), (31, .slice A19 s15.1.length n20)] ?_)
        refine gl_buildSlice (T' := 51) (e := 5) (n := 1) (len := 2) (parts := #[(0, (.const (.int .u8 92))), (1, (.const (.int .u8 110)))]) (l := [(0, .int .u8 92), (1, .int .u8 110)]) (cs := #[.int .u8 92, .int .u8 110]) (by kernel_rfl) (by kernel_rfl) (by kernel_rfl) (by kernel_rfl) (by kernel_rfl) (fun g75 => ?_)
        have hO76 : OwnS (Kd.int .u8) 5 I41 (some ⟨g75, 0, none⟩) 2 [92, 110] [(g75, .cells #[.int .u8 92, .int .u8 110] 5)] := OwnS.lit (row_cons (l := [.int .u8 92]) rfl (row_cons (l := [.int .u8 110]) rfl (row_nil _ _))) rfl rfl rfl
        refine gl_reord (D := [(g75, .cells #[.int .u8 92, .int .u8 110] 5)] ++ (C21 ++ L)) (Reord.refl _) ?_
        obtain ⟨zs79, hz80, hj66⟩ := bind_some hj66
        refine gl_append (xv := .slice (some ⟨g75, 0, none⟩) [92, 110].length 2) (d := (Kd.int .u8)) (t := 51) (tx := 51) (e := 5) (s := (.tmp 31)) (x := (.tmp 32)) (xs := s15.1) (fun X => [(g75, .cells #[.int .u8 92, .int .u8 110] 5)] ++ (X ++ L)) hz80 (by kernel_rfl) (by kernel_rfl) (by kernel_rfl) (by kernel_rfl) (by kernel_rfl) (by kernel_rfl) (fun X => (Upd.app _ (Upd.head _ X _))) (hO22.mono hI39) (SrcOk.slice (c := 2) (e := 5) (n := 1) (OwnS.rd hO76 (Upd.selfC _ _)) (by kernel_rfl)) (fun A81 n82 C83 hO84 => ?_)
        refine qp 1 [0, 3, 7, 8] [(0, .string a0), (3, .slice A81 zs79.length n82), (7, .int .i64 (a0.size : Int)), (8, .int .i64 s15.2)] ?_
        refine gl_reord (D := C83 ++ L) (Reord.step (Upd.app _ (Upd.rmC _ _)) (Reord.skipC (Reord.refl _))) ?_
        refine qE ?_
        obtain rfl := some_inj hj66
        exact ge_mid fun t ht => ⟨A81, n82, C83, hO84, (Imm.refl _), rfl, ht.pick (l := [0, 3, 7, 8]) (by kernel_rfl)⟩
       ·have hj66 := cond_f hc74 hj66
        refine qR (qp 3 [0, 7, 8, 14, 15, 16] [(0, .string a0), (7, .int .i64 (a0.size : Int)), (8, .int .i64 s15.2), (14, .slice A19 s15.1.length n20), (15, .string a0), (16, .int .i64 s15.2)] ?_)
        obtain ⟨c85, hx86, hj66⟩ := bind_some hj66
        refine gl_index' (T' := 9) (xs := (.tmp 15)) (xi := (.tmp 16)) (kd := .i64) hx86 (by kernel_rfl) (by kernel_rfl) (by kernel_rfl) (by kernel_rfl) (by kernel_rfl) ?_
        refine gl_buildSlice (T' := 51) (e := 5) (n := 1) (len := 1) (parts := #[(0, (.tmp 17))]) (l := [(0, .int .u8 c85)]) (cs := #[.int .u8 c85]) (by kernel_rfl) (by kernel_rfl) (by kernel_rfl) (by kernel_rfl) (by kernel_rfl) (fun g87 => ?_)
        have hO88 : OwnS (Kd.int .u8) 5 I41 (some ⟨g87, 0, none⟩) 1 [c85] [(g87, .cells #[.int .u8 c85] 5)] := OwnS.lit (row_cons (l := [.int .u8 c85]) rfl (row_nil _ _)) rfl rfl rfl
        refine gl_reord (D := [(g87, .cells #[.int .u8 c85] 5)] ++ (C21 ++ L)) (Reord.refl _) ?_
        obtain ⟨zs91, hz92, hj66⟩ := bind_some hj66
        refine gl_append (xv := .slice (some ⟨g87, 0, none⟩) [c85].length 1) (d := (Kd.int .u8)) (t := 51) (tx := 51) (e := 5) (s := (.tmp 14)) (x := (.tmp 18)) (xs := s15.1) (fun X => [(g87, .cells #[.int .u8 c85] 5)] ++ (X ++ L)) hz92 (by kernel_rfl) (by kernel_rfl) (by kernel_rfl) (by kernel_rfl) (by kernel_rfl) (by kernel_rfl) (fun X => (Upd.app _ (Upd.head _ X _))) (hO22.mono hI39) (SrcOk.slice (c := 1) (e := 5) (n := 1) (OwnS.rd hO88 (Upd.selfC _ _)) (by kernel_rfl)) (fun A93 n94 C95 hO96 => ?_)
        refine qp 1 [0, 3, 7, 8] [(0, .string a0), (3, .slice A93 zs91.length n94), (7, .int .i64 (a0.size : Int)), (8, .int .i64 s15.2)] ?_
        refine gl_reord (D := C95 ++ L) (Reord.step (Upd.app _ (Upd.rmC _ _)) (Reord.skipC (Reord.refl _))) ?_
        refine qE ?_
        obtain rfl := some_inj hj66
        exact ge_mid fun t ht => ⟨A93, n94, C95, hO96, (Imm.refl _), rfl, ht.pick (l := [0, 3, 7, 8]) (by kernel_rfl)⟩
      ·rintro t I73 L' ⟨A68, n69, C70, hO71, hI67, rfl, hK72⟩
       refine ge_at hK72 ?_
       obtain rfl := some_inj hj44
       exact ge_mid fun t ht => ⟨A68, n69, C70, hO71, hI67, rfl, ht.pick (l := [0, 3, 7, 8]) (by kernel_rfl)⟩
    ·rintro t I51 L' ⟨A46, n47, C48, hO49, hI45, rfl, hK50⟩
     refine ge_at hK50 ?_
     refine qn (qn (qs (qR (qp 2 [0, 3, 7, 8] [(0, .string a0), (3, .slice A46 j43.length n47), (7, .int .i64 (a0.size : Int)), (8, .int .i64 (IntKind.wrap .i64 (s15.2 + 1)))] (qE ?_)))))
     obtain rfl := some_inj hb17
     exact ge_round fun t ht => ⟨A46, n47, C48, hO49, (Imm.trans (Imm.trans hI18 hI39) hI45), rfl, ht.pick (l := [0, 3, 7, 8]) (by kernel_rfl)⟩
  ·have hb17 := cond_f hc34 hb17
   refine qe (qf ?_)
   obtain rfl := some_inj hb17
   refine ge_round_out (fun hrr => ?_) (by intro h; cases h)
   obtain rfl := hrr
   refine qh ?_
   exact ge_mid fun t ht => ⟨A19, n20, C21, hO22, hI18, rfl, ht.pick (l := [3]) (by kernel_rfl)⟩
 ·rintro t I31 L' ⟨A26, n27, C28, hO29, hI25, rfl, hK30⟩
  refine ge_at hK30 ?_
  refine qs (qk (qR (qp 1 [35] [(35, .slice A26 r13.length n27)] ?_)))
  refine gl_buildSlice (T' := 51) (e := 5) (n := 1) (len := 1) (parts := #[(0, (.const (.int .u8 34)))]) (l := [(0, .int .u8 34)]) (cs := #[.int .u8 34]) (by kernel_rfl) (by kernel_rfl) (by kernel_rfl) (by kernel_rfl) (by kernel_rfl) (fun g97 => ?_)
  have hO98 : OwnS (Kd.int .u8) 5 I31 (some ⟨g97, 0, none⟩) 1 [34] [(g97, .cells #[.int .u8 34] 5)] := OwnS.lit (row_cons (l := [.int .u8 34]) rfl (row_nil _ _)) rfl rfl rfl
  refine gl_reord (D := [(g97, .cells #[.int .u8 34] 5)] ++ (C28 ++ L)) (Reord.refl _) ?_
  obtain ⟨zs101, hz102, hr⟩ := bind_some hr
  refine gl_append (xv := .slice (some ⟨g97, 0, none⟩) [34].length 1) (d := (Kd.int .u8)) (t := 51) (tx := 51) (e := 5) (s := (.tmp 35)) (x := (.tmp 36)) (xs := r13) (fun X => [(g97, .cells #[.int .u8 34] 5)] ++ (X ++ L)) hz102 (by kernel_rfl) (by kernel_rfl) (by kernel_rfl) (by kernel_rfl) (by kernel_rfl) (by kernel_rfl) (fun X => (Upd.app _ (Upd.head _ X _))) hO29 (SrcOk.slice (c := 1) (e := 5) (n := 1) (OwnS.rd hO98 (Upd.selfC _ _)) (by kernel_rfl)) (fun A103 n104 C105 hO106 => ?_)
  refine qp 1 [3] [(3, .slice A103 zs101.length n104)] (qE (qs (qk (qR (qp 1 [38] [(38, .slice A103 zs101.length n104)] ?_)))))
  refine gl_bytesStr (c := n104) (src := 51) (dst := 9) (e := 5) (n := 1) (x := (.tmp 38)) (by kernel_rfl) (by kernel_rfl) (by kernel_rfl) (by kernel_rfl) (by kernel_rfl) (by kernel_rfl) (OwnS.rd hO106 (Upd.app _ (Upd.selfC _ _))) ?_
  refine qp 1 [2] [(2, .string (ofBytes zs101))] (qE (qs ?_))
  refine gk_reord (D := L) (Reord.skipC (Reord.skipC (Reord.refl _))) ?_
  refine qt ?_
  obtain rfl := some_inj hr
  exact ge_result trivial (ResOk.tmp (by kernel_rfl) ResOk.nil) hI25 ⟨rfl, rfl⟩
/-! 24 tocsinref04_Print  -/
noncomputable def tocsinref04_Print_l57 (j10 : ByteArray × (List S49)) : (ByteArray × Int) → Option ((ByteArray × Int) ⊕ (ByteArray)) := fun s48 =>
 bif (decide (s48.2 < (j10.2.length : Int))) then
 (Option.bind (ix j10.2 s48.2) fun (x60 : S49) =>
  Option.bind (bif (decide (s48.2 > 0)) then
   (Option.bind (sadd s48.1 (⟨#[44]⟩ : ByteArray)) fun (s75 : ByteArray) =>
    some s75)
   else
   (some s48.1)) fun (j69 : ByteArray) =>
  Option.bind (sadd j69 x60.f0) fun (s77 : ByteArray) =>
  Option.bind (sadd s77 (⟨#[61]⟩ : ByteArray)) fun (s79 : ByteArray) =>
  Option.bind (tocsinref04_Quoted x60.f1) fun (y81 : ByteArray) =>
  Option.bind (sadd s79 y81) fun (s83 : ByteArray) =>
  some (Sum.inl (s83, (IntKind.wrap .i64 (s48.2 + 1)))))
 else
 (some (Sum.inr s48.1))
noncomputable def tocsinref04_Print (a0 : List S49) : Option (ByteArray × Int) :=
 Option.bind (tocsinref04_Right a0) fun (y1 : Int × Int) =>
 bif (y1.1 != 0) then
 (some ((⟨#[]⟩ : ByteArray), y1.1))
 else
 (Option.bind (tocsinref04_Get a0 (⟨#[95, 95, 110, 97, 109, 101, 95, 95]⟩ : ByteArray)) fun (y4 : ByteArray) =>
  Option.bind (tocsinref04_Metric y4) fun (y6 : Bool) =>
  Option.bind ((bif y6 then
   (Option.bind (tocsinref04_Pick a0 [(⟨#[95, 95, 110, 97, 109, 101, 95, 95]⟩ : ByteArray)] false) fun (y26 : (List S49)) =>
    bif ((y26.length : Int) == 0) then
    (some (Sum.inr (y4, 0)))
    else
    (some (Sum.inl (y4, y26))))
   else
   (some (Sum.inl ((⟨#[]⟩ : ByteArray), a0))) : Option ((ByteArray × (List S49)) ⊕ (ByteArray × Int)))) fun (j8 : (ByteArray × (List S49)) ⊕ (ByteArray × Int)) =>
  match j8 with
  | Sum.inl j10 => Option.bind (sadd j10.1 (⟨#[123]⟩ : ByteArray)) fun (s40 : ByteArray) =>
   Option.bind (loopO (tocsinref04_Print_l57 j10) (s40, 0)) fun (r46 : ByteArray) =>
   Option.bind (sadd r46 (⟨#[125]⟩ : ByteArray)) fun (s85 : ByteArray) =>
   some (s85, 0)
  | Sum.inr v87 => some v87)
theorem tocsinref04_Print_walk {a0 : List S49} {A0_0 : Option Addr} {n0_0 : Nat} {I : Imm} {r : ByteArray × Int}  (hf0_0 : RepS kS49 I A0_0 n0_0 a0) (hr : tocsinref04_Print a0 = some r) (L : Own) :
  CallsTo Tryz.prog 24 #[.slice A0_0 a0.length n0_0] I L (fun v I' L' => v = .tuple #[.string r.1, .int .i64 r.2] ∧ L = L') := by
 unfold tocsinref04_Print at hr
 refine callsTo_body (N := 56) Tryz.func24 (by kernel_rfl) (by kernel_rfl) (by kernel_rfl) ?_
 refine qq [0] [(0, .slice A0_0 a0.length n0_0)] (qk (qR (qp 2 [0] [(0, .slice A0_0 a0.length n0_0)] (qE (qs (qk (qk (qR (qp 1 [0, 12] [(0, .slice A0_0 a0.length n0_0), (12, .slice A0_0 a0.length n0_0)] ?_)))))))))
 obtain ⟨y1, hx2, hr⟩ := bind_some hr
 refine gl_callQ (by kernel_rfl) (tocsinref04_Right_walk (r := y1) hf0_0 hx2 _) ?_
 refine qp 5 [0, 4] [(0, .slice A0_0 a0.length n0_0), (4, .int .i64 y1.1)] (qE (qs (qk (qR (qp 2 [0, 4, 17] [(0, .slice A0_0 a0.length n0_0), (4, .int .i64 y1.1), (17, .bool (y1.1 != 0))] (qE (qs ?_)))))))
 refine gk_cond (b := (y1.1 != 0)) (by kernel_rfl) (by kernel_rfl) (fun hc3 => ?_) (fun hc3 => ?_)
 ·have hr := cond_t hc3 hr
  refine qk (qR (qp 3 [2, 3] [(2, .string (⟨#[]⟩ : ByteArray)), (3, .int .i64 y1.1)] (qE (qs (qt (qu ?_))))))
  obtain rfl := some_inj hr
  exact ge_result trivial (ResOk.tmp (by kernel_rfl) (ResOk.tmp (by kernel_rfl) ResOk.nil)) (Imm.refl _) ⟨rfl, rfl⟩
 ·have hr := cond_f hc3 hr
  refine qx (qs (qk (qR (qp 1 [0, 19] [(0, .slice A0_0 a0.length n0_0), (19, .slice A0_0 a0.length n0_0)] ?_))))
  obtain ⟨y4, hx5, hr⟩ := bind_some hr
  refine gl_callQ (by kernel_rfl) (tocsinref04_Get_walk (r := y4) hf0_0 hx5 _) ?_
  refine qp 1 [0, 6] [(0, .slice A0_0 a0.length n0_0), (6, .string y4)] (qE (qs (qk (qR (qp 2 [0, 6, 7] [(0, .slice A0_0 a0.length n0_0), (6, .string y4), (7, .slice A0_0 a0.length n0_0)] (qE (qs (qk (qk (qR (qp 1 [0, 6, 7, 22] [(0, .slice A0_0 a0.length n0_0), (6, .string y4), (7, .slice A0_0 a0.length n0_0), (22, .string y4)] ?_)))))))))))
  obtain ⟨y6, hx7, hr⟩ := bind_some hr
  refine gl_callQ (by kernel_rfl) (tocsinref04_Metric_walk (r := y6)  hx7 _) ?_
  refine qE (qs ?_)
  obtain ⟨j8, hj9, hr⟩ := bind_some hr
  refine gk_join (fun t I' L' => ∃ j10, j8 = Sum.inl j10 ∧ ∃ A12 n13, RepS kS49 I' A12 n13 j10.2 ∧ I ≤ I' ∧ L = L' ∧ Knows 56 [(6, .string j10.1), (7, .slice A12 j10.2.length n13)] t) ?_ ?_
  ·refine gk_cond (b := y6) (by kernel_rfl) (by kernel_rfl) (fun hc17 => ?_) (fun hc17 => ?_)
   ·have hj9 := cond_t hc17 hj9
    refine qk (qR (qp 1 [6, 24] [(6, .string y4), (24, .slice A0_0 a0.length n0_0)] ?_))
    refine gl_buildSlice (T' := 44) (e := 9) (n := 1) (len := 1) (parts := #[(0, (.const (.string (⟨#[95, 95, 110, 97, 109, 101, 95, 95]⟩ : ByteArray))))]) (l := [(0, .string (⟨#[95, 95, 110, 97, 109, 101, 95, 95]⟩ : ByteArray))]) (cs := #[.string (⟨#[95, 95, 110, 97, 109, 101, 95, 95]⟩ : ByteArray)]) (by kernel_rfl) (by kernel_rfl) (by kernel_rfl) (by kernel_rfl) (by kernel_rfl) (fun g18 => ?_)
    have hO19 : OwnS Kd.str 9 I (some ⟨g18, 0, none⟩) 1 [(⟨#[95, 95, 110, 97, 109, 101, 95, 95]⟩ : ByteArray)] [(g18, .cells #[.string (⟨#[95, 95, 110, 97, 109, 101, 95, 95]⟩ : ByteArray)] 9)] := OwnS.lit (row_cons (l := [.string (⟨#[95, 95, 110, 97, 109, 101, 95, 95]⟩ : ByteArray)]) rfl (row_nil _ _)) rfl rfl rfl
    refine gl_reord (D := [(g18, .cells #[.string (⟨#[95, 95, 110, 97, 109, 101, 95, 95]⟩ : ByteArray)] 9)] ++ L) (Reord.refl _) ?_
    refine gl_rest (Tk.step (Upd.rmC _ _) (Tk.nil _)) (fun J22 hJ23 hC24 => ?_)
    have hf25 := (OwnS.rest hO19 hJ23 hC24.left)
    obtain ⟨y26, hx27, hj9⟩ := bind_some hj9
    refine gl_call (by kernel_rfl) (tocsinref04_Pick_walk (r := y26) (hf0_0.mono hJ23) hf25 hx27 _) ?_
    rintro v I28 L29 hI30 ⟨A31, c32, C33, hO34, rfl, rfl⟩
    refine qp 1 [6, 7] [(6, .string y4), (7, .slice A31 y26.length c32)] (qE (qs (qk (qR (qp 3 [6, 7, 29] [(6, .string y4), (7, .slice A31 y26.length c32), (29, .bool ((y26.length : Int) == 0))] (qE (qs ?_)))))))
    refine gk_cond (b := ((y26.length : Int) == 0)) (by kernel_rfl) (by kernel_rfl) (fun hc35 => ?_) (fun hc35 => ?_)
    ·have hj9 := cond_t hc35 hj9
     refine qk (qR (qp 3 [2, 3] [(2, .string y4), (3, .int .i64 0)] (qE (qs ?_))))
     refine gk_reord (D := L) (Reord.skipC (Reord.refl _)) ?_
     refine qt (qu ?_)
     obtain rfl := some_inj hj9
     refine qu ?_
     obtain rfl := some_inj hr
     exact ge_result trivial (ResOk.tmp (by kernel_rfl) (ResOk.tmp (by kernel_rfl) ResOk.nil)) (Imm.trans hJ23 hI30) ⟨rfl, rfl⟩
    ·have hj9 := cond_f hc35 hj9
     refine gk_rest (Tk.step (Upd.rmC _ _) (Tk.nil _)) (fun J36 hJ37 hC38 => ?_)
     have hf39 := (OwnS.rest hO34 hJ37 hC38.left)
     refine qx ?_
     obtain rfl := some_inj hj9
     exact ge_mid fun t ht => ⟨_, rfl, A31, c32, hf39, (Imm.trans (Imm.trans hJ23 hI30) hJ37), rfl, ht.pick (l := [6, 7]) (by kernel_rfl)⟩
   ·have hj9 := cond_f hc17 hj9
    refine qR (qp 1 [6, 7] [(6, .string (⟨#[]⟩ : ByteArray)), (7, .slice A0_0 a0.length n0_0)] (qE ?_))
    obtain rfl := some_inj hj9
    exact ge_mid fun t ht => ⟨_, rfl, A0_0, n0_0, hf0_0, (Imm.refl _), rfl, ht.pick (l := [6, 7]) (by kernel_rfl)⟩
  ·rintro t I16 L' ⟨j10, rfl, A12, n13, hf14, hI11, rfl, hK15⟩
   refine ge_at hK15 ?_
   refine qs (qk (qR (qp 1 [7, 31] [(7, .slice A12 j10.2.length n13), (31, .string j10.1)] ?_)))
   obtain ⟨s40, hx41, hr⟩ := bind_some hr
   refine gl_sadd (t := 9) (t' := 9) (x := (.tmp 31)) (y := (.const (.string (⟨#[123]⟩ : ByteArray)))) hx41 (by kernel_rfl) (by kernel_rfl) (by kernel_rfl) (by kernel_rfl) ?_
   refine qp 1 [7, 8] [(7, .slice A12 j10.2.length n13), (8, .string s40)] (qE (qs (qk (qk (qR (qp 3 [8, 33, 34, 35] [(8, .string s40), (33, .slice A12 j10.2.length n13), (34, .int .i64 (j10.2.length : Int)), (35, .int .i64 0)] (qE (qs ?_))))))))
   obtain ⟨r46, hl47, hr⟩ := bind_some hr
   refine gk_join (fun t I' L' => I16 ≤ I' ∧ L = L' ∧ Knows 56 [(8, .string r46)] t) ?_ ?_
   ·refine qb (qq [8, 33, 34, 35] [(8, .string s40), (33, .slice A12 j10.2.length n13), (34, .int .i64 (j10.2.length : Int)), (35, .int .i64 0)] ?_)
    intro t hK
    refine gc_loop (tocsinref04_Print_l57 j10) (fun s48 t I' L' => I16 ≤ I' ∧ L = L' ∧ Knows 56 [(8, .string s48.1), (33, .slice A12 j10.2.length n13), (34, .int .i64 (j10.2.length : Int)), (35, .int .i64 s48.2)] t) (by kernel_rfl) ?_ hl47 ⟨(Imm.refl _), rfl, hK⟩
    rintro s48 o49 t I53 L' hb50 ⟨hI51, rfl, hK52⟩
    unfold tocsinref04_Print_l57 at hb50
    refine gk_at hK52 ?_
    refine qk (qR (qp 1 [8, 33, 34, 35, 36] [(8, .string s48.1), (33, .slice A12 j10.2.length n13), (34, .int .i64 (j10.2.length : Int)), (35, .int .i64 s48.2), (36, .bool (decide (s48.2 < (j10.2.length : Int))))] (qE (qs (qk ?_)))))
    refine gk_cond (b := (decide (s48.2 < (j10.2.length : Int)))) (by kernel_rfl) (by kernel_rfl) (fun hc59 => ?_) (fun hc59 => ?_)
    ·have hb50 := cond_t hc59 hb50
     refine qx (qs (qk (qb (qk (qR (qp 1 [8, 33, 34, 35, 37] [(8, .string s48.1), (33, .slice A12 j10.2.length n13), (34, .int .i64 (j10.2.length : Int)), (35, .int .i64 s48.2), (37, .int .i64 s48.2)] ?_))))))
     obtain ⟨x60, hx61, hb50⟩ := bind_some hb50
     obtain ⟨p62, cs63, hR64, hA65, ha66⟩ := RepS.ixAt hx61 (hf14.mono hI51)
     have hi67 := ix_some hx61
     obtain rfl := kS49_open hR64
     refine gl_indexAddrF (c := n13) (T' := 22) (e := 50) (xs := (.tmp 33)) (xi := (.tmp 35)) (kd := .i64) ha66 hi67.1 hi67.2.1 (by kernel_rfl) (by kernel_rfl) (by kernel_rfl) (by kernel_rfl) (by kernel_rfl) ?_
     refine gl_loadA (T' := 50) (xp := (.tmp 38)) (p := p62) (cs := [.string x60.f0, .string x60.f1]) (by kernel_rfl) (by kernel_rfl) (by kernel_rfl) (by kernel_rfl) (hA65.take 2) ?_
     refine gl_alloc (T' := 50) (cs := #[.string (⟨#[]⟩ : ByteArray), .string (⟨#[]⟩ : ByteArray)]) (by kernel_rfl) (by kernel_rfl) (by kernel_rfl) (fun g68 => ?_)
     refine qp 1 [8, 9, 10, 33, 34, 35, 39] [(8, .string s48.1), (9, .int .i64 s48.2), (10, .pointer (some ⟨g68, 0, none⟩)), (33, .slice A12 j10.2.length n13), (34, .int .i64 (j10.2.length : Int)), (35, .int .i64 s48.2), (39, .agg #[.string x60.f0, .string x60.f1])] ?_
     refine gl_storeB (T' := 50) (xp := (.tmp 10)) (xv := (.tmp 39)) (v := .agg #[.string x60.f0, .string x60.f1]) (g := g68) (off := 0) (cs := #[.string (⟨#[]⟩ : ByteArray), .string (⟨#[]⟩ : ByteArray)]) (cs' := #[.string x60.f0, .string x60.f1]) (by kernel_rfl) (by kernel_rfl) (by kernel_rfl) (by kernel_rfl) (by kernel_rfl) (Upd.set _ _ _ _) ?_ (by kernel_rfl)
     refine qE (qs (qk (qk (qR (qp 2 [8, 10, 33, 34, 35, 41] [(8, .string s48.1), (10, .pointer (some ⟨g68, 0, none⟩)), (33, .slice A12 j10.2.length n13), (34, .int .i64 (j10.2.length : Int)), (35, .int .i64 s48.2), (41, .bool (decide (s48.2 > 0)))] (qE (qs ?_)))))))
     obtain ⟨j69, hj70, hb50⟩ := bind_some hb50
     refine gk_join (fun t I' L' => I53 ≤ I' ∧ (g68, .cells #[.string x60.f0, .string x60.f1] 50) :: L = L' ∧ Knows 56 [(8, .string j69), (10, .pointer (some ⟨g68, 0, none⟩)), (33, .slice A12 j10.2.length n13), (34, .int .i64 (j10.2.length : Int)), (35, .int .i64 s48.2)] t) ?_ ?_
     ·refine gk_cond (b := (decide (s48.2 > 0))) (by kernel_rfl) (by kernel_rfl) (fun hc74 => ?_) (fun hc74 => ?_)
      ·have hj70 := cond_t hc74 hj70
       refine qR (qp 1 [10, 33, 34, 35, 42] [(10, .pointer (some ⟨g68, 0, none⟩)), (33, .slice A12 j10.2.length n13), (34, .int .i64 (j10.2.length : Int)), (35, .int .i64 s48.2), (42, .string s48.1)] ?_)
       obtain ⟨s75, hx76, hj70⟩ := bind_some hj70
       refine gl_sadd (t := 9) (t' := 9) (x := (.tmp 42)) (y := (.const (.string (⟨#[44]⟩ : ByteArray)))) hx76 (by kernel_rfl) (by kernel_rfl) (by kernel_rfl) (by kernel_rfl) ?_
       refine qp 1 [8, 10, 33, 34, 35] [(8, .string s75), (10, .pointer (some ⟨g68, 0, none⟩)), (33, .slice A12 j10.2.length n13), (34, .int .i64 (j10.2.length : Int)), (35, .int .i64 s48.2)] (qE ?_)
       obtain rfl := some_inj hj70
       exact ge_mid fun t ht => ⟨(Imm.refl _), rfl, ht.pick (l := [8, 10, 33, 34, 35]) (by kernel_rfl)⟩
      ·have hj70 := cond_f hc74 hj70
       refine qx ?_
       obtain rfl := some_inj hj70
       exact ge_mid fun t ht => ⟨(Imm.refl _), rfl, ht.pick (l := [8, 10, 33, 34, 35]) (by kernel_rfl)⟩
     ·rintro t I73 L' ⟨hI71, rfl, hK72⟩
      refine ge_at hK72 ?_
      refine qs ?_
      refine gk_draw 10 (rng 0 10) [(g68, .cells #[.string x60.f0, .string x60.f1] 50)] (fmc ⟨mcs, nim⟩) (by kernel_rfl) (by kernel_rfl) (by kernel_rfl) ?_ (by kernel_rfl)
      refine dp 2 [8, 10, 33, 34, 35, 44, 45] [(8, .string j69), (10, .pointer (some ⟨g68, 0, none⟩)), (33, .slice A12 j10.2.length n13), (34, .int .i64 (j10.2.length : Int)), (35, .int .i64 s48.2), (44, .string j69), (45, .pointer (some ⟨g68, 0, none⟩))] (rng 2 8) (CC.refl (fmc ⟨mcs, nim⟩)) ?_
      refine gd_q (v := .string x60.f0) (by kernel_rfl) (by kernel_rfl) (CC.refl (fmc ⟨mcs, nim⟩)) (fun I' L' T hC kk => gl_loadB (T' := 9) (xp := (.tmp 45)) (v := .string x60.f0) (g := g68) (off := 0) (cs := #[.string x60.f0, .string x60.f1]) (e := 50) (fz := (0, 0)) (by kernel_rfl) (by kernel_rfl) (by kernel_rfl) (hC.sub _ mcs) (by kernel_rfl) kk) ?_
      obtain ⟨s77, hx78, hb50⟩ := bind_some hb50
      refine gd_q (v := .string s77) (by kernel_rfl) (by kernel_rfl) (CC.refl (fmc ⟨mcs, nim⟩)) (fun I' L' T hC kk => gl_sadd (t := 9) (t' := 9) (x := (.tmp 44)) (y := (.tmp 46)) hx78 (by kernel_rfl) (by kernel_rfl) (by kernel_rfl) (by kernel_rfl) kk) ?_
      obtain ⟨s79, hx80, hb50⟩ := bind_some hb50
      refine gd_q (v := .string s79) (by kernel_rfl) (by kernel_rfl) (CC.refl (fmc ⟨mcs, nim⟩)) (fun I' L' T hC kk => gl_sadd (t := 9) (t' := 9) (x := (.tmp 47)) (y := (.const (.string (⟨#[61]⟩ : ByteArray)))) hx80 (by kernel_rfl) (by kernel_rfl) (by kernel_rfl) (by kernel_rfl) kk) ?_
      refine dp 1 [8, 33, 34, 35, 48, 49] [(8, .string j69), (33, .slice A12 j10.2.length n13), (34, .int .i64 (j10.2.length : Int)), (35, .int .i64 s48.2), (48, .string s79), (49, .pointer (some ⟨g68, 1, none⟩))] (rng 6 4) (CC.refl (fmc ⟨mcs, nim⟩)) ?_
      refine gd_q (v := .string x60.f1) (by kernel_rfl) (by kernel_rfl) (CC.refl (fmc ⟨mcs, nim⟩)) (fun I' L' T hC kk => gl_loadB (T' := 9) (xp := (.tmp 49)) (v := .string x60.f1) (g := g68) (off := 1) (cs := #[.string x60.f0, .string x60.f1]) (e := 50) (fz := (0, 0)) (by kernel_rfl) (by kernel_rfl) (by kernel_rfl) (hC.sub _ mcs) (by kernel_rfl) kk) ?_
      obtain ⟨y81, hx82, hb50⟩ := bind_some hb50
      refine gd_q (v := .string y81) (by kernel_rfl) (by kernel_rfl) (CC.refl (fmc ⟨mcs, nim⟩)) (fun I' L' T hC kk => gl_callQ (by kernel_rfl) (tocsinref04_Quoted_walk (r := y81)  hx82 _) kk) ?_
      obtain ⟨s83, hx84, hb50⟩ := bind_some hb50
      refine gd_q (v := .string s83) (by kernel_rfl) (by kernel_rfl) (CC.refl (fmc ⟨mcs, nim⟩)) (fun I' L' T hC kk => gl_sadd (t := 9) (t' := 9) (x := (.tmp 48)) (y := (.tmp 51)) hx84 (by kernel_rfl) (by kernel_rfl) (by kernel_rfl) (by kernel_rfl) kk) ?_
      refine dp 1 [8, 33, 34, 35] [(8, .string s83), (33, .slice A12 j10.2.length n13), (34, .int .i64 (j10.2.length : Int)), (35, .int .i64 s48.2)] [] (CC.refl (fmc ⟨mcs, nim⟩)) ?_
      refine gd_done ?_
      refine qE (qn (qs (qR (qp 2 [8, 33, 34, 35] [(8, .string s83), (33, .slice A12 j10.2.length n13), (34, .int .i64 (j10.2.length : Int)), (35, .int .i64 (IntKind.wrap .i64 (s48.2 + 1)))] ?_))))
      refine gl_reord (D := L) (Reord.skip (Reord.refl _)) ?_
      refine qE ?_
      obtain rfl := some_inj hb50
      exact ge_round fun t ht => ⟨(Imm.trans hI51 hI71), rfl, ht.pick (l := [8, 33, 34, 35]) (by kernel_rfl)⟩
    ·have hb50 := cond_f hc59 hb50
     refine qe (qf ?_)
     obtain rfl := some_inj hb50
     refine ge_round_out (fun hrr => ?_) (by intro h; cases h)
     obtain rfl := hrr
     refine qh ?_
     exact ge_mid fun t ht => ⟨hI51, rfl, ht.pick (l := [8]) (by kernel_rfl)⟩
   ·rintro t I56 L' ⟨hI54, rfl, hK55⟩
    refine ge_at hK55 ?_
    refine qs (qk (qR (qp 1 [54] [(54, .string r46)] ?_)))
    obtain ⟨s85, hx86, hr⟩ := bind_some hr
    refine gl_sadd (t := 9) (t' := 9) (x := (.tmp 54)) (y := (.const (.string (⟨#[125]⟩ : ByteArray)))) hx86 (by kernel_rfl) (by kernel_rfl) (by kernel_rfl) (by kernel_rfl) ?_
    refine qp 2 [2, 3] [(2, .string s85), (3, .int .i64 0)] (qE (qs (qt ?_)))
    obtain rfl := some_inj hr
    exact ge_result trivial (ResOk.tmp (by kernel_rfl) (ResOk.tmp (by kernel_rfl) ResOk.nil)) (Imm.trans hI11 hI54) ⟨rfl, rfl⟩
/-! 27 tocsinlaw04_same  -/
noncomputable def tocsinlaw04_same_l18 (a0 : List S49) (a1 : List S49) : Int → Option ((Int) ⊕ ((Unit) ⊕ (Bool))) := fun s8 =>
 bif (decide (s8 < (a0.length : Int))) then
 (Option.bind (ix a0 s8) fun (x21 : S49) =>
  Option.bind (ix a1 s8) fun (x29 : S49) =>
  bif (!((x21.f0.toList == x29.f0.toList) && (x21.f1.toList == x29.f1.toList))) then
  (some (Sum.inr (Sum.inr false)))
  else
  (some (Sum.inl (IntKind.wrap .i64 (s8 + 1)))))
 else
 (some (Sum.inr (Sum.inl ())))
noncomputable def tocsinlaw04_same (a0 : List S49) (a1 : List S49) : Option Bool :=
 bif ((a0.length : Int) != (a1.length : Int)) then
 (some false)
 else
 (Option.bind (loopO (tocsinlaw04_same_l18 a0 a1) 0) fun (r6 : (Unit) ⊕ (Bool)) =>
  match r6 with
  | Sum.inl r14 => some true
  | Sum.inr v38 => some v38)
theorem tocsinlaw04_same_walk {a0 : List S49} {A0_0 : Option Addr} {n0_0 : Nat} {a1 : List S49} {A1_0 : Option Addr} {n1_0 : Nat} {I : Imm} {r : Bool}  (hf0_0 : RepS kS49 I A0_0 n0_0 a0)  (hf1_0 : RepS kS49 I A1_0 n1_0 a1) (hr : tocsinlaw04_same a0 a1 = some r) (L : Own) :
  CallsTo Tryz.prog 27 #[.slice A0_0 a0.length n0_0, .slice A1_0 a1.length n1_0] I L (fun v I' L' => v = .bool r ∧ L = L') := by
 unfold tocsinlaw04_same at hr
 refine callsTo_body (N := 26) Tryz.func27 (by kernel_rfl) (by kernel_rfl) (by kernel_rfl) ?_
 refine qq [0, 1] [(0, .slice A0_0 a0.length n0_0), (1, .slice A1_0 a1.length n1_0)] (qk (qR (qp 1 [0, 1] [(0, .slice A0_0 a0.length n0_0), (1, .slice A1_0 a1.length n1_0)] (qE (qs (qk (qk (qR (qp 5 [0, 1, 10] [(0, .slice A0_0 a0.length n0_0), (1, .slice A1_0 a1.length n1_0), (10, .bool ((a0.length : Int) != (a1.length : Int)))] (qE (qs ?_)))))))))))
 refine gk_cond (b := ((a0.length : Int) != (a1.length : Int))) (by kernel_rfl) (by kernel_rfl) (fun hc1 => ?_) (fun hc1 => ?_)
 ·have hr := cond_t hc1 hr
  refine qk (qR (qp 1 [4] [(4, .bool false)] (qE (qs (qt (qu ?_))))))
  obtain rfl := some_inj hr
  exact ge_result trivial (ResOk.tmp (by kernel_rfl) ResOk.nil) (Imm.refl _) ⟨rfl, rfl⟩
 ·have hr := cond_f hc1 hr
  refine qx (qs (qk (qk (qR (qp 3 [0, 1, 12, 13] [(0, .slice A0_0 a0.length n0_0), (1, .slice A1_0 a1.length n1_0), (12, .int .i64 (a0.length : Int)), (13, .int .i64 0)] (qE (qs ?_)))))))
  obtain ⟨r6, hl7, hr⟩ := bind_some hr
  refine gk_join (fun t I' L' => ∃ r14, r6 = Sum.inl r14 ∧ I ≤ I' ∧ L = L' ∧ Knows 26 [] t) ?_ ?_
  ·refine qb (qq [0, 1, 12, 13] [(0, .slice A0_0 a0.length n0_0), (1, .slice A1_0 a1.length n1_0), (12, .int .i64 (a0.length : Int)), (13, .int .i64 0)] ?_)
   intro t hK
   refine gc_loop (tocsinlaw04_same_l18 a0 a1) (fun s8 t I' L' => I ≤ I' ∧ L = L' ∧ Knows 26 [(0, .slice A0_0 a0.length n0_0), (1, .slice A1_0 a1.length n1_0), (12, .int .i64 (a0.length : Int)), (13, .int .i64 s8)] t) (by kernel_rfl) ?_ hl7 ⟨(Imm.refl _), rfl, hK⟩
   rintro s8 o9 t I13 L' hb10 ⟨hI11, rfl, hK12⟩
   unfold tocsinlaw04_same_l18 at hb10
   refine gk_at hK12 ?_
   refine qk (qR (qp 1 [0, 1, 12, 13, 14] [(0, .slice A0_0 a0.length n0_0), (1, .slice A1_0 a1.length n1_0), (12, .int .i64 (a0.length : Int)), (13, .int .i64 s8), (14, .bool (decide (s8 < (a0.length : Int))))] (qE (qs (qk ?_)))))
   refine gk_cond (b := (decide (s8 < (a0.length : Int)))) (by kernel_rfl) (by kernel_rfl) (fun hc20 => ?_) (fun hc20 => ?_)
   ·have hb10 := cond_t hc20 hb10
    refine qx (qs (qk (qb (qk (qR (qp 2 [0, 1, 5, 12, 13] [(0, .slice A0_0 a0.length n0_0), (1, .slice A1_0 a1.length n1_0), (5, .int .i64 s8), (12, .int .i64 (a0.length : Int)), (13, .int .i64 s8)] (qE (qs (qk ?_)))))))))
    refine gk_draw 9 (rng 0 9) [] nim (by kernel_rfl) (by kernel_rfl) (by kernel_rfl) ?_ (by kernel_rfl)
    refine dp 2 [0, 1, 5, 12, 13, 16, 17] [(0, .slice A0_0 a0.length n0_0), (1, .slice A1_0 a1.length n1_0), (5, .int .i64 s8), (12, .int .i64 (a0.length : Int)), (13, .int .i64 s8), (16, .slice A0_0 a0.length n0_0), (17, .int .i64 s8)] (rng 2 7) (CC.refl nim) ?_
    obtain ⟨x21, hx22, hb10⟩ := bind_some hb10
    obtain ⟨p23, cs24, hR25, hA26, ha27⟩ := RepS.ixAt hx22 (hf0_0.mono hI11)
    have hi28 := ix_some hx22
    obtain rfl := kS49_open hR25
    refine gd_q (v := .pointer (some p23)) (by kernel_rfl) (by kernel_rfl) (CC.refl nim) (fun I' L' T hC kk => gl_indexAddrF (c := n0_0) (T' := 22) (e := 50) (xs := (.tmp 16)) (xi := (.tmp 17)) (kd := .i64) ha27 hi28.1 hi28.2.1 (by kernel_rfl) (by kernel_rfl) (by kernel_rfl) (by kernel_rfl) (by kernel_rfl) kk) ?_
    refine gd_q (v := .agg #[.string x21.f0, .string x21.f1]) (by kernel_rfl) (by kernel_rfl) (CC.refl nim) (fun I' L' T hC kk => gl_loadA (T' := 50) (xp := (.tmp 18)) (p := p23) (cs := [.string x21.f0, .string x21.f1]) (by kernel_rfl) (by kernel_rfl) (by kernel_rfl) (by kernel_rfl) ((hA26.mono hC.le).take 2) kk) ?_
    refine dp 2 [0, 1, 12, 13, 19, 20, 21] [(0, .slice A0_0 a0.length n0_0), (1, .slice A1_0 a1.length n1_0), (12, .int .i64 (a0.length : Int)), (13, .int .i64 s8), (19, .agg #[.string x21.f0, .string x21.f1]), (20, .slice A1_0 a1.length n1_0), (21, .int .i64 s8)] [(6, true), (7, true), (8, true)] (CC.refl nim) ?_
    obtain ⟨x29, hx30, hb10⟩ := bind_some hb10
    obtain ⟨p31, cs32, hR33, hA34, ha35⟩ := RepS.ixAt hx30 (hf1_0.mono hI11)
    have hi36 := ix_some hx30
    obtain rfl := kS49_open hR33
    refine gd_q (v := .pointer (some p31)) (by kernel_rfl) (by kernel_rfl) (CC.refl nim) (fun I' L' T hC kk => gl_indexAddrF (c := n1_0) (T' := 22) (e := 50) (xs := (.tmp 20)) (xi := (.tmp 21)) (kd := .i64) ha35 hi36.1 hi36.2.1 (by kernel_rfl) (by kernel_rfl) (by kernel_rfl) (by kernel_rfl) (by kernel_rfl) kk) ?_
    refine gd_q (v := .agg #[.string x29.f0, .string x29.f1]) (by kernel_rfl) (by kernel_rfl) (CC.refl nim) (fun I' L' T hC kk => gl_loadA (T' := 50) (xp := (.tmp 22)) (p := p31) (cs := [.string x29.f0, .string x29.f1]) (by kernel_rfl) (by kernel_rfl) (by kernel_rfl) (by kernel_rfl) ((hA34.mono hC.le).take 2) kk) ?_
    refine gd_q (v := .bool (!((x21.f0.toList == x29.f0.toList) && (x21.f1.toList == x29.f1.toList)))) (by kernel_rfl) (by kernel_rfl) (CC.refl nim) (fun I' L' T hC kk => gl_eqAgg (cx := #[.string x21.f0, .string x21.f1]) (cy := #[.string x29.f0, .string x29.f1]) (n := true) (t := 50) (t' := 50) (x := (.tmp 19)) (y := (.tmp 23)) (b := ((x21.f0.toList == x29.f0.toList) && (x21.f1.toList == x29.f1.toList))) (by kernel_rfl) (by kernel_rfl) (by kernel_rfl) (by kernel_rfl) (by kernel_rfl) kk) ?_
    refine gd_done ?_
    refine qE (qs ?_)
    refine gk_cond (b := (!((x21.f0.toList == x29.f0.toList) && (x21.f1.toList == x29.f1.toList)))) (by kernel_rfl) (by kernel_rfl) (fun hc37 => ?_) (fun hc37 => ?_)
    ·have hb10 := cond_t hc37 hb10
     refine qk (qR (qp 1 [4] [(4, .bool false)] (qE (qs (qt (qv (qu ?_)))))))
     obtain rfl := some_inj hb10
     refine ge_round_out (fun hrr => ?_) (by intro h; cases h)
     obtain rfl := hrr
     refine qv (qu (qu ?_))
     obtain rfl := some_inj hr
     exact ge_result trivial (ResOk.tmp (by kernel_rfl) ResOk.nil) hI11 ⟨rfl, rfl⟩
    ·have hb10 := cond_f hc37 hb10
     refine qx (qn (qs (qR (qp 2 [0, 1, 12, 13] [(0, .slice A0_0 a0.length n0_0), (1, .slice A1_0 a1.length n1_0), (12, .int .i64 (a0.length : Int)), (13, .int .i64 (IntKind.wrap .i64 (s8 + 1)))] (qE ?_)))))
     obtain rfl := some_inj hb10
     exact ge_round fun t ht => ⟨hI11, rfl, ht.pick (l := [0, 1, 12, 13]) (by kernel_rfl)⟩
   ·have hb10 := cond_f hc20 hb10
    refine qe (qf ?_)
    obtain rfl := some_inj hb10
    refine ge_round_out (fun hrr => ?_) (by intro h; cases h)
    obtain rfl := hrr
    refine qh ?_
    exact ge_mid fun t ht => ⟨_, rfl, hI11, rfl, ht.pick (l := []) (by kernel_rfl)⟩
  ·rintro t I17 L' ⟨r14, rfl, hI15, rfl, hK16⟩
   refine ge_at hK16 ?_
   refine qs (qk (qR (qp 1 [4] [(4, .bool true)] (qE (qs (qt ?_))))))
   obtain rfl := some_inj hr
   exact ge_result trivial (ResOk.tmp (by kernel_rfl) ResOk.nil) hI15 ⟨rfl, rfl⟩
/-! 21 tocsinlaw04_Kept ('vis', 'imm') -/
noncomputable def tocsinlaw04_Kept (a0 : List S49 × List S49) (a1 : List S49) : Option Bool :=
 Option.bind (Option.bind (tocsinlaw04_same a0.1 a1) fun (y6 : Bool) =>
  bif y6 then
  (Option.bind (lx a0.2 0 (IntKind.wrap .i64 ((a1.length : Int) + 1))) fun (l10 : List S49) =>
   Option.bind (ix l10 (a1.length : Int)) fun (x14 : S49) =>
   some (x14.f0.toList == (⟨#[98, 101, 104, 105, 110, 100]⟩ : ByteArray).toList))
  else
  (some false)) fun (j1 : Bool) =>
 some j1
theorem tocsinlaw04_Kept_walk {a0 : List S49 × List S49} {A0_0 : Option Addr} {n0_0 : Nat} {a1 : List S49} {A1_0 : Option Addr} {n1_0 : Nat} {I : Imm} {r : Bool} (hf0_0 : RepS kS49 I A0_0 n0_0 a0.1) (hF0_0 : RepS kS49 I A0_0 n0_0 a0.2)  (hf1_0 : RepS kS49 I A1_0 n1_0 a1) (hr : tocsinlaw04_Kept a0 a1 = some r) (L : Own) :
  CallsTo Tryz.prog 21 #[.slice A0_0 a0.1.length n0_0, .slice A1_0 a1.length n1_0] I L (fun v I' L' => v = .bool r ∧ L = L') := by
 unfold tocsinlaw04_Kept at hr
 refine callsTo_body (N := 21) Tryz.func21 (by kernel_rfl) (by kernel_rfl) (by kernel_rfl) ?_
 refine qq [0, 1] [(0, .slice A0_0 a0.1.length n0_0), (1, .slice A1_0 a1.length n1_0)] (qk (qR (qp 1 [0, 1] [(0, .slice A0_0 a0.1.length n0_0), (1, .slice A1_0 a1.length n1_0)] (qE (qs (qk ?_))))))
 obtain ⟨j1, hj2, hr⟩ := bind_some hr
 refine gk_join (fun t I' L' => I ≤ I' ∧ L = L' ∧ Knows 21 [(4, .bool j1)] t) ?_ ?_
 ·refine qR (qp 2 [0, 1, 5, 6] [(0, .slice A0_0 a0.1.length n0_0), (1, .slice A1_0 a1.length n1_0), (5, .slice A0_0 a0.1.length n0_0), (6, .slice A1_0 a1.length n1_0)] ?_)
  obtain ⟨y6, hx7, hj2⟩ := bind_some hj2
  refine gl_callQ (by kernel_rfl) (tocsinlaw04_same_walk (r := y6) hf0_0 hf1_0 hx7 _) ?_
  refine qp 1 [0, 1, 8] [(0, .slice A0_0 a0.1.length n0_0), (1, .slice A1_0 a1.length n1_0), (8, .bool y6)] ?_
  refine gl_case 8 (b := y6) (by kernel_rfl) (fun hc8 => ?_) (fun hc8 => ?_)
  ·have hj2 := cond_t hc8 hj2
   refine qp 4 [1, 8, 9, 12] [(1, .slice A1_0 a1.length n1_0), (8, .bool true), (9, .slice A0_0 a0.1.length n0_0), (12, .int .i64 (IntKind.wrap .i64 ((a1.length : Int) + 1)))] ?_
   obtain ⟨l10, hx9, hj2⟩ := bind_some hj2
   refine gl_sliceRF (d := kS49) (T' := 22) (e := 50) (m := a0.1.length) (xs := (.tmp 9)) (lo := none) (hi := (some (.tmp 12))) hx9 hF0_0 (by kernel_rfl) (by kernel_rfl) (by kernel_rfl) (by kernel_rfl) (by kernel_rfl) (by kernel_rfl) (fun A11 n12 hf13 => ?_)
   refine qp 2 [8, 13, 15] [(8, .bool true), (13, .slice A11 l10.length n12), (15, .int .i64 (a1.length : Int))] ?_
   obtain ⟨x14, hx15, hj2⟩ := bind_some hj2
   obtain ⟨p16, cs17, hR18, hA19, ha20⟩ := RepS.ixAt hx15 hf13
   have hi21 := ix_some hx15
   obtain rfl := kS49_open hR18
   refine gl_indexAddrF (c := n12) (T' := 22) (e := 50) (xs := (.tmp 13)) (xi := (.tmp 15)) (kd := .i64) ha20 hi21.1 hi21.2.1 (by kernel_rfl) (by kernel_rfl) (by kernel_rfl) (by kernel_rfl) (by kernel_rfl) ?_
   refine qp 1 [8, 17] [(8, .bool true), (17, .pointer (some (p16.add 0)))] ?_
   refine gl_load (T' := 9) (xp := (.tmp 17)) (p := (p16.add 0)) (c := .string x14.f0) (n := 1) (by kernel_rfl) (by kernel_rfl) (by kernel_rfl) (by kernel_rfl) (hA19.drop 0) ?_
   refine qp 3 [4] [(4, .bool (x14.f0.toList == (⟨#[98, 101, 104, 105, 110, 100]⟩ : ByteArray).toList))] (qE ?_)
   obtain rfl := some_inj hj2
   exact ge_mid fun t ht => ⟨(Imm.refl _), rfl, ht.pick (l := [4]) (by kernel_rfl)⟩
  ·have hj2 := cond_f hc8 hj2
   refine qp 13 [4] [(4, .bool false)] (qE ?_)
   obtain rfl := some_inj hj2
   exact ge_mid fun t ht => ⟨(Imm.refl _), rfl, ht.pick (l := [4]) (by kernel_rfl)⟩
 ·rintro t I5 L' ⟨hI3, rfl, hK4⟩
  refine ge_at hK4 ?_
  refine qs (qt ?_)
  obtain rfl := some_inj hr
  exact ge_result trivial (ResOk.tmp (by kernel_rfl) ResOk.nil) hI3 ⟨rfl, rfl⟩
/-! 21 tocsinlaw04_Kept_f21  -/
structure S89 where
 f0 : ByteArray
 f1 : Int
 f2 : Int
/-! 67 labels_reader_blanks ('obj',) -/
noncomputable def labels_reader_blanks_l16 (a0 : S89) : Int → Option ((Int) ⊕ (Int)) := fun s7 =>
 Option.bind (bif (decide (s7 < (a0.f0.size : Int))) then
  (Option.bind (bx a0.f0 s7) fun (c24 : Int) =>
   bif (c24 == 32) then
   (some true)
   else
   (Option.bind (bx a0.f0 s7) fun (c27 : Int) =>
    some (c27 == 9)))
  else
  (some false)) fun (j18 : Bool) =>
 bif j18 then
 (some (Sum.inl (IntKind.wrap .i64 (s7 + 1))))
 else
 (some (Sum.inr s7))
noncomputable def labels_reader_blanks (a0 : S89) : Option S89 :=
 Option.bind (loopO (labels_reader_blanks_l16 a0) a0.f1) fun (r5 : Int) =>
 some (⟨a0.f0, r5, a0.f2⟩ : S89)
theorem labels_reader_blanks_walk {a0 : S89} {g0 : Nat} {T0 : TypeId} {I : Imm} {r : S89}  (hr : labels_reader_blanks a0 = some r) (L : Own) :
  CallsTo Tryz.prog 67 #[.pointer (some ⟨g0, 0, none⟩)] I ((g0, .cells #[.string a0.f0, .int .i64 a0.f1, .int .i64 a0.f2] T0) :: L) (fun v I' L' => v = .tuple #[] ∧ (g0, .cells #[.string r.f0, .int .i64 r.f1, .int .i64 r.f2] T0) :: L = L') := by
 unfold labels_reader_blanks at hr
 refine callsTo_body (N := 43) Tryz.func67 (by kernel_rfl) (by kernel_rfl) (by kernel_rfl) ?_
 refine qq [0] [(0, .pointer (some ⟨g0, 0, none⟩))] ?_
 obtain ⟨r5, hl6, hr⟩ := bind_some hr
 refine gk_join (fun t I' L' => I ≤ I' ∧ (g0, .cells #[.string a0.f0, .int .i64 r5, .int .i64 a0.f2] T0) :: L = L' ∧ Knows 43 [] t) ?_ ?_
 ·refine qb (qq [0] [(0, .pointer (some ⟨g0, 0, none⟩))] ?_)
  intro t hK
  refine gc_loop (labels_reader_blanks_l16 a0) (fun s7 t I' L' => I ≤ I' ∧ (g0, .cells #[.string a0.f0, .int .i64 s7, .int .i64 a0.f2] T0) :: L = L' ∧ Knows 43 [(0, .pointer (some ⟨g0, 0, none⟩))] t) (by kernel_rfl) ?_ hl6 ⟨(Imm.refl _), rfl, hK⟩
  rintro s7 o8 t I12 L' hb9 ⟨hI10, rfl, hK11⟩
  unfold labels_reader_blanks_l16 at hb9
  refine gk_at hK11 ?_
  refine qk (qk ?_)
  obtain ⟨j18, hj19, hb9⟩ := bind_some hb9
  refine gk_join (fun t I' L' => I12 ≤ I' ∧ (g0, .cells #[.string a0.f0, .int .i64 s7, .int .i64 a0.f2] T0) :: L = L' ∧ Knows 43 [(0, .pointer (some ⟨g0, 0, none⟩)), (35, .bool j18)] t) ?_ ?_
  ·refine gk_draw 34 (rng 0 34) [(g0, .cells #[.string a0.f0, .int .i64 s7, .int .i64 a0.f2] T0)] (fmc ⟨mcs, nim⟩) (by kernel_rfl) (by kernel_rfl) (by kernel_rfl) ?_ (by kernel_rfl)
   refine dp 3 [0, 4] [(0, .pointer (some ⟨g0, 0, none⟩)), (4, .pointer (some ⟨g0, 1, none⟩))] (rng 3 31) (CC.refl (fmc ⟨mcs, nim⟩)) ?_
   refine gd_q (v := .int .i64 s7) (by kernel_rfl) (by kernel_rfl) (CC.refl (fmc ⟨mcs, nim⟩)) (fun I' L' T hC kk => gl_loadB (T' := 3) (xp := (.tmp 4)) (v := .int .i64 s7) (g := g0) (off := 1) (cs := #[.string a0.f0, .int .i64 s7, .int .i64 a0.f2]) (e := T0) (fz := (0, 0)) (by kernel_rfl) (by kernel_rfl) (by kernel_rfl) (hC.sub _ mcs) (by kernel_rfl) kk) ?_
   refine dp 3 [0, 5, 8] [(0, .pointer (some ⟨g0, 0, none⟩)), (5, .int .i64 s7), (8, .pointer (some ⟨g0, 0, none⟩))] (rng 7 27) (CC.refl (fmc ⟨mcs, nim⟩)) ?_
   refine gd_q (v := .string a0.f0) (by kernel_rfl) (by kernel_rfl) (CC.refl (fmc ⟨mcs, nim⟩)) (fun I' L' T hC kk => gl_loadB (T' := 9) (xp := (.tmp 8)) (v := .string a0.f0) (g := g0) (off := 0) (cs := #[.string a0.f0, .int .i64 s7, .int .i64 a0.f2]) (e := T0) (fz := (0, 0)) (by kernel_rfl) (by kernel_rfl) (by kernel_rfl) (hC.sub _ mcs) (by kernel_rfl) kk) ?_
   refine dp 3 [0, 12] [(0, .pointer (some ⟨g0, 0, none⟩)), (12, .bool (decide (s7 < (a0.f0.size : Int))))] (rng 11 23) (CC.refl (fmc ⟨mcs, nim⟩)) ?_
   refine gd_case 12 (b := (decide (s7 < (a0.f0.size : Int)))) (by kernel_rfl) (fun hc23 => ?_) (fun hc23 => ?_)
   ·have hj19 := cond_t hc23 hj19
    refine dp 3 [0, 12, 15] [(0, .pointer (some ⟨g0, 0, none⟩)), (12, .bool true), (15, .pointer (some ⟨g0, 0, none⟩))] (rng 14 20) (CC.refl (fmc ⟨mcs, nim⟩)) ?_
    refine gd_q (v := .string a0.f0) (by kernel_rfl) (by kernel_rfl) (CC.refl (fmc ⟨mcs, nim⟩)) (fun I' L' T hC kk => gl_loadB (T' := 9) (xp := (.tmp 15)) (v := .string a0.f0) (g := g0) (off := 0) (cs := #[.string a0.f0, .int .i64 s7, .int .i64 a0.f2]) (e := T0) (fz := (0, 0)) (by kernel_rfl) (by kernel_rfl) (by kernel_rfl) (hC.sub _ mcs) (by kernel_rfl) kk) ?_
    refine dp 3 [0, 12, 16, 19] [(0, .pointer (some ⟨g0, 0, none⟩)), (12, .bool true), (16, .string a0.f0), (19, .pointer (some ⟨g0, 1, none⟩))] (rng 18 16) (CC.refl (fmc ⟨mcs, nim⟩)) ?_
    refine gd_q (v := .int .i64 s7) (by kernel_rfl) (by kernel_rfl) (CC.refl (fmc ⟨mcs, nim⟩)) (fun I' L' T hC kk => gl_loadB (T' := 3) (xp := (.tmp 19)) (v := .int .i64 s7) (g := g0) (off := 1) (cs := #[.string a0.f0, .int .i64 s7, .int .i64 a0.f2]) (e := T0) (fz := (0, 0)) (by kernel_rfl) (by kernel_rfl) (by kernel_rfl) (hC.sub _ mcs) (by kernel_rfl) kk) ?_
    obtain ⟨c24, hx25, hj19⟩ := bind_some hj19
    refine gd_q (v := .int .u8 c24) (by kernel_rfl) (by kernel_rfl) (CC.refl (fmc ⟨mcs, nim⟩)) (fun I' L' T hC kk => gl_index' (T' := 9) (xs := (.tmp 16)) (xi := (.tmp 20)) (kd := .i64) hx25 (by kernel_rfl) (by kernel_rfl) (by kernel_rfl) (by kernel_rfl) (by kernel_rfl) kk) ?_
    refine dp 2 [0, 12, 23] [(0, .pointer (some ⟨g0, 0, none⟩)), (12, .bool true), (23, .bool (c24 == 32))] (rng 22 12) (CC.refl (fmc ⟨mcs, nim⟩)) ?_
    refine gd_case 23 (b := (c24 == 32)) (by kernel_rfl) (fun hc26 => ?_) (fun hc26 => ?_)
    ·have hj19 := cond_t hc26 hj19
     refine dp 12 [0, 35] [(0, .pointer (some ⟨g0, 0, none⟩)), (35, .bool true)] [] (CC.refl (fmc ⟨mcs, nim⟩)) ?_
     refine gd_done ?_
     refine qE ?_
     obtain rfl := some_inj hj19
     exact ge_mid fun t ht => ⟨(Imm.refl _), rfl, ht.pick (l := [0, 35]) (by kernel_rfl)⟩
    ·have hj19 := cond_f hc26 hj19
     refine dp 3 [0, 12, 23, 26] [(0, .pointer (some ⟨g0, 0, none⟩)), (12, .bool true), (23, .bool false), (26, .pointer (some ⟨g0, 0, none⟩))] (rng 25 9) (CC.refl (fmc ⟨mcs, nim⟩)) ?_
     refine gd_q (v := .string a0.f0) (by kernel_rfl) (by kernel_rfl) (CC.refl (fmc ⟨mcs, nim⟩)) (fun I' L' T hC kk => gl_loadB (T' := 9) (xp := (.tmp 26)) (v := .string a0.f0) (g := g0) (off := 0) (cs := #[.string a0.f0, .int .i64 s7, .int .i64 a0.f2]) (e := T0) (fz := (0, 0)) (by kernel_rfl) (by kernel_rfl) (by kernel_rfl) (hC.sub _ mcs) (by kernel_rfl) kk) ?_
     refine dp 3 [0, 12, 23, 27, 30] [(0, .pointer (some ⟨g0, 0, none⟩)), (12, .bool true), (23, .bool false), (27, .string a0.f0), (30, .pointer (some ⟨g0, 1, none⟩))] (rng 29 5) (CC.refl (fmc ⟨mcs, nim⟩)) ?_
     refine gd_q (v := .int .i64 s7) (by kernel_rfl) (by kernel_rfl) (CC.refl (fmc ⟨mcs, nim⟩)) (fun I' L' T hC kk => gl_loadB (T' := 3) (xp := (.tmp 30)) (v := .int .i64 s7) (g := g0) (off := 1) (cs := #[.string a0.f0, .int .i64 s7, .int .i64 a0.f2]) (e := T0) (fz := (0, 0)) (by kernel_rfl) (by kernel_rfl) (by kernel_rfl) (hC.sub _ mcs) (by kernel_rfl) kk) ?_
     obtain ⟨c27, hx28, hj19⟩ := bind_some hj19
     refine gd_q (v := .int .u8 c27) (by kernel_rfl) (by kernel_rfl) (CC.refl (fmc ⟨mcs, nim⟩)) (fun I' L' T hC kk => gl_index' (T' := 9) (xs := (.tmp 27)) (xi := (.tmp 31)) (kd := .i64) hx28 (by kernel_rfl) (by kernel_rfl) (by kernel_rfl) (by kernel_rfl) (by kernel_rfl) kk) ?_
     refine dp 3 [0, 35] [(0, .pointer (some ⟨g0, 0, none⟩)), (35, .bool (c27 == 9))] [] (CC.refl (fmc ⟨mcs, nim⟩)) ?_
     refine gd_done ?_
     refine qE ?_
     obtain rfl := some_inj hj19
     exact ge_mid fun t ht => ⟨(Imm.refl _), rfl, ht.pick (l := [0, 35]) (by kernel_rfl)⟩
   ·have hj19 := cond_f hc23 hj19
    refine dp 23 [0, 35] [(0, .pointer (some ⟨g0, 0, none⟩)), (35, .bool false)] [] (CC.refl (fmc ⟨mcs, nim⟩)) ?_
    refine gd_done ?_
    refine qE ?_
    obtain rfl := some_inj hj19
    exact ge_mid fun t ht => ⟨(Imm.refl _), rfl, ht.pick (l := [0, 35]) (by kernel_rfl)⟩
  ·rintro t I22 L' ⟨hI20, rfl, hK21⟩
   refine ge_at hK21 ?_
   refine qs ?_
   refine gk_cond (b := j18) (by kernel_rfl) (by kernel_rfl) (fun hc29 => ?_) (fun hc29 => ?_)
   ·have hb9 := cond_t hc29 hb9
    refine qx (qs (qb (qR (qp 3 [0, 36, 38] [(0, .pointer (some ⟨g0, 0, none⟩)), (36, .pointer (some ⟨g0, 0, none⟩)), (38, .pointer (some ⟨g0, 1, none⟩))] ?_))))
    refine gl_loadB (T' := 3) (xp := (.tmp 38)) (v := .int .i64 s7) (g := g0) (off := 1) (cs := #[.string a0.f0, .int .i64 s7, .int .i64 a0.f2]) (e := T0) (fz := (0, 0)) (by kernel_rfl) (by kernel_rfl) (by kernel_rfl) mcs (by kernel_rfl) ?_
    refine qp 3 [0, 40, 42] [(0, .pointer (some ⟨g0, 0, none⟩)), (40, .int .i64 (IntKind.wrap .i64 (s7 + 1))), (42, .pointer (some ⟨g0, 1, none⟩))] ?_
    refine gl_storeB (T' := 3) (xp := (.tmp 42)) (xv := (.tmp 40)) (v := .int .i64 (IntKind.wrap .i64 (s7 + 1))) (g := g0) (off := 1) (cs := #[.string a0.f0, .int .i64 s7, .int .i64 a0.f2]) (cs' := #[.string a0.f0, .int .i64 (IntKind.wrap .i64 (s7 + 1)), .int .i64 a0.f2]) (by kernel_rfl) (by kernel_rfl) (by kernel_rfl) (by kernel_rfl) (by kernel_rfl) (Upd.set _ _ _ _) ?_ (by kernel_rfl)
    refine qE (qn ?_)
    obtain rfl := some_inj hb9
    exact ge_round fun t ht => ⟨(Imm.trans hI10 hI20), rfl, ht.pick (l := [0]) (by kernel_rfl)⟩
   ·have hb9 := cond_f hc29 hb9
    refine qe (qf ?_)
    obtain rfl := some_inj hb9
    refine ge_round_out (fun hrr => ?_) (by intro h; cases h)
    obtain rfl := hrr
    refine qh ?_
    exact ge_mid fun t ht => ⟨(Imm.trans hI10 hI20), rfl, ht.pick (l := []) (by kernel_rfl)⟩
 ·rintro t I15 L' ⟨hI13, rfl, hK14⟩
  refine ge_at hK14 ?_
  obtain rfl := some_inj hr
  exact ge_result trivial ResOk.nil hI13 ⟨rfl, rfl⟩
/-! 71 labels_reader_fail ('obj', 'imm') -/
noncomputable def labels_reader_fail (a0 : S89) (a1 : Int) : Option S89 :=
 Option.bind (bif (decide (a0.f2 < 0)) then
  (some a1)
  else
  (some a0.f2)) fun (j1 : Int) =>
 some (⟨a0.f0, a0.f1, j1⟩ : S89)
theorem labels_reader_fail_walk {a0 : S89} {g0 : Nat} {T0 : TypeId} {a1 : Int} {I : Imm} {r : S89}  (hr : labels_reader_fail a0 a1 = some r) (L : Own) :
  CallsTo Tryz.prog 71 #[.pointer (some ⟨g0, 0, none⟩), .int .i64 a1] I ((g0, .cells #[.string a0.f0, .int .i64 a0.f1, .int .i64 a0.f2] T0) :: L) (fun v I' L' => v = .tuple #[] ∧ (g0, .cells #[.string r.f0, .int .i64 r.f1, .int .i64 r.f2] T0) :: L = L') := by
 unfold labels_reader_fail at hr
 refine callsTo_body (N := 13) Tryz.func71 (by kernel_rfl) (by kernel_rfl) (by kernel_rfl) ?_
 refine qq [0, 1] [(0, .pointer (some ⟨g0, 0, none⟩)), (1, .int .i64 a1)] (qk (qR (qp 3 [0, 1, 6] [(0, .pointer (some ⟨g0, 0, none⟩)), (1, .int .i64 a1), (6, .pointer (some ⟨g0, 2, none⟩))] ?_)))
 refine gl_loadB (T' := 3) (xp := (.tmp 6)) (v := .int .i64 a0.f2) (g := g0) (off := 2) (cs := #[.string a0.f0, .int .i64 a0.f1, .int .i64 a0.f2]) (e := T0) (fz := (0, 0)) (by kernel_rfl) (by kernel_rfl) (by kernel_rfl) mcs (by kernel_rfl) ?_
 refine qp 1 [0, 1, 8] [(0, .pointer (some ⟨g0, 0, none⟩)), (1, .int .i64 a1), (8, .bool (decide (a0.f2 < 0)))] (qE (qs ?_))
 obtain ⟨j1, hj2, hr⟩ := bind_some hr
 refine gk_join (fun t I' L' => I ≤ I' ∧ (g0, .cells #[.string a0.f0, .int .i64 a0.f1, .int .i64 j1] T0) :: L = L' ∧ Knows 13 [] t) ?_ ?_
 ·refine gk_cond (b := (decide (a0.f2 < 0))) (by kernel_rfl) (by kernel_rfl) (fun hc6 => ?_) (fun hc6 => ?_)
  ·have hj2 := cond_t hc6 hj2
   refine qR (qp 4 [10, 12] [(10, .int .i64 a1), (12, .pointer (some ⟨g0, 2, none⟩))] ?_)
   refine gl_storeB (T' := 3) (xp := (.tmp 12)) (xv := (.tmp 10)) (v := .int .i64 a1) (g := g0) (off := 2) (cs := #[.string a0.f0, .int .i64 a0.f1, .int .i64 a0.f2]) (cs' := #[.string a0.f0, .int .i64 a0.f1, .int .i64 a1]) (by kernel_rfl) (by kernel_rfl) (by kernel_rfl) (by kernel_rfl) (by kernel_rfl) (Upd.set _ _ _ _) ?_ (by kernel_rfl)
   refine qE ?_
   obtain rfl := some_inj hj2
   exact ge_mid fun t ht => ⟨(Imm.refl _), rfl, ht.pick (l := []) (by kernel_rfl)⟩
  ·have hj2 := cond_f hc6 hj2
   refine qx ?_
   obtain rfl := some_inj hj2
   exact ge_mid fun t ht => ⟨(Imm.refl _), rfl, ht.pick (l := []) (by kernel_rfl)⟩
 ·rintro t I5 L' ⟨hI3, rfl, hK4⟩
  refine ge_at hK4 ?_
  obtain rfl := some_inj hr
  exact ge_result trivial ResOk.nil hI3 ⟨rfl, rfl⟩
/-! 68 labels_reader_name ('obj', 'imm') -/
noncomputable def labels_reader_name_l22 (a1 : Bool) (y2 : S89) : Int → Option ((Int) ⊕ (Int)) := fun s13 =>
 Option.bind (bif (decide (s13 < (y2.f0.size : Int))) then
  (Option.bind (bx y2.f0 s13) fun (c30 : Int) =>
   bif (labels_letter c30) then
   (some true)
   else
   (Option.bind (bx y2.f0 s13) fun (c33 : Int) =>
    bif (labels_digit c33) then
    (some true)
    else
    (bif a1 then
     (Option.bind (bx y2.f0 s13) fun (c37 : Int) =>
      some (c37 == 58))
     else
     (some false))))
  else
  (some false)) fun (j24 : Bool) =>
 bif j24 then
 (some (Sum.inl (IntKind.wrap .i64 (s13 + 1))))
 else
 (some (Sum.inr s13))
noncomputable def labels_reader_name (a0 : S89) (a1 : Bool) : Option (ByteArray × S89) :=
 bif (decide (a0.f2 ≥ 0)) then
 (some ((⟨#[]⟩ : ByteArray), a0))
 else
 (Option.bind (labels_reader_blanks a0) fun (y2 : S89) =>
  Option.bind (loopO (labels_reader_name_l22 a1 y2) y2.f1) fun (r11 : Int) =>
  Option.bind (sx y2.f0 y2.f1 r11) fun (s41 : ByteArray) =>
  Option.bind (bif a1 then
   (Option.bind (labels_Metric s41) fun (y48 : Bool) =>
    bif (!y48) then
    (some true)
    else
    (bif (!a1) then
     (Option.bind (labels_Name s41) fun (y52 : Bool) =>
      some (!y52))
     else
     (some false)))
   else
   (bif (!a1) then
    (Option.bind (labels_Name s41) fun (y55 : Bool) =>
     some (!y55))
    else
    (some false))) fun (j42 : Bool) =>
  Option.bind (bif j42 then
   (Option.bind (bif (s41.toList == (⟨#[]⟩ : ByteArray).toList) then
     (Option.bind (labels_reader_fail (⟨y2.f0, r11, y2.f2⟩ : S89) r11) fun (y69 : S89) =>
      some (y69.f0, y69.f1, y69.f2))
     else
     (some (y2.f0, r11, y2.f2))) fun (j63 : ByteArray × Int × Int) =>
    Option.bind (labels_reader_fail (⟨j63.1, j63.2.1, j63.2.2⟩ : S89) y2.f1) fun (y74 : S89) =>
    some (y74.f0, y74.f1, y74.f2))
   else
   (some (y2.f0, r11, y2.f2))) fun (j57 : ByteArray × Int × Int) =>
  some (s41, (⟨j57.1, j57.2.1, j57.2.2⟩ : S89)))
theorem labels_reader_name_walk {a0 : S89} {g0 : Nat} {T0 : TypeId} {a1 : Bool} {I : Imm} {r : ByteArray × S89}  (hr : labels_reader_name a0 a1 = some r) (L : Own) :
  CallsTo Tryz.prog 68 #[.pointer (some ⟨g0, 0, none⟩), .bool a1] I ((g0, .cells #[.string a0.f0, .int .i64 a0.f1, .int .i64 a0.f2] T0) :: L) (fun v I' L' => v = .string r.1 ∧ (g0, .cells #[.string r.2.f0, .int .i64 r.2.f1, .int .i64 r.2.f2] T0) :: L = L') := by
 unfold labels_reader_name at hr
 refine callsTo_body (N := 111) Tryz.func68 (by kernel_rfl) (by kernel_rfl) (by kernel_rfl) ?_
 refine qq [0, 1] [(0, .pointer (some ⟨g0, 0, none⟩)), (1, .bool a1)] (qk (qR (qp 1 [0, 1] [(0, .pointer (some ⟨g0, 0, none⟩)), (1, .bool a1)] (qE (qs (qk (qk (qR (qp 3 [0, 1, 9] [(0, .pointer (some ⟨g0, 0, none⟩)), (1, .bool a1), (9, .pointer (some ⟨g0, 2, none⟩))] ?_)))))))))
 refine gl_loadB (T' := 3) (xp := (.tmp 9)) (v := .int .i64 a0.f2) (g := g0) (off := 2) (cs := #[.string a0.f0, .int .i64 a0.f1, .int .i64 a0.f2]) (e := T0) (fz := (0, 0)) (by kernel_rfl) (by kernel_rfl) (by kernel_rfl) mcs (by kernel_rfl) ?_
 refine qp 1 [0, 1, 11] [(0, .pointer (some ⟨g0, 0, none⟩)), (1, .bool a1), (11, .bool (decide (a0.f2 ≥ 0)))] (qE (qs ?_))
 refine gk_cond (b := (decide (a0.f2 ≥ 0))) (by kernel_rfl) (by kernel_rfl) (fun hc1 => ?_) (fun hc1 => ?_)
 ·have hr := cond_t hc1 hr
  refine qk (qR (qp 1 [4] [(4, .string (⟨#[]⟩ : ByteArray))] (qE (qs (qt (qu ?_))))))
  obtain rfl := some_inj hr
  exact ge_result trivial (ResOk.tmp (by kernel_rfl) ResOk.nil) (Imm.refl _) ⟨rfl, rfl⟩
 ·have hr := cond_f hc1 hr
  refine qx (qs (qk (qR (qp 1 [0, 1, 12] [(0, .pointer (some ⟨g0, 0, none⟩)), (1, .bool a1), (12, .pointer (some ⟨g0, 0, none⟩))] ?_))))
  obtain ⟨y2, hx3, hr⟩ := bind_some hr
  refine gl_call (by kernel_rfl) (labels_reader_blanks_walk (r := y2) (g0 := g0) (T0 := T0) (a0 := a0) hx3 _) ?_
  rintro v I4 L5 hI6 ⟨rfl, rfl⟩
  refine qE (qs (qk (qR (qp 3 [0, 1, 16] [(0, .pointer (some ⟨g0, 0, none⟩)), (1, .bool a1), (16, .pointer (some ⟨g0, 1, none⟩))] ?_))))
  refine gl_loadB (T' := 3) (xp := (.tmp 16)) (v := .int .i64 y2.f1) (g := g0) (off := 1) (cs := #[.string y2.f0, .int .i64 y2.f1, .int .i64 y2.f2]) (e := T0) (fz := (0, 0)) (by kernel_rfl) (by kernel_rfl) (by kernel_rfl) mcs (by kernel_rfl) ?_
  refine qp 1 [0, 1, 5] [(0, .pointer (some ⟨g0, 0, none⟩)), (1, .bool a1), (5, .int .i64 y2.f1)] (qE (qs (qk ?_)))
  obtain ⟨r11, hl12, hr⟩ := bind_some hr
  refine gk_join (fun t I' L' => I4 ≤ I' ∧ (g0, .cells #[.string y2.f0, .int .i64 r11, .int .i64 y2.f2] T0) :: L = L' ∧ Knows 111 [(0, .pointer (some ⟨g0, 0, none⟩)), (1, .bool a1), (5, .int .i64 y2.f1)] t) ?_ ?_
  ·refine qb (qq [0, 1, 5] [(0, .pointer (some ⟨g0, 0, none⟩)), (1, .bool a1), (5, .int .i64 y2.f1)] ?_)
   intro t hK
   refine gc_loop (labels_reader_name_l22 a1 y2) (fun s13 t I' L' => I4 ≤ I' ∧ (g0, .cells #[.string y2.f0, .int .i64 s13, .int .i64 y2.f2] T0) :: L = L' ∧ Knows 111 [(0, .pointer (some ⟨g0, 0, none⟩)), (1, .bool a1), (5, .int .i64 y2.f1)] t) (by kernel_rfl) ?_ hl12 ⟨(Imm.refl _), rfl, hK⟩
   rintro s13 o14 t I18 L' hb15 ⟨hI16, rfl, hK17⟩
   unfold labels_reader_name_l22 at hb15
   refine gk_at hK17 ?_
   refine qk (qk ?_)
   obtain ⟨j24, hj25, hb15⟩ := bind_some hb15
   refine gk_join (fun t I' L' => I18 ≤ I' ∧ (g0, .cells #[.string y2.f0, .int .i64 s13, .int .i64 y2.f2] T0) :: L = L' ∧ Knows 111 [(0, .pointer (some ⟨g0, 0, none⟩)), (1, .bool a1), (5, .int .i64 y2.f1), (66, .bool j24)] t) ?_ ?_
   ·refine gk_draw 49 (rng 0 49) [(g0, .cells #[.string y2.f0, .int .i64 s13, .int .i64 y2.f2] T0)] (fmc ⟨mcs, nim⟩) (by kernel_rfl) (by kernel_rfl) (by kernel_rfl) ?_ (by kernel_rfl)
    refine dp 3 [0, 1, 5, 20] [(0, .pointer (some ⟨g0, 0, none⟩)), (1, .bool a1), (5, .int .i64 y2.f1), (20, .pointer (some ⟨g0, 1, none⟩))] (rng 3 46) (CC.refl (fmc ⟨mcs, nim⟩)) ?_
    refine gd_q (v := .int .i64 s13) (by kernel_rfl) (by kernel_rfl) (CC.refl (fmc ⟨mcs, nim⟩)) (fun I' L' T hC kk => gl_loadB (T' := 3) (xp := (.tmp 20)) (v := .int .i64 s13) (g := g0) (off := 1) (cs := #[.string y2.f0, .int .i64 s13, .int .i64 y2.f2]) (e := T0) (fz := (0, 0)) (by kernel_rfl) (by kernel_rfl) (by kernel_rfl) (hC.sub _ mcs) (by kernel_rfl) kk) ?_
    refine dp 3 [0, 1, 5, 21, 24] [(0, .pointer (some ⟨g0, 0, none⟩)), (1, .bool a1), (5, .int .i64 y2.f1), (21, .int .i64 s13), (24, .pointer (some ⟨g0, 0, none⟩))] (rng 7 42) (CC.refl (fmc ⟨mcs, nim⟩)) ?_
    refine gd_q (v := .string y2.f0) (by kernel_rfl) (by kernel_rfl) (CC.refl (fmc ⟨mcs, nim⟩)) (fun I' L' T hC kk => gl_loadB (T' := 9) (xp := (.tmp 24)) (v := .string y2.f0) (g := g0) (off := 0) (cs := #[.string y2.f0, .int .i64 s13, .int .i64 y2.f2]) (e := T0) (fz := (0, 0)) (by kernel_rfl) (by kernel_rfl) (by kernel_rfl) (hC.sub _ mcs) (by kernel_rfl) kk) ?_
    refine dp 3 [0, 1, 5, 28] [(0, .pointer (some ⟨g0, 0, none⟩)), (1, .bool a1), (5, .int .i64 y2.f1), (28, .bool (decide (s13 < (y2.f0.size : Int))))] (rng 11 38) (CC.refl (fmc ⟨mcs, nim⟩)) ?_
    refine gd_case 28 (b := (decide (s13 < (y2.f0.size : Int)))) (by kernel_rfl) (fun hc29 => ?_) (fun hc29 => ?_)
    ·have hj25 := cond_t hc29 hj25
     refine dp 3 [0, 1, 5, 28, 31] [(0, .pointer (some ⟨g0, 0, none⟩)), (1, .bool a1), (5, .int .i64 y2.f1), (28, .bool true), (31, .pointer (some ⟨g0, 0, none⟩))] (rng 14 35) (CC.refl (fmc ⟨mcs, nim⟩)) ?_
     refine gd_q (v := .string y2.f0) (by kernel_rfl) (by kernel_rfl) (CC.refl (fmc ⟨mcs, nim⟩)) (fun I' L' T hC kk => gl_loadB (T' := 9) (xp := (.tmp 31)) (v := .string y2.f0) (g := g0) (off := 0) (cs := #[.string y2.f0, .int .i64 s13, .int .i64 y2.f2]) (e := T0) (fz := (0, 0)) (by kernel_rfl) (by kernel_rfl) (by kernel_rfl) (hC.sub _ mcs) (by kernel_rfl) kk) ?_
     refine dp 3 [0, 1, 5, 28, 32, 35] [(0, .pointer (some ⟨g0, 0, none⟩)), (1, .bool a1), (5, .int .i64 y2.f1), (28, .bool true), (32, .string y2.f0), (35, .pointer (some ⟨g0, 1, none⟩))] (rng 18 31) (CC.refl (fmc ⟨mcs, nim⟩)) ?_
     refine gd_q (v := .int .i64 s13) (by kernel_rfl) (by kernel_rfl) (CC.refl (fmc ⟨mcs, nim⟩)) (fun I' L' T hC kk => gl_loadB (T' := 3) (xp := (.tmp 35)) (v := .int .i64 s13) (g := g0) (off := 1) (cs := #[.string y2.f0, .int .i64 s13, .int .i64 y2.f2]) (e := T0) (fz := (0, 0)) (by kernel_rfl) (by kernel_rfl) (by kernel_rfl) (hC.sub _ mcs) (by kernel_rfl) kk) ?_
     obtain ⟨c30, hx31, hj25⟩ := bind_some hj25
     refine gd_q (v := .int .u8 c30) (by kernel_rfl) (by kernel_rfl) (CC.refl (fmc ⟨mcs, nim⟩)) (fun I' L' T hC kk => gl_index' (T' := 9) (xs := (.tmp 32)) (xi := (.tmp 36)) (kd := .i64) hx31 (by kernel_rfl) (by kernel_rfl) (by kernel_rfl) (by kernel_rfl) (by kernel_rfl) kk) ?_
     refine gd_q (v := .bool (labels_letter c30)) (by kernel_rfl) (by kernel_rfl) (CC.refl (fmc ⟨mcs, nim⟩)) (fun I' L' T hC kk => gl_callQ (by kernel_rfl) (labels_letter_walk (r := (labels_letter c30))  rfl _) kk) ?_
     refine dp 1 [0, 1, 5, 28, 39] [(0, .pointer (some ⟨g0, 0, none⟩)), (1, .bool a1), (5, .int .i64 y2.f1), (28, .bool true), (39, .bool (labels_letter c30))] (rng 22 27) (CC.refl (fmc ⟨mcs, nim⟩)) ?_
     refine gd_case 39 (b := (labels_letter c30)) (by kernel_rfl) (fun hc32 => ?_) (fun hc32 => ?_)
     ·have hj25 := cond_t hc32 hj25
      refine dp 27 [0, 1, 5, 66] [(0, .pointer (some ⟨g0, 0, none⟩)), (1, .bool a1), (5, .int .i64 y2.f1), (66, .bool true)] [] (CC.refl (fmc ⟨mcs, nim⟩)) ?_
      refine gd_done ?_
      refine qE ?_
      obtain rfl := some_inj hj25
      exact ge_mid fun t ht => ⟨(Imm.refl _), rfl, ht.pick (l := [0, 1, 5, 66]) (by kernel_rfl)⟩
     ·have hj25 := cond_f hc32 hj25
      refine dp 3 [0, 1, 5, 28, 39, 42] [(0, .pointer (some ⟨g0, 0, none⟩)), (1, .bool a1), (5, .int .i64 y2.f1), (28, .bool true), (39, .bool false), (42, .pointer (some ⟨g0, 0, none⟩))] (rng 25 24) (CC.refl (fmc ⟨mcs, nim⟩)) ?_
      refine gd_q (v := .string y2.f0) (by kernel_rfl) (by kernel_rfl) (CC.refl (fmc ⟨mcs, nim⟩)) (fun I' L' T hC kk => gl_loadB (T' := 9) (xp := (.tmp 42)) (v := .string y2.f0) (g := g0) (off := 0) (cs := #[.string y2.f0, .int .i64 s13, .int .i64 y2.f2]) (e := T0) (fz := (0, 0)) (by kernel_rfl) (by kernel_rfl) (by kernel_rfl) (hC.sub _ mcs) (by kernel_rfl) kk) ?_
      refine dp 3 [0, 1, 5, 28, 39, 43, 46] [(0, .pointer (some ⟨g0, 0, none⟩)), (1, .bool a1), (5, .int .i64 y2.f1), (28, .bool true), (39, .bool false), (43, .string y2.f0), (46, .pointer (some ⟨g0, 1, none⟩))] (rng 29 20) (CC.refl (fmc ⟨mcs, nim⟩)) ?_
      refine gd_q (v := .int .i64 s13) (by kernel_rfl) (by kernel_rfl) (CC.refl (fmc ⟨mcs, nim⟩)) (fun I' L' T hC kk => gl_loadB (T' := 3) (xp := (.tmp 46)) (v := .int .i64 s13) (g := g0) (off := 1) (cs := #[.string y2.f0, .int .i64 s13, .int .i64 y2.f2]) (e := T0) (fz := (0, 0)) (by kernel_rfl) (by kernel_rfl) (by kernel_rfl) (hC.sub _ mcs) (by kernel_rfl) kk) ?_
      obtain ⟨c33, hx34, hj25⟩ := bind_some hj25
      refine gd_q (v := .int .u8 c33) (by kernel_rfl) (by kernel_rfl) (CC.refl (fmc ⟨mcs, nim⟩)) (fun I' L' T hC kk => gl_index' (T' := 9) (xs := (.tmp 43)) (xi := (.tmp 47)) (kd := .i64) hx34 (by kernel_rfl) (by kernel_rfl) (by kernel_rfl) (by kernel_rfl) (by kernel_rfl) kk) ?_
      refine gd_q (v := .bool (labels_digit c33)) (by kernel_rfl) (by kernel_rfl) (CC.refl (fmc ⟨mcs, nim⟩)) (fun I' L' T hC kk => gl_callQ (by kernel_rfl) (labels_digit_walk (r := (labels_digit c33))  rfl _) kk) ?_
      refine dp 2 [0, 1, 5, 28, 51] [(0, .pointer (some ⟨g0, 0, none⟩)), (1, .bool a1), (5, .int .i64 y2.f1), (28, .bool true), (51, .bool (labels_digit c33))] (rng 34 15) (CC.refl (fmc ⟨mcs, nim⟩)) ?_
      refine gd_case 51 (b := (labels_digit c33)) (by kernel_rfl) (fun hc35 => ?_) (fun hc35 => ?_)
      ·have hj25 := cond_t hc35 hj25
       refine dp 15 [0, 1, 5, 66] [(0, .pointer (some ⟨g0, 0, none⟩)), (1, .bool a1), (5, .int .i64 y2.f1), (66, .bool true)] [] (CC.refl (fmc ⟨mcs, nim⟩)) ?_
       refine gd_done ?_
       refine qE ?_
       obtain rfl := some_inj hj25
       exact ge_mid fun t ht => ⟨(Imm.refl _), rfl, ht.pick (l := [0, 1, 5, 66]) (by kernel_rfl)⟩
      ·have hj25 := cond_f hc35 hj25
       refine dp 2 [0, 1, 5, 28, 51, 53] [(0, .pointer (some ⟨g0, 0, none⟩)), (1, .bool a1), (5, .int .i64 y2.f1), (28, .bool true), (51, .bool false), (53, .bool a1)] (rng 36 13) (CC.refl (fmc ⟨mcs, nim⟩)) ?_
       refine gd_case 53 (b := a1) (by kernel_rfl) (fun hc36 => ?_) (fun hc36 => ?_)
       ·have hj25 := cond_t hc36 hj25
        refine dp 3 [0, 1, 5, 28, 51, 53, 56] [(0, .pointer (some ⟨g0, 0, none⟩)), (1, .bool a1), (5, .int .i64 y2.f1), (28, .bool true), (51, .bool false), (53, .bool true), (56, .pointer (some ⟨g0, 0, none⟩))] (rng 39 10) (CC.refl (fmc ⟨mcs, nim⟩)) ?_
        refine gd_q (v := .string y2.f0) (by kernel_rfl) (by kernel_rfl) (CC.refl (fmc ⟨mcs, nim⟩)) (fun I' L' T hC kk => gl_loadB (T' := 9) (xp := (.tmp 56)) (v := .string y2.f0) (g := g0) (off := 0) (cs := #[.string y2.f0, .int .i64 s13, .int .i64 y2.f2]) (e := T0) (fz := (0, 0)) (by kernel_rfl) (by kernel_rfl) (by kernel_rfl) (hC.sub _ mcs) (by kernel_rfl) kk) ?_
        refine dp 3 [0, 1, 5, 28, 51, 53, 57, 60] [(0, .pointer (some ⟨g0, 0, none⟩)), (1, .bool a1), (5, .int .i64 y2.f1), (28, .bool true), (51, .bool false), (53, .bool true), (57, .string y2.f0), (60, .pointer (some ⟨g0, 1, none⟩))] (rng 43 6) (CC.refl (fmc ⟨mcs, nim⟩)) ?_
        refine gd_q (v := .int .i64 s13) (by kernel_rfl) (by kernel_rfl) (CC.refl (fmc ⟨mcs, nim⟩)) (fun I' L' T hC kk => gl_loadB (T' := 3) (xp := (.tmp 60)) (v := .int .i64 s13) (g := g0) (off := 1) (cs := #[.string y2.f0, .int .i64 s13, .int .i64 y2.f2]) (e := T0) (fz := (0, 0)) (by kernel_rfl) (by kernel_rfl) (by kernel_rfl) (hC.sub _ mcs) (by kernel_rfl) kk) ?_
        obtain ⟨c37, hx38, hj25⟩ := bind_some hj25
        refine gd_q (v := .int .u8 c37) (by kernel_rfl) (by kernel_rfl) (CC.refl (fmc ⟨mcs, nim⟩)) (fun I' L' T hC kk => gl_index' (T' := 9) (xs := (.tmp 57)) (xi := (.tmp 61)) (kd := .i64) hx38 (by kernel_rfl) (by kernel_rfl) (by kernel_rfl) (by kernel_rfl) (by kernel_rfl) kk) ?_
        refine dp 4 [0, 1, 5, 66] [(0, .pointer (some ⟨g0, 0, none⟩)), (1, .bool a1), (5, .int .i64 y2.f1), (66, .bool (c37 == 58))] [] (CC.refl (fmc ⟨mcs, nim⟩)) ?_
        refine gd_done ?_
        refine qE ?_
        obtain rfl := some_inj hj25
        exact ge_mid fun t ht => ⟨(Imm.refl _), rfl, ht.pick (l := [0, 1, 5, 66]) (by kernel_rfl)⟩
       ·have hj25 := cond_f hc36 hj25
        refine dp 13 [0, 1, 5, 66] [(0, .pointer (some ⟨g0, 0, none⟩)), (1, .bool a1), (5, .int .i64 y2.f1), (66, .bool false)] [] (CC.refl (fmc ⟨mcs, nim⟩)) ?_
        refine gd_done ?_
        refine qE ?_
        obtain rfl := some_inj hj25
        exact ge_mid fun t ht => ⟨(Imm.refl _), rfl, ht.pick (l := [0, 1, 5, 66]) (by kernel_rfl)⟩
    ·have hj25 := cond_f hc29 hj25
     refine dp 38 [0, 1, 5, 66] [(0, .pointer (some ⟨g0, 0, none⟩)), (1, .bool a1), (5, .int .i64 y2.f1), (66, .bool false)] [] (CC.refl (fmc ⟨mcs, nim⟩)) ?_
     refine gd_done ?_
     refine qE ?_
     obtain rfl := some_inj hj25
     exact ge_mid fun t ht => ⟨(Imm.refl _), rfl, ht.pick (l := [0, 1, 5, 66]) (by kernel_rfl)⟩
   ·rintro t I28 L' ⟨hI26, rfl, hK27⟩
    refine ge_at hK27 ?_
    refine qs ?_
    refine gk_cond (b := j24) (by kernel_rfl) (by kernel_rfl) (fun hc39 => ?_) (fun hc39 => ?_)
    ·have hb15 := cond_t hc39 hb15
     refine qx (qs (qb (qR (qp 3 [0, 1, 5, 67, 69] [(0, .pointer (some ⟨g0, 0, none⟩)), (1, .bool a1), (5, .int .i64 y2.f1), (67, .pointer (some ⟨g0, 0, none⟩)), (69, .pointer (some ⟨g0, 1, none⟩))] ?_))))
     refine gl_loadB (T' := 3) (xp := (.tmp 69)) (v := .int .i64 s13) (g := g0) (off := 1) (cs := #[.string y2.f0, .int .i64 s13, .int .i64 y2.f2]) (e := T0) (fz := (0, 0)) (by kernel_rfl) (by kernel_rfl) (by kernel_rfl) mcs (by kernel_rfl) ?_
     refine qp 3 [0, 1, 5, 71, 73] [(0, .pointer (some ⟨g0, 0, none⟩)), (1, .bool a1), (5, .int .i64 y2.f1), (71, .int .i64 (IntKind.wrap .i64 (s13 + 1))), (73, .pointer (some ⟨g0, 1, none⟩))] ?_
     refine gl_storeB (T' := 3) (xp := (.tmp 73)) (xv := (.tmp 71)) (v := .int .i64 (IntKind.wrap .i64 (s13 + 1))) (g := g0) (off := 1) (cs := #[.string y2.f0, .int .i64 s13, .int .i64 y2.f2]) (cs' := #[.string y2.f0, .int .i64 (IntKind.wrap .i64 (s13 + 1)), .int .i64 y2.f2]) (by kernel_rfl) (by kernel_rfl) (by kernel_rfl) (by kernel_rfl) (by kernel_rfl) (Upd.set _ _ _ _) ?_ (by kernel_rfl)
     refine qE (qn ?_)
     obtain rfl := some_inj hb15
     exact ge_round fun t ht => ⟨(Imm.trans hI16 hI26), rfl, ht.pick (l := [0, 1, 5]) (by kernel_rfl)⟩
    ·have hb15 := cond_f hc39 hb15
     refine qe (qf ?_)
     obtain rfl := some_inj hb15
     refine ge_round_out (fun hrr => ?_) (by intro h; cases h)
     obtain rfl := hrr
     refine qh ?_
     exact ge_mid fun t ht => ⟨(Imm.trans hI16 hI26), rfl, ht.pick (l := [0, 1, 5]) (by kernel_rfl)⟩
  ·rintro t I21 L' ⟨hI19, rfl, hK20⟩
   refine ge_at hK20 ?_
   refine qs (qk ?_)
   refine gk_draw 11 (rng 0 11) [(g0, .cells #[.string y2.f0, .int .i64 r11, .int .i64 y2.f2] T0)] (fmc ⟨mcs, nim⟩) (by kernel_rfl) (by kernel_rfl) (by kernel_rfl) ?_ (by kernel_rfl)
   refine dp 3 [0, 1, 5, 76] [(0, .pointer (some ⟨g0, 0, none⟩)), (1, .bool a1), (5, .int .i64 y2.f1), (76, .pointer (some ⟨g0, 0, none⟩))] (rng 3 8) (CC.refl (fmc ⟨mcs, nim⟩)) ?_
   refine gd_q (v := .string y2.f0) (by kernel_rfl) (by kernel_rfl) (CC.refl (fmc ⟨mcs, nim⟩)) (fun I' L' T hC kk => gl_loadB (T' := 9) (xp := (.tmp 76)) (v := .string y2.f0) (g := g0) (off := 0) (cs := #[.string y2.f0, .int .i64 r11, .int .i64 y2.f2]) (e := T0) (fz := (0, 0)) (by kernel_rfl) (by kernel_rfl) (by kernel_rfl) (hC.sub _ mcs) (by kernel_rfl) kk) ?_
   refine dp 4 [0, 1, 5, 77, 78, 81] [(0, .pointer (some ⟨g0, 0, none⟩)), (1, .bool a1), (5, .int .i64 y2.f1), (77, .string y2.f0), (78, .int .i64 y2.f1), (81, .pointer (some ⟨g0, 1, none⟩))] [(8, true), (9, true), (10, true)] (CC.refl (fmc ⟨mcs, nim⟩)) ?_
   refine gd_q (v := .int .i64 r11) (by kernel_rfl) (by kernel_rfl) (CC.refl (fmc ⟨mcs, nim⟩)) (fun I' L' T hC kk => gl_loadB (T' := 3) (xp := (.tmp 81)) (v := .int .i64 r11) (g := g0) (off := 1) (cs := #[.string y2.f0, .int .i64 r11, .int .i64 y2.f2]) (e := T0) (fz := (0, 0)) (by kernel_rfl) (by kernel_rfl) (by kernel_rfl) (hC.sub _ mcs) (by kernel_rfl) kk) ?_
   obtain ⟨s41, hx40, hr⟩ := bind_some hr
   refine gd_q (v := .string s41) (by kernel_rfl) (by kernel_rfl) (CC.refl (fmc ⟨mcs, nim⟩)) (fun I' L' T hC kk => gl_slice' (T' := 9) (xs := (.tmp 77)) (lo := (some (.tmp 78))) (hi := (some (.tmp 82))) hx40 (by kernel_rfl) (by kernel_rfl) (by kernel_rfl) (by kernel_rfl) (by kernel_rfl) (by kernel_rfl) kk) ?_
   refine dp 1 [0, 1, 5, 6] [(0, .pointer (some ⟨g0, 0, none⟩)), (1, .bool a1), (5, .int .i64 y2.f1), (6, .string s41)] [] (CC.refl (fmc ⟨mcs, nim⟩)) ?_
   refine gd_done ?_
   refine qE (qs (qk (qk ?_)))
   obtain ⟨j42, hj43, hr⟩ := bind_some hr
   refine gk_join (fun t I' L' => I21 ≤ I' ∧ (g0, .cells #[.string y2.f0, .int .i64 r11, .int .i64 y2.f2] T0) :: L = L' ∧ Knows 111 [(0, .pointer (some ⟨g0, 0, none⟩)), (5, .int .i64 y2.f1), (6, .string s41), (98, .bool j42)] t) ?_ ?_
   ·refine qR (qp 2 [0, 1, 5, 6, 85] [(0, .pointer (some ⟨g0, 0, none⟩)), (1, .bool a1), (5, .int .i64 y2.f1), (6, .string s41), (85, .bool a1)] ?_)
    refine gl_case 85 (b := a1) (by kernel_rfl) (fun hc47 => ?_) (fun hc47 => ?_)
    ·have hj43 := cond_t hc47 hj43
     refine qp 1 [0, 1, 5, 6, 85, 86] [(0, .pointer (some ⟨g0, 0, none⟩)), (1, .bool a1), (5, .int .i64 y2.f1), (6, .string s41), (85, .bool true), (86, .string s41)] ?_
     obtain ⟨y48, hx49, hj43⟩ := bind_some hj43
     refine gl_callQ (by kernel_rfl) (labels_Metric_walk (r := y48)  hx49 _) ?_
     refine qp 3 [0, 1, 5, 6, 90] [(0, .pointer (some ⟨g0, 0, none⟩)), (1, .bool a1), (5, .int .i64 y2.f1), (6, .string s41), (90, .bool (!y48))] ?_
     refine gl_case 90 (b := (!y48)) (by kernel_rfl) (fun hc50 => ?_) (fun hc50 => ?_)
     ·have hj43 := cond_t hc50 hj43
      refine qp 8 [0, 5, 6, 98] [(0, .pointer (some ⟨g0, 0, none⟩)), (5, .int .i64 y2.f1), (6, .string s41), (98, .bool true)] (qE ?_)
      obtain rfl := some_inj hj43
      exact ge_mid fun t ht => ⟨(Imm.refl _), rfl, ht.pick (l := [0, 5, 6, 98]) (by kernel_rfl)⟩
     ·have hj43 := cond_f hc50 hj43
      refine qp 3 [0, 5, 6, 90, 93] [(0, .pointer (some ⟨g0, 0, none⟩)), (5, .int .i64 y2.f1), (6, .string s41), (90, .bool false), (93, .bool (!a1))] ?_
      refine gl_case 93 (b := (!a1)) (by kernel_rfl) (fun hc51 => ?_) (fun hc51 => ?_)
      ·have hj43 := cond_t hc51 hj43
       refine qp 1 [0, 5, 6, 90, 93, 94] [(0, .pointer (some ⟨g0, 0, none⟩)), (5, .int .i64 y2.f1), (6, .string s41), (90, .bool false), (93, .bool true), (94, .string s41)] ?_
       obtain ⟨y52, hx53, hj43⟩ := bind_some hj43
       refine gl_callQ (by kernel_rfl) (labels_Name_walk (r := y52)  hx53 _) ?_
       refine qp 3 [0, 5, 6, 98] [(0, .pointer (some ⟨g0, 0, none⟩)), (5, .int .i64 y2.f1), (6, .string s41), (98, .bool (!y52))] (qE ?_)
       obtain rfl := some_inj hj43
       exact ge_mid fun t ht => ⟨(Imm.refl _), rfl, ht.pick (l := [0, 5, 6, 98]) (by kernel_rfl)⟩
      ·have hj43 := cond_f hc51 hj43
       refine qp 5 [0, 5, 6, 98] [(0, .pointer (some ⟨g0, 0, none⟩)), (5, .int .i64 y2.f1), (6, .string s41), (98, .bool false)] (qE ?_)
       obtain rfl := some_inj hj43
       exact ge_mid fun t ht => ⟨(Imm.refl _), rfl, ht.pick (l := [0, 5, 6, 98]) (by kernel_rfl)⟩
    ·have hj43 := cond_f hc47 hj43
     refine qp 8 [0, 5, 6, 90, 93] [(0, .pointer (some ⟨g0, 0, none⟩)), (5, .int .i64 y2.f1), (6, .string s41), (90, .bool false), (93, .bool (!a1))] ?_
     refine gl_case 93 (b := (!a1)) (by kernel_rfl) (fun hc54 => ?_) (fun hc54 => ?_)
     ·have hj43 := cond_t hc54 hj43
      refine qp 1 [0, 5, 6, 90, 93, 94] [(0, .pointer (some ⟨g0, 0, none⟩)), (5, .int .i64 y2.f1), (6, .string s41), (90, .bool false), (93, .bool true), (94, .string s41)] ?_
      obtain ⟨y55, hx56, hj43⟩ := bind_some hj43
      refine gl_callQ (by kernel_rfl) (labels_Name_walk (r := y55)  hx56 _) ?_
      refine qp 3 [0, 5, 6, 98] [(0, .pointer (some ⟨g0, 0, none⟩)), (5, .int .i64 y2.f1), (6, .string s41), (98, .bool (!y55))] (qE ?_)
      obtain rfl := some_inj hj43
      exact ge_mid fun t ht => ⟨(Imm.refl _), rfl, ht.pick (l := [0, 5, 6, 98]) (by kernel_rfl)⟩
     ·have hj43 := cond_f hc54 hj43
      refine qp 5 [0, 5, 6, 98] [(0, .pointer (some ⟨g0, 0, none⟩)), (5, .int .i64 y2.f1), (6, .string s41), (98, .bool false)] (qE ?_)
      obtain rfl := some_inj hj43
      exact ge_mid fun t ht => ⟨(Imm.refl _), rfl, ht.pick (l := [0, 5, 6, 98]) (by kernel_rfl)⟩
   ·rintro t I46 L' ⟨hI44, rfl, hK45⟩
    refine ge_at hK45 ?_
    refine qs ?_
    obtain ⟨j57, hj58, hr⟩ := bind_some hr
    refine gk_join (fun t I' L' => I46 ≤ I' ∧ (g0, .cells #[.string j57.1, .int .i64 j57.2.1, .int .i64 j57.2.2] T0) :: L = L' ∧ Knows 111 [(6, .string s41)] t) ?_ ?_
    ·refine gk_cond (b := j42) (by kernel_rfl) (by kernel_rfl) (fun hc62 => ?_) (fun hc62 => ?_)
     ·have hj58 := cond_t hc62 hj58
      refine qk (qk (qR (qp 2 [0, 5, 6, 100] [(0, .pointer (some ⟨g0, 0, none⟩)), (5, .int .i64 y2.f1), (6, .string s41), (100, .bool (s41.toList == (⟨#[]⟩ : ByteArray).toList))] (qE (qs ?_)))))
      obtain ⟨j63, hj64, hj58⟩ := bind_some hj58
      refine gk_join (fun t I' L' => I46 ≤ I' ∧ (g0, .cells #[.string j63.1, .int .i64 j63.2.1, .int .i64 j63.2.2] T0) :: L = L' ∧ Knows 111 [(0, .pointer (some ⟨g0, 0, none⟩)), (5, .int .i64 y2.f1), (6, .string s41)] t) ?_ ?_
      ·refine gk_cond (b := (s41.toList == (⟨#[]⟩ : ByteArray).toList)) (by kernel_rfl) (by kernel_rfl) (fun hc68 => ?_) (fun hc68 => ?_)
       ·have hj64 := cond_t hc68 hj64
        refine qR (qp 4 [0, 5, 6, 101, 104] [(0, .pointer (some ⟨g0, 0, none⟩)), (5, .int .i64 y2.f1), (6, .string s41), (101, .pointer (some ⟨g0, 0, none⟩)), (104, .pointer (some ⟨g0, 1, none⟩))] ?_)
        refine gl_loadB (T' := 3) (xp := (.tmp 104)) (v := .int .i64 r11) (g := g0) (off := 1) (cs := #[.string y2.f0, .int .i64 r11, .int .i64 y2.f2]) (e := T0) (fz := (0, 0)) (by kernel_rfl) (by kernel_rfl) (by kernel_rfl) mcs (by kernel_rfl) ?_
        obtain ⟨y69, hx70, hj64⟩ := bind_some hj64
        refine gl_call (by kernel_rfl) (labels_reader_fail_walk (r := y69) (g0 := g0) (T0 := T0) (a0 := (⟨y2.f0, r11, y2.f2⟩ : S89)) hx70 _) ?_
        rintro v I71 L72 hI73 ⟨rfl, rfl⟩
        refine qE ?_
        obtain rfl := some_inj hj64
        exact ge_mid fun t ht => ⟨hI73, rfl, ht.pick (l := [0, 5, 6]) (by kernel_rfl)⟩
       ·have hj64 := cond_f hc68 hj64
        refine qx ?_
        obtain rfl := some_inj hj64
        exact ge_mid fun t ht => ⟨(Imm.refl _), rfl, ht.pick (l := [0, 5, 6]) (by kernel_rfl)⟩
      ·rintro t I67 L' ⟨hI65, rfl, hK66⟩
       refine ge_at hK66 ?_
       refine qs (qR (qp 2 [6, 107, 108] [(6, .string s41), (107, .pointer (some ⟨g0, 0, none⟩)), (108, .int .i64 y2.f1)] ?_))
       obtain ⟨y74, hx75, hj58⟩ := bind_some hj58
       refine gl_call (by kernel_rfl) (labels_reader_fail_walk (r := y74) (g0 := g0) (T0 := T0) (a0 := (⟨j63.1, j63.2.1, j63.2.2⟩ : S89)) hx75 _) ?_
       rintro v I76 L77 hI78 ⟨rfl, rfl⟩
       refine qE ?_
       obtain rfl := some_inj hj58
       exact ge_mid fun t ht => ⟨(Imm.trans hI65 hI78), rfl, ht.pick (l := [6]) (by kernel_rfl)⟩
     ·have hj58 := cond_f hc62 hj58
      refine qx ?_
      obtain rfl := some_inj hj58
      exact ge_mid fun t ht => ⟨(Imm.refl _), rfl, ht.pick (l := [6]) (by kernel_rfl)⟩
    ·rintro t I61 L' ⟨hI59, rfl, hK60⟩
     refine ge_at hK60 ?_
     refine qs (qk (qR (qp 2 [4] [(4, .string s41)] (qE (qs (qt ?_))))))
     obtain rfl := some_inj hr
     exact ge_result trivial (ResOk.tmp (by kernel_rfl) ResOk.nil) (Imm.trans (Imm.trans (Imm.trans hI6 hI19) hI44) hI59) ⟨rfl, rfl⟩
/-! 69 labels_reader_next ('obj', 'imm') -/
noncomputable def labels_reader_next (a0 : S89) (a1 : Int) : Option (Bool × S89) :=
 bif (decide (a0.f2 ≥ 0)) then
 (some (false, a0))
 else
 (Option.bind (labels_reader_blanks a0) fun (y2 : S89) =>
  Option.bind (bif (decide (y2.f1 ≥ (y2.f0.size : Int))) then
   (some true)
   else
   (Option.bind (bx y2.f0 y2.f1) fun (c13 : Int) =>
    some (c13 != a1))) fun (j7 : Bool) =>
  bif j7 then
  (some (false, y2))
  else
  (some (true, (⟨y2.f0, (IntKind.wrap .i64 (y2.f1 + 1)), y2.f2⟩ : S89))))
theorem labels_reader_next_walk {a0 : S89} {g0 : Nat} {T0 : TypeId} {a1 : Int} {I : Imm} {r : Bool × S89}  (hr : labels_reader_next a0 a1 = some r) (L : Own) :
  CallsTo Tryz.prog 69 #[.pointer (some ⟨g0, 0, none⟩), .int .u8 a1] I ((g0, .cells #[.string a0.f0, .int .i64 a0.f1, .int .i64 a0.f2] T0) :: L) (fun v I' L' => v = .bool r.1 ∧ (g0, .cells #[.string r.2.f0, .int .i64 r.2.f1, .int .i64 r.2.f2] T0) :: L = L') := by
 unfold labels_reader_next at hr
 refine callsTo_body (N := 42) Tryz.func69 (by kernel_rfl) (by kernel_rfl) (by kernel_rfl) ?_
 refine qq [0, 1] [(0, .pointer (some ⟨g0, 0, none⟩)), (1, .int .u8 a1)] (qk (qR (qp 1 [0, 1] [(0, .pointer (some ⟨g0, 0, none⟩)), (1, .int .u8 a1)] (qE (qs (qk (qk (qR (qp 3 [0, 1, 7] [(0, .pointer (some ⟨g0, 0, none⟩)), (1, .int .u8 a1), (7, .pointer (some ⟨g0, 2, none⟩))] ?_)))))))))
 refine gl_loadB (T' := 3) (xp := (.tmp 7)) (v := .int .i64 a0.f2) (g := g0) (off := 2) (cs := #[.string a0.f0, .int .i64 a0.f1, .int .i64 a0.f2]) (e := T0) (fz := (0, 0)) (by kernel_rfl) (by kernel_rfl) (by kernel_rfl) mcs (by kernel_rfl) ?_
 refine qp 1 [0, 1, 9] [(0, .pointer (some ⟨g0, 0, none⟩)), (1, .int .u8 a1), (9, .bool (decide (a0.f2 ≥ 0)))] (qE (qs ?_))
 refine gk_cond (b := (decide (a0.f2 ≥ 0))) (by kernel_rfl) (by kernel_rfl) (fun hc1 => ?_) (fun hc1 => ?_)
 ·have hr := cond_t hc1 hr
  refine qk (qR (qp 1 [4] [(4, .bool false)] (qE (qs (qt (qu ?_))))))
  obtain rfl := some_inj hr
  exact ge_result trivial (ResOk.tmp (by kernel_rfl) ResOk.nil) (Imm.refl _) ⟨rfl, rfl⟩
 ·have hr := cond_f hc1 hr
  refine qx (qs (qk (qR (qp 1 [0, 1, 10] [(0, .pointer (some ⟨g0, 0, none⟩)), (1, .int .u8 a1), (10, .pointer (some ⟨g0, 0, none⟩))] ?_))))
  obtain ⟨y2, hx3, hr⟩ := bind_some hr
  refine gl_call (by kernel_rfl) (labels_reader_blanks_walk (r := y2) (g0 := g0) (T0 := T0) (a0 := a0) hx3 _) ?_
  rintro v I4 L5 hI6 ⟨rfl, rfl⟩
  refine qE (qs (qk (qk ?_)))
  obtain ⟨j7, hj8, hr⟩ := bind_some hr
  refine gk_join (fun t I' L' => I4 ≤ I' ∧ (g0, .cells #[.string y2.f0, .int .i64 y2.f1, .int .i64 y2.f2] T0) :: L = L' ∧ Knows 42 [(0, .pointer (some ⟨g0, 0, none⟩)), (34, .bool j7)] t) ?_ ?_
  ·refine gk_draw 23 (rng 0 23) [(g0, .cells #[.string y2.f0, .int .i64 y2.f1, .int .i64 y2.f2] T0)] (fmc ⟨mcs, nim⟩) (by kernel_rfl) (by kernel_rfl) (by kernel_rfl) ?_ (by kernel_rfl)
   refine dp 3 [0, 1, 14] [(0, .pointer (some ⟨g0, 0, none⟩)), (1, .int .u8 a1), (14, .pointer (some ⟨g0, 1, none⟩))] (rng 3 20) (CC.refl (fmc ⟨mcs, nim⟩)) ?_
   refine gd_q (v := .int .i64 y2.f1) (by kernel_rfl) (by kernel_rfl) (CC.refl (fmc ⟨mcs, nim⟩)) (fun I' L' T hC kk => gl_loadB (T' := 3) (xp := (.tmp 14)) (v := .int .i64 y2.f1) (g := g0) (off := 1) (cs := #[.string y2.f0, .int .i64 y2.f1, .int .i64 y2.f2]) (e := T0) (fz := (0, 0)) (by kernel_rfl) (by kernel_rfl) (by kernel_rfl) (hC.sub _ mcs) (by kernel_rfl) kk) ?_
   refine dp 3 [0, 1, 15, 18] [(0, .pointer (some ⟨g0, 0, none⟩)), (1, .int .u8 a1), (15, .int .i64 y2.f1), (18, .pointer (some ⟨g0, 0, none⟩))] (rng 7 16) (CC.refl (fmc ⟨mcs, nim⟩)) ?_
   refine gd_q (v := .string y2.f0) (by kernel_rfl) (by kernel_rfl) (CC.refl (fmc ⟨mcs, nim⟩)) (fun I' L' T hC kk => gl_loadB (T' := 9) (xp := (.tmp 18)) (v := .string y2.f0) (g := g0) (off := 0) (cs := #[.string y2.f0, .int .i64 y2.f1, .int .i64 y2.f2]) (e := T0) (fz := (0, 0)) (by kernel_rfl) (by kernel_rfl) (by kernel_rfl) (hC.sub _ mcs) (by kernel_rfl) kk) ?_
   refine dp 3 [0, 1, 22] [(0, .pointer (some ⟨g0, 0, none⟩)), (1, .int .u8 a1), (22, .bool (decide (y2.f1 ≥ (y2.f0.size : Int))))] (rng 11 12) (CC.refl (fmc ⟨mcs, nim⟩)) ?_
   refine gd_case 22 (b := (decide (y2.f1 ≥ (y2.f0.size : Int)))) (by kernel_rfl) (fun hc12 => ?_) (fun hc12 => ?_)
   ·have hj8 := cond_t hc12 hj8
    refine dp 12 [0, 34] [(0, .pointer (some ⟨g0, 0, none⟩)), (34, .bool true)] [] (CC.refl (fmc ⟨mcs, nim⟩)) ?_
    refine gd_done ?_
    refine qE ?_
    obtain rfl := some_inj hj8
    exact ge_mid fun t ht => ⟨(Imm.refl _), rfl, ht.pick (l := [0, 34]) (by kernel_rfl)⟩
   ·have hj8 := cond_f hc12 hj8
    refine dp 3 [0, 1, 22, 25] [(0, .pointer (some ⟨g0, 0, none⟩)), (1, .int .u8 a1), (22, .bool false), (25, .pointer (some ⟨g0, 0, none⟩))] (rng 14 9) (CC.refl (fmc ⟨mcs, nim⟩)) ?_
    refine gd_q (v := .string y2.f0) (by kernel_rfl) (by kernel_rfl) (CC.refl (fmc ⟨mcs, nim⟩)) (fun I' L' T hC kk => gl_loadB (T' := 9) (xp := (.tmp 25)) (v := .string y2.f0) (g := g0) (off := 0) (cs := #[.string y2.f0, .int .i64 y2.f1, .int .i64 y2.f2]) (e := T0) (fz := (0, 0)) (by kernel_rfl) (by kernel_rfl) (by kernel_rfl) (hC.sub _ mcs) (by kernel_rfl) kk) ?_
    refine dp 3 [0, 1, 22, 26, 29] [(0, .pointer (some ⟨g0, 0, none⟩)), (1, .int .u8 a1), (22, .bool false), (26, .string y2.f0), (29, .pointer (some ⟨g0, 1, none⟩))] (rng 18 5) (CC.refl (fmc ⟨mcs, nim⟩)) ?_
    refine gd_q (v := .int .i64 y2.f1) (by kernel_rfl) (by kernel_rfl) (CC.refl (fmc ⟨mcs, nim⟩)) (fun I' L' T hC kk => gl_loadB (T' := 3) (xp := (.tmp 29)) (v := .int .i64 y2.f1) (g := g0) (off := 1) (cs := #[.string y2.f0, .int .i64 y2.f1, .int .i64 y2.f2]) (e := T0) (fz := (0, 0)) (by kernel_rfl) (by kernel_rfl) (by kernel_rfl) (hC.sub _ mcs) (by kernel_rfl) kk) ?_
    obtain ⟨c13, hx14, hj8⟩ := bind_some hj8
    refine gd_q (v := .int .u8 c13) (by kernel_rfl) (by kernel_rfl) (CC.refl (fmc ⟨mcs, nim⟩)) (fun I' L' T hC kk => gl_index' (T' := 9) (xs := (.tmp 26)) (xi := (.tmp 30)) (kd := .i64) hx14 (by kernel_rfl) (by kernel_rfl) (by kernel_rfl) (by kernel_rfl) (by kernel_rfl) kk) ?_
    refine dp 3 [0, 34] [(0, .pointer (some ⟨g0, 0, none⟩)), (34, .bool (c13 != a1))] [] (CC.refl (fmc ⟨mcs, nim⟩)) ?_
    refine gd_done ?_
    refine qE ?_
    obtain rfl := some_inj hj8
    exact ge_mid fun t ht => ⟨(Imm.refl _), rfl, ht.pick (l := [0, 34]) (by kernel_rfl)⟩
  ·rintro t I11 L' ⟨hI9, rfl, hK10⟩
   refine ge_at hK10 ?_
   refine qs ?_
   refine gk_cond (b := j7) (by kernel_rfl) (by kernel_rfl) (fun hc15 => ?_) (fun hc15 => ?_)
   ·have hr := cond_t hc15 hr
    refine qk (qR (qp 1 [4] [(4, .bool false)] (qE (qs (qt (qu ?_))))))
    obtain rfl := some_inj hr
    exact ge_result trivial (ResOk.tmp (by kernel_rfl) ResOk.nil) (Imm.trans hI6 hI9) ⟨rfl, rfl⟩
   ·have hr := cond_f hc15 hr
    refine qx (qs (qk (qR (qp 3 [35, 37] [(35, .pointer (some ⟨g0, 0, none⟩)), (37, .pointer (some ⟨g0, 1, none⟩))] ?_))))
    refine gl_loadB (T' := 3) (xp := (.tmp 37)) (v := .int .i64 y2.f1) (g := g0) (off := 1) (cs := #[.string y2.f0, .int .i64 y2.f1, .int .i64 y2.f2]) (e := T0) (fz := (0, 0)) (by kernel_rfl) (by kernel_rfl) (by kernel_rfl) mcs (by kernel_rfl) ?_
    refine qp 3 [39, 41] [(39, .int .i64 (IntKind.wrap .i64 (y2.f1 + 1))), (41, .pointer (some ⟨g0, 1, none⟩))] ?_
    refine gl_storeB (T' := 3) (xp := (.tmp 41)) (xv := (.tmp 39)) (v := .int .i64 (IntKind.wrap .i64 (y2.f1 + 1))) (g := g0) (off := 1) (cs := #[.string y2.f0, .int .i64 y2.f1, .int .i64 y2.f2]) (cs' := #[.string y2.f0, .int .i64 (IntKind.wrap .i64 (y2.f1 + 1)), .int .i64 y2.f2]) (by kernel_rfl) (by kernel_rfl) (by kernel_rfl) (by kernel_rfl) (by kernel_rfl) (Upd.set _ _ _ _) ?_ (by kernel_rfl)
    refine qE (qs (qk (qR (qp 1 [4] [(4, .bool true)] (qE (qs (qt ?_)))))))
    obtain rfl := some_inj hr
    exact ge_result trivial (ResOk.tmp (by kernel_rfl) ResOk.nil) (Imm.trans hI6 hI9) ⟨rfl, rfl⟩
/-! 113 labels_reader_want ('obj', 'imm') -/
noncomputable def labels_reader_want (a0 : S89) (a1 : Int) : Option S89 :=
 Option.bind (labels_reader_next a0 a1) fun (y1 : Bool × S89) =>
 Option.bind (bif (!y1.1) then
  (Option.bind (labels_reader_fail y1.2 y1.2.f1) fun (y12 : S89) =>
   some (y12.f0, y12.f1, y12.f2))
  else
  (some (y1.2.f0, y1.2.f1, y1.2.f2))) fun (j6 : ByteArray × Int × Int) =>
 some (⟨j6.1, j6.2.1, j6.2.2⟩ : S89)
theorem labels_reader_want_walk {a0 : S89} {g0 : Nat} {T0 : TypeId} {a1 : Int} {I : Imm} {r : S89}  (hr : labels_reader_want a0 a1 = some r) (L : Own) :
  CallsTo Tryz.prog 113 #[.pointer (some ⟨g0, 0, none⟩), .int .u8 a1] I ((g0, .cells #[.string a0.f0, .int .i64 a0.f1, .int .i64 a0.f2] T0) :: L) (fun v I' L' => v = .tuple #[] ∧ (g0, .cells #[.string r.f0, .int .i64 r.f1, .int .i64 r.f2] T0) :: L = L') := by
 unfold labels_reader_want at hr
 refine callsTo_body (N := 14) Tryz.func113 (by kernel_rfl) (by kernel_rfl) (by kernel_rfl) ?_
 refine qq [0, 1] [(0, .pointer (some ⟨g0, 0, none⟩)), (1, .int .u8 a1)] (qk (qR (qp 2 [0, 4, 5] [(0, .pointer (some ⟨g0, 0, none⟩)), (4, .pointer (some ⟨g0, 0, none⟩)), (5, .int .u8 a1)] ?_)))
 obtain ⟨y1, hx2, hr⟩ := bind_some hr
 refine gl_call (by kernel_rfl) (labels_reader_next_walk (r := y1) (g0 := g0) (T0 := T0) (a0 := a0) hx2 _) ?_
 rintro v I3 L4 hI5 ⟨rfl, rfl⟩
 refine qp 1 [0, 7] [(0, .pointer (some ⟨g0, 0, none⟩)), (7, .bool (!y1.1))] (qE (qs ?_))
 obtain ⟨j6, hj7, hr⟩ := bind_some hr
 refine gk_join (fun t I' L' => I3 ≤ I' ∧ (g0, .cells #[.string j6.1, .int .i64 j6.2.1, .int .i64 j6.2.2] T0) :: L = L' ∧ Knows 14 [] t) ?_ ?_
 ·refine gk_cond (b := (!y1.1)) (by kernel_rfl) (by kernel_rfl) (fun hc11 => ?_) (fun hc11 => ?_)
  ·have hj7 := cond_t hc11 hj7
   refine qR (qp 4 [8, 11] [(8, .pointer (some ⟨g0, 0, none⟩)), (11, .pointer (some ⟨g0, 1, none⟩))] ?_)
   refine gl_loadB (T' := 3) (xp := (.tmp 11)) (v := .int .i64 y1.2.f1) (g := g0) (off := 1) (cs := #[.string y1.2.f0, .int .i64 y1.2.f1, .int .i64 y1.2.f2]) (e := T0) (fz := (0, 0)) (by kernel_rfl) (by kernel_rfl) (by kernel_rfl) mcs (by kernel_rfl) ?_
   obtain ⟨y12, hx13, hj7⟩ := bind_some hj7
   refine gl_call (by kernel_rfl) (labels_reader_fail_walk (r := y12) (g0 := g0) (T0 := T0) (a0 := y1.2) hx13 _) ?_
   rintro v I14 L15 hI16 ⟨rfl, rfl⟩
   refine qE ?_
   obtain rfl := some_inj hj7
   exact ge_mid fun t ht => ⟨hI16, rfl, ht.pick (l := []) (by kernel_rfl)⟩
  ·have hj7 := cond_f hc11 hj7
   refine qx ?_
   obtain rfl := some_inj hj7
   exact ge_mid fun t ht => ⟨(Imm.refl _), rfl, ht.pick (l := []) (by kernel_rfl)⟩
 ·rintro t I10 L' ⟨hI8, rfl, hK9⟩
  refine ge_at hK9 ?_
  obtain rfl := some_inj hr
  exact ge_result trivial ResOk.nil (Imm.trans hI5 hI8) ⟨rfl, rfl⟩
structure S127 where
 f1 : List Int
def strings_Builder_copyCheck (a0 : S127) : S127 := a0
theorem strings_Builder_copyCheck_walk {a0 : S127} {g0 : Nat} {q0_0 : Option Addr} {A0_1 : Option Addr} {c0_1 : Nat} {C0_1 : Own} {I : Imm} {r : S127} (hq0_0 : q0_0 = none ∨ q0_0 = some (⟨g0, 0, none⟩ : Addr)) (hO0_1 : OwnS (Kd.int .u8) 5 I A0_1 c0_1 a0.f1 C0_1) (hr : strings_Builder_copyCheck a0 = r) (L : Own) :
  CallsTo Tryz.prog 132 #[.pointer (some ⟨g0, 0, none⟩)] I ((g0, .cells #[.pointer q0_0, .slice A0_1 a0.f1.length c0_1] 128) :: (C0_1 ++ L)) (fun v I' L' => ∃ q0_0 A0_1 c0_1 C0_1, (q0_0 = none ∨ q0_0 = some (⟨g0, 0, none⟩ : Addr)) ∧ OwnS (Kd.int .u8) 5 I' A0_1 c0_1 r.f1 C0_1 ∧ v = .tuple #[] ∧ (g0, .cells #[.pointer q0_0, .slice A0_1 r.f1.length c0_1] 128) :: (C0_1 ++ L) = L') := by
 subst hr
 exact (bld_copyCheck hq0_0 (C0_1 ++ L)).mono fun v I' L' hI ⟨h1, h2⟩ => ⟨_, A0_1, c0_1, C0_1, .inr rfl, hO0_1.mono hI, h1, h2⟩
noncomputable def strings_Builder_String (a0 : S127) : Option ByteArray := strO a0.f1
theorem strings_Builder_String_walk {a0 : S127} {g0 : Nat} {q0_0 : Option Addr} {A0_1 : Option Addr} {c0_1 : Nat} {C0_1 : Own} {I : Imm} {r : ByteArray} (hq0_0 : q0_0 = none ∨ q0_0 = some (⟨g0, 0, none⟩ : Addr)) (hO0_1 : OwnS (Kd.int .u8) 5 I A0_1 c0_1 a0.f1 C0_1) (hr : strings_Builder_String a0 = some r) (L : Own) :
  CallsTo Tryz.prog 111 #[.pointer (some ⟨g0, 0, none⟩)] I ((g0, .cells #[.pointer q0_0, .slice A0_1 a0.f1.length c0_1] 128) :: (C0_1 ++ L)) (fun v I' L' => v = .string r ∧ L = L') := bld_String hO0_1 hr L

/-! 134 strings_Builder_WriteByte ('obj', 'imm') -/
noncomputable def strings_Builder_WriteByte (a0 : S127) (a1 : Int) : Option (Unit × S127) :=
 Option.bind (app ((strings_Builder_copyCheck (⟨a0.f1⟩ : S127)).f1) [a1]) fun (zs14 : List Int) =>
 some ((), (⟨zs14⟩ : S127))
theorem strings_Builder_WriteByte_walk {a0 : S127} {g0 : Nat} {q0_0 : Option Addr} {A0_1 : Option Addr} {c0_1 : Nat} {C0_1 : Own} {a1 : Int} {I : Imm} {r : Unit × S127}  (hq0_0 : q0_0 = none ∨ q0_0 = some (⟨g0, 0, none⟩ : Addr)) (hO0_1 : OwnS (Kd.int .u8) 5 I A0_1 c0_1 a0.f1 C0_1) (hr : strings_Builder_WriteByte a0 a1 = some r) (L : Own) :
  CallsTo Tryz.prog 134 #[.pointer (some ⟨g0, 0, none⟩), .int .u8 a1] I ((g0, .cells #[.pointer q0_0, .slice A0_1 a0.f1.length c0_1] 128) :: (C0_1 ++ L)) (fun v I' L' => ∃ q1_0 A1_1 c1_1 C1_1, (q1_0 = none ∨ q1_0 = some (⟨g0, 0, none⟩ : Addr)) ∧ OwnS (Kd.int .u8) 5 I' A1_1 c1_1 r.2.f1 C1_1 ∧ v = .nilIface ∧ (g0, .cells #[.pointer q1_0, .slice A1_1 r.2.f1.length c1_1] 128) :: (C1_1 ++ L) = L') := by
 unfold strings_Builder_WriteByte at hr
 refine callsTo_body (N := 17) Tryz.func134 (by kernel_rfl) (by kernel_rfl) (by kernel_rfl) ?_
 refine qq [0, 1] [(0, .pointer (some ⟨g0, 0, none⟩)), (1, .int .u8 a1)] (qk (qR (qp 1 [0, 1] [(0, .pointer (some ⟨g0, 0, none⟩)), (1, .int .u8 a1)] (qE (qs (qk (qR (qp 1 [0, 1, 5] [(0, .pointer (some ⟨g0, 0, none⟩)), (1, .int .u8 a1), (5, .pointer (some ⟨g0, 0, none⟩))] ?_))))))))
 refine gl_call (by kernel_rfl) (strings_Builder_copyCheck_walk (r := (strings_Builder_copyCheck (⟨a0.f1⟩ : S127))) (g0 := g0) (q0_0 := q0_0) (A0_1 := A0_1) (c0_1 := c0_1) (C0_1 := C0_1) (a0 := (⟨a0.f1⟩ : S127)) hq0_0 hO0_1 rfl _) ?_
 rintro v I1 L2 hI3 ⟨z4, A5, c6, C7, hO8, hO9, rfl, rfl⟩
 refine qE (qs (qk (qR (qp 4 [1, 7, 10] [(1, .int .u8 a1), (7, .pointer (some ⟨g0, 0, none⟩)), (10, .pointer (some ⟨g0, 1, none⟩))] ?_))))
 refine gl_loadB (T' := 51) (xp := (.tmp 10)) (v := .slice A5 ((strings_Builder_copyCheck (⟨a0.f1⟩ : S127)).f1).length c6) (g := g0) (off := 1) (cs := #[.pointer z4, .slice A5 ((strings_Builder_copyCheck (⟨a0.f1⟩ : S127)).f1).length c6]) (e := 128) (fz := (0, 0)) (by kernel_rfl) (by kernel_rfl) (by kernel_rfl) mcs (by kernel_rfl) ?_
 refine qp 1 [7, 11, 12] [(7, .pointer (some ⟨g0, 0, none⟩)), (11, .slice A5 ((strings_Builder_copyCheck (⟨a0.f1⟩ : S127)).f1).length c6), (12, .int .u8 a1)] ?_
 refine gl_buildSlice (T' := 51) (e := 5) (n := 1) (len := 1) (parts := #[(0, (.tmp 12))]) (l := [(0, .int .u8 a1)]) (cs := #[.int .u8 a1]) (by kernel_rfl) (by kernel_rfl) (by kernel_rfl) (by kernel_rfl) (by kernel_rfl) (fun g10 => ?_)
 have hO11 : OwnS (Kd.int .u8) 5 I1 (some ⟨g10, 0, none⟩) 1 [a1] [(g10, .cells #[.int .u8 a1] 5)] := OwnS.lit (row_cons (l := [.int .u8 a1]) rfl (row_nil _ _)) rfl rfl rfl
 refine gl_reord (D := [(g10, .cells #[.int .u8 a1] 5)] ++ ((g0, .cells #[.pointer z4, .slice A5 ((strings_Builder_copyCheck (⟨a0.f1⟩ : S127)).f1).length c6] 128) :: (C7 ++ L))) (Reord.refl _) ?_
 obtain ⟨zs14, hz15, hr⟩ := bind_some hr
 refine gl_append (xv := .slice (some ⟨g10, 0, none⟩) [a1].length 1) (d := (Kd.int .u8)) (t := 51) (tx := 51) (e := 5) (s := (.tmp 11)) (x := (.tmp 13)) (xs := (strings_Builder_copyCheck (⟨a0.f1⟩ : S127)).f1) (fun X => [(g10, .cells #[.int .u8 a1] 5)] ++ ((g0, .cells #[.pointer z4, .slice A5 ((strings_Builder_copyCheck (⟨a0.f1⟩ : S127)).f1).length c6] 128) :: (X ++ L))) hz15 (by kernel_rfl) (by kernel_rfl) (by kernel_rfl) (by kernel_rfl) (by kernel_rfl) (by kernel_rfl) (fun X => (Upd.app _ (Upd.one _ (Upd.head _ X _)))) hO9 (SrcOk.slice (c := 1) (e := 5) (n := 1) (OwnS.rd hO11 (Upd.selfC _ _)) (by kernel_rfl)) (fun A16 n17 C18 hO19 => ?_)
 refine qp 2 [14, 16] [(14, .slice A16 zs14.length n17), (16, .pointer (some ⟨g0, 1, none⟩))] ?_
 refine gl_storeB (T' := 51) (xp := (.tmp 16)) (xv := (.tmp 14)) (v := .slice A16 zs14.length n17) (g := g0) (off := 1) (cs := #[.pointer z4, .slice A5 ((strings_Builder_copyCheck (⟨a0.f1⟩ : S127)).f1).length c6]) (cs' := #[.pointer z4, .slice A16 zs14.length n17]) (by kernel_rfl) (by kernel_rfl) (by kernel_rfl) (by kernel_rfl) (by kernel_rfl) (Upd.app _ (Upd.set _ _ _ _)) ?_ (by kernel_rfl)
 refine qE (qs (qk (qR (qp 1 [4] [(4, .nilIface)] (qE (qs ?_))))))
 refine gk_reord (D := (g0, .cells #[.pointer z4, .slice A16 zs14.length n17] 128) :: (C18 ++ L)) (Reord.step1 (Upd.app _ (Upd.rm1 _ _)) (Reord.step (Upd.app _ (Upd.rmC _ _)) (Reord.skipC (Reord.refl _)))) ?_
 refine qt ?_
 obtain rfl := some_inj hr
 exact ge_result trivial (ResOk.tmp (by kernel_rfl) ResOk.nil) hI3 ⟨z4, A16, n17, C18, hO8, hO19, rfl, rfl⟩
/-! 114 labels_reader_value ('obj',) -/
noncomputable def labels_reader_value_l35 : (ByteArray × Int × Int × Unit × (List Int)) → Option ((ByteArray × Int × Int × Unit × (List Int)) ⊕ ((ByteArray × Int × Int) ⊕ (ByteArray × S89))) := fun s19 =>
 bif ((decide (s19.2.2.1 < 0)) && (decide (s19.2.1 < (s19.1.size : Int)))) then
 (Option.bind (bx s19.1 s19.2.1) fun (c44 : Int) =>
  bif (c44 == 34) then
  (Option.bind (strings_Builder_String (⟨s19.2.2.2.2⟩ : S127)) fun (y47 : ByteArray) =>
   some (Sum.inr (Sum.inr (y47, (⟨s19.1, (IntKind.wrap .i64 (s19.2.1 + 1)), s19.2.2.1⟩ : S89)))))
  else
  (Option.bind (bif (c44 != 92) then
    (Option.bind (strings_Builder_WriteByte (⟨s19.2.2.2.2⟩ : S127) c44) fun (y64 : Unit × S127) =>
     some ((), y64.2.f1, s19.1, (IntKind.wrap .i64 (s19.2.1 + 1)), s19.2.2.1))
    else
    (Option.bind (bif (decide ((IntKind.wrap .i64 (s19.2.1 + 1)) ≥ (s19.1.size : Int))) then
      (Option.bind (labels_reader_fail (⟨s19.1, (IntKind.wrap .i64 (s19.2.1 + 1)), s19.2.2.1⟩ : S89) (IntKind.wrap .i64 (s19.2.1 + 1))) fun (y87 : S89) =>
       some ((), s19.2.2.2.2, y87.f0, y87.f1, y87.f2))
      else
      (Option.bind (bx s19.1 (IntKind.wrap .i64 (s19.2.1 + 1))) fun (c92 : Int) =>
       Option.bind (bif (c92 == 110) then
        (Option.bind (strings_Builder_WriteByte (⟨s19.2.2.2.2⟩ : S127) 10) fun (y106 : Unit × S127) =>
         some ((), y106.2.f1, s19.1, (IntKind.wrap .i64 (s19.2.1 + 1)), s19.2.2.1))
        else
        (Option.bind (bif ((c92 == 92) || (c92 == 34)) then
          (Option.bind (strings_Builder_WriteByte (⟨s19.2.2.2.2⟩ : S127) c92) fun (y133 : Unit × S127) =>
           some ((), y133.2.f1, s19.1, (IntKind.wrap .i64 (s19.2.1 + 1)), s19.2.2.1))
          else
          (Option.bind (labels_reader_fail (⟨s19.1, (IntKind.wrap .i64 (s19.2.1 + 1)), s19.2.2.1⟩ : S89) (IntKind.wrap .i64 ((IntKind.wrap .i64 (s19.2.1 + 1)) - 1))) fun (y144 : S89) =>
           some ((), s19.2.2.2.2, y144.f0, y144.f1, y144.f2))) fun (j121 : Unit × (List Int) × ByteArray × Int × Int) =>
         some ((), j121.2.1, j121.2.2.1, j121.2.2.2.1, j121.2.2.2.2))) fun (j94 : Unit × (List Int) × ByteArray × Int × Int) =>
       some ((), j94.2.1, j94.2.2.1, (IntKind.wrap .i64 (j94.2.2.2.1 + 1)), j94.2.2.2.2))) fun (j75 : Unit × (List Int) × ByteArray × Int × Int) =>
     some ((), j75.2.1, j75.2.2.1, j75.2.2.2.1, j75.2.2.2.2))) fun (j52 : Unit × (List Int) × ByteArray × Int × Int) =>
   some (Sum.inl (j52.2.2.1, j52.2.2.2.1, j52.2.2.2.2, (), j52.2.1))))
 else
 (some (Sum.inr (Sum.inl (s19.1, s19.2.1, s19.2.2.1))))
noncomputable def labels_reader_value (a0 : S89) : Option (ByteArray × S89) :=
 Option.bind (labels_reader_want a0 34) fun (y1 : S89) =>
 Option.bind (loopO labels_reader_value_l35 (y1.f0, y1.f1, y1.f2, (), [])) fun (r17 : (ByteArray × Int × Int) ⊕ (ByteArray × S89)) =>
 match r17 with
 | Sum.inl r31 => Option.bind (labels_reader_fail (⟨r31.1, r31.2.1, r31.2.2⟩ : S89) (r31.1.size : Int)) fun (y149 : S89) =>
  some ((⟨#[]⟩ : ByteArray), y149)
 | Sum.inr v154 => some v154
theorem labels_reader_value_walk {a0 : S89} {g0 : Nat} {T0 : TypeId} {I : Imm} {r : ByteArray × S89}  (hr : labels_reader_value a0 = some r) (L : Own) :
  CallsTo Tryz.prog 114 #[.pointer (some ⟨g0, 0, none⟩)] I ((g0, .cells #[.string a0.f0, .int .i64 a0.f1, .int .i64 a0.f2] T0) :: L) (fun v I' L' => v = .string r.1 ∧ (g0, .cells #[.string r.2.f0, .int .i64 r.2.f1, .int .i64 r.2.f2] T0) :: L = L') := by
 unfold labels_reader_value at hr
 refine callsTo_body (N := 108) Tryz.func114 (by kernel_rfl) (by kernel_rfl) (by kernel_rfl) ?_
 refine qq [0] [(0, .pointer (some ⟨g0, 0, none⟩))] (qk (qR (qp 1 [0] [(0, .pointer (some ⟨g0, 0, none⟩))] (qE (qs (qk (qR (qp 1 [0, 6] [(0, .pointer (some ⟨g0, 0, none⟩)), (6, .pointer (some ⟨g0, 0, none⟩))] ?_))))))))
 obtain ⟨y1, hx2, hr⟩ := bind_some hr
 refine gl_call (by kernel_rfl) (labels_reader_want_walk (r := y1) (g0 := g0) (T0 := T0) (a0 := a0) hx2 _) ?_
 rintro v I3 L4 hI5 ⟨rfl, rfl⟩
 refine qE (qs (qk (qR ?_)))
 refine gl_alloc (T' := 128) (cs := #[.pointer none, .slice none 0 0]) (by kernel_rfl) (by kernel_rfl) (by kernel_rfl) (fun g6 => ?_)
 refine qE (qs (qk ?_))
 obtain ⟨r17, hl18, hr⟩ := bind_some hr
 refine gk_join (fun t I' L' => ∃ r31, r17 = Sum.inl r31 ∧ I3 ≤ I' ∧ (g0, .cells #[.string r31.1, .int .i64 r31.2.1, .int .i64 r31.2.2] T0) :: L = L' ∧ Knows 108 [(0, .pointer (some ⟨g0, 0, none⟩))] t) ?_ ?_
 ·refine qb (qq [0, 3] [(0, .pointer (some ⟨g0, 0, none⟩)), (3, .pointer (some ⟨g6, 0, none⟩))] ?_)
  intro t hK
  refine gc_loop (labels_reader_value_l35) (fun s19 t I' L' => ∃ q23 A25 n26 C27, (q23 = none ∨ q23 = some (⟨g6, 0, none⟩ : Addr)) ∧ OwnS (Kd.int .u8) 5 I' A25 n26 s19.2.2.2.2 C27 ∧ I3 ≤ I' ∧ C27 ++ ((g6, .cells #[.pointer q23, .slice A25 s19.2.2.2.2.length n26] 128) :: ((g0, .cells #[.string s19.1, .int .i64 s19.2.1, .int .i64 s19.2.2.1] T0) :: L)) = L' ∧ Knows 108 [(0, .pointer (some ⟨g0, 0, none⟩)), (3, .pointer (some ⟨g6, 0, none⟩))] t) (by kernel_rfl) ?_ hl18 ⟨none, none, 0, [], (Or.inl rfl), OwnS.nil _ _ _ _, (Imm.refl _), rfl, hK⟩
  rintro s19 o20 t I30 L' hb21 ⟨q23, A25, n26, C27, hq24, hO28, hI22, rfl, hK29⟩
  unfold labels_reader_value_l35 at hb21
  refine gk_at hK29 ?_
  refine qk (qk ?_)
  obtain ⟨b39, hb40⟩ : ∃ z, z = ((decide (s19.2.2.1 < 0)) && (decide (s19.2.1 < (s19.1.size : Int)))) := ⟨_, rfl⟩
  refine gk_join (fun t I' L' => I30 ≤ I' ∧ C27 ++ ((g6, .cells #[.pointer q23, .slice A25 s19.2.2.2.2.length n26] 128) :: ((g0, .cells #[.string s19.1, .int .i64 s19.2.1, .int .i64 s19.2.2.1] T0) :: L)) = L' ∧ Knows 108 [(0, .pointer (some ⟨g0, 0, none⟩)), (3, .pointer (some ⟨g6, 0, none⟩)), (24, .bool b39)] t) ?_ ?_
  ·refine gk_draw 17 (rng 0 17) [(g6, .cells #[.pointer q23, .slice A25 s19.2.2.2.2.length n26] 128), (g0, .cells #[.string s19.1, .int .i64 s19.2.1, .int .i64 s19.2.2.1] T0)] (fmc ⟨(mar mcs), (fmc ⟨(mar (List.mem_cons_of_mem _ mcs)), nim⟩)⟩) (by kernel_rfl) (by kernel_rfl) (by kernel_rfl) ?_ (by kernel_rfl)
   refine dp 3 [0, 3, 10] [(0, .pointer (some ⟨g0, 0, none⟩)), (3, .pointer (some ⟨g6, 0, none⟩)), (10, .pointer (some ⟨g0, 2, none⟩))] (rng 3 14) (CC.refl (fmc ⟨(mar mcs), (fmc ⟨(mar (List.mem_cons_of_mem _ mcs)), nim⟩)⟩)) ?_
   refine gd_q (v := .int .i64 s19.2.2.1) (by kernel_rfl) (by kernel_rfl) (CC.refl (fmc ⟨(mar mcs), (fmc ⟨(mar (List.mem_cons_of_mem _ mcs)), nim⟩)⟩)) (fun I' L' T hC kk => gl_loadB (T' := 3) (xp := (.tmp 10)) (v := .int .i64 s19.2.2.1) (g := g0) (off := 2) (cs := #[.string s19.1, .int .i64 s19.2.1, .int .i64 s19.2.2.1]) (e := T0) (fz := (0, 0)) (by kernel_rfl) (by kernel_rfl) (by kernel_rfl) (hC.sub _ (List.mem_cons_of_mem _ mcs)) (by kernel_rfl) kk) ?_
   refine dp 2 [0, 3, 13] [(0, .pointer (some ⟨g0, 0, none⟩)), (3, .pointer (some ⟨g6, 0, none⟩)), (13, .bool (decide (s19.2.2.1 < 0)))] (rng 6 11) (CC.refl (fmc ⟨(mar mcs), (fmc ⟨(mar (List.mem_cons_of_mem _ mcs)), nim⟩)⟩)) ?_
   refine gd_case 13 (b := (decide (s19.2.2.1 < 0))) (by kernel_rfl) (fun hc42 => ?_) (fun hc42 => ?_)
   ·refine dp 3 [0, 3, 13, 16] [(0, .pointer (some ⟨g0, 0, none⟩)), (3, .pointer (some ⟨g6, 0, none⟩)), (13, .bool true), (16, .pointer (some ⟨g0, 1, none⟩))] (rng 9 8) (CC.refl (fmc ⟨(mar mcs), (fmc ⟨(mar (List.mem_cons_of_mem _ mcs)), nim⟩)⟩)) ?_
    refine gd_q (v := .int .i64 s19.2.1) (by kernel_rfl) (by kernel_rfl) (CC.refl (fmc ⟨(mar mcs), (fmc ⟨(mar (List.mem_cons_of_mem _ mcs)), nim⟩)⟩)) (fun I' L' T hC kk => gl_loadB (T' := 3) (xp := (.tmp 16)) (v := .int .i64 s19.2.1) (g := g0) (off := 1) (cs := #[.string s19.1, .int .i64 s19.2.1, .int .i64 s19.2.2.1]) (e := T0) (fz := (0, 0)) (by kernel_rfl) (by kernel_rfl) (by kernel_rfl) (hC.sub _ (List.mem_cons_of_mem _ mcs)) (by kernel_rfl) kk) ?_
    refine dp 3 [0, 3, 13, 17, 20] [(0, .pointer (some ⟨g0, 0, none⟩)), (3, .pointer (some ⟨g6, 0, none⟩)), (13, .bool true), (17, .int .i64 s19.2.1), (20, .pointer (some ⟨g0, 0, none⟩))] (rng 13 4) (CC.refl (fmc ⟨(mar mcs), (fmc ⟨(mar (List.mem_cons_of_mem _ mcs)), nim⟩)⟩)) ?_
    refine gd_q (v := .string s19.1) (by kernel_rfl) (by kernel_rfl) (CC.refl (fmc ⟨(mar mcs), (fmc ⟨(mar (List.mem_cons_of_mem _ mcs)), nim⟩)⟩)) (fun I' L' T hC kk => gl_loadB (T' := 9) (xp := (.tmp 20)) (v := .string s19.1) (g := g0) (off := 0) (cs := #[.string s19.1, .int .i64 s19.2.1, .int .i64 s19.2.2.1]) (e := T0) (fz := (0, 0)) (by kernel_rfl) (by kernel_rfl) (by kernel_rfl) (hC.sub _ (List.mem_cons_of_mem _ mcs)) (by kernel_rfl) kk) ?_
    refine dp 3 [0, 3, 24] [(0, .pointer (some ⟨g0, 0, none⟩)), (3, .pointer (some ⟨g6, 0, none⟩)), (24, .bool (decide (s19.2.1 < (s19.1.size : Int))))] [] (CC.refl (fmc ⟨(mar mcs), (fmc ⟨(mar (List.mem_cons_of_mem _ mcs)), nim⟩)⟩)) ?_
    refine gd_done ?_
    refine qE ?_
    exact ge_mid fun t ht => ⟨(Imm.refl _), rfl, by rw [(show b39 = (decide (s19.2.1 < (s19.1.size : Int))) from hb40.trans (by first | (rw [hc42]; done) | (rw [hc42]; rfl) | (simp [hc42]; done) | (simp only [hc42]; rfl) | (simp at *; omega)))]; exact ht.pick (l := [0, 3, 24]) (by kernel_rfl)⟩
   ·refine dp 11 [0, 3, 24] [(0, .pointer (some ⟨g0, 0, none⟩)), (3, .pointer (some ⟨g6, 0, none⟩)), (24, .bool false)] [] (CC.refl (fmc ⟨(mar mcs), (fmc ⟨(mar (List.mem_cons_of_mem _ mcs)), nim⟩)⟩)) ?_
    refine gd_done ?_
    refine qE ?_
    exact ge_mid fun t ht => ⟨(Imm.refl _), rfl, by rw [(show b39 = false from hb40.trans (by first | (rw [hc42]; done) | (rw [hc42]; rfl) | (simp [hc42]; done) | (simp only [hc42]; rfl) | (simp at *; omega)))]; exact ht.pick (l := [0, 3, 24]) (by kernel_rfl)⟩
  ·rintro t I41 L' ⟨hI37, rfl, hK38⟩
   subst hb40
   refine ge_at hK38 ?_
   refine qs ?_
   refine gk_cond (b := ((decide (s19.2.2.1 < 0)) && (decide (s19.2.1 < (s19.1.size : Int))))) (by kernel_rfl) (by kernel_rfl) (fun hc43 => ?_) (fun hc43 => ?_)
   ·have hb21 := cond_t hc43 hb21
    refine qx (qs (qb (qk ?_)))
    refine gk_draw 10 (rng 0 10) [(g6, .cells #[.pointer q23, .slice A25 s19.2.2.2.2.length n26] 128), (g0, .cells #[.string s19.1, .int .i64 s19.2.1, .int .i64 s19.2.2.1] T0)] (fmc ⟨(mar mcs), (fmc ⟨(mar (List.mem_cons_of_mem _ mcs)), nim⟩)⟩) (by kernel_rfl) (by kernel_rfl) (by kernel_rfl) ?_ (by kernel_rfl)
    refine dp 3 [0, 3, 27] [(0, .pointer (some ⟨g0, 0, none⟩)), (3, .pointer (some ⟨g6, 0, none⟩)), (27, .pointer (some ⟨g0, 0, none⟩))] (rng 3 7) (CC.refl (fmc ⟨(mar mcs), (fmc ⟨(mar (List.mem_cons_of_mem _ mcs)), nim⟩)⟩)) ?_
    refine gd_q (v := .string s19.1) (by kernel_rfl) (by kernel_rfl) (CC.refl (fmc ⟨(mar mcs), (fmc ⟨(mar (List.mem_cons_of_mem _ mcs)), nim⟩)⟩)) (fun I' L' T hC kk => gl_loadB (T' := 9) (xp := (.tmp 27)) (v := .string s19.1) (g := g0) (off := 0) (cs := #[.string s19.1, .int .i64 s19.2.1, .int .i64 s19.2.2.1]) (e := T0) (fz := (0, 0)) (by kernel_rfl) (by kernel_rfl) (by kernel_rfl) (hC.sub _ (List.mem_cons_of_mem _ mcs)) (by kernel_rfl) kk) ?_
    refine dp 3 [0, 3, 28, 31] [(0, .pointer (some ⟨g0, 0, none⟩)), (3, .pointer (some ⟨g6, 0, none⟩)), (28, .string s19.1), (31, .pointer (some ⟨g0, 1, none⟩))] [(7, true), (8, true), (9, true)] (CC.refl (fmc ⟨(mar mcs), (fmc ⟨(mar (List.mem_cons_of_mem _ mcs)), nim⟩)⟩)) ?_
    refine gd_q (v := .int .i64 s19.2.1) (by kernel_rfl) (by kernel_rfl) (CC.refl (fmc ⟨(mar mcs), (fmc ⟨(mar (List.mem_cons_of_mem _ mcs)), nim⟩)⟩)) (fun I' L' T hC kk => gl_loadB (T' := 3) (xp := (.tmp 31)) (v := .int .i64 s19.2.1) (g := g0) (off := 1) (cs := #[.string s19.1, .int .i64 s19.2.1, .int .i64 s19.2.2.1]) (e := T0) (fz := (0, 0)) (by kernel_rfl) (by kernel_rfl) (by kernel_rfl) (hC.sub _ (List.mem_cons_of_mem _ mcs)) (by kernel_rfl) kk) ?_
    obtain ⟨c44, hx45, hb21⟩ := bind_some hb21
    refine gd_q (v := .int .u8 c44) (by kernel_rfl) (by kernel_rfl) (CC.refl (fmc ⟨(mar mcs), (fmc ⟨(mar (List.mem_cons_of_mem _ mcs)), nim⟩)⟩)) (fun I' L' T hC kk => gl_index' (T' := 9) (xs := (.tmp 28)) (xi := (.tmp 32)) (kd := .i64) hx45 (by kernel_rfl) (by kernel_rfl) (by kernel_rfl) (by kernel_rfl) (by kernel_rfl) kk) ?_
    refine dp 1 [0, 3, 4] [(0, .pointer (some ⟨g0, 0, none⟩)), (3, .pointer (some ⟨g6, 0, none⟩)), (4, .int .u8 c44)] [] (CC.refl (fmc ⟨(mar mcs), (fmc ⟨(mar (List.mem_cons_of_mem _ mcs)), nim⟩)⟩)) ?_
    refine gd_done ?_
    refine qE (qs (qk (qR (qp 3 [0, 3, 4, 34, 36] [(0, .pointer (some ⟨g0, 0, none⟩)), (3, .pointer (some ⟨g6, 0, none⟩)), (4, .int .u8 c44), (34, .pointer (some ⟨g0, 0, none⟩)), (36, .pointer (some ⟨g0, 1, none⟩))] ?_))))
    refine gl_loadB (T' := 3) (xp := (.tmp 36)) (v := .int .i64 s19.2.1) (g := g0) (off := 1) (cs := #[.string s19.1, .int .i64 s19.2.1, .int .i64 s19.2.2.1]) (e := T0) (fz := (0, 0)) (by kernel_rfl) (by kernel_rfl) (by kernel_rfl) (mar (List.mem_cons_of_mem _ mcs)) (by kernel_rfl) ?_
    refine qp 3 [0, 3, 4, 38, 40] [(0, .pointer (some ⟨g0, 0, none⟩)), (3, .pointer (some ⟨g6, 0, none⟩)), (4, .int .u8 c44), (38, .int .i64 (IntKind.wrap .i64 (s19.2.1 + 1))), (40, .pointer (some ⟨g0, 1, none⟩))] ?_
    refine gl_storeB (T' := 3) (xp := (.tmp 40)) (xv := (.tmp 38)) (v := .int .i64 (IntKind.wrap .i64 (s19.2.1 + 1))) (g := g0) (off := 1) (cs := #[.string s19.1, .int .i64 s19.2.1, .int .i64 s19.2.2.1]) (cs' := #[.string s19.1, .int .i64 (IntKind.wrap .i64 (s19.2.1 + 1)), .int .i64 s19.2.2.1]) (by kernel_rfl) (by kernel_rfl) (by kernel_rfl) (by kernel_rfl) (by kernel_rfl) (Upd.app _ (Upd.one _ (Upd.set _ _ _ _))) ?_ (by kernel_rfl)
    refine qE (qs (qb (qk (qR (qp 3 [0, 3, 4, 75] [(0, .pointer (some ⟨g0, 0, none⟩)), (3, .pointer (some ⟨g6, 0, none⟩)), (4, .int .u8 c44), (75, .bool (c44 == 34))] (qE (qs ?_)))))))
    refine gk_cond (b := (c44 == 34)) (by kernel_rfl) (by kernel_rfl) (fun hc46 => ?_) (fun hc46 => ?_)
    ·have hb21 := cond_t hc46 hb21
     refine qk (qR ?_)
     obtain ⟨y47, hx48, hb21⟩ := bind_some hb21
     refine gl_reord (D := (g6, .cells #[.pointer q23, .slice A25 s19.2.2.2.2.length n26] 128) :: (C27 ++ ((g0, .cells #[.string s19.1, .int .i64 (IntKind.wrap .i64 (s19.2.1 + 1)), .int .i64 s19.2.2.1] T0) :: L))) (Reord.step1 (Upd.app _ (Upd.rm1 _ _)) (Reord.step (Upd.rmC _ _) (Reord.step1 (Upd.rm1 _ _) (Reord.refl _)))) ?_
     refine gl_call (by kernel_rfl) (strings_Builder_String_walk (r := y47) (g0 := g6) (q0_0 := q23) (A0_1 := A25) (c0_1 := n26) (C0_1 := C27) (a0 := (⟨s19.2.2.2.2⟩ : S127)) hq24 (hO28.mono hI37) hx48 _) ?_
     rintro v I49 L50 hI51 ⟨rfl, rfl⟩
     refine qp 1 [2] [(2, .string y47)] (qE (qs (qt (qv (qv ?_)))))
     obtain rfl := some_inj hb21
     refine ge_round_out (fun hrr => ?_) (by intro h; cases h)
     obtain rfl := hrr
     refine qv (qu (qu ?_))
     obtain rfl := some_inj hr
     exact ge_result trivial (ResOk.tmp (by kernel_rfl) ResOk.nil) (Imm.trans (Imm.trans (Imm.trans hI5 hI22) hI37) hI51) ⟨rfl, rfl⟩
    ·have hb21 := cond_f hc46 hb21
     refine qk (qR (qp 3 [0, 3, 4, 79] [(0, .pointer (some ⟨g0, 0, none⟩)), (3, .pointer (some ⟨g6, 0, none⟩)), (4, .int .u8 c44), (79, .bool (c44 != 92))] (qE (qs ?_))))
     obtain ⟨j52, hj53, hb21⟩ := bind_some hb21
     refine gk_join (fun t I' L' => ∃ q55 A57 n58 C59, (q55 = none ∨ q55 = some (⟨g6, 0, none⟩ : Addr)) ∧ OwnS (Kd.int .u8) 5 I' A57 n58 j52.2.1 C59 ∧ I41 ≤ I' ∧ C59 ++ ((g6, .cells #[.pointer q55, .slice A57 j52.2.1.length n58] 128) :: ((g0, .cells #[.string j52.2.2.1, .int .i64 j52.2.2.2.1, .int .i64 j52.2.2.2.2] T0) :: L)) = L' ∧ Knows 108 [(0, .pointer (some ⟨g0, 0, none⟩)), (3, .pointer (some ⟨g6, 0, none⟩))] t) ?_ ?_
     ·refine gk_cond (b := (c44 != 92)) (by kernel_rfl) (by kernel_rfl) (fun hc63 => ?_) (fun hc63 => ?_)
      ·have hj53 := cond_t hc63 hj53
       refine qR (qp 1 [0, 3, 82] [(0, .pointer (some ⟨g0, 0, none⟩)), (3, .pointer (some ⟨g6, 0, none⟩)), (82, .int .u8 c44)] ?_)
       obtain ⟨y64, hx65, hj53⟩ := bind_some hj53
       refine gl_reord (D := (g6, .cells #[.pointer q23, .slice A25 s19.2.2.2.2.length n26] 128) :: (C27 ++ ((g0, .cells #[.string s19.1, .int .i64 (IntKind.wrap .i64 (s19.2.1 + 1)), .int .i64 s19.2.2.1] T0) :: L))) (Reord.step1 (Upd.app _ (Upd.rm1 _ _)) (Reord.step (Upd.rmC _ _) (Reord.step1 (Upd.rm1 _ _) (Reord.refl _)))) ?_
       refine gl_call (by kernel_rfl) (strings_Builder_WriteByte_walk (r := y64) (g0 := g6) (q0_0 := q23) (A0_1 := A25) (c0_1 := n26) (C0_1 := C27) (a0 := (⟨s19.2.2.2.2⟩ : S127)) hq24 (hO28.mono hI37) hx65 _) ?_
       rintro v I66 L67 hI68 ⟨z69, A70, c71, C72, hO73, hO74, rfl, rfl⟩
       refine gl_reord (D := C72 ++ ((g6, .cells #[.pointer z69, .slice A70 y64.2.f1.length c71] 128) :: ((g0, .cells #[.string s19.1, .int .i64 (IntKind.wrap .i64 (s19.2.1 + 1)), .int .i64 s19.2.2.1] T0) :: L))) (Reord.step (Upd.one _ (Upd.rmC _ _)) (Reord.step1 (Upd.rm1 _ _) (Reord.step1 (Upd.rm1 _ _) (Reord.refl _)))) ?_
       refine qE ?_
       obtain rfl := some_inj hj53
       exact ge_mid fun t ht => ⟨z69, A70, c71, C72, hO73, hO74, hI68, rfl, ht.pick (l := [0, 3]) (by kernel_rfl)⟩
      ·have hj53 := cond_f hc63 hj53
       refine qk ?_
       refine gk_draw 11 (rng 0 11) [(g6, .cells #[.pointer q23, .slice A25 s19.2.2.2.2.length n26] 128), (g0, .cells #[.string s19.1, .int .i64 (IntKind.wrap .i64 (s19.2.1 + 1)), .int .i64 s19.2.2.1] T0)] (fmc ⟨(mar mcs), (fmc ⟨(mar (List.mem_cons_of_mem _ mcs)), nim⟩)⟩) (by kernel_rfl) (by kernel_rfl) (by kernel_rfl) ?_ (by kernel_rfl)
       refine dp 3 [0, 3, 87] [(0, .pointer (some ⟨g0, 0, none⟩)), (3, .pointer (some ⟨g6, 0, none⟩)), (87, .pointer (some ⟨g0, 1, none⟩))] (rng 3 8) (CC.refl (fmc ⟨(mar mcs), (fmc ⟨(mar (List.mem_cons_of_mem _ mcs)), nim⟩)⟩)) ?_
       refine gd_q (v := .int .i64 (IntKind.wrap .i64 (s19.2.1 + 1))) (by kernel_rfl) (by kernel_rfl) (CC.refl (fmc ⟨(mar mcs), (fmc ⟨(mar (List.mem_cons_of_mem _ mcs)), nim⟩)⟩)) (fun I' L' T hC kk => gl_loadB (T' := 3) (xp := (.tmp 87)) (v := .int .i64 (IntKind.wrap .i64 (s19.2.1 + 1))) (g := g0) (off := 1) (cs := #[.string s19.1, .int .i64 (IntKind.wrap .i64 (s19.2.1 + 1)), .int .i64 s19.2.2.1]) (e := T0) (fz := (0, 0)) (by kernel_rfl) (by kernel_rfl) (by kernel_rfl) (hC.sub _ (List.mem_cons_of_mem _ mcs)) (by kernel_rfl) kk) ?_
       refine dp 3 [0, 3, 88, 91] [(0, .pointer (some ⟨g0, 0, none⟩)), (3, .pointer (some ⟨g6, 0, none⟩)), (88, .int .i64 (IntKind.wrap .i64 (s19.2.1 + 1))), (91, .pointer (some ⟨g0, 0, none⟩))] (rng 7 4) (CC.refl (fmc ⟨(mar mcs), (fmc ⟨(mar (List.mem_cons_of_mem _ mcs)), nim⟩)⟩)) ?_
       refine gd_q (v := .string s19.1) (by kernel_rfl) (by kernel_rfl) (CC.refl (fmc ⟨(mar mcs), (fmc ⟨(mar (List.mem_cons_of_mem _ mcs)), nim⟩)⟩)) (fun I' L' T hC kk => gl_loadB (T' := 9) (xp := (.tmp 91)) (v := .string s19.1) (g := g0) (off := 0) (cs := #[.string s19.1, .int .i64 (IntKind.wrap .i64 (s19.2.1 + 1)), .int .i64 s19.2.2.1]) (e := T0) (fz := (0, 0)) (by kernel_rfl) (by kernel_rfl) (by kernel_rfl) (hC.sub _ (List.mem_cons_of_mem _ mcs)) (by kernel_rfl) kk) ?_
       refine dp 3 [0, 3, 84] [(0, .pointer (some ⟨g0, 0, none⟩)), (3, .pointer (some ⟨g6, 0, none⟩)), (84, .bool (decide ((IntKind.wrap .i64 (s19.2.1 + 1)) ≥ (s19.1.size : Int))))] [] (CC.refl (fmc ⟨(mar mcs), (fmc ⟨(mar (List.mem_cons_of_mem _ mcs)), nim⟩)⟩)) ?_
       refine gd_done ?_
       refine qE (qs ?_)
       obtain ⟨j75, hj76, hj53⟩ := bind_some hj53
       refine gk_join (fun t I' L' => ∃ q78 A80 n81 C82, (q78 = none ∨ q78 = some (⟨g6, 0, none⟩ : Addr)) ∧ OwnS (Kd.int .u8) 5 I' A80 n81 j75.2.1 C82 ∧ I41 ≤ I' ∧ C82 ++ ((g6, .cells #[.pointer q78, .slice A80 j75.2.1.length n81] 128) :: ((g0, .cells #[.string j75.2.2.1, .int .i64 j75.2.2.2.1, .int .i64 j75.2.2.2.2] T0) :: L)) = L' ∧ Knows 108 [(0, .pointer (some ⟨g0, 0, none⟩)), (3, .pointer (some ⟨g6, 0, none⟩))] t) ?_ ?_
       ·refine gk_cond (b := (decide ((IntKind.wrap .i64 (s19.2.1 + 1)) ≥ (s19.1.size : Int)))) (by kernel_rfl) (by kernel_rfl) (fun hc86 => ?_) (fun hc86 => ?_)
        ·have hj76 := cond_t hc86 hj76
         refine qR (qp 4 [0, 3, 95, 98] [(0, .pointer (some ⟨g0, 0, none⟩)), (3, .pointer (some ⟨g6, 0, none⟩)), (95, .pointer (some ⟨g0, 0, none⟩)), (98, .pointer (some ⟨g0, 1, none⟩))] ?_)
         refine gl_loadB (T' := 3) (xp := (.tmp 98)) (v := .int .i64 (IntKind.wrap .i64 (s19.2.1 + 1))) (g := g0) (off := 1) (cs := #[.string s19.1, .int .i64 (IntKind.wrap .i64 (s19.2.1 + 1)), .int .i64 s19.2.2.1]) (e := T0) (fz := (0, 0)) (by kernel_rfl) (by kernel_rfl) (by kernel_rfl) (mar (List.mem_cons_of_mem _ mcs)) (by kernel_rfl) ?_
         obtain ⟨y87, hx88, hj76⟩ := bind_some hj76
         refine gl_reord (D := (g0, .cells #[.string s19.1, .int .i64 (IntKind.wrap .i64 (s19.2.1 + 1)), .int .i64 s19.2.2.1] T0) :: (C27 ++ ((g6, .cells #[.pointer q23, .slice A25 s19.2.2.2.2.length n26] 128) :: L))) (Reord.step1 (Upd.app _ (Upd.one _ (Upd.rm1 _ _))) (Reord.step (Upd.rmC _ _) (Reord.step1 (Upd.rm1 _ _) (Reord.refl _)))) ?_
         refine gl_call (by kernel_rfl) (labels_reader_fail_walk (r := y87) (g0 := g0) (T0 := T0) (a0 := (⟨s19.1, (IntKind.wrap .i64 (s19.2.1 + 1)), s19.2.2.1⟩ : S89)) hx88 _) ?_
         rintro v I89 L90 hI91 ⟨rfl, rfl⟩
         refine gl_reord (D := C27 ++ ((g6, .cells #[.pointer q23, .slice A25 s19.2.2.2.2.length n26] 128) :: ((g0, .cells #[.string y87.f0, .int .i64 y87.f1, .int .i64 y87.f2] T0) :: L))) (Reord.step (Upd.one _ (Upd.rmC _ _)) (Reord.step1 (Upd.one _ (Upd.rm1 _ _)) (Reord.step1 (Upd.rm1 _ _) (Reord.refl _)))) ?_
         refine qE ?_
         obtain rfl := some_inj hj76
         exact ge_mid fun t ht => ⟨q23, A25, n26, C27, hq24, (hO28.mono (Imm.trans hI37 hI91)), hI91, rfl, ht.pick (l := [0, 3]) (by kernel_rfl)⟩
        ·have hj76 := cond_f hc86 hj76
         refine qk ?_
         refine gk_draw 10 (rng 0 10) [(g6, .cells #[.pointer q23, .slice A25 s19.2.2.2.2.length n26] 128), (g0, .cells #[.string s19.1, .int .i64 (IntKind.wrap .i64 (s19.2.1 + 1)), .int .i64 s19.2.2.1] T0)] (fmc ⟨(mar mcs), (fmc ⟨(mar (List.mem_cons_of_mem _ mcs)), nim⟩)⟩) (by kernel_rfl) (by kernel_rfl) (by kernel_rfl) ?_ (by kernel_rfl)
         refine dp 3 [0, 3, 43] [(0, .pointer (some ⟨g0, 0, none⟩)), (3, .pointer (some ⟨g6, 0, none⟩)), (43, .pointer (some ⟨g0, 0, none⟩))] (rng 3 7) (CC.refl (fmc ⟨(mar mcs), (fmc ⟨(mar (List.mem_cons_of_mem _ mcs)), nim⟩)⟩)) ?_
         refine gd_q (v := .string s19.1) (by kernel_rfl) (by kernel_rfl) (CC.refl (fmc ⟨(mar mcs), (fmc ⟨(mar (List.mem_cons_of_mem _ mcs)), nim⟩)⟩)) (fun I' L' T hC kk => gl_loadB (T' := 9) (xp := (.tmp 43)) (v := .string s19.1) (g := g0) (off := 0) (cs := #[.string s19.1, .int .i64 (IntKind.wrap .i64 (s19.2.1 + 1)), .int .i64 s19.2.2.1]) (e := T0) (fz := (0, 0)) (by kernel_rfl) (by kernel_rfl) (by kernel_rfl) (hC.sub _ (List.mem_cons_of_mem _ mcs)) (by kernel_rfl) kk) ?_
         refine dp 3 [0, 3, 44, 47] [(0, .pointer (some ⟨g0, 0, none⟩)), (3, .pointer (some ⟨g6, 0, none⟩)), (44, .string s19.1), (47, .pointer (some ⟨g0, 1, none⟩))] [(7, true), (8, true), (9, true)] (CC.refl (fmc ⟨(mar mcs), (fmc ⟨(mar (List.mem_cons_of_mem _ mcs)), nim⟩)⟩)) ?_
         refine gd_q (v := .int .i64 (IntKind.wrap .i64 (s19.2.1 + 1))) (by kernel_rfl) (by kernel_rfl) (CC.refl (fmc ⟨(mar mcs), (fmc ⟨(mar (List.mem_cons_of_mem _ mcs)), nim⟩)⟩)) (fun I' L' T hC kk => gl_loadB (T' := 3) (xp := (.tmp 47)) (v := .int .i64 (IntKind.wrap .i64 (s19.2.1 + 1))) (g := g0) (off := 1) (cs := #[.string s19.1, .int .i64 (IntKind.wrap .i64 (s19.2.1 + 1)), .int .i64 s19.2.2.1]) (e := T0) (fz := (0, 0)) (by kernel_rfl) (by kernel_rfl) (by kernel_rfl) (hC.sub _ (List.mem_cons_of_mem _ mcs)) (by kernel_rfl) kk) ?_
         obtain ⟨c92, hx93, hj76⟩ := bind_some hj76
         refine gd_q (v := .int .u8 c92) (by kernel_rfl) (by kernel_rfl) (CC.refl (fmc ⟨(mar mcs), (fmc ⟨(mar (List.mem_cons_of_mem _ mcs)), nim⟩)⟩)) (fun I' L' T hC kk => gl_index' (T' := 9) (xs := (.tmp 44)) (xi := (.tmp 48)) (kd := .i64) hx93 (by kernel_rfl) (by kernel_rfl) (by kernel_rfl) (by kernel_rfl) (by kernel_rfl) kk) ?_
         refine dp 1 [0, 3, 5] [(0, .pointer (some ⟨g0, 0, none⟩)), (3, .pointer (some ⟨g6, 0, none⟩)), (5, .int .u8 c92)] [] (CC.refl (fmc ⟨(mar mcs), (fmc ⟨(mar (List.mem_cons_of_mem _ mcs)), nim⟩)⟩)) ?_
         refine gd_done ?_
         refine qE (qs (qk (qk (qR (qp 2 [0, 3, 5, 51] [(0, .pointer (some ⟨g0, 0, none⟩)), (3, .pointer (some ⟨g6, 0, none⟩)), (5, .int .u8 c92), (51, .bool (c92 == 110))] (qE (qs ?_)))))))
         obtain ⟨j94, hj95, hj76⟩ := bind_some hj76
         refine gk_join (fun t I' L' => ∃ q97 A99 n100 C101, (q97 = none ∨ q97 = some (⟨g6, 0, none⟩ : Addr)) ∧ OwnS (Kd.int .u8) 5 I' A99 n100 j94.2.1 C101 ∧ I41 ≤ I' ∧ C101 ++ ((g6, .cells #[.pointer q97, .slice A99 j94.2.1.length n100] 128) :: ((g0, .cells #[.string j94.2.2.1, .int .i64 j94.2.2.2.1, .int .i64 j94.2.2.2.2] T0) :: L)) = L' ∧ Knows 108 [(0, .pointer (some ⟨g0, 0, none⟩)), (3, .pointer (some ⟨g6, 0, none⟩))] t) ?_ ?_
         ·refine gk_cond (b := (c92 == 110)) (by kernel_rfl) (by kernel_rfl) (fun hc105 => ?_) (fun hc105 => ?_)
          ·have hj95 := cond_t hc105 hj95
           refine qR ?_
           obtain ⟨y106, hx107, hj95⟩ := bind_some hj95
           refine gl_reord (D := (g6, .cells #[.pointer q23, .slice A25 s19.2.2.2.2.length n26] 128) :: (C27 ++ ((g0, .cells #[.string s19.1, .int .i64 (IntKind.wrap .i64 (s19.2.1 + 1)), .int .i64 s19.2.2.1] T0) :: L))) (Reord.step1 (Upd.app _ (Upd.rm1 _ _)) (Reord.step (Upd.rmC _ _) (Reord.step1 (Upd.rm1 _ _) (Reord.refl _)))) ?_
           refine gl_call (by kernel_rfl) (strings_Builder_WriteByte_walk (r := y106) (g0 := g6) (q0_0 := q23) (A0_1 := A25) (c0_1 := n26) (C0_1 := C27) (a0 := (⟨s19.2.2.2.2⟩ : S127)) hq24 (hO28.mono hI37) hx107 _) ?_
           rintro v I108 L109 hI110 ⟨z111, A112, c113, C114, hO115, hO116, rfl, rfl⟩
           refine gl_reord (D := C114 ++ ((g6, .cells #[.pointer z111, .slice A112 y106.2.f1.length c113] 128) :: ((g0, .cells #[.string s19.1, .int .i64 (IntKind.wrap .i64 (s19.2.1 + 1)), .int .i64 s19.2.2.1] T0) :: L))) (Reord.step (Upd.one _ (Upd.rmC _ _)) (Reord.step1 (Upd.rm1 _ _) (Reord.step1 (Upd.rm1 _ _) (Reord.refl _)))) ?_
           refine qE ?_
           obtain rfl := some_inj hj95
           exact ge_mid fun t ht => ⟨z111, A112, c113, C114, hO115, hO116, hI110, rfl, ht.pick (l := [0, 3]) (by kernel_rfl)⟩
          ·have hj95 := cond_f hc105 hj95
           refine qk ?_
           refine gk_join (fun t I' L' => I41 ≤ I' ∧ C27 ++ ((g6, .cells #[.pointer q23, .slice A25 s19.2.2.2.2.length n26] 128) :: ((g0, .cells #[.string s19.1, .int .i64 (IntKind.wrap .i64 (s19.2.1 + 1)), .int .i64 s19.2.2.1] T0) :: L)) = L' ∧ Knows 108 [(0, .pointer (some ⟨g0, 0, none⟩)), (3, .pointer (some ⟨g6, 0, none⟩)), (5, .int .u8 c92), (58, .bool ((c92 == 92) || (c92 == 34)))] t) ?_ ?_
           ·refine qR (qp 3 [0, 3, 5, 55] [(0, .pointer (some ⟨g0, 0, none⟩)), (3, .pointer (some ⟨g6, 0, none⟩)), (5, .int .u8 c92), (55, .bool (c92 == 92))] ?_)
            refine gl_case 55 (b := (c92 == 92)) (by kernel_rfl) (fun hc120 => ?_) (fun hc120 => ?_)
            ·refine qp 3 [0, 3, 5, 58] [(0, .pointer (some ⟨g0, 0, none⟩)), (3, .pointer (some ⟨g6, 0, none⟩)), (5, .int .u8 c92), (58, .bool true)] (qE ?_)
             exact ge_mid fun t ht => ⟨(Imm.refl _), rfl, by rw [(show ((c92 == 92) || (c92 == 34)) = true from by first | (rw [hc120]; done) | (rw [hc120]; rfl) | (simp [hc120]; done) | (simp only [hc120]; rfl) | (simp at *; omega))]; exact ht.pick (l := [0, 3, 5, 58]) (by kernel_rfl)⟩
            ·refine qp 3 [0, 3, 5, 58] [(0, .pointer (some ⟨g0, 0, none⟩)), (3, .pointer (some ⟨g6, 0, none⟩)), (5, .int .u8 c92), (58, .bool (c92 == 34))] (qE ?_)
             exact ge_mid fun t ht => ⟨(Imm.refl _), rfl, by rw [(show ((c92 == 92) || (c92 == 34)) = (c92 == 34) from by first | (rw [hc120]; done) | (rw [hc120]; rfl) | (simp [hc120]; done) | (simp only [hc120]; rfl) | (simp at *; omega))]; exact ht.pick (l := [0, 3, 5, 58]) (by kernel_rfl)⟩
           ·rintro t I119 L' ⟨hI117, rfl, hK118⟩
            refine ge_at hK118 ?_
            refine qs ?_
            obtain ⟨j121, hj122, hj95⟩ := bind_some hj95
            refine gk_join (fun t I' L' => ∃ q124 A126 n127 C128, (q124 = none ∨ q124 = some (⟨g6, 0, none⟩ : Addr)) ∧ OwnS (Kd.int .u8) 5 I' A126 n127 j121.2.1 C128 ∧ I119 ≤ I' ∧ C128 ++ ((g6, .cells #[.pointer q124, .slice A126 j121.2.1.length n127] 128) :: ((g0, .cells #[.string j121.2.2.1, .int .i64 j121.2.2.2.1, .int .i64 j121.2.2.2.2] T0) :: L)) = L' ∧ Knows 108 [(0, .pointer (some ⟨g0, 0, none⟩)), (3, .pointer (some ⟨g6, 0, none⟩))] t) ?_ ?_
            ·refine gk_cond (b := ((c92 == 92) || (c92 == 34))) (by kernel_rfl) (by kernel_rfl) (fun hc132 => ?_) (fun hc132 => ?_)
             ·have hj122 := cond_t hc132 hj122
              refine qR (qp 1 [0, 3, 59] [(0, .pointer (some ⟨g0, 0, none⟩)), (3, .pointer (some ⟨g6, 0, none⟩)), (59, .int .u8 c92)] ?_)
              obtain ⟨y133, hx134, hj122⟩ := bind_some hj122
              refine gl_reord (D := (g6, .cells #[.pointer q23, .slice A25 s19.2.2.2.2.length n26] 128) :: (C27 ++ ((g0, .cells #[.string s19.1, .int .i64 (IntKind.wrap .i64 (s19.2.1 + 1)), .int .i64 s19.2.2.1] T0) :: L))) (Reord.step1 (Upd.app _ (Upd.rm1 _ _)) (Reord.step (Upd.rmC _ _) (Reord.step1 (Upd.rm1 _ _) (Reord.refl _)))) ?_
              refine gl_call (by kernel_rfl) (strings_Builder_WriteByte_walk (r := y133) (g0 := g6) (q0_0 := q23) (A0_1 := A25) (c0_1 := n26) (C0_1 := C27) (a0 := (⟨s19.2.2.2.2⟩ : S127)) hq24 (hO28.mono (Imm.trans hI37 hI117)) hx134 _) ?_
              rintro v I135 L136 hI137 ⟨z138, A139, c140, C141, hO142, hO143, rfl, rfl⟩
              refine gl_reord (D := C141 ++ ((g6, .cells #[.pointer z138, .slice A139 y133.2.f1.length c140] 128) :: ((g0, .cells #[.string s19.1, .int .i64 (IntKind.wrap .i64 (s19.2.1 + 1)), .int .i64 s19.2.2.1] T0) :: L))) (Reord.step (Upd.one _ (Upd.rmC _ _)) (Reord.step1 (Upd.rm1 _ _) (Reord.step1 (Upd.rm1 _ _) (Reord.refl _)))) ?_
              refine qE ?_
              obtain rfl := some_inj hj122
              exact ge_mid fun t ht => ⟨z138, A139, c140, C141, hO142, hO143, hI137, rfl, ht.pick (l := [0, 3]) (by kernel_rfl)⟩
             ·have hj122 := cond_f hc132 hj122
              refine qR (qp 4 [0, 3, 61, 64] [(0, .pointer (some ⟨g0, 0, none⟩)), (3, .pointer (some ⟨g6, 0, none⟩)), (61, .pointer (some ⟨g0, 0, none⟩)), (64, .pointer (some ⟨g0, 1, none⟩))] ?_)
              refine gl_loadB (T' := 3) (xp := (.tmp 64)) (v := .int .i64 (IntKind.wrap .i64 (s19.2.1 + 1))) (g := g0) (off := 1) (cs := #[.string s19.1, .int .i64 (IntKind.wrap .i64 (s19.2.1 + 1)), .int .i64 s19.2.2.1]) (e := T0) (fz := (0, 0)) (by kernel_rfl) (by kernel_rfl) (by kernel_rfl) (mar (List.mem_cons_of_mem _ mcs)) (by kernel_rfl) ?_
              refine qp 1 [0, 3, 61, 66] [(0, .pointer (some ⟨g0, 0, none⟩)), (3, .pointer (some ⟨g6, 0, none⟩)), (61, .pointer (some ⟨g0, 0, none⟩)), (66, .int .i64 (IntKind.wrap .i64 ((IntKind.wrap .i64 (s19.2.1 + 1)) - 1)))] ?_
              obtain ⟨y144, hx145, hj122⟩ := bind_some hj122
              refine gl_reord (D := (g0, .cells #[.string s19.1, .int .i64 (IntKind.wrap .i64 (s19.2.1 + 1)), .int .i64 s19.2.2.1] T0) :: (C27 ++ ((g6, .cells #[.pointer q23, .slice A25 s19.2.2.2.2.length n26] 128) :: L))) (Reord.step1 (Upd.app _ (Upd.one _ (Upd.rm1 _ _))) (Reord.step (Upd.rmC _ _) (Reord.step1 (Upd.rm1 _ _) (Reord.refl _)))) ?_
              refine gl_call (by kernel_rfl) (labels_reader_fail_walk (r := y144) (g0 := g0) (T0 := T0) (a0 := (⟨s19.1, (IntKind.wrap .i64 (s19.2.1 + 1)), s19.2.2.1⟩ : S89)) hx145 _) ?_
              rintro v I146 L147 hI148 ⟨rfl, rfl⟩
              refine gl_reord (D := C27 ++ ((g6, .cells #[.pointer q23, .slice A25 s19.2.2.2.2.length n26] 128) :: ((g0, .cells #[.string y144.f0, .int .i64 y144.f1, .int .i64 y144.f2] T0) :: L))) (Reord.step (Upd.one _ (Upd.rmC _ _)) (Reord.step1 (Upd.one _ (Upd.rm1 _ _)) (Reord.step1 (Upd.rm1 _ _) (Reord.refl _)))) ?_
              refine qE ?_
              obtain rfl := some_inj hj122
              exact ge_mid fun t ht => ⟨q23, A25, n26, C27, hq24, (hO28.mono (Imm.trans (Imm.trans hI37 hI117) hI148)), hI148, rfl, ht.pick (l := [0, 3]) (by kernel_rfl)⟩
            ·rintro t I131 L' ⟨q124, A126, n127, C128, hq125, hO129, hI123, rfl, hK130⟩
             refine ge_at hK130 ?_
             obtain rfl := some_inj hj95
             exact ge_mid fun t ht => ⟨q124, A126, n127, C128, hq125, hO129, (Imm.trans hI117 hI123), rfl, ht.pick (l := [0, 3]) (by kernel_rfl)⟩
         ·rintro t I104 L' ⟨q97, A99, n100, C101, hq98, hO102, hI96, rfl, hK103⟩
          refine ge_at hK103 ?_
          refine qs (qR (qp 3 [0, 3, 68, 70] [(0, .pointer (some ⟨g0, 0, none⟩)), (3, .pointer (some ⟨g6, 0, none⟩)), (68, .pointer (some ⟨g0, 0, none⟩)), (70, .pointer (some ⟨g0, 1, none⟩))] ?_))
          refine gl_loadB (T' := 3) (xp := (.tmp 70)) (v := .int .i64 j94.2.2.2.1) (g := g0) (off := 1) (cs := #[.string j94.2.2.1, .int .i64 j94.2.2.2.1, .int .i64 j94.2.2.2.2]) (e := T0) (fz := (0, 0)) (by kernel_rfl) (by kernel_rfl) (by kernel_rfl) (mar (List.mem_cons_of_mem _ mcs)) (by kernel_rfl) ?_
          refine qp 3 [0, 3, 72, 74] [(0, .pointer (some ⟨g0, 0, none⟩)), (3, .pointer (some ⟨g6, 0, none⟩)), (72, .int .i64 (IntKind.wrap .i64 (j94.2.2.2.1 + 1))), (74, .pointer (some ⟨g0, 1, none⟩))] ?_
          refine gl_storeB (T' := 3) (xp := (.tmp 74)) (xv := (.tmp 72)) (v := .int .i64 (IntKind.wrap .i64 (j94.2.2.2.1 + 1))) (g := g0) (off := 1) (cs := #[.string j94.2.2.1, .int .i64 j94.2.2.2.1, .int .i64 j94.2.2.2.2]) (cs' := #[.string j94.2.2.1, .int .i64 (IntKind.wrap .i64 (j94.2.2.2.1 + 1)), .int .i64 j94.2.2.2.2]) (by kernel_rfl) (by kernel_rfl) (by kernel_rfl) (by kernel_rfl) (by kernel_rfl) (Upd.app _ (Upd.one _ (Upd.set _ _ _ _))) ?_ (by kernel_rfl)
          refine qE ?_
          obtain rfl := some_inj hj76
          exact ge_mid fun t ht => ⟨q97, A99, n100, C101, hq98, hO102, hI96, rfl, ht.pick (l := [0, 3]) (by kernel_rfl)⟩
       ·rintro t I85 L' ⟨q78, A80, n81, C82, hq79, hO83, hI77, rfl, hK84⟩
        refine ge_at hK84 ?_
        obtain rfl := some_inj hj53
        exact ge_mid fun t ht => ⟨q78, A80, n81, C82, hq79, hO83, hI77, rfl, ht.pick (l := [0, 3]) (by kernel_rfl)⟩
     ·rintro t I62 L' ⟨q55, A57, n58, C59, hq56, hO60, hI54, rfl, hK61⟩
      refine ge_at hK61 ?_
      refine qn (qn ?_)
      obtain rfl := some_inj hb21
      exact ge_round fun t ht => ⟨q55, A57, n58, C59, hq56, hO60, (Imm.trans (Imm.trans hI22 hI37) hI54), rfl, ht.pick (l := [0, 3]) (by kernel_rfl)⟩
   ·have hb21 := cond_f hc43 hb21
    refine gk_reord (D := (g0, .cells #[.string s19.1, .int .i64 s19.2.1, .int .i64 s19.2.2.1] T0) :: L) (Reord.step1 (Upd.app _ (Upd.one _ (Upd.rm1 _ _))) (Reord.skipC (Reord.skip (Reord.refl _)))) ?_
    refine qe (qf ?_)
    obtain rfl := some_inj hb21
    refine ge_round_out (fun hrr => ?_) (by intro h; cases h)
    obtain rfl := hrr
    refine qh ?_
    exact ge_mid fun t ht => ⟨_, rfl, (Imm.trans hI22 hI37), rfl, ht.pick (l := [0]) (by kernel_rfl)⟩
 ·rintro t I34 L' ⟨r31, rfl, hI32, rfl, hK33⟩
  refine ge_at hK33 ?_
  refine qs (qk (qR (qp 4 [101, 104] [(101, .pointer (some ⟨g0, 0, none⟩)), (104, .pointer (some ⟨g0, 0, none⟩))] ?_)))
  refine gl_loadB (T' := 9) (xp := (.tmp 104)) (v := .string r31.1) (g := g0) (off := 0) (cs := #[.string r31.1, .int .i64 r31.2.1, .int .i64 r31.2.2]) (e := T0) (fz := (0, 0)) (by kernel_rfl) (by kernel_rfl) (by kernel_rfl) mcs (by kernel_rfl) ?_
  refine qp 1 [101, 106] [(101, .pointer (some ⟨g0, 0, none⟩)), (106, .int .i64 (r31.1.size : Int))] ?_
  obtain ⟨y149, hx150, hr⟩ := bind_some hr
  refine gl_call (by kernel_rfl) (labels_reader_fail_walk (r := y149) (g0 := g0) (T0 := T0) (a0 := (⟨r31.1, r31.2.1, r31.2.2⟩ : S89)) hx150 _) ?_
  rintro v I151 L152 hI153 ⟨rfl, rfl⟩
  refine qE (qs (qk (qR (qp 1 [2] [(2, .string (⟨#[]⟩ : ByteArray))] (qE (qs (qt ?_)))))))
  obtain rfl := some_inj hr
  exact ge_result trivial (ResOk.tmp (by kernel_rfl) ResOk.nil) (Imm.trans (Imm.trans hI5 hI32) hI153) ⟨rfl, rfl⟩
/-! 70 labels_reader_braces ('obj',) -/
noncomputable def labels_reader_braces_l29 : (ByteArray × Int × Int × (List S49)) → Option ((ByteArray × Int × Int × (List S49)) ⊕ (((List S49) × ByteArray × Int × Int) ⊕ ((List S49) × S89))) := fun s11 =>
 Option.bind (labels_reader_next (⟨s11.1, s11.2.1, s11.2.2.1⟩ : S89) 125) fun (y31 : Bool × S89) =>
 bif (!y31.1) then
 (Option.bind (labels_reader_name y31.2 false) fun (y37 : ByteArray × S89) =>
  Option.bind (labels_reader_want y37.2 61) fun (y43 : S89) =>
  Option.bind (labels_reader_value y43) fun (y48 : ByteArray × S89) =>
  bif (decide (y48.2.f2 ≥ 0)) then
  (some (Sum.inr (Sum.inr ([], y48.2))))
  else
  (Option.bind (app s11.2.2.2 [(⟨y37.1, y48.1⟩ : S49)]) fun (zs58 : List S49) =>
   Option.bind (labels_reader_next y48.2 44) fun (y64 : Bool × S89) =>
   bif (!y64.1) then
   (Option.bind (labels_reader_want y64.2 125) fun (y70 : S89) =>
    some (Sum.inr (Sum.inr (zs58, y70))))
   else
   (some (Sum.inl (y64.2.f0, y64.2.f1, y64.2.f2, zs58)))))
 else
 (some (Sum.inr (Sum.inl (s11.2.2.2, y31.2.f0, y31.2.f1, y31.2.f2))))
noncomputable def labels_reader_braces (a0 : S89) : Option ((List S49) × S89) :=
 Option.bind (loopO labels_reader_braces_l29 (a0.f0, a0.f1, a0.f2, [])) fun (r9 : ((List S49) × ByteArray × Int × Int) ⊕ ((List S49) × S89)) =>
 match r9 with
 | Sum.inl r21 => some (r21.1, (⟨r21.2.1, r21.2.2.1, r21.2.2.2⟩ : S89))
 | Sum.inr v75 => some v75
theorem labels_reader_braces_walk {a0 : S89} {g0 : Nat} {T0 : TypeId} {I : Imm} {r : (List S49) × S89}  (hr : labels_reader_braces a0 = some r) (L : Own) :
  CallsTo Tryz.prog 70 #[.pointer (some ⟨g0, 0, none⟩)] I ((g0, .cells #[.string a0.f0, .int .i64 a0.f1, .int .i64 a0.f2] T0) :: L) (fun v I' L' => ∃ A0 c0 C0, OwnS kS49 50 I' A0 c0 r.1 C0 ∧ v = .slice A0 r.1.length c0 ∧ C0 ++ ((g0, .cells #[.string r.2.f0, .int .i64 r.2.f1, .int .i64 r.2.f2] T0) :: L) = L') := by
 unfold labels_reader_braces at hr
 refine callsTo_body (N := 32) Tryz.func70 (by kernel_rfl) (by kernel_rfl) (by kernel_rfl) ?_
 refine qq [0] [(0, .pointer (some ⟨g0, 0, none⟩))] (qk (qR (qp 1 [0] [(0, .pointer (some ⟨g0, 0, none⟩))] (qE (qs (qk (qR (qp 1 [0, 3] [(0, .pointer (some ⟨g0, 0, none⟩)), (3, .slice none 0 0)] (qE (qs (qk ?_)))))))))))
 obtain ⟨r9, hl10, hr⟩ := bind_some hr
 refine gk_join (fun t I' L' => ∃ r21, r9 = Sum.inl r21 ∧ ∃ A23 n24 C25, OwnS kS49 50 I' A23 n24 r21.1 C25 ∧ I ≤ I' ∧ C25 ++ ((g0, .cells #[.string r21.2.1, .int .i64 r21.2.2.1, .int .i64 r21.2.2.2] T0) :: L) = L' ∧ Knows 32 [(3, .slice A23 r21.1.length n24)] t) ?_ ?_
 ·refine qb (qq [0, 3] [(0, .pointer (some ⟨g0, 0, none⟩)), (3, .slice none 0 0)] ?_)
  intro t hK
  refine gc_loop (labels_reader_braces_l29) (fun s11 t I' L' => ∃ A15 n16 C17, OwnS kS49 50 I' A15 n16 s11.2.2.2 C17 ∧ I ≤ I' ∧ C17 ++ ((g0, .cells #[.string s11.1, .int .i64 s11.2.1, .int .i64 s11.2.2.1] T0) :: L) = L' ∧ Knows 32 [(0, .pointer (some ⟨g0, 0, none⟩)), (3, .slice A15 s11.2.2.2.length n16)] t) (by kernel_rfl) ?_ hl10 ⟨none, 0, [], OwnS.nil _ _ _ _, (Imm.refl _), rfl, hK⟩
  rintro s11 o12 t I20 L' hb13 ⟨A15, n16, C17, hO18, hI14, rfl, hK19⟩
  unfold labels_reader_braces_l29 at hb13
  refine gk_at hK19 ?_
  refine qk (qk (qR (qp 1 [0, 3, 5] [(0, .pointer (some ⟨g0, 0, none⟩)), (3, .slice A15 s11.2.2.2.length n16), (5, .pointer (some ⟨g0, 0, none⟩))] ?_)))
  obtain ⟨y31, hx32, hb13⟩ := bind_some hb13
  refine gl_reord (D := (g0, .cells #[.string s11.1, .int .i64 s11.2.1, .int .i64 s11.2.2.1] T0) :: (C17 ++ L)) (Reord.step1 (Upd.app _ (Upd.rm1 _ _)) (Reord.step (Upd.rmC _ _) (Reord.refl _))) ?_
  refine gl_call (by kernel_rfl) (labels_reader_next_walk (r := y31) (g0 := g0) (T0 := T0) (a0 := (⟨s11.1, s11.2.1, s11.2.2.1⟩ : S89)) hx32 _) ?_
  rintro v I33 L34 hI35 ⟨rfl, rfl⟩
  refine qp 1 [0, 3, 7] [(0, .pointer (some ⟨g0, 0, none⟩)), (3, .slice A15 s11.2.2.2.length n16), (7, .bool (!y31.1))] (qE (qs ?_))
  refine gk_cond (b := (!y31.1)) (by kernel_rfl) (by kernel_rfl) (fun hc36 => ?_) (fun hc36 => ?_)
  ·have hb13 := cond_t hc36 hb13
   refine qx (qs (qb (qk (qR (qp 1 [0, 3, 8] [(0, .pointer (some ⟨g0, 0, none⟩)), (3, .slice A15 s11.2.2.2.length n16), (8, .pointer (some ⟨g0, 0, none⟩))] ?_)))))
   obtain ⟨y37, hx38, hb13⟩ := bind_some hb13
   refine gl_call (by kernel_rfl) (labels_reader_name_walk (r := y37) (g0 := g0) (T0 := T0) (a0 := y31.2) hx38 _) ?_
   rintro v I39 L40 hI41 ⟨rfl, rfl⟩
   refine qp 1 [0, 3, 10] [(0, .pointer (some ⟨g0, 0, none⟩)), (3, .slice A15 s11.2.2.2.length n16), (10, .agg #[.string y37.1, .string (⟨#[]⟩ : ByteArray)])] ?_
   refine gl_alloc (T' := 50) (cs := #[.string (⟨#[]⟩ : ByteArray), .string (⟨#[]⟩ : ByteArray)]) (by kernel_rfl) (by kernel_rfl) (by kernel_rfl) (fun g42 => ?_)
   refine gl_storeB (T' := 50) (xp := (.tmp 4)) (xv := (.tmp 10)) (v := .agg #[.string y37.1, .string (⟨#[]⟩ : ByteArray)]) (g := g42) (off := 0) (cs := #[.string (⟨#[]⟩ : ByteArray), .string (⟨#[]⟩ : ByteArray)]) (cs' := #[.string y37.1, .string (⟨#[]⟩ : ByteArray)]) (by kernel_rfl) (by kernel_rfl) (by kernel_rfl) (by kernel_rfl) (by kernel_rfl) (Upd.set _ _ _ _) ?_ (by kernel_rfl)
   refine qE (qs (qk (qR (qp 1 [0, 3, 4, 11] [(0, .pointer (some ⟨g0, 0, none⟩)), (3, .slice A15 s11.2.2.2.length n16), (4, .pointer (some ⟨g42, 0, none⟩)), (11, .pointer (some ⟨g0, 0, none⟩))] ?_))))
   obtain ⟨y43, hx44, hb13⟩ := bind_some hb13
   refine gl_reord (D := (g0, .cells #[.string y37.2.f0, .int .i64 y37.2.f1, .int .i64 y37.2.f2] T0) :: ((g42, .cells #[.string y37.1, .string (⟨#[]⟩ : ByteArray)] 50) :: (C17 ++ L))) (Reord.step1 (Upd.one _ (Upd.rm1 _ _)) (Reord.step1 (Upd.rm1 _ _) (Reord.step (Upd.rmC _ _) (Reord.refl _)))) ?_
   refine gl_call (by kernel_rfl) (labels_reader_want_walk (r := y43) (g0 := g0) (T0 := T0) (a0 := y37.2) hx44 _) ?_
   rintro v I45 L46 hI47 ⟨rfl, rfl⟩
   refine qE (qs (qk (qR (qp 1 [0, 3, 4, 13] [(0, .pointer (some ⟨g0, 0, none⟩)), (3, .slice A15 s11.2.2.2.length n16), (4, .pointer (some ⟨g42, 0, none⟩)), (13, .pointer (some ⟨g0, 0, none⟩))] ?_))))
   obtain ⟨y48, hx49, hb13⟩ := bind_some hb13
   refine gl_call (by kernel_rfl) (labels_reader_value_walk (r := y48) (g0 := g0) (T0 := T0) (a0 := y43) hx49 _) ?_
   rintro v I50 L51 hI52 ⟨rfl, rfl⟩
   refine qp 1 [0, 3, 4, 14, 15] [(0, .pointer (some ⟨g0, 0, none⟩)), (3, .slice A15 s11.2.2.2.length n16), (4, .pointer (some ⟨g42, 0, none⟩)), (14, .string y48.1), (15, .pointer (some ⟨g42, 1, none⟩))] ?_
   refine gl_storeB (T' := 9) (xp := (.tmp 15)) (xv := (.tmp 14)) (v := .string y48.1) (g := g42) (off := 1) (cs := #[.string y37.1, .string (⟨#[]⟩ : ByteArray)]) (cs' := #[.string y37.1, .string y48.1]) (by kernel_rfl) (by kernel_rfl) (by kernel_rfl) (by kernel_rfl) (by kernel_rfl) (Upd.one _ (Upd.set _ _ _ _)) ?_ (by kernel_rfl)
   refine qE (qs (qk (qk (qR (qp 3 [0, 3, 4, 18] [(0, .pointer (some ⟨g0, 0, none⟩)), (3, .slice A15 s11.2.2.2.length n16), (4, .pointer (some ⟨g42, 0, none⟩)), (18, .pointer (some ⟨g0, 2, none⟩))] ?_)))))
   refine gl_loadB (T' := 3) (xp := (.tmp 18)) (v := .int .i64 y48.2.f2) (g := g0) (off := 2) (cs := #[.string y48.2.f0, .int .i64 y48.2.f1, .int .i64 y48.2.f2]) (e := T0) (fz := (0, 0)) (by kernel_rfl) (by kernel_rfl) (by kernel_rfl) mcs (by kernel_rfl) ?_
   refine qp 1 [0, 3, 4, 20] [(0, .pointer (some ⟨g0, 0, none⟩)), (3, .slice A15 s11.2.2.2.length n16), (4, .pointer (some ⟨g42, 0, none⟩)), (20, .bool (decide (y48.2.f2 ≥ 0)))] (qE (qs ?_))
   refine gk_cond (b := (decide (y48.2.f2 ≥ 0))) (by kernel_rfl) (by kernel_rfl) (fun hc53 => ?_) (fun hc53 => ?_)
   ·have hb13 := cond_t hc53 hb13
    refine qk (qR (qp 1 [2] [(2, .slice none 0 0)] (qE (qs ?_))))
    refine gk_reord (D := (g0, .cells #[.string y48.2.f0, .int .i64 y48.2.f1, .int .i64 y48.2.f2] T0) :: L) (Reord.step1 (Upd.rm1 _ _) (Reord.skip (Reord.skipC (Reord.refl _)))) ?_
    refine qt (qu (qv ?_))
    obtain rfl := some_inj hb13
    refine ge_round_out (fun hrr => ?_) (by intro h; cases h)
    obtain rfl := hrr
    refine qv (qu (qu ?_))
    obtain rfl := some_inj hr
    exact ge_result trivial (ResOk.tmp (by kernel_rfl) ResOk.nil) (Imm.trans (Imm.trans (Imm.trans (Imm.trans hI14 hI35) hI41) hI47) hI52) ⟨none, 0, [], OwnS.nil _ _ _ _, rfl, rfl⟩
   ·have hb13 := cond_f hc53 hb13
    refine qx (qs (qk (qR (qp 1 [0, 4, 21] [(0, .pointer (some ⟨g0, 0, none⟩)), (4, .pointer (some ⟨g42, 0, none⟩)), (21, .slice A15 s11.2.2.2.length n16)] ?_))))
    refine gl_loadB (T' := 50) (xp := (.tmp 4)) (v := .agg #[.string y37.1, .string y48.1]) (g := g42) (off := 0) (cs := #[.string y37.1, .string y48.1]) (e := 50) (fz := (0, 0)) (by kernel_rfl) (by kernel_rfl) (by kernel_rfl) (List.mem_cons_of_mem _ mcs) (by kernel_rfl) ?_
    refine gl_buildSlice (T' := 22) (e := 50) (n := 2) (len := 1) (parts := #[(0, (.tmp 22))]) (l := [(0, .agg #[.string y37.1, .string y48.1])]) (cs := #[.string y37.1, .string y48.1]) (by kernel_rfl) (by kernel_rfl) (by kernel_rfl) (by kernel_rfl) (by kernel_rfl) (fun g54 => ?_)
    have hO55 : OwnS kS49 50 I50 (some ⟨g54, 0, none⟩) 1 [(⟨y37.1, y48.1⟩ : S49)] [(g54, .cells #[.string y37.1, .string y48.1] 50)] := OwnS.lit (row_cons (l := [.string y37.1, .string y48.1]) (kS49_mk (x := (⟨y37.1, y48.1⟩ : S49)) ) (row_nil _ _)) rfl rfl rfl
    refine gl_reord (D := [(g54, .cells #[.string y37.1, .string y48.1] 50)] ++ ((g0, .cells #[.string y48.2.f0, .int .i64 y48.2.f1, .int .i64 y48.2.f2] T0) :: ((g42, .cells #[.string y37.1, .string y48.1] 50) :: (C17 ++ L)))) (Reord.refl _) ?_
    obtain ⟨zs58, hz59, hb13⟩ := bind_some hb13
    refine gl_append (xv := .slice (some ⟨g54, 0, none⟩) [(⟨y37.1, y48.1⟩ : S49)].length 1) (d := kS49) (t := 22) (tx := 22) (e := 50) (s := (.tmp 21)) (x := (.tmp 23)) (xs := s11.2.2.2) (fun X => [(g54, .cells #[.string y37.1, .string y48.1] 50)] ++ ((g0, .cells #[.string y48.2.f0, .int .i64 y48.2.f1, .int .i64 y48.2.f2] T0) :: ((g42, .cells #[.string y37.1, .string y48.1] 50) :: (X ++ L)))) hz59 (by kernel_rfl) (by kernel_rfl) (by kernel_rfl) (by kernel_rfl) (by kernel_rfl) (by kernel_rfl) (fun X => (Upd.app _ (Upd.one _ (Upd.one _ (Upd.head _ X _))))) (hO18.mono (Imm.trans (Imm.trans (Imm.trans hI35 hI41) hI47) hI52)) (SrcOk.slice (c := 1) (e := 50) (n := 2) (OwnS.rd hO55 (Upd.selfC _ _)) (by kernel_rfl)) (fun A60 n61 C62 hO63 => ?_)
    refine qp 1 [0, 3] [(0, .pointer (some ⟨g0, 0, none⟩)), (3, .slice A60 zs58.length n61)] (qE (qs (qk (qR (qp 1 [0, 3, 25] [(0, .pointer (some ⟨g0, 0, none⟩)), (3, .slice A60 zs58.length n61), (25, .pointer (some ⟨g0, 0, none⟩))] ?_)))))
    obtain ⟨y64, hx65, hb13⟩ := bind_some hb13
    refine gl_reord (D := (g0, .cells #[.string y48.2.f0, .int .i64 y48.2.f1, .int .i64 y48.2.f2] T0) :: ([(g54, .cells #[.string y37.1, .string y48.1] 50)] ++ ((g42, .cells #[.string y37.1, .string y48.1] 50) :: (C62 ++ L)))) (Reord.step1 (Upd.app _ (Upd.rm1 _ _)) (Reord.step (Upd.rmC _ _) (Reord.step1 (Upd.rm1 _ _) (Reord.step (Upd.rmC _ _) (Reord.refl _))))) ?_
    refine gl_call (by kernel_rfl) (labels_reader_next_walk (r := y64) (g0 := g0) (T0 := T0) (a0 := y48.2) hx65 _) ?_
    rintro v I66 L67 hI68 ⟨rfl, rfl⟩
    refine qp 1 [0, 3, 27] [(0, .pointer (some ⟨g0, 0, none⟩)), (3, .slice A60 zs58.length n61), (27, .bool (!y64.1))] (qE (qs ?_))
    refine gk_cond (b := (!y64.1)) (by kernel_rfl) (by kernel_rfl) (fun hc69 => ?_) (fun hc69 => ?_)
    ·have hb13 := cond_t hc69 hb13
     refine qk (qR (qp 1 [3, 28] [(3, .slice A60 zs58.length n61), (28, .pointer (some ⟨g0, 0, none⟩))] ?_))
     obtain ⟨y70, hx71, hb13⟩ := bind_some hb13
     refine gl_call (by kernel_rfl) (labels_reader_want_walk (r := y70) (g0 := g0) (T0 := T0) (a0 := y64.2) hx71 _) ?_
     rintro v I72 L73 hI74 ⟨rfl, rfl⟩
     refine qE (qs (qk (qR (qp 2 [2] [(2, .slice A60 zs58.length n61)] (qE (qs ?_))))))
     refine gk_reord (D := C62 ++ ((g0, .cells #[.string y70.f0, .int .i64 y70.f1, .int .i64 y70.f2] T0) :: L)) (Reord.step (Upd.one _ (Upd.app _ (Upd.one _ (Upd.rmC _ _)))) (Reord.step1 (Upd.rm1 _ _) (Reord.skipC (Reord.skip (Reord.refl _))))) ?_
     refine qt (qv ?_)
     obtain rfl := some_inj hb13
     refine ge_round_out (fun hrr => ?_) (by intro h; cases h)
     obtain rfl := hrr
     refine qv (qu (qu ?_))
     obtain rfl := some_inj hr
     exact ge_result trivial (ResOk.tmp (by kernel_rfl) ResOk.nil) (Imm.trans (Imm.trans (Imm.trans (Imm.trans (Imm.trans (Imm.trans hI14 hI35) hI41) hI47) hI52) hI68) hI74) ⟨A60, n61, C62, (hO63.mono (Imm.trans hI68 hI74)), rfl, rfl⟩
    ·have hb13 := cond_f hc69 hb13
     refine gk_reord (D := C62 ++ ((g0, .cells #[.string y64.2.f0, .int .i64 y64.2.f1, .int .i64 y64.2.f2] T0) :: L)) (Reord.step (Upd.one _ (Upd.app _ (Upd.one _ (Upd.rmC _ _)))) (Reord.step1 (Upd.rm1 _ _) (Reord.skipC (Reord.skip (Reord.refl _))))) ?_
     refine qx (qn ?_)
     obtain rfl := some_inj hb13
     exact ge_round fun t ht => ⟨A60, n61, C62, (hO63.mono hI68), (Imm.trans (Imm.trans (Imm.trans (Imm.trans (Imm.trans hI14 hI35) hI41) hI47) hI52) hI68), rfl, ht.pick (l := [0, 3]) (by kernel_rfl)⟩
  ·have hb13 := cond_f hc36 hb13
   refine gk_reord (D := C17 ++ ((g0, .cells #[.string y31.2.f0, .int .i64 y31.2.f1, .int .i64 y31.2.f2] T0) :: L)) (Reord.step (Upd.one _ (Upd.rmC _ _)) (Reord.step1 (Upd.rm1 _ _) (Reord.refl _))) ?_
   refine qe (qf ?_)
   obtain rfl := some_inj hb13
   refine ge_round_out (fun hrr => ?_) (by intro h; cases h)
   obtain rfl := hrr
   refine qh ?_
   exact ge_mid fun t ht => ⟨_, rfl, A15, n16, C17, (hO18.mono hI35), (Imm.trans hI14 hI35), rfl, ht.pick (l := [3]) (by kernel_rfl)⟩
 ·rintro t I28 L' ⟨r21, rfl, A23, n24, C25, hO26, hI22, rfl, hK27⟩
  refine ge_at hK27 ?_
  refine qs (qk (qR (qp 2 [2] [(2, .slice A23 r21.1.length n24)] (qE (qs (qt ?_))))))
  obtain rfl := some_inj hr
  exact ge_result trivial (ResOk.tmp (by kernel_rfl) ResOk.nil) hI22 ⟨A23, n24, C25, hO26, rfl, rfl⟩
/-! 94 labels_own  -/
noncomputable def labels_own (a0 : List S49) : Option (List S49) :=
 Option.bind (mkrow ((⟨(⟨#[]⟩ : ByteArray), (⟨#[]⟩ : ByteArray)⟩ : S49) : S49) (a0.length : Int) (a0.length : Int)) fun (xs1 : List S49) =>
 some (lcopy xs1 a0)
theorem labels_own_walk {a0 : List S49} {A0_0 : Option Addr} {n0_0 : Nat} {I : Imm} {r : (List S49)}  (hf0_0 : RepS kS49 I A0_0 n0_0 a0) (hr : labels_own a0 = some r) (L : Own) :
  CallsTo Tryz.prog 94 #[.slice A0_0 a0.length n0_0] I L (fun v I' L' => ∃ A0 c0 C0, OwnS kS49 50 I' A0 c0 r C0 ∧ v = .slice A0 r.length c0 ∧ C0 ++ L = L') := by
 unfold labels_own at hr
 refine callsTo_body (N := 11) Tryz.func94 (by kernel_rfl) (by kernel_rfl) (by kernel_rfl) ?_
 refine qq [0] [(0, .slice A0_0 a0.length n0_0)] (qk (qR (qp 1 [0] [(0, .slice A0_0 a0.length n0_0)] (qE (qs (qk (qR (qp 2 [0, 5] [(0, .slice A0_0 a0.length n0_0), (5, .int .i64 (a0.length : Int))] ?_))))))))
 obtain ⟨xs1, hx2, hr⟩ := bind_some hr
 refine gl_makeSlice (d := kS49) (T' := 22) (e := 50) (lx := (.tmp 5)) (cx := (.tmp 5)) (kl := .i64) (kc := .i64) (zc := #[.string (⟨#[]⟩ : ByteArray), .string (⟨#[]⟩ : ByteArray)]) hx2 (by kernel_rfl) (by kernel_rfl) (by kernel_rfl) (by kernel_rfl) (by kernel_rfl) (by kernel_rfl) (by kernel_rfl) (kS49_mk (x := (⟨(⟨#[]⟩ : ByteArray), (⟨#[]⟩ : ByteArray)⟩ : S49)) ) (fun A3 C4 hO5 => ?_)
 refine qp 1 [0, 3] [(0, .slice A0_0 a0.length n0_0), (3, .slice A3 xs1.length ((a0.length : Int).toNat))] (qE (qs (qk (qR (qp 2 [3, 7, 8] [(3, .slice A3 xs1.length ((a0.length : Int).toNat)), (7, .slice A3 xs1.length ((a0.length : Int).toNat)), (8, .slice A0_0 a0.length n0_0)] ?_)))))
 have hl8 : xs1.length = (lcopy xs1 a0).length := (lcopy_length _ _).symm
 refine gl_copyW (d := kS49) (tD := 22) (tS := 22) (e := 50) (e' := 50) (xs := xs1) (ys := a0) (c2 := n0_0) (dx := (.tmp 7)) (sx := (.tmp 8)) (fun X => X ++ L) (by kernel_rfl) (by kernel_rfl) (by kernel_rfl) (by kernel_rfl) (by kernel_rfl) hO5 (fun X => (Upd.head _ X _)) (RepS.rd hf0_0 _) (fun C6 hO7 => ?_)
 try rw [hl8]
 refine qE (qs (qk (qR (qp 2 [2] [(2, .slice A3 (lcopy xs1 a0).length ((a0.length : Int).toNat))] (qE (qs (qt ?_)))))))
 obtain rfl := some_inj hr
 exact ge_result trivial (ResOk.tmp (by kernel_rfl) ResOk.nil) (Imm.refl _) ⟨A3, ((a0.length : Int).toNat), C6, hO7, rfl, rfl⟩
/-! 119 bytealg_CompareString  -/
noncomputable def bytealg_CompareString (a0 : ByteArray) (a1 : ByteArray) : Int :=
 (Lib.compareBytes a0.data.toList a1.data.toList)
theorem bytealg_CompareString_walk {a0 : ByteArray} {a1 : ByteArray} {I : Imm} {r : Int}  (hr : bytealg_CompareString a0 a1 = r) (L : Own) :
  CallsTo Tryz.prog 119 #[.string a0, .string a1] I L (fun v I' L' => v = .int .i64 r ∧ L = L') := by
 replace hr : some (bytealg_CompareString a0 a1) = some r := congrArg some hr
 unfold bytealg_CompareString at hr
 refine callsTo_body (N := 8) Tryz.func119 (by kernel_rfl) (by kernel_rfl) (by kernel_rfl) ?_
 refine qq [0, 1] [(0, .string a0), (1, .string a1)] (qk (qR (qp 1 [0, 1] [(0, .string a0), (1, .string a1)] (qE (qs (qk (qR (qp 2 [5, 6] [(5, .string a0), (6, .string a1)] ?_))))))))
 refine gl_cmpstring (a := a0) (b := a1) Tryz.func136 (by kernel_rfl) (by kernel_rfl) (by kernel_rfl) (by kernel_rfl) (by kernel_rfl) (by kernel_rfl) ?_
 refine qp 1 [4] [(4, .int .i64 (Lib.compareBytes a0.data.toList a1.data.toList))] (qE (qs (qt ?_)))
 obtain rfl := some_inj hr
 exact ge_result trivial (ResOk.tmp (by kernel_rfl) ResOk.nil) (Imm.refl _) ⟨rfl, rfl⟩
/-! 83 strings_Compare  -/
noncomputable def strings_Compare (a0 : ByteArray) (a1 : ByteArray) : Int :=
 (bytealg_CompareString a0 a1)
theorem strings_Compare_walk {a0 : ByteArray} {a1 : ByteArray} {I : Imm} {r : Int}  (hr : strings_Compare a0 a1 = r) (L : Own) :
  CallsTo Tryz.prog 83 #[.string a0, .string a1] I L (fun v I' L' => v = .int .i64 r ∧ L = L') := by
 replace hr : some (strings_Compare a0 a1) = some r := congrArg some hr
 unfold strings_Compare at hr
 refine callsTo_body (N := 8) Tryz.func83 (by kernel_rfl) (by kernel_rfl) (by kernel_rfl) ?_
 refine qq [0, 1] [(0, .string a0), (1, .string a1)] (qk (qR (qp 1 [0, 1] [(0, .string a0), (1, .string a1)] (qE (qs (qk (qR (qp 2 [5, 6] [(5, .string a0), (6, .string a1)] ?_))))))))
 refine gl_callQ (by kernel_rfl) (bytealg_CompareString_walk (r := (bytealg_CompareString a0 a1))  rfl _) ?_
 refine qp 1 [4] [(4, .int .i64 (bytealg_CompareString a0 a1))] (qE (qs (qt ?_)))
 obtain rfl := some_inj hr
 exact ge_result trivial (ResOk.tmp (by kernel_rfl) ResOk.nil) (Imm.refl _) ⟨rfl, rfl⟩
/-! 116 labels_sorted_1  -/
noncomputable def labels_sorted_1 (a0 : S49) (a1 : S49) : Int :=
 (strings_Compare a0.f0 a1.f0)
theorem labels_sorted_1_walk {a0 : S49} {a1 : S49} {I : Imm} {r : Int}  (hr : labels_sorted_1 a0 a1 = r) (L : Own) :
  CallsTo Tryz.prog 116 #[.agg #[.string a0.f0, .string a0.f1], .agg #[.string a1.f0, .string a1.f1]] I L (fun v I' L' => v = .int .i64 r ∧ L = L') := by
 replace hr : some (labels_sorted_1 a0 a1) = some r := congrArg some hr
 unfold labels_sorted_1 at hr
 refine callsTo_body (N := 10) Tryz.func116 (by kernel_rfl) (by kernel_rfl) (by kernel_rfl) ?_
 refine qq [0, 1] [(0, .agg #[.string a0.f0, .string a0.f1]), (1, .agg #[.string a1.f0, .string a1.f1])] (qk (qR ?_))
 refine gl_box (T' := 50) (x := (.tmp 0)) (v := .agg #[.string a0.f0, .string a0.f1]) (cs := #[.string a0.f0, .string a0.f1]) (by kernel_rfl) (by kernel_rfl) (by kernel_rfl) (by kernel_rfl) (fun g1 => ?_)
 refine gl_box (T' := 50) (x := (.tmp 1)) (v := .agg #[.string a1.f0, .string a1.f1]) (cs := #[.string a1.f0, .string a1.f1]) (by kernel_rfl) (by kernel_rfl) (by kernel_rfl) (by kernel_rfl) (fun g2 => ?_)
 refine qp 1 [2, 3] [(2, .pointer (some ⟨g1, 0, none⟩)), (3, .pointer (some ⟨g2, 0, none⟩))] (qE (qs (qk (qR (qp 1 [3, 5] [(3, .pointer (some ⟨g2, 0, none⟩)), (5, .pointer (some ⟨g1, 0, none⟩))] ?_)))))
 refine gl_loadB (T' := 9) (xp := (.tmp 5)) (v := .string a0.f0) (g := g1) (off := 0) (cs := #[.string a0.f0, .string a0.f1]) (e := 50) (fz := (0, 0)) (by kernel_rfl) (by kernel_rfl) (by kernel_rfl) (List.mem_cons_of_mem _ mcs) (by kernel_rfl) ?_
 refine qp 1 [6, 7] [(6, .string a0.f0), (7, .pointer (some ⟨g2, 0, none⟩))] ?_
 refine gl_loadB (T' := 9) (xp := (.tmp 7)) (v := .string a1.f0) (g := g2) (off := 0) (cs := #[.string a1.f0, .string a1.f1]) (e := 50) (fz := (0, 0)) (by kernel_rfl) (by kernel_rfl) (by kernel_rfl) mcs (by kernel_rfl) ?_
 refine gl_callQ (by kernel_rfl) (strings_Compare_walk (r := (strings_Compare a0.f0 a1.f0))  rfl _) ?_
 refine qp 1 [4] [(4, .int .i64 (strings_Compare a0.f0 a1.f0))] (qE (qs ?_))
 refine gk_reord (D := L) (Reord.skip (Reord.skip (Reord.refl _))) ?_
 refine qt ?_
 obtain rfl := some_inj hr
 exact ge_result trivial (ResOk.tmp (by kernel_rfl) ResOk.nil) (Imm.refl _) ⟨rfl, rfl⟩
end Go.Proofs.YtnlkfajnaelnnaaGreatDoor
