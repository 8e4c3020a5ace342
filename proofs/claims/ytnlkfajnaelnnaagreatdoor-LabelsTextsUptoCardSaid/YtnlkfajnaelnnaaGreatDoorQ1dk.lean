/- Parts: Q1d. -/
import Derived.Test.YtnlkfajnaelnnaaGreatDoorQ1ck
set_option linter.unusedVariables false
set_option linter.unusedSimpArgs false
set_option maxRecDepth 100000
namespace Go.Proofs.YtnlkfajnaelnnaaGreatDoor
open Go.GB
/-! 74 tocsinref04_Text_Run ('obj', 'imm') -/
noncomputable def tocsinref04_Text_Run_l21 (a1 : Bool) (y1 : S97) : Int → Option ((Int) ⊕ (Int)) := fun s12 =>
 Option.bind (bif (decide (s12 < (y1.f0.size : Int))) then
  (Option.bind (bx y1.f0 s12) fun (c29 : Int) =>
   bif (tocsinref04_letter c29) then
   (some true)
   else
   (Option.bind (bx y1.f0 s12) fun (c32 : Int) =>
    bif (tocsinref04_digit c32) then
    (some true)
    else
    (bif a1 then
     (Option.bind (bx y1.f0 s12) fun (c36 : Int) =>
      some (c36 == 58))
     else
     (some false))))
  else
  (some false)) fun (j23 : Bool) =>
 bif j23 then
 (some (Sum.inl (IntKind.wrap .i64 (s12 + 1))))
 else
 (some (Sum.inr s12))
noncomputable def tocsinref04_Text_Run (a0 : S97) (a1 : Bool) : Option (ByteArray × S97) :=
 Option.bind (tocsinref04_Text_Blanks a0) fun (y1 : S97) =>
 Option.bind (loopO (tocsinref04_Text_Run_l21 a1 y1) y1.f1) fun (r10 : Int) =>
 Option.bind (sx y1.f0 y1.f1 r10) fun (s40 : ByteArray) =>
 some (s40, (⟨y1.f0, r10, y1.f2⟩ : S97))
theorem tocsinref04_Text_Run_walk {a0 : S97} {g0 : Nat} {T0 : TypeId} {a1 : Bool} {I : Imm} {r : ByteArray × S97}  (hr : tocsinref04_Text_Run a0 a1 = some r) (L : Own) :
  CallsTo Tryz.prog 74 #[.pointer (some ⟨g0, 0, none⟩), .bool a1] I ((g0, .cells #[.string a0.f0, .int .i64 a0.f1, .int .i64 a0.f2] T0) :: L) (fun v I' L' => v = .string r.1 ∧ (g0, .cells #[.string r.2.f0, .int .i64 r.2.f1, .int .i64 r.2.f2] T0) :: L = L') := by
 unfold tocsinref04_Text_Run at hr
 refine callsTo_body (N := 78) Tryz.func74 (by kernel_rfl) (by kernel_rfl) (by kernel_rfl) ?_
 refine qq [0, 1] [(0, .pointer (some ⟨g0, 0, none⟩)), (1, .bool a1)] (qk (qR (qp 1 [0, 1] [(0, .pointer (some ⟨g0, 0, none⟩)), (1, .bool a1)] (qE (qs (qk (qR (qp 1 [0, 1, 6] [(0, .pointer (some ⟨g0, 0, none⟩)), (1, .bool a1), (6, .pointer (some ⟨g0, 0, none⟩))] ?_))))))))
 obtain ⟨y1, hx2, hr⟩ := bind_some hr
 refine gl_call (by kernel_rfl) (tocsinref04_Text_Blanks_walk (r := y1) (g0 := g0) (T0 := T0) (a0 := a0) hx2 _) ?_
 rintro v I3 L4 hI5 ⟨rfl, rfl⟩
 refine qE (qs (qk (qR (qp 3 [0, 1, 10] [(0, .pointer (some ⟨g0, 0, none⟩)), (1, .bool a1), (10, .pointer (some ⟨g0, 1, none⟩))] ?_))))
 refine gl_loadB (T' := 3) (xp := (.tmp 10)) (v := .int .i64 y1.f1) (g := g0) (off := 1) (cs := #[.string y1.f0, .int .i64 y1.f1, .int .i64 y1.f2]) (e := T0) (fz := (0, 0)) (by kernel_rfl) (by kernel_rfl) (by kernel_rfl) mcs (by kernel_rfl) ?_
 refine qp 1 [0, 1, 5] [(0, .pointer (some ⟨g0, 0, none⟩)), (1, .bool a1), (5, .int .i64 y1.f1)] (qE (qs (qk ?_)))
 obtain ⟨r10, hl11, hr⟩ := bind_some hr
 refine gk_join (fun t I' L' => I3 ≤ I' ∧ (g0, .cells #[.string y1.f0, .int .i64 r10, .int .i64 y1.f2] T0) :: L = L' ∧ Knows 78 [(0, .pointer (some ⟨g0, 0, none⟩)), (5, .int .i64 y1.f1)] t) ?_ ?_
 ·refine qb (qq [0, 1, 5] [(0, .pointer (some ⟨g0, 0, none⟩)), (1, .bool a1), (5, .int .i64 y1.f1)] ?_)
  intro t hK
  refine gc_loop (tocsinref04_Text_Run_l21 a1 y1) (fun s12 t I' L' => I3 ≤ I' ∧ (g0, .cells #[.string y1.f0, .int .i64 s12, .int .i64 y1.f2] T0) :: L = L' ∧ Knows 78 [(0, .pointer (some ⟨g0, 0, none⟩)), (1, .bool a1), (5, .int .i64 y1.f1)] t) (by kernel_rfl) ?_ hl11 ⟨(Imm.refl _), rfl, hK⟩
  rintro s12 o13 t I17 L' hb14 ⟨hI15, rfl, hK16⟩
  unfold tocsinref04_Text_Run_l21 at hb14
  refine gk_at hK16 ?_
  refine qk (qk ?_)
  obtain ⟨j23, hj24, hb14⟩ := bind_some hb14
  refine gk_join (fun t I' L' => I17 ≤ I' ∧ (g0, .cells #[.string y1.f0, .int .i64 s12, .int .i64 y1.f2] T0) :: L = L' ∧ Knows 78 [(0, .pointer (some ⟨g0, 0, none⟩)), (1, .bool a1), (5, .int .i64 y1.f1), (60, .bool j23)] t) ?_ ?_
  ·refine gk_draw 49 (rng 0 49) [(g0, .cells #[.string y1.f0, .int .i64 s12, .int .i64 y1.f2] T0)] (fmc ⟨mcs, nim⟩) (by kernel_rfl) (by kernel_rfl) (by kernel_rfl) ?_ (by kernel_rfl)
   refine dp 3 [0, 1, 5, 14] [(0, .pointer (some ⟨g0, 0, none⟩)), (1, .bool a1), (5, .int .i64 y1.f1), (14, .pointer (some ⟨g0, 1, none⟩))] (rng 3 46) (CC.refl (fmc ⟨mcs, nim⟩)) ?_
   refine gd_q (v := .int .i64 s12) (by kernel_rfl) (by kernel_rfl) (CC.refl (fmc ⟨mcs, nim⟩)) (fun I' L' T hC kk => gl_loadB (T' := 3) (xp := (.tmp 14)) (v := .int .i64 s12) (g := g0) (off := 1) (cs := #[.string y1.f0, .int .i64 s12, .int .i64 y1.f2]) (e := T0) (fz := (0, 0)) (by kernel_rfl) (by kernel_rfl) (by kernel_rfl) (hC.sub _ mcs) (by kernel_rfl) kk) ?_
   refine dp 3 [0, 1, 5, 15, 18] [(0, .pointer (some ⟨g0, 0, none⟩)), (1, .bool a1), (5, .int .i64 y1.f1), (15, .int .i64 s12), (18, .pointer (some ⟨g0, 0, none⟩))] (rng 7 42) (CC.refl (fmc ⟨mcs, nim⟩)) ?_
   refine gd_q (v := .string y1.f0) (by kernel_rfl) (by kernel_rfl) (CC.refl (fmc ⟨mcs, nim⟩)) (fun I' L' T hC kk => gl_loadB (T' := 9) (xp := (.tmp 18)) (v := .string y1.f0) (g := g0) (off := 0) (cs := #[.string y1.f0, .int .i64 s12, .int .i64 y1.f2]) (e := T0) (fz := (0, 0)) (by kernel_rfl) (by kernel_rfl) (by kernel_rfl) (hC.sub _ mcs) (by kernel_rfl) kk) ?_
   refine dp 3 [0, 1, 5, 22] [(0, .pointer (some ⟨g0, 0, none⟩)), (1, .bool a1), (5, .int .i64 y1.f1), (22, .bool (decide (s12 < (y1.f0.size : Int))))] (rng 11 38) (CC.refl (fmc ⟨mcs, nim⟩)) ?_
   refine gd_case 22 (b := (decide (s12 < (y1.f0.size : Int)))) (by kernel_rfl) (fun hc28 => ?_) (fun hc28 => ?_)
   ·have hj24 := cond_t hc28 hj24
    refine dp 3 [0, 1, 5, 22, 25] [(0, .pointer (some ⟨g0, 0, none⟩)), (1, .bool a1), (5, .int .i64 y1.f1), (22, .bool true), (25, .pointer (some ⟨g0, 0, none⟩))] (rng 14 35) (CC.refl (fmc ⟨mcs, nim⟩)) ?_
    refine gd_q (v := .string y1.f0) (by kernel_rfl) (by kernel_rfl) (CC.refl (fmc ⟨mcs, nim⟩)) (fun I' L' T hC kk => gl_loadB (T' := 9) (xp := (.tmp 25)) (v := .string y1.f0) (g := g0) (off := 0) (cs := #[.string y1.f0, .int .i64 s12, .int .i64 y1.f2]) (e := T0) (fz := (0, 0)) (by kernel_rfl) (by kernel_rfl) (by kernel_rfl) (hC.sub _ mcs) (by kernel_rfl) kk) ?_
    refine dp 3 [0, 1, 5, 22, 26, 29] [(0, .pointer (some ⟨g0, 0, none⟩)), (1, .bool a1), (5, .int .i64 y1.f1), (22, .bool true), (26, .string y1.f0), (29, .pointer (some ⟨g0, 1, none⟩))] (rng 18 31) (CC.refl (fmc ⟨mcs, nim⟩)) ?_
    refine gd_q (v := .int .i64 s12) (by kernel_rfl) (by kernel_rfl) (CC.refl (fmc ⟨mcs, nim⟩)) (fun I' L' T hC kk => gl_loadB (T' := 3) (xp := (.tmp 29)) (v := .int .i64 s12) (g := g0) (off := 1) (cs := #[.string y1.f0, .int .i64 s12, .int .i64 y1.f2]) (e := T0) (fz := (0, 0)) (by kernel_rfl) (by kernel_rfl) (by kernel_rfl) (hC.sub _ mcs) (by kernel_rfl) kk) ?_
    obtain ⟨c29, hx30, hj24⟩ := bind_some hj24
    refine gd_q (v := .int .u8 c29) (by kernel_rfl) (by kernel_rfl) (CC.refl (fmc ⟨mcs, nim⟩)) (fun I' L' T hC kk => gl_index' (T' := 9) (xs := (.tmp 26)) (xi := (.tmp 30)) (kd := .i64) hx30 (by kernel_rfl) (by kernel_rfl) (by kernel_rfl) (by kernel_rfl) (by kernel_rfl) kk) ?_
    refine gd_q (v := .bool (tocsinref04_letter c29)) (by kernel_rfl) (by kernel_rfl) (CC.refl (fmc ⟨mcs, nim⟩)) (fun I' L' T hC kk => gl_callQ (by kernel_rfl) (tocsinref04_letter_walk (r := (tocsinref04_letter c29))  rfl _) kk) ?_
    refine dp 1 [0, 1, 5, 22, 33] [(0, .pointer (some ⟨g0, 0, none⟩)), (1, .bool a1), (5, .int .i64 y1.f1), (22, .bool true), (33, .bool (tocsinref04_letter c29))] (rng 22 27) (CC.refl (fmc ⟨mcs, nim⟩)) ?_
    refine gd_case 33 (b := (tocsinref04_letter c29)) (by kernel_rfl) (fun hc31 => ?_) (fun hc31 => ?_)
    ·have hj24 := cond_t hc31 hj24
     refine dp 27 [0, 1, 5, 60] [(0, .pointer (some ⟨g0, 0, none⟩)), (1, .bool a1), (5, .int .i64 y1.f1), (60, .bool true)] [] (CC.refl (fmc ⟨mcs, nim⟩)) ?_
     refine gd_done ?_
     refine qE ?_
     obtain rfl := some_inj hj24
     exact ge_mid fun t ht => ⟨(Imm.refl _), rfl, ht.pick (l := [0, 1, 5, 60]) (by kernel_rfl)⟩
    ·have hj24 := cond_f hc31 hj24
     refine dp 3 [0, 1, 5, 22, 33, 36] [(0, .pointer (some ⟨g0, 0, none⟩)), (1, .bool a1), (5, .int .i64 y1.f1), (22, .bool true), (33, .bool false), (36, .pointer (some ⟨g0, 0, none⟩))] (rng 25 24) (CC.refl (fmc ⟨mcs, nim⟩)) ?_
     refine gd_q (v := .string y1.f0) (by kernel_rfl) (by kernel_rfl) (CC.refl (fmc ⟨mcs, nim⟩)) (fun I' L' T hC kk => gl_loadB (T' := 9) (xp := (.tmp 36)) (v := .string y1.f0) (g := g0) (off := 0) (cs := #[.string y1.f0, .int .i64 s12, .int .i64 y1.f2]) (e := T0) (fz := (0, 0)) (by kernel_rfl) (by kernel_rfl) (by kernel_rfl) (hC.sub _ mcs) (by kernel_rfl) kk) ?_
     refine dp 3 [0, 1, 5, 22, 33, 37, 40] [(0, .pointer (some ⟨g0, 0, none⟩)), (1, .bool a1), (5, .int .i64 y1.f1), (22, .bool true), (33, .bool false), (37, .string y1.f0), (40, .pointer (some ⟨g0, 1, none⟩))] (rng 29 20) (CC.refl (fmc ⟨mcs, nim⟩)) ?_
     refine gd_q (v := .int .i64 s12) (by kernel_rfl) (by kernel_rfl) (CC.refl (fmc ⟨mcs, nim⟩)) (fun I' L' T hC kk => gl_loadB (T' := 3) (xp := (.tmp 40)) (v := .int .i64 s12) (g := g0) (off := 1) (cs := #[.string y1.f0, .int .i64 s12, .int .i64 y1.f2]) (e := T0) (fz := (0, 0)) (by kernel_rfl) (by kernel_rfl) (by kernel_rfl) (hC.sub _ mcs) (by kernel_rfl) kk) ?_
     obtain ⟨c32, hx33, hj24⟩ := bind_some hj24
     refine gd_q (v := .int .u8 c32) (by kernel_rfl) (by kernel_rfl) (CC.refl (fmc ⟨mcs, nim⟩)) (fun I' L' T hC kk => gl_index' (T' := 9) (xs := (.tmp 37)) (xi := (.tmp 41)) (kd := .i64) hx33 (by kernel_rfl) (by kernel_rfl) (by kernel_rfl) (by kernel_rfl) (by kernel_rfl) kk) ?_
     refine gd_q (v := .bool (tocsinref04_digit c32)) (by kernel_rfl) (by kernel_rfl) (CC.refl (fmc ⟨mcs, nim⟩)) (fun I' L' T hC kk => gl_callQ (by kernel_rfl) (tocsinref04_digit_walk (r := (tocsinref04_digit c32))  rfl _) kk) ?_
     refine dp 2 [0, 1, 5, 22, 45] [(0, .pointer (some ⟨g0, 0, none⟩)), (1, .bool a1), (5, .int .i64 y1.f1), (22, .bool true), (45, .bool (tocsinref04_digit c32))] (rng 34 15) (CC.refl (fmc ⟨mcs, nim⟩)) ?_
     refine gd_case 45 (b := (tocsinref04_digit c32)) (by kernel_rfl) (fun hc34 => ?_) (fun hc34 => ?_)
     ·have hj24 := cond_t hc34 hj24
      refine dp 15 [0, 1, 5, 60] [(0, .pointer (some ⟨g0, 0, none⟩)), (1, .bool a1), (5, .int .i64 y1.f1), (60, .bool true)] [] (CC.refl (fmc ⟨mcs, nim⟩)) ?_
      refine gd_done ?_
      refine qE ?_
      obtain rfl := some_inj hj24
      exact ge_mid fun t ht => ⟨(Imm.refl _), rfl, ht.pick (l := [0, 1, 5, 60]) (by kernel_rfl)⟩
     ·have hj24 := cond_f hc34 hj24
      refine dp 2 [0, 1, 5, 22, 45, 47] [(0, .pointer (some ⟨g0, 0, none⟩)), (1, .bool a1), (5, .int .i64 y1.f1), (22, .bool true), (45, .bool false), (47, .bool a1)] (rng 36 13) (CC.refl (fmc ⟨mcs, nim⟩)) ?_
      refine gd_case 47 (b := a1) (by kernel_rfl) (fun hc35 => ?_) (fun hc35 => ?_)
      ·have hj24 := cond_t hc35 hj24
       refine dp 3 [0, 1, 5, 22, 45, 47, 50] [(0, .pointer (some ⟨g0, 0, none⟩)), (1, .bool a1), (5, .int .i64 y1.f1), (22, .bool true), (45, .bool false), (47, .bool true), (50, .pointer (some ⟨g0, 0, none⟩))] (rng 39 10) (CC.refl (fmc ⟨mcs, nim⟩)) ?_
       refine gd_q (v := .string y1.f0) (by kernel_rfl) (by kernel_rfl) (CC.refl (fmc ⟨mcs, nim⟩)) (fun I' L' T hC kk => gl_loadB (T' := 9) (xp := (.tmp 50)) (v := .string y1.f0) (g := g0) (off := 0) (cs := #[.string y1.f0, .int .i64 s12, .int .i64 y1.f2]) (e := T0) (fz := (0, 0)) (by kernel_rfl) (by kernel_rfl) (by kernel_rfl) (hC.sub _ mcs) (by kernel_rfl) kk) ?_
       refine dp 3 [0, 1, 5, 22, 45, 47, 51, 54] [(0, .pointer (some ⟨g0, 0, none⟩)), (1, .bool a1), (5, .int .i64 y1.f1), (22, .bool true), (45, .bool false), (47, .bool true), (51, .string y1.f0), (54, .pointer (some ⟨g0, 1, none⟩))] (rng 43 6) (CC.refl (fmc ⟨mcs, nim⟩)) ?_
       refine gd_q (v := .int .i64 s12) (by kernel_rfl) (by kernel_rfl) (CC.refl (fmc ⟨mcs, nim⟩)) (fun I' L' T hC kk => gl_loadB (T' := 3) (xp := (.tmp 54)) (v := .int .i64 s12) (g := g0) (off := 1) (cs := #[.string y1.f0, .int .i64 s12, .int .i64 y1.f2]) (e := T0) (fz := (0, 0)) (by kernel_rfl) (by kernel_rfl) (by kernel_rfl) (hC.sub _ mcs) (by kernel_rfl) kk) ?_
       obtain ⟨c36, hx37, hj24⟩ := bind_some hj24
       refine gd_q (v := .int .u8 c36) (by kernel_rfl) (by kernel_rfl) (CC.refl (fmc ⟨mcs, nim⟩)) (fun I' L' T hC kk => gl_index' (T' := 9) (xs := (.tmp 51)) (xi := (.tmp 55)) (kd := .i64) hx37 (by kernel_rfl) (by kernel_rfl) (by kernel_rfl) (by kernel_rfl) (by kernel_rfl) kk) ?_
       refine dp 4 [0, 1, 5, 60] [(0, .pointer (some ⟨g0, 0, none⟩)), (1, .bool a1), (5, .int .i64 y1.f1), (60, .bool (c36 == 58))] [] (CC.refl (fmc ⟨mcs, nim⟩)) ?_
       refine gd_done ?_
       refine qE ?_
       obtain rfl := some_inj hj24
       exact ge_mid fun t ht => ⟨(Imm.refl _), rfl, ht.pick (l := [0, 1, 5, 60]) (by kernel_rfl)⟩
      ·have hj24 := cond_f hc35 hj24
       refine dp 13 [0, 1, 5, 60] [(0, .pointer (some ⟨g0, 0, none⟩)), (1, .bool a1), (5, .int .i64 y1.f1), (60, .bool false)] [] (CC.refl (fmc ⟨mcs, nim⟩)) ?_
       refine gd_done ?_
       refine qE ?_
       obtain rfl := some_inj hj24
       exact ge_mid fun t ht => ⟨(Imm.refl _), rfl, ht.pick (l := [0, 1, 5, 60]) (by kernel_rfl)⟩
   ·have hj24 := cond_f hc28 hj24
    refine dp 38 [0, 1, 5, 60] [(0, .pointer (some ⟨g0, 0, none⟩)), (1, .bool a1), (5, .int .i64 y1.f1), (60, .bool false)] [] (CC.refl (fmc ⟨mcs, nim⟩)) ?_
    refine gd_done ?_
    refine qE ?_
    obtain rfl := some_inj hj24
    exact ge_mid fun t ht => ⟨(Imm.refl _), rfl, ht.pick (l := [0, 1, 5, 60]) (by kernel_rfl)⟩
  ·rintro t I27 L' ⟨hI25, rfl, hK26⟩
   refine ge_at hK26 ?_
   refine qs ?_
   refine gk_cond (b := j23) (by kernel_rfl) (by kernel_rfl) (fun hc38 => ?_) (fun hc38 => ?_)
   ·have hb14 := cond_t hc38 hb14
    refine qx (qs (qb (qR (qp 3 [0, 1, 5, 61, 63] [(0, .pointer (some ⟨g0, 0, none⟩)), (1, .bool a1), (5, .int .i64 y1.f1), (61, .pointer (some ⟨g0, 0, none⟩)), (63, .pointer (some ⟨g0, 1, none⟩))] ?_))))
    refine gl_loadB (T' := 3) (xp := (.tmp 63)) (v := .int .i64 s12) (g := g0) (off := 1) (cs := #[.string y1.f0, .int .i64 s12, .int .i64 y1.f2]) (e := T0) (fz := (0, 0)) (by kernel_rfl) (by kernel_rfl) (by kernel_rfl) mcs (by kernel_rfl) ?_
    refine qp 3 [0, 1, 5, 65, 67] [(0, .pointer (some ⟨g0, 0, none⟩)), (1, .bool a1), (5, .int .i64 y1.f1), (65, .int .i64 (IntKind.wrap .i64 (s12 + 1))), (67, .pointer (some ⟨g0, 1, none⟩))] ?_
    refine gl_storeB (T' := 3) (xp := (.tmp 67)) (xv := (.tmp 65)) (v := .int .i64 (IntKind.wrap .i64 (s12 + 1))) (g := g0) (off := 1) (cs := #[.string y1.f0, .int .i64 s12, .int .i64 y1.f2]) (cs' := #[.string y1.f0, .int .i64 (IntKind.wrap .i64 (s12 + 1)), .int .i64 y1.f2]) (by kernel_rfl) (by kernel_rfl) (by kernel_rfl) (by kernel_rfl) (by kernel_rfl) (Upd.set _ _ _ _) ?_ (by kernel_rfl)
    refine qE (qn ?_)
    obtain rfl := some_inj hb14
    exact ge_round fun t ht => ⟨(Imm.trans hI15 hI25), rfl, ht.pick (l := [0, 1, 5]) (by kernel_rfl)⟩
   ·have hb14 := cond_f hc38 hb14
    refine qe (qf ?_)
    obtain rfl := some_inj hb14
    refine ge_round_out (fun hrr => ?_) (by intro h; cases h)
    obtain rfl := hrr
    refine qh ?_
    exact ge_mid fun t ht => ⟨(Imm.trans hI15 hI25), rfl, ht.pick (l := [0, 5]) (by kernel_rfl)⟩
 ·rintro t I20 L' ⟨hI18, rfl, hK19⟩
  refine ge_at hK19 ?_
  refine qs (qk ?_)
  refine gk_draw 11 (rng 0 11) [(g0, .cells #[.string y1.f0, .int .i64 r10, .int .i64 y1.f2] T0)] (fmc ⟨mcs, nim⟩) (by kernel_rfl) (by kernel_rfl) (by kernel_rfl) ?_ (by kernel_rfl)
  refine dp 3 [0, 5, 70] [(0, .pointer (some ⟨g0, 0, none⟩)), (5, .int .i64 y1.f1), (70, .pointer (some ⟨g0, 0, none⟩))] (rng 3 8) (CC.refl (fmc ⟨mcs, nim⟩)) ?_
  refine gd_q (v := .string y1.f0) (by kernel_rfl) (by kernel_rfl) (CC.refl (fmc ⟨mcs, nim⟩)) (fun I' L' T hC kk => gl_loadB (T' := 9) (xp := (.tmp 70)) (v := .string y1.f0) (g := g0) (off := 0) (cs := #[.string y1.f0, .int .i64 r10, .int .i64 y1.f2]) (e := T0) (fz := (0, 0)) (by kernel_rfl) (by kernel_rfl) (by kernel_rfl) (hC.sub _ mcs) (by kernel_rfl) kk) ?_
  refine dp 4 [71, 72, 75] [(71, .string y1.f0), (72, .int .i64 y1.f1), (75, .pointer (some ⟨g0, 1, none⟩))] [(8, true), (9, true), (10, true)] (CC.refl (fmc ⟨mcs, nim⟩)) ?_
  refine gd_q (v := .int .i64 r10) (by kernel_rfl) (by kernel_rfl) (CC.refl (fmc ⟨mcs, nim⟩)) (fun I' L' T hC kk => gl_loadB (T' := 3) (xp := (.tmp 75)) (v := .int .i64 r10) (g := g0) (off := 1) (cs := #[.string y1.f0, .int .i64 r10, .int .i64 y1.f2]) (e := T0) (fz := (0, 0)) (by kernel_rfl) (by kernel_rfl) (by kernel_rfl) (hC.sub _ mcs) (by kernel_rfl) kk) ?_
  obtain ⟨s40, hx39, hr⟩ := bind_some hr
  refine gd_q (v := .string s40) (by kernel_rfl) (by kernel_rfl) (CC.refl (fmc ⟨mcs, nim⟩)) (fun I' L' T hC kk => gl_slice' (T' := 9) (xs := (.tmp 71)) (lo := (some (.tmp 72))) (hi := (some (.tmp 76))) hx39 (by kernel_rfl) (by kernel_rfl) (by kernel_rfl) (by kernel_rfl) (by kernel_rfl) (by kernel_rfl) kk) ?_
  refine dp 1 [4] [(4, .string s40)] [] (CC.refl (fmc ⟨mcs, nim⟩)) ?_
  refine gd_done ?_
  refine qE (qs (qt ?_))
  obtain rfl := some_inj hr
  exact ge_result trivial (ResOk.tmp (by kernel_rfl) ResOk.nil) (Imm.trans hI5 hI18) ⟨rfl, rfl⟩
/-! 75 tocsinref04_Text_Fail ('obj', 'imm') -/
noncomputable def tocsinref04_Text_Fail (a0 : S97) (a1 : Int) : Option S97 :=
 Option.bind (bif (a0.f2 == 0) then
  (some (IntKind.wrap .i64 (a1 + 1)))
  else
  (some a0.f2)) fun (j1 : Int) =>
 some (⟨a0.f0, a0.f1, j1⟩ : S97)
theorem tocsinref04_Text_Fail_walk {a0 : S97} {g0 : Nat} {T0 : TypeId} {a1 : Int} {I : Imm} {r : S97}  (hr : tocsinref04_Text_Fail a0 a1 = some r) (L : Own) :
  CallsTo Tryz.prog 75 #[.pointer (some ⟨g0, 0, none⟩), .int .i64 a1] I ((g0, .cells #[.string a0.f0, .int .i64 a0.f1, .int .i64 a0.f2] T0) :: L) (fun v I' L' => v = .tuple #[] ∧ (g0, .cells #[.string r.f0, .int .i64 r.f1, .int .i64 r.f2] T0) :: L = L') := by
 unfold tocsinref04_Text_Fail at hr
 refine callsTo_body (N := 14) Tryz.func75 (by kernel_rfl) (by kernel_rfl) (by kernel_rfl) ?_
 refine qq [0, 1] [(0, .pointer (some ⟨g0, 0, none⟩)), (1, .int .i64 a1)] (qk (qR (qp 3 [0, 1, 6] [(0, .pointer (some ⟨g0, 0, none⟩)), (1, .int .i64 a1), (6, .pointer (some ⟨g0, 2, none⟩))] ?_)))
 refine gl_loadB (T' := 3) (xp := (.tmp 6)) (v := .int .i64 a0.f2) (g := g0) (off := 2) (cs := #[.string a0.f0, .int .i64 a0.f1, .int .i64 a0.f2]) (e := T0) (fz := (0, 0)) (by kernel_rfl) (by kernel_rfl) (by kernel_rfl) mcs (by kernel_rfl) ?_
 refine qp 1 [0, 1, 8] [(0, .pointer (some ⟨g0, 0, none⟩)), (1, .int .i64 a1), (8, .bool (a0.f2 == 0))] (qE (qs ?_))
 obtain ⟨j1, hj2, hr⟩ := bind_some hr
 refine gk_join (fun t I' L' => I ≤ I' ∧ (g0, .cells #[.string a0.f0, .int .i64 a0.f1, .int .i64 j1] T0) :: L = L' ∧ Knows 14 [] t) ?_ ?_
 ·refine gk_cond (b := (a0.f2 == 0)) (by kernel_rfl) (by kernel_rfl) (fun hc6 => ?_) (fun hc6 => ?_)
  ·have hj2 := cond_t hc6 hj2
   refine qR (qp 5 [11, 13] [(11, .int .i64 (IntKind.wrap .i64 (a1 + 1))), (13, .pointer (some ⟨g0, 2, none⟩))] ?_)
   refine gl_storeB (T' := 3) (xp := (.tmp 13)) (xv := (.tmp 11)) (v := .int .i64 (IntKind.wrap .i64 (a1 + 1))) (g := g0) (off := 2) (cs := #[.string a0.f0, .int .i64 a0.f1, .int .i64 a0.f2]) (cs' := #[.string a0.f0, .int .i64 a0.f1, .int .i64 (IntKind.wrap .i64 (a1 + 1))]) (by kernel_rfl) (by kernel_rfl) (by kernel_rfl) (by kernel_rfl) (by kernel_rfl) (Upd.set _ _ _ _) ?_ (by kernel_rfl)
   refine qE ?_
   obtain rfl := some_inj hj2
   exact ge_mid fun t ht => ⟨(Imm.refl _), rfl, ht.pick (l := []) (by kernel_rfl)⟩
  ·have hj2 := cond_f hc6 hj2
   refine qx ?_
   obtain rfl := some_inj hj2
   exact ge_mid fun t ht => ⟨(Imm.refl _), rfl, ht.pick (l := []) (by kernel_rfl)⟩
 ·rintro t I5 L' ⟨hI3, rfl, hK4⟩
  refine ge_at hK4 ?_
  obtain rfl := some_inj hr
  exact ge_result trivial ResOk.nil hI3 ⟨rfl, rfl⟩
/-! 76 tocsinref04_Text_Is ('obj', 'imm') -/
noncomputable def tocsinref04_Text_Is (a0 : S97) (a1 : Int) : Option (Bool × S97) :=
 Option.bind (tocsinref04_Text_Blanks a0) fun (y1 : S97) =>
 Option.bind (bif (decide (y1.f1 < (y1.f0.size : Int))) then
  (Option.bind (bx y1.f0 y1.f1) fun (c12 : Int) =>
   some (c12 == a1))
  else
  (some false)) fun (j6 : Bool) =>
 bif j6 then
 (some (true, (⟨y1.f0, (IntKind.wrap .i64 (y1.f1 + 1)), y1.f2⟩ : S97)))
 else
 (some (false, y1))
theorem tocsinref04_Text_Is_walk {a0 : S97} {g0 : Nat} {T0 : TypeId} {a1 : Int} {I : Imm} {r : Bool × S97}  (hr : tocsinref04_Text_Is a0 a1 = some r) (L : Own) :
  CallsTo Tryz.prog 76 #[.pointer (some ⟨g0, 0, none⟩), .int .u8 a1] I ((g0, .cells #[.string a0.f0, .int .i64 a0.f1, .int .i64 a0.f2] T0) :: L) (fun v I' L' => v = .bool r.1 ∧ (g0, .cells #[.string r.2.f0, .int .i64 r.2.f1, .int .i64 r.2.f2] T0) :: L = L') := by
 unfold tocsinref04_Text_Is at hr
 refine callsTo_body (N := 37) Tryz.func76 (by kernel_rfl) (by kernel_rfl) (by kernel_rfl) ?_
 refine qq [0, 1] [(0, .pointer (some ⟨g0, 0, none⟩)), (1, .int .u8 a1)] (qk (qR (qp 1 [0, 1] [(0, .pointer (some ⟨g0, 0, none⟩)), (1, .int .u8 a1)] (qE (qs (qk (qR (qp 1 [0, 1, 5] [(0, .pointer (some ⟨g0, 0, none⟩)), (1, .int .u8 a1), (5, .pointer (some ⟨g0, 0, none⟩))] ?_))))))))
 obtain ⟨y1, hx2, hr⟩ := bind_some hr
 refine gl_call (by kernel_rfl) (tocsinref04_Text_Blanks_walk (r := y1) (g0 := g0) (T0 := T0) (a0 := a0) hx2 _) ?_
 rintro v I3 L4 hI5 ⟨rfl, rfl⟩
 refine qE (qs (qk (qk ?_)))
 obtain ⟨j6, hj7, hr⟩ := bind_some hr
 refine gk_join (fun t I' L' => I3 ≤ I' ∧ (g0, .cells #[.string y1.f0, .int .i64 y1.f1, .int .i64 y1.f2] T0) :: L = L' ∧ Knows 37 [(0, .pointer (some ⟨g0, 0, none⟩)), (29, .bool j6)] t) ?_ ?_
 ·refine gk_draw 23 (rng 0 23) [(g0, .cells #[.string y1.f0, .int .i64 y1.f1, .int .i64 y1.f2] T0)] (fmc ⟨mcs, nim⟩) (by kernel_rfl) (by kernel_rfl) (by kernel_rfl) ?_ (by kernel_rfl)
  refine dp 3 [0, 1, 9] [(0, .pointer (some ⟨g0, 0, none⟩)), (1, .int .u8 a1), (9, .pointer (some ⟨g0, 1, none⟩))] (rng 3 20) (CC.refl (fmc ⟨mcs, nim⟩)) ?_
  refine gd_q (v := .int .i64 y1.f1) (by kernel_rfl) (by kernel_rfl) (CC.refl (fmc ⟨mcs, nim⟩)) (fun I' L' T hC kk => gl_loadB (T' := 3) (xp := (.tmp 9)) (v := .int .i64 y1.f1) (g := g0) (off := 1) (cs := #[.string y1.f0, .int .i64 y1.f1, .int .i64 y1.f2]) (e := T0) (fz := (0, 0)) (by kernel_rfl) (by kernel_rfl) (by kernel_rfl) (hC.sub _ mcs) (by kernel_rfl) kk) ?_
  refine dp 3 [0, 1, 10, 13] [(0, .pointer (some ⟨g0, 0, none⟩)), (1, .int .u8 a1), (10, .int .i64 y1.f1), (13, .pointer (some ⟨g0, 0, none⟩))] (rng 7 16) (CC.refl (fmc ⟨mcs, nim⟩)) ?_
  refine gd_q (v := .string y1.f0) (by kernel_rfl) (by kernel_rfl) (CC.refl (fmc ⟨mcs, nim⟩)) (fun I' L' T hC kk => gl_loadB (T' := 9) (xp := (.tmp 13)) (v := .string y1.f0) (g := g0) (off := 0) (cs := #[.string y1.f0, .int .i64 y1.f1, .int .i64 y1.f2]) (e := T0) (fz := (0, 0)) (by kernel_rfl) (by kernel_rfl) (by kernel_rfl) (hC.sub _ mcs) (by kernel_rfl) kk) ?_
  refine dp 3 [0, 1, 17] [(0, .pointer (some ⟨g0, 0, none⟩)), (1, .int .u8 a1), (17, .bool (decide (y1.f1 < (y1.f0.size : Int))))] (rng 11 12) (CC.refl (fmc ⟨mcs, nim⟩)) ?_
  refine gd_case 17 (b := (decide (y1.f1 < (y1.f0.size : Int)))) (by kernel_rfl) (fun hc11 => ?_) (fun hc11 => ?_)
  ·have hj7 := cond_t hc11 hj7
   refine dp 3 [0, 1, 17, 20] [(0, .pointer (some ⟨g0, 0, none⟩)), (1, .int .u8 a1), (17, .bool true), (20, .pointer (some ⟨g0, 0, none⟩))] (rng 14 9) (CC.refl (fmc ⟨mcs, nim⟩)) ?_
   refine gd_q (v := .string y1.f0) (by kernel_rfl) (by kernel_rfl) (CC.refl (fmc ⟨mcs, nim⟩)) (fun I' L' T hC kk => gl_loadB (T' := 9) (xp := (.tmp 20)) (v := .string y1.f0) (g := g0) (off := 0) (cs := #[.string y1.f0, .int .i64 y1.f1, .int .i64 y1.f2]) (e := T0) (fz := (0, 0)) (by kernel_rfl) (by kernel_rfl) (by kernel_rfl) (hC.sub _ mcs) (by kernel_rfl) kk) ?_
   refine dp 3 [0, 1, 17, 21, 24] [(0, .pointer (some ⟨g0, 0, none⟩)), (1, .int .u8 a1), (17, .bool true), (21, .string y1.f0), (24, .pointer (some ⟨g0, 1, none⟩))] (rng 18 5) (CC.refl (fmc ⟨mcs, nim⟩)) ?_
   refine gd_q (v := .int .i64 y1.f1) (by kernel_rfl) (by kernel_rfl) (CC.refl (fmc ⟨mcs, nim⟩)) (fun I' L' T hC kk => gl_loadB (T' := 3) (xp := (.tmp 24)) (v := .int .i64 y1.f1) (g := g0) (off := 1) (cs := #[.string y1.f0, .int .i64 y1.f1, .int .i64 y1.f2]) (e := T0) (fz := (0, 0)) (by kernel_rfl) (by kernel_rfl) (by kernel_rfl) (hC.sub _ mcs) (by kernel_rfl) kk) ?_
   obtain ⟨c12, hx13, hj7⟩ := bind_some hj7
   refine gd_q (v := .int .u8 c12) (by kernel_rfl) (by kernel_rfl) (CC.refl (fmc ⟨mcs, nim⟩)) (fun I' L' T hC kk => gl_index' (T' := 9) (xs := (.tmp 21)) (xi := (.tmp 25)) (kd := .i64) hx13 (by kernel_rfl) (by kernel_rfl) (by kernel_rfl) (by kernel_rfl) (by kernel_rfl) kk) ?_
   refine dp 3 [0, 29] [(0, .pointer (some ⟨g0, 0, none⟩)), (29, .bool (c12 == a1))] [] (CC.refl (fmc ⟨mcs, nim⟩)) ?_
   refine gd_done ?_
   refine qE ?_
   obtain rfl := some_inj hj7
   exact ge_mid fun t ht => ⟨(Imm.refl _), rfl, ht.pick (l := [0, 29]) (by kernel_rfl)⟩
  ·have hj7 := cond_f hc11 hj7
   refine dp 12 [0, 29] [(0, .pointer (some ⟨g0, 0, none⟩)), (29, .bool false)] [] (CC.refl (fmc ⟨mcs, nim⟩)) ?_
   refine gd_done ?_
   refine qE ?_
   obtain rfl := some_inj hj7
   exact ge_mid fun t ht => ⟨(Imm.refl _), rfl, ht.pick (l := [0, 29]) (by kernel_rfl)⟩
 ·rintro t I10 L' ⟨hI8, rfl, hK9⟩
  refine ge_at hK9 ?_
  refine qs ?_
  refine gk_cond (b := j6) (by kernel_rfl) (by kernel_rfl) (fun hc14 => ?_) (fun hc14 => ?_)
  ·have hr := cond_t hc14 hr
   refine qk (qR (qp 3 [30, 32] [(30, .pointer (some ⟨g0, 0, none⟩)), (32, .pointer (some ⟨g0, 1, none⟩))] ?_))
   refine gl_loadB (T' := 3) (xp := (.tmp 32)) (v := .int .i64 y1.f1) (g := g0) (off := 1) (cs := #[.string y1.f0, .int .i64 y1.f1, .int .i64 y1.f2]) (e := T0) (fz := (0, 0)) (by kernel_rfl) (by kernel_rfl) (by kernel_rfl) mcs (by kernel_rfl) ?_
   refine qp 3 [34, 36] [(34, .int .i64 (IntKind.wrap .i64 (y1.f1 + 1))), (36, .pointer (some ⟨g0, 1, none⟩))] ?_
   refine gl_storeB (T' := 3) (xp := (.tmp 36)) (xv := (.tmp 34)) (v := .int .i64 (IntKind.wrap .i64 (y1.f1 + 1))) (g := g0) (off := 1) (cs := #[.string y1.f0, .int .i64 y1.f1, .int .i64 y1.f2]) (cs' := #[.string y1.f0, .int .i64 (IntKind.wrap .i64 (y1.f1 + 1)), .int .i64 y1.f2]) (by kernel_rfl) (by kernel_rfl) (by kernel_rfl) (by kernel_rfl) (by kernel_rfl) (Upd.set _ _ _ _) ?_ (by kernel_rfl)
   refine qE (qs (qk (qR (qp 1 [4] [(4, .bool true)] (qE (qs (qt (qu ?_))))))))
   obtain rfl := some_inj hr
   exact ge_result trivial (ResOk.tmp (by kernel_rfl) ResOk.nil) (Imm.trans hI5 hI8) ⟨rfl, rfl⟩
  ·have hr := cond_f hc14 hr
   refine qx (qs (qk (qR (qp 1 [4] [(4, .bool false)] (qE (qs (qt ?_)))))))
   obtain rfl := some_inj hr
   exact ge_result trivial (ResOk.tmp (by kernel_rfl) ResOk.nil) (Imm.trans hI5 hI8) ⟨rfl, rfl⟩
/-! 117 tocsinref04_Text_Want ('obj', 'imm') -/
noncomputable def tocsinref04_Text_Want (a0 : S97) (a1 : Int) : Option S97 :=
 Option.bind (bif (a0.f2 == 0) then
  (Option.bind (tocsinref04_Text_Is a0 a1) fun (y7 : Bool × S97) =>
   some ((!y7.1), y7.2.f0, y7.2.f1, y7.2.f2))
  else
  (some (false, a0.f0, a0.f1, a0.f2))) fun (j1 : Bool × ByteArray × Int × Int) =>
 Option.bind (bif j1.1 then
  (Option.bind (tocsinref04_Text_Fail (⟨j1.2.1, j1.2.2.1, j1.2.2.2⟩ : S97) j1.2.2.1) fun (y18 : S97) =>
   some (y18.f0, y18.f1, y18.f2))
  else
  (some (j1.2.1, j1.2.2.1, j1.2.2.2))) fun (j12 : ByteArray × Int × Int) =>
 some (⟨j12.1, j12.2.1, j12.2.2⟩ : S97)
theorem tocsinref04_Text_Want_walk {a0 : S97} {g0 : Nat} {T0 : TypeId} {a1 : Int} {I : Imm} {r : S97}  (hr : tocsinref04_Text_Want a0 a1 = some r) (L : Own) :
  CallsTo Tryz.prog 117 #[.pointer (some ⟨g0, 0, none⟩), .int .u8 a1] I ((g0, .cells #[.string a0.f0, .int .i64 a0.f1, .int .i64 a0.f2] T0) :: L) (fun v I' L' => v = .tuple #[] ∧ (g0, .cells #[.string r.f0, .int .i64 r.f1, .int .i64 r.f2] T0) :: L = L') := by
 unfold tocsinref04_Text_Want at hr
 refine callsTo_body (N := 21) Tryz.func117 (by kernel_rfl) (by kernel_rfl) (by kernel_rfl) ?_
 refine qq [0, 1] [(0, .pointer (some ⟨g0, 0, none⟩)), (1, .int .u8 a1)] (qk ?_)
 obtain ⟨j1, hj2, hr⟩ := bind_some hr
 refine gk_join (fun t I' L' => I ≤ I' ∧ (g0, .cells #[.string j1.2.1, .int .i64 j1.2.2.1, .int .i64 j1.2.2.2] T0) :: L = L' ∧ Knows 21 [(0, .pointer (some ⟨g0, 0, none⟩)), (14, .bool j1.1)] t) ?_ ?_
 ·refine qR (qp 3 [0, 1, 6] [(0, .pointer (some ⟨g0, 0, none⟩)), (1, .int .u8 a1), (6, .pointer (some ⟨g0, 2, none⟩))] ?_)
  refine gl_loadB (T' := 3) (xp := (.tmp 6)) (v := .int .i64 a0.f2) (g := g0) (off := 2) (cs := #[.string a0.f0, .int .i64 a0.f1, .int .i64 a0.f2]) (e := T0) (fz := (0, 0)) (by kernel_rfl) (by kernel_rfl) (by kernel_rfl) mcs (by kernel_rfl) ?_
  refine qp 2 [0, 1, 9] [(0, .pointer (some ⟨g0, 0, none⟩)), (1, .int .u8 a1), (9, .bool (a0.f2 == 0))] ?_
  refine gl_case 9 (b := (a0.f2 == 0)) (by kernel_rfl) (fun hc6 => ?_) (fun hc6 => ?_)
  ·have hj2 := cond_t hc6 hj2
   refine qp 2 [0, 9, 10, 11] [(0, .pointer (some ⟨g0, 0, none⟩)), (9, .bool true), (10, .pointer (some ⟨g0, 0, none⟩)), (11, .int .u8 a1)] ?_
   obtain ⟨y7, hx8, hj2⟩ := bind_some hj2
   refine gl_call (by kernel_rfl) (tocsinref04_Text_Is_walk (r := y7) (g0 := g0) (T0 := T0) (a0 := a0) hx8 _) ?_
   rintro v I9 L10 hI11 ⟨rfl, rfl⟩
   refine qp 2 [0, 14] [(0, .pointer (some ⟨g0, 0, none⟩)), (14, .bool (!y7.1))] (qE ?_)
   obtain rfl := some_inj hj2
   exact ge_mid fun t ht => ⟨hI11, rfl, ht.pick (l := [0, 14]) (by kernel_rfl)⟩
  ·have hj2 := cond_f hc6 hj2
   refine qp 5 [0, 14] [(0, .pointer (some ⟨g0, 0, none⟩)), (14, .bool false)] (qE ?_)
   obtain rfl := some_inj hj2
   exact ge_mid fun t ht => ⟨(Imm.refl _), rfl, ht.pick (l := [0, 14]) (by kernel_rfl)⟩
 ·rintro t I5 L' ⟨hI3, rfl, hK4⟩
  refine ge_at hK4 ?_
  refine qs ?_
  obtain ⟨j12, hj13, hr⟩ := bind_some hr
  refine gk_join (fun t I' L' => I5 ≤ I' ∧ (g0, .cells #[.string j12.1, .int .i64 j12.2.1, .int .i64 j12.2.2] T0) :: L = L' ∧ Knows 21 [] t) ?_ ?_
  ·refine gk_cond (b := j1.1) (by kernel_rfl) (by kernel_rfl) (fun hc17 => ?_) (fun hc17 => ?_)
   ·have hj13 := cond_t hc17 hj13
    refine qR (qp 4 [15, 18] [(15, .pointer (some ⟨g0, 0, none⟩)), (18, .pointer (some ⟨g0, 1, none⟩))] ?_)
    refine gl_loadB (T' := 3) (xp := (.tmp 18)) (v := .int .i64 j1.2.2.1) (g := g0) (off := 1) (cs := #[.string j1.2.1, .int .i64 j1.2.2.1, .int .i64 j1.2.2.2]) (e := T0) (fz := (0, 0)) (by kernel_rfl) (by kernel_rfl) (by kernel_rfl) mcs (by kernel_rfl) ?_
    obtain ⟨y18, hx19, hj13⟩ := bind_some hj13
    refine gl_call (by kernel_rfl) (tocsinref04_Text_Fail_walk (r := y18) (g0 := g0) (T0 := T0) (a0 := (⟨j1.2.1, j1.2.2.1, j1.2.2.2⟩ : S97)) hx19 _) ?_
    rintro v I20 L21 hI22 ⟨rfl, rfl⟩
    refine qE ?_
    obtain rfl := some_inj hj13
    exact ge_mid fun t ht => ⟨hI22, rfl, ht.pick (l := []) (by kernel_rfl)⟩
   ·have hj13 := cond_f hc17 hj13
    refine qx ?_
    obtain rfl := some_inj hj13
    exact ge_mid fun t ht => ⟨(Imm.refl _), rfl, ht.pick (l := []) (by kernel_rfl)⟩
  ·rintro t I16 L' ⟨hI14, rfl, hK15⟩
   refine ge_at hK15 ?_
   obtain rfl := some_inj hr
   exact ge_result trivial ResOk.nil (Imm.trans hI3 hI14) ⟨rfl, rfl⟩
/-! 118 tocsinref04_Text_Value ('obj',) -/
noncomputable def tocsinref04_Text_Value_l30 : (ByteArray × Int × Int × (List Int)) → Option ((ByteArray × Int × Int × (List Int)) ⊕ ((ByteArray × Int × Int) ⊕ (ByteArray × S97))) := fun s16 =>
 bif (s16.2.2.1 == 0) then
 (bif (decide (s16.2.1 ≥ (s16.1.size : Int))) then
  (Option.bind (tocsinref04_Text_Fail (⟨s16.1, s16.2.1, s16.2.2.1⟩ : S97) s16.2.1) fun (y34 : S97) =>
   some (Sum.inr (Sum.inl (y34.f0, y34.f1, y34.f2))))
  else
  (Option.bind (bx s16.1 s16.2.1) fun (c39 : Int) =>
   bif (c39 == 34) then
   (some (Sum.inr (Sum.inr ((ofBytes s16.2.2.2), (⟨s16.1, (IntKind.wrap .i64 (s16.2.1 + 1)), s16.2.2.1⟩ : S97)))))
   else
   (Option.bind ((bif (c39 == 92) then
     (bif (decide ((IntKind.wrap .i64 (s16.2.1 + 1)) ≥ (s16.1.size : Int))) then
      (Option.bind (tocsinref04_Text_Fail (⟨s16.1, (IntKind.wrap .i64 (s16.2.1 + 1)), s16.2.2.1⟩ : S97) (IntKind.wrap .i64 (s16.2.1 + 1))) fun (y50 : S97) =>
       some (Sum.inr (Sum.inr (Sum.inl (y50.f0, y50.f1, y50.f2)))))
      else
      (Option.bind (bx s16.1 (IntKind.wrap .i64 (s16.2.1 + 1))) fun (c55 : Int) =>
       Option.bind (bif (c55 == 110) then
        (some (10, s16.1, (IntKind.wrap .i64 (s16.2.1 + 1)), s16.2.2.1))
        else
        (Option.bind (bif ((c55 != 92) && (c55 != 34)) then
          (Option.bind (tocsinref04_Text_Fail (⟨s16.1, (IntKind.wrap .i64 (s16.2.1 + 1)), s16.2.2.1⟩ : S97) (IntKind.wrap .i64 ((IntKind.wrap .i64 (s16.2.1 + 1)) - 1))) fun (y73 : S97) =>
           some (y73.f0, y73.f1, y73.f2))
          else
          (some (s16.1, (IntKind.wrap .i64 (s16.2.1 + 1)), s16.2.2.1))) fun (j67 : ByteArray × Int × Int) =>
         some (c55, j67.1, j67.2.1, j67.2.2))) fun (j57 : Int × ByteArray × Int × Int) =>
       some (Sum.inl (j57.1, j57.2.1, (IntKind.wrap .i64 (j57.2.2.1 + 1)), j57.2.2.2))))
     else
     (some (Sum.inl (c39, s16.1, (IntKind.wrap .i64 (s16.2.1 + 1)), s16.2.2.1))) : Option ((Int × ByteArray × Int × Int) ⊕ ((ByteArray × Int × Int × (List Int)) ⊕ ((ByteArray × Int × Int) ⊕ (ByteArray × S97)))))) fun (j42 : (Int × ByteArray × Int × Int) ⊕ ((ByteArray × Int × Int × (List Int)) ⊕ ((ByteArray × Int × Int) ⊕ (ByteArray × S97)))) =>
    match j42 with
    | Sum.inl j44 => Option.bind (app s16.2.2.2 [j44.1]) fun (zs82 : List Int) =>
     some (Sum.inl (j44.2.1, j44.2.2.1, j44.2.2.2, zs82))
    | Sum.inr v88 => some v88)))
 else
 (some (Sum.inr (Sum.inl (s16.1, s16.2.1, s16.2.2.1))))
noncomputable def tocsinref04_Text_Value (a0 : S97) : Option (ByteArray × S97) :=
 Option.bind (tocsinref04_Text_Want a0 34) fun (y1 : S97) =>
 Option.bind (loopO tocsinref04_Text_Value_l30 (y1.f0, y1.f1, y1.f2, [])) fun (r14 : (ByteArray × Int × Int) ⊕ (ByteArray × S97)) =>
 match r14 with
 | Sum.inl r26 => some ((⟨#[]⟩ : ByteArray), (⟨r26.1, r26.2.1, r26.2.2⟩ : S97))
 | Sum.inr v89 => some v89
theorem tocsinref04_Text_Value_walk {a0 : S97} {g0 : Nat} {T0 : TypeId} {I : Imm} {r : ByteArray × S97}  (hr : tocsinref04_Text_Value a0 = some r) (L : Own) :
  CallsTo Tryz.prog 118 #[.pointer (some ⟨g0, 0, none⟩)] I ((g0, .cells #[.string a0.f0, .int .i64 a0.f1, .int .i64 a0.f2] T0) :: L) (fun v I' L' => v = .string r.1 ∧ (g0, .cells #[.string r.2.f0, .int .i64 r.2.f1, .int .i64 r.2.f2] T0) :: L = L') := by
 unfold tocsinref04_Text_Value at hr
 refine callsTo_body (N := 101) Tryz.func118 (by kernel_rfl) (by kernel_rfl) (by kernel_rfl) ?_
 refine qq [0] [(0, .pointer (some ⟨g0, 0, none⟩))] (qk (qR (qp 1 [0] [(0, .pointer (some ⟨g0, 0, none⟩))] (qE (qs (qk (qR (qp 1 [0, 5] [(0, .pointer (some ⟨g0, 0, none⟩)), (5, .pointer (some ⟨g0, 0, none⟩))] ?_))))))))
 obtain ⟨y1, hx2, hr⟩ := bind_some hr
 refine gl_call (by kernel_rfl) (tocsinref04_Text_Want_walk (r := y1) (g0 := g0) (T0 := T0) (a0 := a0) hx2 _) ?_
 rintro v I3 L4 hI5 ⟨rfl, rfl⟩
 refine qE (qs (qk (qR (qp 1 [0, 3] [(0, .pointer (some ⟨g0, 0, none⟩)), (3, .slice none 0 0)] (qE (qs (qk ?_)))))))
 obtain ⟨r14, hl15, hr⟩ := bind_some hr
 refine gk_join (fun t I' L' => ∃ r26, r14 = Sum.inl r26 ∧ I3 ≤ I' ∧ (g0, .cells #[.string r26.1, .int .i64 r26.2.1, .int .i64 r26.2.2] T0) :: L = L' ∧ Knows 101 [] t) ?_ ?_
 ·refine qb (qq [0, 3] [(0, .pointer (some ⟨g0, 0, none⟩)), (3, .slice none 0 0)] ?_)
  intro t hK
  refine gc_loop (tocsinref04_Text_Value_l30) (fun s16 t I' L' => ∃ A20 n21 C22, OwnS (Kd.int .u8) 5 I' A20 n21 s16.2.2.2 C22 ∧ I3 ≤ I' ∧ C22 ++ ((g0, .cells #[.string s16.1, .int .i64 s16.2.1, .int .i64 s16.2.2.1] T0) :: L) = L' ∧ Knows 101 [(0, .pointer (some ⟨g0, 0, none⟩)), (3, .slice A20 s16.2.2.2.length n21)] t) (by kernel_rfl) ?_ hl15 ⟨none, 0, [], OwnS.nil _ _ _ _, (Imm.refl _), rfl, hK⟩
  rintro s16 o17 t I25 L' hb18 ⟨A20, n21, C22, hO23, hI19, rfl, hK24⟩
  unfold tocsinref04_Text_Value_l30 at hb18
  refine gk_at hK24 ?_
  refine qk (qk (qR (qp 3 [0, 3, 9] [(0, .pointer (some ⟨g0, 0, none⟩)), (3, .slice A20 s16.2.2.2.length n21), (9, .pointer (some ⟨g0, 2, none⟩))] ?_)))
  refine gl_loadB (T' := 3) (xp := (.tmp 9)) (v := .int .i64 s16.2.2.1) (g := g0) (off := 2) (cs := #[.string s16.1, .int .i64 s16.2.1, .int .i64 s16.2.2.1]) (e := T0) (fz := (0, 0)) (by kernel_rfl) (by kernel_rfl) (by kernel_rfl) (mar mcs) (by kernel_rfl) ?_
  refine qp 1 [0, 3, 11] [(0, .pointer (some ⟨g0, 0, none⟩)), (3, .slice A20 s16.2.2.2.length n21), (11, .bool (s16.2.2.1 == 0))] (qE (qs ?_))
  refine gk_cond (b := (s16.2.2.1 == 0)) (by kernel_rfl) (by kernel_rfl) (fun hc32 => ?_) (fun hc32 => ?_)
  ·have hb18 := cond_t hc32 hb18
   refine qx (qs (qb (qk (qk ?_))))
   refine gk_draw 10 (rng 0 10) [(g0, .cells #[.string s16.1, .int .i64 s16.2.1, .int .i64 s16.2.2.1] T0)] (fmc ⟨(mar mcs), nim⟩) (by kernel_rfl) (by kernel_rfl) (by kernel_rfl) ?_ (by kernel_rfl)
   refine dp 3 [0, 3, 14] [(0, .pointer (some ⟨g0, 0, none⟩)), (3, .slice A20 s16.2.2.2.length n21), (14, .pointer (some ⟨g0, 1, none⟩))] (rng 3 7) (CC.refl (fmc ⟨(mar mcs), nim⟩)) ?_
   refine gd_q (v := .int .i64 s16.2.1) (by kernel_rfl) (by kernel_rfl) (CC.refl (fmc ⟨(mar mcs), nim⟩)) (fun I' L' T hC kk => gl_loadB (T' := 3) (xp := (.tmp 14)) (v := .int .i64 s16.2.1) (g := g0) (off := 1) (cs := #[.string s16.1, .int .i64 s16.2.1, .int .i64 s16.2.2.1]) (e := T0) (fz := (0, 0)) (by kernel_rfl) (by kernel_rfl) (by kernel_rfl) (hC.sub _ mcs) (by kernel_rfl) kk) ?_
   refine dp 3 [0, 3, 15, 18] [(0, .pointer (some ⟨g0, 0, none⟩)), (3, .slice A20 s16.2.2.2.length n21), (15, .int .i64 s16.2.1), (18, .pointer (some ⟨g0, 0, none⟩))] [(7, true), (8, true), (9, true)] (CC.refl (fmc ⟨(mar mcs), nim⟩)) ?_
   refine gd_q (v := .string s16.1) (by kernel_rfl) (by kernel_rfl) (CC.refl (fmc ⟨(mar mcs), nim⟩)) (fun I' L' T hC kk => gl_loadB (T' := 9) (xp := (.tmp 18)) (v := .string s16.1) (g := g0) (off := 0) (cs := #[.string s16.1, .int .i64 s16.2.1, .int .i64 s16.2.2.1]) (e := T0) (fz := (0, 0)) (by kernel_rfl) (by kernel_rfl) (by kernel_rfl) (hC.sub _ mcs) (by kernel_rfl) kk) ?_
   refine dp 2 [0, 3, 21] [(0, .pointer (some ⟨g0, 0, none⟩)), (3, .slice A20 s16.2.2.2.length n21), (21, .bool (decide (s16.2.1 ≥ (s16.1.size : Int))))] [] (CC.refl (fmc ⟨(mar mcs), nim⟩)) ?_
   refine gd_done ?_
   refine qE (qs ?_)
   refine gk_cond (b := (decide (s16.2.1 ≥ (s16.1.size : Int)))) (by kernel_rfl) (by kernel_rfl) (fun hc33 => ?_) (fun hc33 => ?_)
   ·have hb18 := cond_t hc33 hb18
    refine qk (qR (qp 4 [22, 25] [(22, .pointer (some ⟨g0, 0, none⟩)), (25, .pointer (some ⟨g0, 1, none⟩))] ?_))
    refine gl_loadB (T' := 3) (xp := (.tmp 25)) (v := .int .i64 s16.2.1) (g := g0) (off := 1) (cs := #[.string s16.1, .int .i64 s16.2.1, .int .i64 s16.2.2.1]) (e := T0) (fz := (0, 0)) (by kernel_rfl) (by kernel_rfl) (by kernel_rfl) (mar mcs) (by kernel_rfl) ?_
    obtain ⟨y34, hx35, hb18⟩ := bind_some hb18
    refine gl_reord (D := (g0, .cells #[.string s16.1, .int .i64 s16.2.1, .int .i64 s16.2.2.1] T0) :: (C22 ++ L)) (Reord.step1 (Upd.app _ (Upd.rm1 _ _)) (Reord.step (Upd.rmC _ _) (Reord.refl _))) ?_
    refine gl_call (by kernel_rfl) (tocsinref04_Text_Fail_walk (r := y34) (g0 := g0) (T0 := T0) (a0 := (⟨s16.1, s16.2.1, s16.2.2.1⟩ : S97)) hx35 _) ?_
    rintro v I36 L37 hI38 ⟨rfl, rfl⟩
    refine qE (qs ?_)
    refine gk_reord (D := (g0, .cells #[.string y34.f0, .int .i64 y34.f1, .int .i64 y34.f2] T0) :: L) (Reord.step1 (Upd.rm1 _ _) (Reord.skipC (Reord.refl _))) ?_
    refine qe (qf (qm ?_))
    obtain rfl := some_inj hb18
    refine ge_round_out (fun hrr => ?_) (by intro h; cases h)
    obtain rfl := hrr
    refine qh ?_
    exact ge_mid fun t ht => ⟨_, rfl, (Imm.trans hI19 hI38), rfl, ht.pick (l := []) (by kernel_rfl)⟩
   ·have hb18 := cond_f hc33 hb18
    refine qx (qs (qk ?_))
    refine gk_draw 10 (rng 0 10) [(g0, .cells #[.string s16.1, .int .i64 s16.2.1, .int .i64 s16.2.2.1] T0)] (fmc ⟨(mar mcs), nim⟩) (by kernel_rfl) (by kernel_rfl) (by kernel_rfl) ?_ (by kernel_rfl)
    refine dp 3 [0, 3, 30] [(0, .pointer (some ⟨g0, 0, none⟩)), (3, .slice A20 s16.2.2.2.length n21), (30, .pointer (some ⟨g0, 0, none⟩))] (rng 3 7) (CC.refl (fmc ⟨(mar mcs), nim⟩)) ?_
    refine gd_q (v := .string s16.1) (by kernel_rfl) (by kernel_rfl) (CC.refl (fmc ⟨(mar mcs), nim⟩)) (fun I' L' T hC kk => gl_loadB (T' := 9) (xp := (.tmp 30)) (v := .string s16.1) (g := g0) (off := 0) (cs := #[.string s16.1, .int .i64 s16.2.1, .int .i64 s16.2.2.1]) (e := T0) (fz := (0, 0)) (by kernel_rfl) (by kernel_rfl) (by kernel_rfl) (hC.sub _ mcs) (by kernel_rfl) kk) ?_
    refine dp 3 [0, 3, 31, 34] [(0, .pointer (some ⟨g0, 0, none⟩)), (3, .slice A20 s16.2.2.2.length n21), (31, .string s16.1), (34, .pointer (some ⟨g0, 1, none⟩))] [(7, true), (8, true), (9, true)] (CC.refl (fmc ⟨(mar mcs), nim⟩)) ?_
    refine gd_q (v := .int .i64 s16.2.1) (by kernel_rfl) (by kernel_rfl) (CC.refl (fmc ⟨(mar mcs), nim⟩)) (fun I' L' T hC kk => gl_loadB (T' := 3) (xp := (.tmp 34)) (v := .int .i64 s16.2.1) (g := g0) (off := 1) (cs := #[.string s16.1, .int .i64 s16.2.1, .int .i64 s16.2.2.1]) (e := T0) (fz := (0, 0)) (by kernel_rfl) (by kernel_rfl) (by kernel_rfl) (hC.sub _ mcs) (by kernel_rfl) kk) ?_
    obtain ⟨c39, hx40, hb18⟩ := bind_some hb18
    refine gd_q (v := .int .u8 c39) (by kernel_rfl) (by kernel_rfl) (CC.refl (fmc ⟨(mar mcs), nim⟩)) (fun I' L' T hC kk => gl_index' (T' := 9) (xs := (.tmp 31)) (xi := (.tmp 35)) (kd := .i64) hx40 (by kernel_rfl) (by kernel_rfl) (by kernel_rfl) (by kernel_rfl) (by kernel_rfl) kk) ?_
    refine dp 1 [0, 3, 4] [(0, .pointer (some ⟨g0, 0, none⟩)), (3, .slice A20 s16.2.2.2.length n21), (4, .int .u8 c39)] [] (CC.refl (fmc ⟨(mar mcs), nim⟩)) ?_
    refine gd_done ?_
    refine qE (qs (qk (qR (qp 3 [0, 3, 4, 37, 39] [(0, .pointer (some ⟨g0, 0, none⟩)), (3, .slice A20 s16.2.2.2.length n21), (4, .int .u8 c39), (37, .pointer (some ⟨g0, 0, none⟩)), (39, .pointer (some ⟨g0, 1, none⟩))] ?_))))
    refine gl_loadB (T' := 3) (xp := (.tmp 39)) (v := .int .i64 s16.2.1) (g := g0) (off := 1) (cs := #[.string s16.1, .int .i64 s16.2.1, .int .i64 s16.2.2.1]) (e := T0) (fz := (0, 0)) (by kernel_rfl) (by kernel_rfl) (by kernel_rfl) (mar mcs) (by kernel_rfl) ?_
    refine qp 3 [0, 3, 4, 41, 43] [(0, .pointer (some ⟨g0, 0, none⟩)), (3, .slice A20 s16.2.2.2.length n21), (4, .int .u8 c39), (41, .int .i64 (IntKind.wrap .i64 (s16.2.1 + 1))), (43, .pointer (some ⟨g0, 1, none⟩))] ?_
    refine gl_storeB (T' := 3) (xp := (.tmp 43)) (xv := (.tmp 41)) (v := .int .i64 (IntKind.wrap .i64 (s16.2.1 + 1))) (g := g0) (off := 1) (cs := #[.string s16.1, .int .i64 s16.2.1, .int .i64 s16.2.2.1]) (cs' := #[.string s16.1, .int .i64 (IntKind.wrap .i64 (s16.2.1 + 1)), .int .i64 s16.2.2.1]) (by kernel_rfl) (by kernel_rfl) (by kernel_rfl) (by kernel_rfl) (by kernel_rfl) (Upd.app _ (Upd.set _ _ _ _)) ?_ (by kernel_rfl)
    refine qE (qs (qk (qk (qR (qp 2 [0, 3, 4, 45] [(0, .pointer (some ⟨g0, 0, none⟩)), (3, .slice A20 s16.2.2.2.length n21), (4, .int .u8 c39), (45, .bool (c39 == 34))] (qE (qs ?_)))))))
    refine gk_cond (b := (c39 == 34)) (by kernel_rfl) (by kernel_rfl) (fun hc41 => ?_) (fun hc41 => ?_)
    ·have hb18 := cond_t hc41 hb18
     refine qk (qR (qp 1 [46] [(46, .slice A20 s16.2.2.2.length n21)] ?_))
     refine gl_bytesStr (c := n21) (src := 51) (dst := 9) (e := 5) (n := 1) (x := (.tmp 46)) (by kernel_rfl) (by kernel_rfl) (by kernel_rfl) (by kernel_rfl) (by kernel_rfl) (by kernel_rfl) (OwnS.rd hO23 (Upd.selfC _ _)) ?_
     refine qp 1 [2] [(2, .string (ofBytes s16.2.2.2))] (qE (qs ?_))
     refine gk_reord (D := (g0, .cells #[.string s16.1, .int .i64 (IntKind.wrap .i64 (s16.2.1 + 1)), .int .i64 s16.2.2.1] T0) :: L) (Reord.step1 (Upd.app _ (Upd.rm1 _ _)) (Reord.skipC (Reord.refl _))) ?_
     refine qt (qu (qv ?_))
     obtain rfl := some_inj hb18
     refine ge_round_out (fun hrr => ?_) (by intro h; cases h)
     obtain rfl := hrr
     refine qv (qu (qu ?_))
     obtain rfl := some_inj hr
     exact ge_result trivial (ResOk.tmp (by kernel_rfl) ResOk.nil) (Imm.trans hI5 hI19) ⟨rfl, rfl⟩
    ·have hb18 := cond_f hc41 hb18
     refine qx (qs (qk (qk (qR (qp 2 [0, 3, 4, 49] [(0, .pointer (some ⟨g0, 0, none⟩)), (3, .slice A20 s16.2.2.2.length n21), (4, .int .u8 c39), (49, .bool (c39 == 92))] (qE (qs ?_)))))))
     obtain ⟨j42, hj43, hb18⟩ := bind_some hb18
     refine gk_join (fun t I' L' => ∃ j44, j42 = Sum.inl j44 ∧ I25 ≤ I' ∧ C22 ++ ((g0, .cells #[.string j44.2.1, .int .i64 j44.2.2.1, .int .i64 j44.2.2.2] T0) :: L) = L' ∧ Knows 101 [(0, .pointer (some ⟨g0, 0, none⟩)), (3, .slice A20 s16.2.2.2.length n21), (4, .int .u8 j44.1)] t) ?_ ?_
     ·refine gk_cond (b := (c39 == 92)) (by kernel_rfl) (by kernel_rfl) (fun hc48 => ?_) (fun hc48 => ?_)
      ·have hj43 := cond_t hc48 hj43
       refine qk (qk ?_)
       refine gk_draw 10 (rng 0 10) [(g0, .cells #[.string s16.1, .int .i64 (IntKind.wrap .i64 (s16.2.1 + 1)), .int .i64 s16.2.2.1] T0)] (fmc ⟨(mar mcs), nim⟩) (by kernel_rfl) (by kernel_rfl) (by kernel_rfl) ?_ (by kernel_rfl)
       refine dp 3 [0, 3, 52] [(0, .pointer (some ⟨g0, 0, none⟩)), (3, .slice A20 s16.2.2.2.length n21), (52, .pointer (some ⟨g0, 1, none⟩))] (rng 3 7) (CC.refl (fmc ⟨(mar mcs), nim⟩)) ?_
       refine gd_q (v := .int .i64 (IntKind.wrap .i64 (s16.2.1 + 1))) (by kernel_rfl) (by kernel_rfl) (CC.refl (fmc ⟨(mar mcs), nim⟩)) (fun I' L' T hC kk => gl_loadB (T' := 3) (xp := (.tmp 52)) (v := .int .i64 (IntKind.wrap .i64 (s16.2.1 + 1))) (g := g0) (off := 1) (cs := #[.string s16.1, .int .i64 (IntKind.wrap .i64 (s16.2.1 + 1)), .int .i64 s16.2.2.1]) (e := T0) (fz := (0, 0)) (by kernel_rfl) (by kernel_rfl) (by kernel_rfl) (hC.sub _ mcs) (by kernel_rfl) kk) ?_
       refine dp 3 [0, 3, 53, 56] [(0, .pointer (some ⟨g0, 0, none⟩)), (3, .slice A20 s16.2.2.2.length n21), (53, .int .i64 (IntKind.wrap .i64 (s16.2.1 + 1))), (56, .pointer (some ⟨g0, 0, none⟩))] [(7, true), (8, true), (9, true)] (CC.refl (fmc ⟨(mar mcs), nim⟩)) ?_
       refine gd_q (v := .string s16.1) (by kernel_rfl) (by kernel_rfl) (CC.refl (fmc ⟨(mar mcs), nim⟩)) (fun I' L' T hC kk => gl_loadB (T' := 9) (xp := (.tmp 56)) (v := .string s16.1) (g := g0) (off := 0) (cs := #[.string s16.1, .int .i64 (IntKind.wrap .i64 (s16.2.1 + 1)), .int .i64 s16.2.2.1]) (e := T0) (fz := (0, 0)) (by kernel_rfl) (by kernel_rfl) (by kernel_rfl) (hC.sub _ mcs) (by kernel_rfl) kk) ?_
       refine dp 2 [0, 3, 59] [(0, .pointer (some ⟨g0, 0, none⟩)), (3, .slice A20 s16.2.2.2.length n21), (59, .bool (decide ((IntKind.wrap .i64 (s16.2.1 + 1)) ≥ (s16.1.size : Int))))] [] (CC.refl (fmc ⟨(mar mcs), nim⟩)) ?_
       refine gd_done ?_
       refine qE (qs ?_)
       refine gk_cond (b := (decide ((IntKind.wrap .i64 (s16.2.1 + 1)) ≥ (s16.1.size : Int)))) (by kernel_rfl) (by kernel_rfl) (fun hc49 => ?_) (fun hc49 => ?_)
       ·have hj43 := cond_t hc49 hj43
        refine qk (qR (qp 4 [60, 63] [(60, .pointer (some ⟨g0, 0, none⟩)), (63, .pointer (some ⟨g0, 1, none⟩))] ?_))
        refine gl_loadB (T' := 3) (xp := (.tmp 63)) (v := .int .i64 (IntKind.wrap .i64 (s16.2.1 + 1))) (g := g0) (off := 1) (cs := #[.string s16.1, .int .i64 (IntKind.wrap .i64 (s16.2.1 + 1)), .int .i64 s16.2.2.1]) (e := T0) (fz := (0, 0)) (by kernel_rfl) (by kernel_rfl) (by kernel_rfl) (mar mcs) (by kernel_rfl) ?_
        obtain ⟨y50, hx51, hj43⟩ := bind_some hj43
        refine gl_reord (D := (g0, .cells #[.string s16.1, .int .i64 (IntKind.wrap .i64 (s16.2.1 + 1)), .int .i64 s16.2.2.1] T0) :: (C22 ++ L)) (Reord.step1 (Upd.app _ (Upd.rm1 _ _)) (Reord.step (Upd.rmC _ _) (Reord.refl _))) ?_
        refine gl_call (by kernel_rfl) (tocsinref04_Text_Fail_walk (r := y50) (g0 := g0) (T0 := T0) (a0 := (⟨s16.1, (IntKind.wrap .i64 (s16.2.1 + 1)), s16.2.2.1⟩ : S97)) hx51 _) ?_
        rintro v I52 L53 hI54 ⟨rfl, rfl⟩
        refine qE (qs ?_)
        refine gk_reord (D := (g0, .cells #[.string y50.f0, .int .i64 y50.f1, .int .i64 y50.f2] T0) :: L) (Reord.step1 (Upd.rm1 _ _) (Reord.skipC (Reord.refl _))) ?_
        refine qe (qf (qf ?_))
        obtain rfl := some_inj hj43
        refine qf (qm ?_)
        obtain rfl := some_inj hb18
        refine ge_round_out (fun hrr => ?_) (by intro h; cases h)
        obtain rfl := hrr
        refine qh ?_
        exact ge_mid fun t ht => ⟨_, rfl, (Imm.trans hI19 hI54), rfl, ht.pick (l := []) (by kernel_rfl)⟩
       ·have hj43 := cond_f hc49 hj43
        refine qx (qs (qk ?_))
        refine gk_draw 10 (rng 0 10) [(g0, .cells #[.string s16.1, .int .i64 (IntKind.wrap .i64 (s16.2.1 + 1)), .int .i64 s16.2.2.1] T0)] (fmc ⟨(mar mcs), nim⟩) (by kernel_rfl) (by kernel_rfl) (by kernel_rfl) ?_ (by kernel_rfl)
        refine dp 3 [0, 3, 68] [(0, .pointer (some ⟨g0, 0, none⟩)), (3, .slice A20 s16.2.2.2.length n21), (68, .pointer (some ⟨g0, 0, none⟩))] (rng 3 7) (CC.refl (fmc ⟨(mar mcs), nim⟩)) ?_
        refine gd_q (v := .string s16.1) (by kernel_rfl) (by kernel_rfl) (CC.refl (fmc ⟨(mar mcs), nim⟩)) (fun I' L' T hC kk => gl_loadB (T' := 9) (xp := (.tmp 68)) (v := .string s16.1) (g := g0) (off := 0) (cs := #[.string s16.1, .int .i64 (IntKind.wrap .i64 (s16.2.1 + 1)), .int .i64 s16.2.2.1]) (e := T0) (fz := (0, 0)) (by kernel_rfl) (by kernel_rfl) (by kernel_rfl) (hC.sub _ mcs) (by kernel_rfl) kk) ?_
        refine dp 3 [0, 3, 69, 72] [(0, .pointer (some ⟨g0, 0, none⟩)), (3, .slice A20 s16.2.2.2.length n21), (69, .string s16.1), (72, .pointer (some ⟨g0, 1, none⟩))] [(7, true), (8, true), (9, true)] (CC.refl (fmc ⟨(mar mcs), nim⟩)) ?_
        refine gd_q (v := .int .i64 (IntKind.wrap .i64 (s16.2.1 + 1))) (by kernel_rfl) (by kernel_rfl) (CC.refl (fmc ⟨(mar mcs), nim⟩)) (fun I' L' T hC kk => gl_loadB (T' := 3) (xp := (.tmp 72)) (v := .int .i64 (IntKind.wrap .i64 (s16.2.1 + 1))) (g := g0) (off := 1) (cs := #[.string s16.1, .int .i64 (IntKind.wrap .i64 (s16.2.1 + 1)), .int .i64 s16.2.2.1]) (e := T0) (fz := (0, 0)) (by kernel_rfl) (by kernel_rfl) (by kernel_rfl) (hC.sub _ mcs) (by kernel_rfl) kk) ?_
        obtain ⟨c55, hx56, hj43⟩ := bind_some hj43
        refine gd_q (v := .int .u8 c55) (by kernel_rfl) (by kernel_rfl) (CC.refl (fmc ⟨(mar mcs), nim⟩)) (fun I' L' T hC kk => gl_index' (T' := 9) (xs := (.tmp 69)) (xi := (.tmp 73)) (kd := .i64) hx56 (by kernel_rfl) (by kernel_rfl) (by kernel_rfl) (by kernel_rfl) (by kernel_rfl) kk) ?_
        refine dp 1 [0, 3, 4] [(0, .pointer (some ⟨g0, 0, none⟩)), (3, .slice A20 s16.2.2.2.length n21), (4, .int .u8 c55)] [] (CC.refl (fmc ⟨(mar mcs), nim⟩)) ?_
        refine gd_done ?_
        refine qE (qs (qk (qk (qR (qp 2 [0, 3, 4, 76] [(0, .pointer (some ⟨g0, 0, none⟩)), (3, .slice A20 s16.2.2.2.length n21), (4, .int .u8 c55), (76, .bool (c55 == 110))] (qE (qs ?_)))))))
        obtain ⟨j57, hj58, hj43⟩ := bind_some hj43
        refine gk_join (fun t I' L' => I25 ≤ I' ∧ C22 ++ ((g0, .cells #[.string j57.2.1, .int .i64 j57.2.2.1, .int .i64 j57.2.2.2] T0) :: L) = L' ∧ Knows 101 [(0, .pointer (some ⟨g0, 0, none⟩)), (3, .slice A20 s16.2.2.2.length n21), (4, .int .u8 j57.1)] t) ?_ ?_
        ·refine gk_cond (b := (c55 == 110)) (by kernel_rfl) (by kernel_rfl) (fun hc62 => ?_) (fun hc62 => ?_)
         ·have hj58 := cond_t hc62 hj58
          refine qR (qp 1 [0, 3, 4] [(0, .pointer (some ⟨g0, 0, none⟩)), (3, .slice A20 s16.2.2.2.length n21), (4, .int .u8 10)] (qE ?_))
          obtain rfl := some_inj hj58
          exact ge_mid fun t ht => ⟨(Imm.refl _), rfl, ht.pick (l := [0, 3, 4]) (by kernel_rfl)⟩
         ·have hj58 := cond_f hc62 hj58
          refine qk ?_
          refine gk_join (fun t I' L' => I25 ≤ I' ∧ C22 ++ ((g0, .cells #[.string s16.1, .int .i64 (IntKind.wrap .i64 (s16.2.1 + 1)), .int .i64 s16.2.2.1] T0) :: L) = L' ∧ Knows 101 [(0, .pointer (some ⟨g0, 0, none⟩)), (3, .slice A20 s16.2.2.2.length n21), (4, .int .u8 c55), (82, .bool ((c55 != 92) && (c55 != 34)))] t) ?_ ?_
          ·refine qR (qp 3 [0, 3, 4, 79] [(0, .pointer (some ⟨g0, 0, none⟩)), (3, .slice A20 s16.2.2.2.length n21), (4, .int .u8 c55), (79, .bool (c55 != 92))] ?_)
           refine gl_case 79 (b := (c55 != 92)) (by kernel_rfl) (fun hc66 => ?_) (fun hc66 => ?_)
           ·refine qp 3 [0, 3, 4, 82] [(0, .pointer (some ⟨g0, 0, none⟩)), (3, .slice A20 s16.2.2.2.length n21), (4, .int .u8 c55), (82, .bool (c55 != 34))] (qE ?_)
            exact ge_mid fun t ht => ⟨(Imm.refl _), rfl, by rw [(show ((c55 != 92) && (c55 != 34)) = (c55 != 34) from by first | (rw [hc66]; done) | (rw [hc66]; rfl) | (simp [hc66]; done) | (simp only [hc66]; rfl) | (simp at *; omega))]; exact ht.pick (l := [0, 3, 4, 82]) (by kernel_rfl)⟩
           ·refine qp 3 [0, 3, 4, 82] [(0, .pointer (some ⟨g0, 0, none⟩)), (3, .slice A20 s16.2.2.2.length n21), (4, .int .u8 c55), (82, .bool false)] (qE ?_)
            exact ge_mid fun t ht => ⟨(Imm.refl _), rfl, by rw [(show ((c55 != 92) && (c55 != 34)) = false from by first | (rw [hc66]; done) | (rw [hc66]; rfl) | (simp [hc66]; done) | (simp only [hc66]; rfl) | (simp at *; omega))]; exact ht.pick (l := [0, 3, 4, 82]) (by kernel_rfl)⟩
          ·rintro t I65 L' ⟨hI63, rfl, hK64⟩
           refine ge_at hK64 ?_
           refine qs ?_
           obtain ⟨j67, hj68, hj58⟩ := bind_some hj58
           refine gk_join (fun t I' L' => I65 ≤ I' ∧ C22 ++ ((g0, .cells #[.string j67.1, .int .i64 j67.2.1, .int .i64 j67.2.2] T0) :: L) = L' ∧ Knows 101 [(0, .pointer (some ⟨g0, 0, none⟩)), (3, .slice A20 s16.2.2.2.length n21), (4, .int .u8 c55)] t) ?_ ?_
           ·refine gk_cond (b := ((c55 != 92) && (c55 != 34))) (by kernel_rfl) (by kernel_rfl) (fun hc72 => ?_) (fun hc72 => ?_)
            ·have hj68 := cond_t hc72 hj68
             refine qR (qp 4 [0, 3, 4, 83, 86] [(0, .pointer (some ⟨g0, 0, none⟩)), (3, .slice A20 s16.2.2.2.length n21), (4, .int .u8 c55), (83, .pointer (some ⟨g0, 0, none⟩)), (86, .pointer (some ⟨g0, 1, none⟩))] ?_)
             refine gl_loadB (T' := 3) (xp := (.tmp 86)) (v := .int .i64 (IntKind.wrap .i64 (s16.2.1 + 1))) (g := g0) (off := 1) (cs := #[.string s16.1, .int .i64 (IntKind.wrap .i64 (s16.2.1 + 1)), .int .i64 s16.2.2.1]) (e := T0) (fz := (0, 0)) (by kernel_rfl) (by kernel_rfl) (by kernel_rfl) (mar mcs) (by kernel_rfl) ?_
             refine qp 1 [0, 3, 4, 83, 88] [(0, .pointer (some ⟨g0, 0, none⟩)), (3, .slice A20 s16.2.2.2.length n21), (4, .int .u8 c55), (83, .pointer (some ⟨g0, 0, none⟩)), (88, .int .i64 (IntKind.wrap .i64 ((IntKind.wrap .i64 (s16.2.1 + 1)) - 1)))] ?_
             obtain ⟨y73, hx74, hj68⟩ := bind_some hj68
             refine gl_reord (D := (g0, .cells #[.string s16.1, .int .i64 (IntKind.wrap .i64 (s16.2.1 + 1)), .int .i64 s16.2.2.1] T0) :: (C22 ++ L)) (Reord.step1 (Upd.app _ (Upd.rm1 _ _)) (Reord.step (Upd.rmC _ _) (Reord.refl _))) ?_
             refine gl_call (by kernel_rfl) (tocsinref04_Text_Fail_walk (r := y73) (g0 := g0) (T0 := T0) (a0 := (⟨s16.1, (IntKind.wrap .i64 (s16.2.1 + 1)), s16.2.2.1⟩ : S97)) hx74 _) ?_
             rintro v I75 L76 hI77 ⟨rfl, rfl⟩
             refine gl_reord (D := C22 ++ ((g0, .cells #[.string y73.f0, .int .i64 y73.f1, .int .i64 y73.f2] T0) :: L)) (Reord.step (Upd.one _ (Upd.rmC _ _)) (Reord.step1 (Upd.rm1 _ _) (Reord.refl _))) ?_
             refine qE ?_
             obtain rfl := some_inj hj68
             exact ge_mid fun t ht => ⟨hI77, rfl, ht.pick (l := [0, 3, 4]) (by kernel_rfl)⟩
            ·have hj68 := cond_f hc72 hj68
             refine qx ?_
             obtain rfl := some_inj hj68
             exact ge_mid fun t ht => ⟨(Imm.refl _), rfl, ht.pick (l := [0, 3, 4]) (by kernel_rfl)⟩
           ·rintro t I71 L' ⟨hI69, rfl, hK70⟩
            refine ge_at hK70 ?_
            obtain rfl := some_inj hj58
            exact ge_mid fun t ht => ⟨(Imm.trans hI63 hI69), rfl, ht.pick (l := [0, 3, 4]) (by kernel_rfl)⟩
        ·rintro t I61 L' ⟨hI59, rfl, hK60⟩
         refine ge_at hK60 ?_
         refine qs (qR (qp 3 [0, 3, 4, 90, 92] [(0, .pointer (some ⟨g0, 0, none⟩)), (3, .slice A20 s16.2.2.2.length n21), (4, .int .u8 j57.1), (90, .pointer (some ⟨g0, 0, none⟩)), (92, .pointer (some ⟨g0, 1, none⟩))] ?_))
         refine gl_loadB (T' := 3) (xp := (.tmp 92)) (v := .int .i64 j57.2.2.1) (g := g0) (off := 1) (cs := #[.string j57.2.1, .int .i64 j57.2.2.1, .int .i64 j57.2.2.2]) (e := T0) (fz := (0, 0)) (by kernel_rfl) (by kernel_rfl) (by kernel_rfl) (mar mcs) (by kernel_rfl) ?_
         refine qp 3 [0, 3, 4, 94, 96] [(0, .pointer (some ⟨g0, 0, none⟩)), (3, .slice A20 s16.2.2.2.length n21), (4, .int .u8 j57.1), (94, .int .i64 (IntKind.wrap .i64 (j57.2.2.1 + 1))), (96, .pointer (some ⟨g0, 1, none⟩))] ?_
         refine gl_storeB (T' := 3) (xp := (.tmp 96)) (xv := (.tmp 94)) (v := .int .i64 (IntKind.wrap .i64 (j57.2.2.1 + 1))) (g := g0) (off := 1) (cs := #[.string j57.2.1, .int .i64 j57.2.2.1, .int .i64 j57.2.2.2]) (cs' := #[.string j57.2.1, .int .i64 (IntKind.wrap .i64 (j57.2.2.1 + 1)), .int .i64 j57.2.2.2]) (by kernel_rfl) (by kernel_rfl) (by kernel_rfl) (by kernel_rfl) (by kernel_rfl) (Upd.app _ (Upd.set _ _ _ _)) ?_ (by kernel_rfl)
         refine qE ?_
         obtain rfl := some_inj hj43
         exact ge_mid fun t ht => ⟨_, rfl, hI59, rfl, ht.pick (l := [0, 3, 4]) (by kernel_rfl)⟩
      ·have hj43 := cond_f hc48 hj43
       refine qx ?_
       obtain rfl := some_inj hj43
       exact ge_mid fun t ht => ⟨_, rfl, (Imm.refl _), rfl, ht.pick (l := [0, 3, 4]) (by kernel_rfl)⟩
     ·rintro t I47 L' ⟨j44, rfl, hI45, rfl, hK46⟩
      refine ge_at hK46 ?_
      refine qs (qR (qp 2 [0, 97, 98] [(0, .pointer (some ⟨g0, 0, none⟩)), (97, .slice A20 s16.2.2.2.length n21), (98, .int .u8 j44.1)] ?_))
      refine gl_buildSlice (T' := 51) (e := 5) (n := 1) (len := 1) (parts := #[(0, (.tmp 98))]) (l := [(0, .int .u8 j44.1)]) (cs := #[.int .u8 j44.1]) (by kernel_rfl) (by kernel_rfl) (by kernel_rfl) (by kernel_rfl) (by kernel_rfl) (fun g78 => ?_)
      have hO79 : OwnS (Kd.int .u8) 5 I47 (some ⟨g78, 0, none⟩) 1 [j44.1] [(g78, .cells #[.int .u8 j44.1] 5)] := OwnS.lit (row_cons (l := [.int .u8 j44.1]) rfl (row_nil _ _)) rfl rfl rfl
      refine gl_reord (D := [(g78, .cells #[.int .u8 j44.1] 5)] ++ (C22 ++ ((g0, .cells #[.string j44.2.1, .int .i64 j44.2.2.1, .int .i64 j44.2.2.2] T0) :: L))) (Reord.refl _) ?_
      obtain ⟨zs82, hz83, hb18⟩ := bind_some hb18
      refine gl_append (xv := .slice (some ⟨g78, 0, none⟩) [j44.1].length 1) (d := (Kd.int .u8)) (t := 51) (tx := 51) (e := 5) (s := (.tmp 97)) (x := (.tmp 99)) (xs := s16.2.2.2) (fun X => [(g78, .cells #[.int .u8 j44.1] 5)] ++ (X ++ ((g0, .cells #[.string j44.2.1, .int .i64 j44.2.2.1, .int .i64 j44.2.2.2] T0) :: L))) hz83 (by kernel_rfl) (by kernel_rfl) (by kernel_rfl) (by kernel_rfl) (by kernel_rfl) (by kernel_rfl) (fun X => (Upd.app _ (Upd.head _ X _))) (hO23.mono hI45) (SrcOk.slice (c := 1) (e := 5) (n := 1) (OwnS.rd hO79 (Upd.selfC _ _)) (by kernel_rfl)) (fun A84 n85 C86 hO87 => ?_)
      refine qp 1 [0, 3] [(0, .pointer (some ⟨g0, 0, none⟩)), (3, .slice A84 zs82.length n85)] ?_
      refine gl_reord (D := C86 ++ ((g0, .cells #[.string j44.2.1, .int .i64 j44.2.2.1, .int .i64 j44.2.2.2] T0) :: L)) (Reord.step (Upd.app _ (Upd.rmC _ _)) (Reord.step1 (Upd.app _ (Upd.rm1 _ _)) (Reord.skipC (Reord.refl _)))) ?_
      refine qE (qn ?_)
      obtain rfl := some_inj hb18
      exact ge_round fun t ht => ⟨A84, n85, C86, hO87, (Imm.trans hI19 hI45), rfl, ht.pick (l := [0, 3]) (by kernel_rfl)⟩
  ·have hb18 := cond_f hc32 hb18
   refine gk_reord (D := (g0, .cells #[.string s16.1, .int .i64 s16.2.1, .int .i64 s16.2.2.1] T0) :: L) (Reord.step1 (Upd.app _ (Upd.rm1 _ _)) (Reord.skipC (Reord.refl _))) ?_
   refine qe (qf ?_)
   obtain rfl := some_inj hb18
   refine ge_round_out (fun hrr => ?_) (by intro h; cases h)
   obtain rfl := hrr
   refine qh ?_
   exact ge_mid fun t ht => ⟨_, rfl, hI19, rfl, ht.pick (l := []) (by kernel_rfl)⟩
 ·rintro t I29 L' ⟨r26, rfl, hI27, rfl, hK28⟩
  refine ge_at hK28 ?_
  refine qs (qk (qR (qp 1 [2] [(2, .string (⟨#[]⟩ : ByteArray))] (qE (qs (qt ?_))))))
  obtain rfl := some_inj hr
  exact ge_result trivial (ResOk.tmp (by kernel_rfl) ResOk.nil) (Imm.trans hI5 hI27) ⟨rfl, rfl⟩
/-! 77 tocsinref04_Text_set ('obj',) -/
noncomputable def tocsinref04_Text_set_l29 : (ByteArray × Int × Int × (List S49)) → Option ((ByteArray × Int × Int × (List S49)) ⊕ (((List S49) × ByteArray × Int × Int) ⊕ ((List S49) × S97))) := fun s11 =>
 Option.bind (bif (s11.2.2.1 == 0) then
  (Option.bind (tocsinref04_Text_Is (⟨s11.1, s11.2.1, s11.2.2.1⟩ : S97) 125) fun (y37 : Bool × S97) =>
   some ((!y37.1), y37.2.f0, y37.2.f1, y37.2.f2))
  else
  (some (false, s11.1, s11.2.1, s11.2.2.1))) fun (j31 : Bool × ByteArray × Int × Int) =>
 bif j31.1 then
 (Option.bind ((bif (decide ((s11.2.2.2.length : Int) > 0)) then
   (Option.bind (tocsinref04_Text_Want (⟨j31.2.1, j31.2.2.1, j31.2.2.2⟩ : S97) 44) fun (y50 : S97) =>
    Option.bind (bif (y50.f2 == 0) then
     (Option.bind (tocsinref04_Text_Is y50 125) fun (y61 : Bool × S97) =>
      some (y61.1, y61.2.f0, y61.2.f1, y61.2.f2))
     else
     (some (false, y50.f0, y50.f1, y50.f2))) fun (j55 : Bool × ByteArray × Int × Int) =>
    bif j55.1 then
    (some (Sum.inr (Sum.inr (Sum.inr (s11.2.2.2, (⟨j55.2.1, j55.2.2.1, j55.2.2.2⟩ : S97))))))
    else
    (some (Sum.inl (j55.2.1, j55.2.2.1, j55.2.2.2))))
   else
   (some (Sum.inl (j31.2.1, j31.2.2.1, j31.2.2.2))) : Option ((ByteArray × Int × Int) ⊕ ((ByteArray × Int × Int × (List S49)) ⊕ (((List S49) × ByteArray × Int × Int) ⊕ ((List S49) × S97)))))) fun (j43 : (ByteArray × Int × Int) ⊕ ((ByteArray × Int × Int × (List S49)) ⊕ (((List S49) × ByteArray × Int × Int) ⊕ ((List S49) × S97)))) =>
  match j43 with
  | Sum.inl j45 => Option.bind (tocsinref04_Text_Blanks (⟨j45.1, j45.2.1, j45.2.2⟩ : S97)) fun (y67 : S97) =>
   Option.bind (tocsinref04_Text_Run y67 false) fun (y72 : ByteArray × S97) =>
   Option.bind (bif (y72.2.f2 == 0) then
    (Option.bind (tocsinref04_Name y72.1) fun (y83 : Bool) =>
     some (!y83))
    else
    (some false)) fun (j77 : Bool) =>
   Option.bind (bif j77 then
    (Option.bind (tocsinref04_Text_Fail y72.2 y67.f1) fun (y91 : S97) =>
     some (y91.f0, y91.f1, y91.f2))
    else
    (some (y72.2.f0, y72.2.f1, y72.2.f2))) fun (j85 : ByteArray × Int × Int) =>
   Option.bind (tocsinref04_Text_Want (⟨j85.1, j85.2.1, j85.2.2⟩ : S97) 61) fun (y96 : S97) =>
   Option.bind (tocsinref04_Text_Value y96) fun (y101 : ByteArray × S97) =>
   Option.bind (app s11.2.2.2 [(⟨y72.1, y101.1⟩ : S49)]) fun (zs110 : List S49) =>
   some (Sum.inl (y101.2.f0, y101.2.f1, y101.2.f2, zs110))
  | Sum.inr v116 => some v116)
 else
 (some (Sum.inr (Sum.inl (s11.2.2.2, j31.2.1, j31.2.2.1, j31.2.2.2))))
noncomputable def tocsinref04_Text_set (a0 : S97) : Option ((List S49) × S97) :=
 Option.bind (loopO tocsinref04_Text_set_l29 (a0.f0, a0.f1, a0.f2, [])) fun (r9 : ((List S49) × ByteArray × Int × Int) ⊕ ((List S49) × S97)) =>
 match r9 with
 | Sum.inl r21 => some (r21.1, (⟨r21.2.1, r21.2.2.1, r21.2.2.2⟩ : S97))
 | Sum.inr v117 => some v117
theorem tocsinref04_Text_set_walk {a0 : S97} {g0 : Nat} {T0 : TypeId} {I : Imm} {r : (List S49) × S97}  (hr : tocsinref04_Text_set a0 = some r) (L : Own) :
  CallsTo Tryz.prog 77 #[.pointer (some ⟨g0, 0, none⟩)] I ((g0, .cells #[.string a0.f0, .int .i64 a0.f1, .int .i64 a0.f2] T0) :: L) (fun v I' L' => ∃ A0 c0 C0, OwnS kS49 50 I' A0 c0 r.1 C0 ∧ v = .slice A0 r.1.length c0 ∧ C0 ++ ((g0, .cells #[.string r.2.f0, .int .i64 r.2.f1, .int .i64 r.2.f2] T0) :: L) = L') := by
 unfold tocsinref04_Text_set at hr
 refine callsTo_body (N := 62) Tryz.func77 (by kernel_rfl) (by kernel_rfl) (by kernel_rfl) ?_
 refine qq [0] [(0, .pointer (some ⟨g0, 0, none⟩))] (qk (qR (qp 1 [0] [(0, .pointer (some ⟨g0, 0, none⟩))] (qE (qs (qk (qR (qp 1 [0, 3] [(0, .pointer (some ⟨g0, 0, none⟩)), (3, .slice none 0 0)] (qE (qs (qk ?_)))))))))))
 obtain ⟨r9, hl10, hr⟩ := bind_some hr
 refine gk_join (fun t I' L' => ∃ r21, r9 = Sum.inl r21 ∧ ∃ A23 n24 C25, OwnS kS49 50 I' A23 n24 r21.1 C25 ∧ I ≤ I' ∧ C25 ++ ((g0, .cells #[.string r21.2.1, .int .i64 r21.2.2.1, .int .i64 r21.2.2.2] T0) :: L) = L' ∧ Knows 62 [(3, .slice A23 r21.1.length n24)] t) ?_ ?_
 ·refine qb (qq [0, 3] [(0, .pointer (some ⟨g0, 0, none⟩)), (3, .slice none 0 0)] ?_)
  intro t hK
  refine gc_loop (tocsinref04_Text_set_l29) (fun s11 t I' L' => ∃ A15 n16 C17, OwnS kS49 50 I' A15 n16 s11.2.2.2 C17 ∧ I ≤ I' ∧ C17 ++ ((g0, .cells #[.string s11.1, .int .i64 s11.2.1, .int .i64 s11.2.2.1] T0) :: L) = L' ∧ Knows 62 [(0, .pointer (some ⟨g0, 0, none⟩)), (3, .slice A15 s11.2.2.2.length n16)] t) (by kernel_rfl) ?_ hl10 ⟨none, 0, [], OwnS.nil _ _ _ _, (Imm.refl _), rfl, hK⟩
  rintro s11 o12 t I20 L' hb13 ⟨A15, n16, C17, hO18, hI14, rfl, hK19⟩
  unfold tocsinref04_Text_set_l29 at hb13
  refine gk_at hK19 ?_
  refine qk (qk ?_)
  obtain ⟨j31, hj32, hb13⟩ := bind_some hb13
  refine gk_join (fun t I' L' => I20 ≤ I' ∧ C17 ++ ((g0, .cells #[.string j31.2.1, .int .i64 j31.2.2.1, .int .i64 j31.2.2.2] T0) :: L) = L' ∧ Knows 62 [(0, .pointer (some ⟨g0, 0, none⟩)), (3, .slice A15 s11.2.2.2.length n16), (15, .bool j31.1)] t) ?_ ?_
  ·refine qR (qp 3 [0, 3, 8] [(0, .pointer (some ⟨g0, 0, none⟩)), (3, .slice A15 s11.2.2.2.length n16), (8, .pointer (some ⟨g0, 2, none⟩))] ?_)
   refine gl_loadB (T' := 3) (xp := (.tmp 8)) (v := .int .i64 s11.2.2.1) (g := g0) (off := 2) (cs := #[.string s11.1, .int .i64 s11.2.1, .int .i64 s11.2.2.1]) (e := T0) (fz := (0, 0)) (by kernel_rfl) (by kernel_rfl) (by kernel_rfl) (mar mcs) (by kernel_rfl) ?_
   refine qp 2 [0, 3, 11] [(0, .pointer (some ⟨g0, 0, none⟩)), (3, .slice A15 s11.2.2.2.length n16), (11, .bool (s11.2.2.1 == 0))] ?_
   refine gl_case 11 (b := (s11.2.2.1 == 0)) (by kernel_rfl) (fun hc36 => ?_) (fun hc36 => ?_)
   ·have hj32 := cond_t hc36 hj32
    refine qp 1 [0, 3, 11, 12] [(0, .pointer (some ⟨g0, 0, none⟩)), (3, .slice A15 s11.2.2.2.length n16), (11, .bool true), (12, .pointer (some ⟨g0, 0, none⟩))] ?_
    obtain ⟨y37, hx38, hj32⟩ := bind_some hj32
    refine gl_reord (D := (g0, .cells #[.string s11.1, .int .i64 s11.2.1, .int .i64 s11.2.2.1] T0) :: (C17 ++ L)) (Reord.step1 (Upd.app _ (Upd.rm1 _ _)) (Reord.step (Upd.rmC _ _) (Reord.refl _))) ?_
    refine gl_call (by kernel_rfl) (tocsinref04_Text_Is_walk (r := y37) (g0 := g0) (T0 := T0) (a0 := (⟨s11.1, s11.2.1, s11.2.2.1⟩ : S97)) hx38 _) ?_
    rintro v I39 L40 hI41 ⟨rfl, rfl⟩
    refine qp 2 [0, 3, 15] [(0, .pointer (some ⟨g0, 0, none⟩)), (3, .slice A15 s11.2.2.2.length n16), (15, .bool (!y37.1))] ?_
    refine gl_reord (D := C17 ++ ((g0, .cells #[.string y37.2.f0, .int .i64 y37.2.f1, .int .i64 y37.2.f2] T0) :: L)) (Reord.step (Upd.one _ (Upd.rmC _ _)) (Reord.step1 (Upd.rm1 _ _) (Reord.refl _))) ?_
    refine qE ?_
    obtain rfl := some_inj hj32
    exact ge_mid fun t ht => ⟨hI41, rfl, ht.pick (l := [0, 3, 15]) (by kernel_rfl)⟩
   ·have hj32 := cond_f hc36 hj32
    refine qp 4 [0, 3, 15] [(0, .pointer (some ⟨g0, 0, none⟩)), (3, .slice A15 s11.2.2.2.length n16), (15, .bool false)] (qE ?_)
    obtain rfl := some_inj hj32
    exact ge_mid fun t ht => ⟨(Imm.refl _), rfl, ht.pick (l := [0, 3, 15]) (by kernel_rfl)⟩
  ·rintro t I35 L' ⟨hI33, rfl, hK34⟩
   refine ge_at hK34 ?_
   refine qs ?_
   refine gk_cond (b := j31.1) (by kernel_rfl) (by kernel_rfl) (fun hc42 => ?_) (fun hc42 => ?_)
   ·have hb13 := cond_t hc42 hb13
    refine qx (qs (qb (qk (qk (qR (qp 3 [0, 3, 18] [(0, .pointer (some ⟨g0, 0, none⟩)), (3, .slice A15 s11.2.2.2.length n16), (18, .bool (decide ((s11.2.2.2.length : Int) > 0)))] (qE (qs ?_))))))))
    obtain ⟨j43, hj44, hb13⟩ := bind_some hb13
    refine gk_join (fun t I' L' => ∃ j45, j43 = Sum.inl j45 ∧ I35 ≤ I' ∧ C17 ++ ((g0, .cells #[.string j45.1, .int .i64 j45.2.1, .int .i64 j45.2.2] T0) :: L) = L' ∧ Knows 62 [(0, .pointer (some ⟨g0, 0, none⟩)), (3, .slice A15 s11.2.2.2.length n16)] t) ?_ ?_
    ·refine gk_cond (b := (decide ((s11.2.2.2.length : Int) > 0))) (by kernel_rfl) (by kernel_rfl) (fun hc49 => ?_) (fun hc49 => ?_)
     ·have hj44 := cond_t hc49 hj44
      refine qk (qR (qp 1 [0, 3, 19] [(0, .pointer (some ⟨g0, 0, none⟩)), (3, .slice A15 s11.2.2.2.length n16), (19, .pointer (some ⟨g0, 0, none⟩))] ?_))
      obtain ⟨y50, hx51, hj44⟩ := bind_some hj44
      refine gl_reord (D := (g0, .cells #[.string j31.2.1, .int .i64 j31.2.2.1, .int .i64 j31.2.2.2] T0) :: (C17 ++ L)) (Reord.step1 (Upd.app _ (Upd.rm1 _ _)) (Reord.step (Upd.rmC _ _) (Reord.refl _))) ?_
      refine gl_call (by kernel_rfl) (tocsinref04_Text_Want_walk (r := y50) (g0 := g0) (T0 := T0) (a0 := (⟨j31.2.1, j31.2.2.1, j31.2.2.2⟩ : S97)) hx51 _) ?_
      rintro v I52 L53 hI54 ⟨rfl, rfl⟩
      refine qE (qs (qk ?_))
      obtain ⟨j55, hj56, hj44⟩ := bind_some hj44
      refine gk_join (fun t I' L' => I52 ≤ I' ∧ (g0, .cells #[.string j55.2.1, .int .i64 j55.2.2.1, .int .i64 j55.2.2.2] T0) :: (C17 ++ L) = L' ∧ Knows 62 [(0, .pointer (some ⟨g0, 0, none⟩)), (3, .slice A15 s11.2.2.2.length n16), (29, .bool j55.1)] t) ?_ ?_
      ·refine qR (qp 3 [0, 3, 23] [(0, .pointer (some ⟨g0, 0, none⟩)), (3, .slice A15 s11.2.2.2.length n16), (23, .pointer (some ⟨g0, 2, none⟩))] ?_)
       refine gl_loadB (T' := 3) (xp := (.tmp 23)) (v := .int .i64 y50.f2) (g := g0) (off := 2) (cs := #[.string y50.f0, .int .i64 y50.f1, .int .i64 y50.f2]) (e := T0) (fz := (0, 0)) (by kernel_rfl) (by kernel_rfl) (by kernel_rfl) mcs (by kernel_rfl) ?_
       refine qp 2 [0, 3, 26] [(0, .pointer (some ⟨g0, 0, none⟩)), (3, .slice A15 s11.2.2.2.length n16), (26, .bool (y50.f2 == 0))] ?_
       refine gl_case 26 (b := (y50.f2 == 0)) (by kernel_rfl) (fun hc60 => ?_) (fun hc60 => ?_)
       ·have hj56 := cond_t hc60 hj56
        refine qp 1 [0, 3, 26, 27] [(0, .pointer (some ⟨g0, 0, none⟩)), (3, .slice A15 s11.2.2.2.length n16), (26, .bool true), (27, .pointer (some ⟨g0, 0, none⟩))] ?_
        obtain ⟨y61, hx62, hj56⟩ := bind_some hj56
        refine gl_call (by kernel_rfl) (tocsinref04_Text_Is_walk (r := y61) (g0 := g0) (T0 := T0) (a0 := y50) hx62 _) ?_
        rintro v I63 L64 hI65 ⟨rfl, rfl⟩
        refine qp 1 [0, 3, 29] [(0, .pointer (some ⟨g0, 0, none⟩)), (3, .slice A15 s11.2.2.2.length n16), (29, .bool y61.1)] (qE ?_)
        obtain rfl := some_inj hj56
        exact ge_mid fun t ht => ⟨hI65, rfl, ht.pick (l := [0, 3, 29]) (by kernel_rfl)⟩
       ·have hj56 := cond_f hc60 hj56
        refine qp 3 [0, 3, 29] [(0, .pointer (some ⟨g0, 0, none⟩)), (3, .slice A15 s11.2.2.2.length n16), (29, .bool false)] (qE ?_)
        obtain rfl := some_inj hj56
        exact ge_mid fun t ht => ⟨(Imm.refl _), rfl, ht.pick (l := [0, 3, 29]) (by kernel_rfl)⟩
      ·rintro t I59 L' ⟨hI57, rfl, hK58⟩
       refine ge_at hK58 ?_
       refine qs ?_
       refine gk_cond (b := j55.1) (by kernel_rfl) (by kernel_rfl) (fun hc66 => ?_) (fun hc66 => ?_)
       ·have hj44 := cond_t hc66 hj44
        refine qk (qR (qp 2 [2] [(2, .slice A15 s11.2.2.2.length n16)] (qE (qs ?_))))
        refine gk_reord (D := C17 ++ ((g0, .cells #[.string j55.2.1, .int .i64 j55.2.2.1, .int .i64 j55.2.2.2] T0) :: L)) (Reord.step (Upd.one _ (Upd.rmC _ _)) (Reord.step1 (Upd.rm1 _ _) (Reord.refl _))) ?_
        refine qt (qu ?_)
        obtain rfl := some_inj hj44
        refine qu (qv ?_)
        obtain rfl := some_inj hb13
        refine ge_round_out (fun hrr => ?_) (by intro h; cases h)
        obtain rfl := hrr
        refine qv (qu (qu ?_))
        obtain rfl := some_inj hr
        exact ge_result trivial (ResOk.tmp (by kernel_rfl) ResOk.nil) (Imm.trans (Imm.trans (Imm.trans hI14 hI33) hI54) hI57) ⟨A15, n16, C17, (hO18.mono (Imm.trans (Imm.trans hI33 hI54) hI57)), rfl, rfl⟩
       ·have hj44 := cond_f hc66 hj44
        refine gk_reord (D := C17 ++ ((g0, .cells #[.string j55.2.1, .int .i64 j55.2.2.1, .int .i64 j55.2.2.2] T0) :: L)) (Reord.step (Upd.one _ (Upd.rmC _ _)) (Reord.step1 (Upd.rm1 _ _) (Reord.refl _))) ?_
        refine qx ?_
        obtain rfl := some_inj hj44
        exact ge_mid fun t ht => ⟨_, rfl, (Imm.trans hI54 hI57), rfl, ht.pick (l := [0, 3]) (by kernel_rfl)⟩
     ·have hj44 := cond_f hc49 hj44
      refine qx ?_
      obtain rfl := some_inj hj44
      exact ge_mid fun t ht => ⟨_, rfl, (Imm.refl _), rfl, ht.pick (l := [0, 3]) (by kernel_rfl)⟩
    ·rintro t I48 L' ⟨j45, rfl, hI46, rfl, hK47⟩
     refine ge_at hK47 ?_
     refine qs (qk (qR (qp 1 [0, 3, 31] [(0, .pointer (some ⟨g0, 0, none⟩)), (3, .slice A15 s11.2.2.2.length n16), (31, .pointer (some ⟨g0, 0, none⟩))] ?_)))
     obtain ⟨y67, hx68, hb13⟩ := bind_some hb13
     refine gl_reord (D := (g0, .cells #[.string j45.1, .int .i64 j45.2.1, .int .i64 j45.2.2] T0) :: (C17 ++ L)) (Reord.step1 (Upd.app _ (Upd.rm1 _ _)) (Reord.step (Upd.rmC _ _) (Reord.refl _))) ?_
     refine gl_call (by kernel_rfl) (tocsinref04_Text_Blanks_walk (r := y67) (g0 := g0) (T0 := T0) (a0 := (⟨j45.1, j45.2.1, j45.2.2⟩ : S97)) hx68 _) ?_
     rintro v I69 L70 hI71 ⟨rfl, rfl⟩
     refine qE (qs (qk (qR (qp 3 [0, 3, 35] [(0, .pointer (some ⟨g0, 0, none⟩)), (3, .slice A15 s11.2.2.2.length n16), (35, .pointer (some ⟨g0, 1, none⟩))] ?_))))
     refine gl_loadB (T' := 3) (xp := (.tmp 35)) (v := .int .i64 y67.f1) (g := g0) (off := 1) (cs := #[.string y67.f0, .int .i64 y67.f1, .int .i64 y67.f2]) (e := T0) (fz := (0, 0)) (by kernel_rfl) (by kernel_rfl) (by kernel_rfl) mcs (by kernel_rfl) ?_
     refine qp 1 [0, 3, 4] [(0, .pointer (some ⟨g0, 0, none⟩)), (3, .slice A15 s11.2.2.2.length n16), (4, .int .i64 y67.f1)] (qE (qs (qk (qR (qp 1 [0, 3, 4, 37] [(0, .pointer (some ⟨g0, 0, none⟩)), (3, .slice A15 s11.2.2.2.length n16), (4, .int .i64 y67.f1), (37, .pointer (some ⟨g0, 0, none⟩))] ?_)))))
     obtain ⟨y72, hx73, hb13⟩ := bind_some hb13
     refine gl_call (by kernel_rfl) (tocsinref04_Text_Run_walk (r := y72) (g0 := g0) (T0 := T0) (a0 := y67) hx73 _) ?_
     rintro v I74 L75 hI76 ⟨rfl, rfl⟩
     refine qp 1 [0, 3, 4, 5] [(0, .pointer (some ⟨g0, 0, none⟩)), (3, .slice A15 s11.2.2.2.length n16), (4, .int .i64 y67.f1), (5, .string y72.1)] (qE (qs (qk (qk ?_))))
     obtain ⟨j77, hj78, hb13⟩ := bind_some hb13
     refine gk_join (fun t I' L' => I74 ≤ I' ∧ (g0, .cells #[.string y72.2.f0, .int .i64 y72.2.f1, .int .i64 y72.2.f2] T0) :: (C17 ++ L) = L' ∧ Knows 62 [(0, .pointer (some ⟨g0, 0, none⟩)), (3, .slice A15 s11.2.2.2.length n16), (4, .int .i64 y67.f1), (5, .string y72.1), (48, .bool j77)] t) ?_ ?_
     ·refine qR (qp 3 [0, 3, 4, 5, 41] [(0, .pointer (some ⟨g0, 0, none⟩)), (3, .slice A15 s11.2.2.2.length n16), (4, .int .i64 y67.f1), (5, .string y72.1), (41, .pointer (some ⟨g0, 2, none⟩))] ?_)
      refine gl_loadB (T' := 3) (xp := (.tmp 41)) (v := .int .i64 y72.2.f2) (g := g0) (off := 2) (cs := #[.string y72.2.f0, .int .i64 y72.2.f1, .int .i64 y72.2.f2]) (e := T0) (fz := (0, 0)) (by kernel_rfl) (by kernel_rfl) (by kernel_rfl) mcs (by kernel_rfl) ?_
      refine qp 2 [0, 3, 4, 5, 44] [(0, .pointer (some ⟨g0, 0, none⟩)), (3, .slice A15 s11.2.2.2.length n16), (4, .int .i64 y67.f1), (5, .string y72.1), (44, .bool (y72.2.f2 == 0))] ?_
      refine gl_case 44 (b := (y72.2.f2 == 0)) (by kernel_rfl) (fun hc82 => ?_) (fun hc82 => ?_)
      ·have hj78 := cond_t hc82 hj78
       refine qp 1 [0, 3, 4, 5, 44, 45] [(0, .pointer (some ⟨g0, 0, none⟩)), (3, .slice A15 s11.2.2.2.length n16), (4, .int .i64 y67.f1), (5, .string y72.1), (44, .bool true), (45, .string y72.1)] ?_
       obtain ⟨y83, hx84, hj78⟩ := bind_some hj78
       refine gl_callQ (by kernel_rfl) (tocsinref04_Name_walk (r := y83)  hx84 _) ?_
       refine qp 2 [0, 3, 4, 5, 48] [(0, .pointer (some ⟨g0, 0, none⟩)), (3, .slice A15 s11.2.2.2.length n16), (4, .int .i64 y67.f1), (5, .string y72.1), (48, .bool (!y83))] (qE ?_)
       obtain rfl := some_inj hj78
       exact ge_mid fun t ht => ⟨(Imm.refl _), rfl, ht.pick (l := [0, 3, 4, 5, 48]) (by kernel_rfl)⟩
      ·have hj78 := cond_f hc82 hj78
       refine qp 4 [0, 3, 4, 5, 48] [(0, .pointer (some ⟨g0, 0, none⟩)), (3, .slice A15 s11.2.2.2.length n16), (4, .int .i64 y67.f1), (5, .string y72.1), (48, .bool false)] (qE ?_)
       obtain rfl := some_inj hj78
       exact ge_mid fun t ht => ⟨(Imm.refl _), rfl, ht.pick (l := [0, 3, 4, 5, 48]) (by kernel_rfl)⟩
     ·rintro t I81 L' ⟨hI79, rfl, hK80⟩
      refine ge_at hK80 ?_
      refine qs ?_
      obtain ⟨j85, hj86, hb13⟩ := bind_some hb13
      refine gk_join (fun t I' L' => I81 ≤ I' ∧ (g0, .cells #[.string j85.1, .int .i64 j85.2.1, .int .i64 j85.2.2] T0) :: (C17 ++ L) = L' ∧ Knows 62 [(0, .pointer (some ⟨g0, 0, none⟩)), (3, .slice A15 s11.2.2.2.length n16), (5, .string y72.1)] t) ?_ ?_
      ·refine gk_cond (b := j77) (by kernel_rfl) (by kernel_rfl) (fun hc90 => ?_) (fun hc90 => ?_)
       ·have hj86 := cond_t hc90 hj86
        refine qR (qp 2 [0, 3, 5, 49, 50] [(0, .pointer (some ⟨g0, 0, none⟩)), (3, .slice A15 s11.2.2.2.length n16), (5, .string y72.1), (49, .pointer (some ⟨g0, 0, none⟩)), (50, .int .i64 y67.f1)] ?_)
        obtain ⟨y91, hx92, hj86⟩ := bind_some hj86
        refine gl_call (by kernel_rfl) (tocsinref04_Text_Fail_walk (r := y91) (g0 := g0) (T0 := T0) (a0 := y72.2) hx92 _) ?_
        rintro v I93 L94 hI95 ⟨rfl, rfl⟩
        refine qE ?_
        obtain rfl := some_inj hj86
        exact ge_mid fun t ht => ⟨hI95, rfl, ht.pick (l := [0, 3, 5]) (by kernel_rfl)⟩
       ·have hj86 := cond_f hc90 hj86
        refine qx ?_
        obtain rfl := some_inj hj86
        exact ge_mid fun t ht => ⟨(Imm.refl _), rfl, ht.pick (l := [0, 3, 5]) (by kernel_rfl)⟩
      ·rintro t I89 L' ⟨hI87, rfl, hK88⟩
       refine ge_at hK88 ?_
       refine qs (qk (qR (qp 1 [0, 3, 5, 52] [(0, .pointer (some ⟨g0, 0, none⟩)), (3, .slice A15 s11.2.2.2.length n16), (5, .string y72.1), (52, .pointer (some ⟨g0, 0, none⟩))] ?_)))
       obtain ⟨y96, hx97, hb13⟩ := bind_some hb13
       refine gl_call (by kernel_rfl) (tocsinref04_Text_Want_walk (r := y96) (g0 := g0) (T0 := T0) (a0 := (⟨j85.1, j85.2.1, j85.2.2⟩ : S97)) hx97 _) ?_
       rintro v I98 L99 hI100 ⟨rfl, rfl⟩
       refine qE (qs (qR (qp 3 [0, 54, 55, 56] [(0, .pointer (some ⟨g0, 0, none⟩)), (54, .slice A15 s11.2.2.2.length n16), (55, .string y72.1), (56, .pointer (some ⟨g0, 0, none⟩))] ?_)))
       obtain ⟨y101, hx102, hb13⟩ := bind_some hb13
       refine gl_call (by kernel_rfl) (tocsinref04_Text_Value_walk (r := y101) (g0 := g0) (T0 := T0) (a0 := y96) hx102 _) ?_
       rintro v I103 L104 hI105 ⟨rfl, rfl⟩
       refine qp 1 [0, 54, 58] [(0, .pointer (some ⟨g0, 0, none⟩)), (54, .slice A15 s11.2.2.2.length n16), (58, .agg #[.string y72.1, .string y101.1])] ?_
       refine gl_buildSlice (T' := 22) (e := 50) (n := 2) (len := 1) (parts := #[(0, (.tmp 58))]) (l := [(0, .agg #[.string y72.1, .string y101.1])]) (cs := #[.string y72.1, .string y101.1]) (by kernel_rfl) (by kernel_rfl) (by kernel_rfl) (by kernel_rfl) (by kernel_rfl) (fun g106 => ?_)
       have hO107 : OwnS kS49 50 I103 (some ⟨g106, 0, none⟩) 1 [(⟨y72.1, y101.1⟩ : S49)] [(g106, .cells #[.string y72.1, .string y101.1] 50)] := OwnS.lit (row_cons (l := [.string y72.1, .string y101.1]) (kS49_mk (x := (⟨y72.1, y101.1⟩ : S49)) ) (row_nil _ _)) rfl rfl rfl
       refine gl_reord (D := [(g106, .cells #[.string y72.1, .string y101.1] 50)] ++ ((g0, .cells #[.string y101.2.f0, .int .i64 y101.2.f1, .int .i64 y101.2.f2] T0) :: (C17 ++ L))) (Reord.refl _) ?_
       obtain ⟨zs110, hz111, hb13⟩ := bind_some hb13
       refine gl_append (xv := .slice (some ⟨g106, 0, none⟩) [(⟨y72.1, y101.1⟩ : S49)].length 1) (d := kS49) (t := 22) (tx := 22) (e := 50) (s := (.tmp 54)) (x := (.tmp 59)) (xs := s11.2.2.2) (fun X => [(g106, .cells #[.string y72.1, .string y101.1] 50)] ++ ((g0, .cells #[.string y101.2.f0, .int .i64 y101.2.f1, .int .i64 y101.2.f2] T0) :: (X ++ L))) hz111 (by kernel_rfl) (by kernel_rfl) (by kernel_rfl) (by kernel_rfl) (by kernel_rfl) (by kernel_rfl) (fun X => (Upd.app _ (Upd.one _ (Upd.head _ X _)))) (hO18.mono (Imm.trans (Imm.trans (Imm.trans (Imm.trans (Imm.trans (Imm.trans (Imm.trans hI33 hI46) hI71) hI76) hI79) hI87) hI100) hI105)) (SrcOk.slice (c := 1) (e := 50) (n := 2) (OwnS.rd hO107 (Upd.selfC _ _)) (by kernel_rfl)) (fun A112 n113 C114 hO115 => ?_)
       refine qp 1 [0, 3] [(0, .pointer (some ⟨g0, 0, none⟩)), (3, .slice A112 zs110.length n113)] ?_
       refine gl_reord (D := C114 ++ ((g0, .cells #[.string y101.2.f0, .int .i64 y101.2.f1, .int .i64 y101.2.f2] T0) :: L)) (Reord.step (Upd.app _ (Upd.one _ (Upd.rmC _ _))) (Reord.step1 (Upd.app _ (Upd.rm1 _ _)) (Reord.skipC (Reord.refl _)))) ?_
       refine qE (qn ?_)
       obtain rfl := some_inj hb13
       exact ge_round fun t ht => ⟨A112, n113, C114, hO115, (Imm.trans (Imm.trans (Imm.trans (Imm.trans (Imm.trans (Imm.trans (Imm.trans (Imm.trans hI14 hI33) hI46) hI71) hI76) hI79) hI87) hI100) hI105), rfl, ht.pick (l := [0, 3]) (by kernel_rfl)⟩
   ·have hb13 := cond_f hc42 hb13
    refine qe (qf ?_)
    obtain rfl := some_inj hb13
    refine ge_round_out (fun hrr => ?_) (by intro h; cases h)
    obtain rfl := hrr
    refine qh ?_
    exact ge_mid fun t ht => ⟨_, rfl, A15, n16, C17, (hO18.mono hI33), (Imm.trans hI14 hI33), rfl, ht.pick (l := [3]) (by kernel_rfl)⟩
 ·rintro t I28 L' ⟨r21, rfl, A23, n24, C25, hO26, hI22, rfl, hK27⟩
  refine ge_at hK27 ?_
  refine qs (qk (qR (qp 2 [2] [(2, .slice A23 r21.1.length n24)] (qE (qs (qt ?_))))))
  obtain rfl := some_inj hr
  exact ge_result trivial (ResOk.tmp (by kernel_rfl) ResOk.nil) hI22 ⟨A23, n24, C25, hO26, rfl, rfl⟩
/-! 78 tocsinref04_twice  -/
noncomputable def tocsinref04_twice_l50 (x20 : S49) (l30 : List S49) : Int → Option ((Int) ⊕ ((Unit) ⊕ ((Int) ⊕ ((Unit) ⊕ (Bool))))) := fun s40 =>
 bif (decide (s40 < (l30.length : Int))) then
 (Option.bind (ix l30 s40) fun (x53 : S49) =>
  bif (x20.f0.toList == x53.f0.toList) then
  (some (Sum.inr (Sum.inr (Sum.inr (Sum.inr true)))))
  else
  (some (Sum.inl (IntKind.wrap .i64 (s40 + 1)))))
 else
 (some (Sum.inr (Sum.inl ())))
noncomputable def tocsinref04_twice_l17 (a0 : List S49) : Int → Option ((Int) ⊕ ((Unit) ⊕ (Bool))) := fun s7 =>
 bif (decide (s7 < (a0.length : Int))) then
 (Option.bind (ix a0 s7) fun (x20 : S49) =>
  Option.bind (lx a0 0 s7) fun (l30 : List S49) =>
  Option.bind (loopO (tocsinref04_twice_l50 x20 l30) 0) fun (r38 : (Unit) ⊕ ((Int) ⊕ ((Unit) ⊕ (Bool)))) =>
  match r38 with
  | Sum.inl r46 => some (Sum.inl (IntKind.wrap .i64 (s7 + 1)))
  | Sum.inr v63 => some v63)
 else
 (some (Sum.inr (Sum.inl ())))
noncomputable def tocsinref04_twice (a0 : List S49) : Option Bool :=
 Option.bind (loopO (tocsinref04_twice_l17 a0) 0) fun (r5 : (Unit) ⊕ (Bool)) =>
 match r5 with
 | Sum.inl r13 => some false
 | Sum.inr v64 => some v64
theorem tocsinref04_twice_walk {a0 : List S49} {A0_0 : Option Addr} {n0_0 : Nat} {I : Imm} {r : Bool}  (hf0_0 : RepS kS49 I A0_0 n0_0 a0) (hr : tocsinref04_twice a0 = some r) (L : Own) :
  CallsTo Tryz.prog 78 #[.slice A0_0 a0.length n0_0] I L (fun v I' L' => v = .bool r ∧ L = L') := by
 unfold tocsinref04_twice at hr
 refine callsTo_body (N := 29) Tryz.func78 (by kernel_rfl) (by kernel_rfl) (by kernel_rfl) ?_
 refine qq [0] [(0, .slice A0_0 a0.length n0_0)] (qk (qR (qp 1 [0] [(0, .slice A0_0 a0.length n0_0)] (qE (qs (qk (qk (qR (qp 3 [0, 7, 8, 9] [(0, .slice A0_0 a0.length n0_0), (7, .slice A0_0 a0.length n0_0), (8, .int .i64 (a0.length : Int)), (9, .int .i64 0)] (qE (qs ?_)))))))))))
 obtain ⟨r5, hl6, hr⟩ := bind_some hr
 refine gk_join (fun t I' L' => ∃ r13, r5 = Sum.inl r13 ∧ I ≤ I' ∧ L = L' ∧ Knows 29 [] t) ?_ ?_
 ·refine qb (qq [0, 7, 8, 9] [(0, .slice A0_0 a0.length n0_0), (7, .slice A0_0 a0.length n0_0), (8, .int .i64 (a0.length : Int)), (9, .int .i64 0)] ?_)
  intro t hK
  refine gc_loop (tocsinref04_twice_l17 a0) (fun s7 t I' L' => I ≤ I' ∧ L = L' ∧ Knows 29 [(0, .slice A0_0 a0.length n0_0), (7, .slice A0_0 a0.length n0_0), (8, .int .i64 (a0.length : Int)), (9, .int .i64 s7)] t) (by kernel_rfl) ?_ hl6 ⟨(Imm.refl _), rfl, hK⟩
  rintro s7 o8 t I12 L' hb9 ⟨hI10, rfl, hK11⟩
  unfold tocsinref04_twice_l17 at hb9
  refine gk_at hK11 ?_
  refine qk (qR (qp 1 [0, 7, 8, 9, 10] [(0, .slice A0_0 a0.length n0_0), (7, .slice A0_0 a0.length n0_0), (8, .int .i64 (a0.length : Int)), (9, .int .i64 s7), (10, .bool (decide (s7 < (a0.length : Int))))] (qE (qs (qk ?_)))))
  refine gk_cond (b := (decide (s7 < (a0.length : Int)))) (by kernel_rfl) (by kernel_rfl) (fun hc19 => ?_) (fun hc19 => ?_)
  ·have hb9 := cond_t hc19 hb9
   refine qx (qs (qk (qb (qk (qR (qp 1 [0, 7, 8, 9, 11] [(0, .slice A0_0 a0.length n0_0), (7, .slice A0_0 a0.length n0_0), (8, .int .i64 (a0.length : Int)), (9, .int .i64 s7), (11, .int .i64 s7)] ?_))))))
   obtain ⟨x20, hx21, hb9⟩ := bind_some hb9
   obtain ⟨p22, cs23, hR24, hA25, ha26⟩ := RepS.ixAt hx21 (hf0_0.mono hI10)
   have hi27 := ix_some hx21
   obtain rfl := kS49_open hR24
   refine gl_indexAddrF (c := n0_0) (T' := 22) (e := 50) (xs := (.tmp 7)) (xi := (.tmp 9)) (kd := .i64) ha26 hi27.1 hi27.2.1 (by kernel_rfl) (by kernel_rfl) (by kernel_rfl) (by kernel_rfl) (by kernel_rfl) ?_
   refine gl_loadA (T' := 50) (xp := (.tmp 12)) (p := p22) (cs := [.string x20.f0, .string x20.f1]) (by kernel_rfl) (by kernel_rfl) (by kernel_rfl) (by kernel_rfl) (hA25.take 2) ?_
   refine gl_alloc (T' := 50) (cs := #[.string (⟨#[]⟩ : ByteArray), .string (⟨#[]⟩ : ByteArray)]) (by kernel_rfl) (by kernel_rfl) (by kernel_rfl) (fun g28 => ?_)
   refine qp 1 [0, 3, 4, 7, 8, 9, 13] [(0, .slice A0_0 a0.length n0_0), (3, .int .i64 s7), (4, .pointer (some ⟨g28, 0, none⟩)), (7, .slice A0_0 a0.length n0_0), (8, .int .i64 (a0.length : Int)), (9, .int .i64 s7), (13, .agg #[.string x20.f0, .string x20.f1])] ?_
   refine gl_storeB (T' := 50) (xp := (.tmp 4)) (xv := (.tmp 13)) (v := .agg #[.string x20.f0, .string x20.f1]) (g := g28) (off := 0) (cs := #[.string (⟨#[]⟩ : ByteArray), .string (⟨#[]⟩ : ByteArray)]) (cs' := #[.string x20.f0, .string x20.f1]) (by kernel_rfl) (by kernel_rfl) (by kernel_rfl) (by kernel_rfl) (by kernel_rfl) (Upd.set _ _ _ _) ?_ (by kernel_rfl)
   refine qE (qs (qk (qR (qp 2 [0, 4, 7, 8, 9, 14, 15] [(0, .slice A0_0 a0.length n0_0), (4, .pointer (some ⟨g28, 0, none⟩)), (7, .slice A0_0 a0.length n0_0), (8, .int .i64 (a0.length : Int)), (9, .int .i64 s7), (14, .slice A0_0 a0.length n0_0), (15, .int .i64 s7)] ?_))))
   obtain ⟨l30, hx29, hb9⟩ := bind_some hb9
   refine gl_sliceR (d := kS49) (T' := 22) (e := 50) (xs := (.tmp 14)) (lo := none) (hi := (some (.tmp 15))) hx29 (hf0_0.mono hI10) (by kernel_rfl) (by kernel_rfl) (by kernel_rfl) (by kernel_rfl) (by kernel_rfl) (by kernel_rfl) (fun A31 n32 hf33 => ?_)
   refine qp 2 [0, 4, 7, 8, 9, 16, 17, 18] [(0, .slice A0_0 a0.length n0_0), (4, .pointer (some ⟨g28, 0, none⟩)), (7, .slice A0_0 a0.length n0_0), (8, .int .i64 (a0.length : Int)), (9, .int .i64 s7), (16, .slice A31 l30.length n32), (17, .int .i64 (l30.length : Int)), (18, .int .i64 0)] (qE (qs ?_))
   obtain ⟨r38, hl39, hb9⟩ := bind_some hb9
   refine gk_join (fun t I' L' => ∃ r46, r38 = Sum.inl r46 ∧ I12 ≤ I' ∧ L = L' ∧ Knows 29 [(0, .slice A0_0 a0.length n0_0), (7, .slice A0_0 a0.length n0_0), (8, .int .i64 (a0.length : Int)), (9, .int .i64 s7)] t) ?_ ?_
   ·refine qb (qq [0, 4, 7, 8, 9, 16, 17, 18] [(0, .slice A0_0 a0.length n0_0), (4, .pointer (some ⟨g28, 0, none⟩)), (7, .slice A0_0 a0.length n0_0), (8, .int .i64 (a0.length : Int)), (9, .int .i64 s7), (16, .slice A31 l30.length n32), (17, .int .i64 (l30.length : Int)), (18, .int .i64 0)] ?_)
    intro t hK
    refine gc_loop (tocsinref04_twice_l50 x20 l30) (fun s40 t I' L' => I12 ≤ I' ∧ (g28, .cells #[.string x20.f0, .string x20.f1] 50) :: L = L' ∧ Knows 29 [(0, .slice A0_0 a0.length n0_0), (4, .pointer (some ⟨g28, 0, none⟩)), (7, .slice A0_0 a0.length n0_0), (8, .int .i64 (a0.length : Int)), (9, .int .i64 s7), (16, .slice A31 l30.length n32), (17, .int .i64 (l30.length : Int)), (18, .int .i64 s40)] t) (by kernel_rfl) ?_ hl39 ⟨(Imm.refl _), rfl, hK⟩
    rintro s40 o41 t I45 L' hb42 ⟨hI43, rfl, hK44⟩
    unfold tocsinref04_twice_l50 at hb42
    refine gk_at hK44 ?_
    refine qk (qR (qp 1 [0, 4, 7, 8, 9, 16, 17, 18, 19] [(0, .slice A0_0 a0.length n0_0), (4, .pointer (some ⟨g28, 0, none⟩)), (7, .slice A0_0 a0.length n0_0), (8, .int .i64 (a0.length : Int)), (9, .int .i64 s7), (16, .slice A31 l30.length n32), (17, .int .i64 (l30.length : Int)), (18, .int .i64 s40), (19, .bool (decide (s40 < (l30.length : Int))))] (qE (qs (qk ?_)))))
    refine gk_cond (b := (decide (s40 < (l30.length : Int)))) (by kernel_rfl) (by kernel_rfl) (fun hc52 => ?_) (fun hc52 => ?_)
    ·have hb42 := cond_t hc52 hb42
     refine qx (qs (qk (qb (qk (qR ?_)))))
     obtain ⟨x53, hx54, hb42⟩ := bind_some hb42
     obtain ⟨p55, cs56, hR57, hA58, ha59⟩ := RepS.ixAt hx54 (hf33.mono hI43)
     have hi60 := ix_some hx54
     obtain rfl := kS49_open hR57
     refine gl_indexAddrF (c := n32) (T' := 22) (e := 50) (xs := (.tmp 16)) (xi := (.tmp 18)) (kd := .i64) ha59 hi60.1 hi60.2.1 (by kernel_rfl) (by kernel_rfl) (by kernel_rfl) (by kernel_rfl) (by kernel_rfl) ?_
     refine gl_loadA (T' := 50) (xp := (.tmp 20)) (p := p55) (cs := [.string x53.f0, .string x53.f1]) (by kernel_rfl) (by kernel_rfl) (by kernel_rfl) (by kernel_rfl) (hA58.take 2) ?_
     refine gl_alloc (T' := 50) (cs := #[.string (⟨#[]⟩ : ByteArray), .string (⟨#[]⟩ : ByteArray)]) (by kernel_rfl) (by kernel_rfl) (by kernel_rfl) (fun g61 => ?_)
     refine gl_storeB (T' := 50) (xp := (.tmp 6)) (xv := (.tmp 21)) (v := .agg #[.string x53.f0, .string x53.f1]) (g := g61) (off := 0) (cs := #[.string (⟨#[]⟩ : ByteArray), .string (⟨#[]⟩ : ByteArray)]) (cs' := #[.string x53.f0, .string x53.f1]) (by kernel_rfl) (by kernel_rfl) (by kernel_rfl) (by kernel_rfl) (by kernel_rfl) (Upd.set _ _ _ _) ?_ (by kernel_rfl)
     refine qE (qs (qk (qR (qp 1 [0, 4, 6, 7, 8, 9, 16, 17, 18, 22] [(0, .slice A0_0 a0.length n0_0), (4, .pointer (some ⟨g28, 0, none⟩)), (6, .pointer (some ⟨g61, 0, none⟩)), (7, .slice A0_0 a0.length n0_0), (8, .int .i64 (a0.length : Int)), (9, .int .i64 s7), (16, .slice A31 l30.length n32), (17, .int .i64 (l30.length : Int)), (18, .int .i64 s40), (22, .pointer (some ⟨g28, 0, none⟩))] ?_))))
     refine gl_loadB (T' := 9) (xp := (.tmp 22)) (v := .string x20.f0) (g := g28) (off := 0) (cs := #[.string x20.f0, .string x20.f1]) (e := 50) (fz := (0, 0)) (by kernel_rfl) (by kernel_rfl) (by kernel_rfl) (List.mem_cons_of_mem _ mcs) (by kernel_rfl) ?_
     refine qp 1 [0, 4, 7, 8, 9, 16, 17, 18, 23, 24] [(0, .slice A0_0 a0.length n0_0), (4, .pointer (some ⟨g28, 0, none⟩)), (7, .slice A0_0 a0.length n0_0), (8, .int .i64 (a0.length : Int)), (9, .int .i64 s7), (16, .slice A31 l30.length n32), (17, .int .i64 (l30.length : Int)), (18, .int .i64 s40), (23, .string x20.f0), (24, .pointer (some ⟨g61, 0, none⟩))] ?_
     refine gl_loadB (T' := 9) (xp := (.tmp 24)) (v := .string x53.f0) (g := g61) (off := 0) (cs := #[.string x53.f0, .string x53.f1]) (e := 50) (fz := (0, 0)) (by kernel_rfl) (by kernel_rfl) (by kernel_rfl) mcs (by kernel_rfl) ?_
     refine qp 1 [0, 4, 7, 8, 9, 16, 17, 18, 26] [(0, .slice A0_0 a0.length n0_0), (4, .pointer (some ⟨g28, 0, none⟩)), (7, .slice A0_0 a0.length n0_0), (8, .int .i64 (a0.length : Int)), (9, .int .i64 s7), (16, .slice A31 l30.length n32), (17, .int .i64 (l30.length : Int)), (18, .int .i64 s40), (26, .bool (x20.f0.toList == x53.f0.toList))] (qE (qs ?_))
     refine gk_cond (b := (x20.f0.toList == x53.f0.toList)) (by kernel_rfl) (by kernel_rfl) (fun hc62 => ?_) (fun hc62 => ?_)
     ·have hb42 := cond_t hc62 hb42
      refine qk (qR (qp 1 [2] [(2, .bool true)] (qE (qs ?_))))
      refine gk_reord (D := L) (Reord.skip (Reord.skip (Reord.refl _))) ?_
      refine qt (qv (qu ?_))
      obtain rfl := some_inj hb42
      refine ge_round_out (fun hrr => ?_) (by intro h; cases h)
      obtain rfl := hrr
      refine qv (qu (qv (qu ?_)))
      obtain rfl := some_inj hb9
      refine ge_round_out (fun hrr => ?_) (by intro h; cases h)
      obtain rfl := hrr
      refine qv (qu (qu ?_))
      obtain rfl := some_inj hr
      exact ge_result trivial (ResOk.tmp (by kernel_rfl) ResOk.nil) (Imm.trans hI10 hI43) ⟨rfl, rfl⟩
     ·have hb42 := cond_f hc62 hb42
      refine qx (qn (qs (qR (qp 2 [0, 4, 7, 8, 9, 16, 17, 18] [(0, .slice A0_0 a0.length n0_0), (4, .pointer (some ⟨g28, 0, none⟩)), (7, .slice A0_0 a0.length n0_0), (8, .int .i64 (a0.length : Int)), (9, .int .i64 s7), (16, .slice A31 l30.length n32), (17, .int .i64 (l30.length : Int)), (18, .int .i64 (IntKind.wrap .i64 (s40 + 1)))] ?_))))
      refine gl_reord (D := (g28, .cells #[.string x20.f0, .string x20.f1] 50) :: L) (Reord.step1 (Upd.one _ (Upd.rm1 _ _)) (Reord.skip (Reord.refl _))) ?_
      refine qE ?_
      obtain rfl := some_inj hb42
      exact ge_round fun t ht => ⟨hI43, rfl, ht.pick (l := [0, 4, 7, 8, 9, 16, 17, 18]) (by kernel_rfl)⟩
    ·have hb42 := cond_f hc52 hb42
     refine gk_reord (D := L) (Reord.skip (Reord.refl _)) ?_
     refine qe (qf ?_)
     obtain rfl := some_inj hb42
     refine ge_round_out (fun hrr => ?_) (by intro h; cases h)
     obtain rfl := hrr
     refine qh ?_
     exact ge_mid fun t ht => ⟨_, rfl, hI43, rfl, ht.pick (l := [0, 7, 8, 9]) (by kernel_rfl)⟩
   ·rintro t I49 L' ⟨r46, rfl, hI47, rfl, hK48⟩
    refine ge_at hK48 ?_
    refine qn (qs (qR (qp 2 [0, 7, 8, 9] [(0, .slice A0_0 a0.length n0_0), (7, .slice A0_0 a0.length n0_0), (8, .int .i64 (a0.length : Int)), (9, .int .i64 (IntKind.wrap .i64 (s7 + 1)))] (qE ?_))))
    obtain rfl := some_inj hb9
    exact ge_round fun t ht => ⟨(Imm.trans hI10 hI47), rfl, ht.pick (l := [0, 7, 8, 9]) (by kernel_rfl)⟩
  ·have hb9 := cond_f hc19 hb9
   refine qe (qf ?_)
   obtain rfl := some_inj hb9
   refine ge_round_out (fun hrr => ?_) (by intro h; cases h)
   obtain rfl := hrr
   refine qh ?_
   exact ge_mid fun t ht => ⟨_, rfl, hI10, rfl, ht.pick (l := []) (by kernel_rfl)⟩
 ·rintro t I16 L' ⟨r13, rfl, hI14, rfl, hK15⟩
  refine ge_at hK15 ?_
  refine qs (qk (qR (qp 1 [2] [(2, .bool false)] (qE (qs (qt ?_))))))
  obtain rfl := some_inj hr
  exact ge_result trivial (ResOk.tmp (by kernel_rfl) ResOk.nil) hI14 ⟨rfl, rfl⟩
/-! 80 tocsinref04_full  -/
noncomputable def tocsinref04_full_l28 (a0 : List S49) : ((List S49) × Int) → Option (((List S49) × Int) ⊕ ((List S49))) := fun s11 =>
 bif (decide (s11.2 < (a0.length : Int))) then
 (Option.bind (ix a0 s11.2) fun (x31 : S49) =>
  Option.bind (bif (!(x31.f1.toList == (⟨#[]⟩ : ByteArray).toList)) then
   (Option.bind (app s11.1 [x31]) fun (zs54 : List S49) =>
    some zs54)
   else
   (some s11.1)) fun (j40 : (List S49)) =>
  some (Sum.inl (j40, (IntKind.wrap .i64 (s11.2 + 1)))))
 else
 (some (Sum.inr s11.1))
noncomputable def tocsinref04_full (a0 : List S49) : Option (List S49) :=
 Option.bind (loopO (tocsinref04_full_l28 a0) ([], 0)) fun (r9 : (List S49)) =>
 some r9
theorem tocsinref04_full_walk {a0 : List S49} {A0_0 : Option Addr} {n0_0 : Nat} {I : Imm} {r : (List S49)}  (hf0_0 : RepS kS49 I A0_0 n0_0 a0) (hr : tocsinref04_full a0 = some r) (L : Own) :
  CallsTo Tryz.prog 80 #[.slice A0_0 a0.length n0_0] I L (fun v I' L' => ∃ A0 c0 C0, OwnS kS49 50 I' A0 c0 r C0 ∧ v = .slice A0 r.length c0 ∧ C0 ++ L = L') := by
 unfold tocsinref04_full at hr
 refine callsTo_body (N := 21) Tryz.func80 (by kernel_rfl) (by kernel_rfl) (by kernel_rfl) ?_
 refine qq [0] [(0, .slice A0_0 a0.length n0_0)] (qk (qR (qp 1 [0] [(0, .slice A0_0 a0.length n0_0)] (qE (qs (qk (qR (qp 1 [0, 3] [(0, .slice A0_0 a0.length n0_0), (3, .slice none 0 0)] (qE (qs (qk ?_)))))))))))
 refine qk (qR (qp 3 [3, 6, 7, 8] [(3, .slice none 0 0), (6, .slice A0_0 a0.length n0_0), (7, .int .i64 (a0.length : Int)), (8, .int .i64 0)] (qE (qs ?_))))
 obtain ⟨r9, hl10, hr⟩ := bind_some hr
 refine gk_join (fun t I' L' => ∃ A22 n23 C24, OwnS kS49 50 I' A22 n23 r9 C24 ∧ I ≤ I' ∧ C24 ++ L = L' ∧ Knows 21 [(3, .slice A22 r9.length n23)] t) ?_ ?_
 ·refine qb (qq [3, 6, 7, 8] [(3, .slice none 0 0), (6, .slice A0_0 a0.length n0_0), (7, .int .i64 (a0.length : Int)), (8, .int .i64 0)] ?_)
  intro t hK
  refine gc_loop (tocsinref04_full_l28 a0) (fun s11 t I' L' => ∃ A15 n16 C17, OwnS kS49 50 I' A15 n16 s11.1 C17 ∧ I ≤ I' ∧ C17 ++ L = L' ∧ Knows 21 [(3, .slice A15 s11.1.length n16), (6, .slice A0_0 a0.length n0_0), (7, .int .i64 (a0.length : Int)), (8, .int .i64 s11.2)] t) (by kernel_rfl) ?_ hl10 ⟨none, 0, [], OwnS.nil _ _ _ _, (Imm.refl _), rfl, hK⟩
  rintro s11 o12 t I20 L' hb13 ⟨A15, n16, C17, hO18, hI14, rfl, hK19⟩
  unfold tocsinref04_full_l28 at hb13
  refine gk_at hK19 ?_
  refine qk (qR (qp 1 [3, 6, 7, 8, 9] [(3, .slice A15 s11.1.length n16), (6, .slice A0_0 a0.length n0_0), (7, .int .i64 (a0.length : Int)), (8, .int .i64 s11.2), (9, .bool (decide (s11.2 < (a0.length : Int))))] (qE (qs (qk ?_)))))
  refine gk_cond (b := (decide (s11.2 < (a0.length : Int)))) (by kernel_rfl) (by kernel_rfl) (fun hc30 => ?_) (fun hc30 => ?_)
  ·have hb13 := cond_t hc30 hb13
   refine qx (qs (qk (qb (qk (qR ?_)))))
   obtain ⟨x31, hx32, hb13⟩ := bind_some hb13
   obtain ⟨p33, cs34, hR35, hA36, ha37⟩ := RepS.ixAt hx32 (hf0_0.mono hI14)
   have hi38 := ix_some hx32
   obtain rfl := kS49_open hR35
   refine gl_indexAddrF (c := n0_0) (T' := 22) (e := 50) (xs := (.tmp 6)) (xi := (.tmp 8)) (kd := .i64) ha37 hi38.1 hi38.2.1 (by kernel_rfl) (by kernel_rfl) (by kernel_rfl) (by kernel_rfl) (by kernel_rfl) ?_
   refine gl_loadA (T' := 50) (xp := (.tmp 10)) (p := p33) (cs := [.string x31.f0, .string x31.f1]) (by kernel_rfl) (by kernel_rfl) (by kernel_rfl) (by kernel_rfl) (hA36.take 2) ?_
   refine gl_alloc (T' := 50) (cs := #[.string (⟨#[]⟩ : ByteArray), .string (⟨#[]⟩ : ByteArray)]) (by kernel_rfl) (by kernel_rfl) (by kernel_rfl) (fun g39 => ?_)
   refine gl_storeB (T' := 50) (xp := (.tmp 5)) (xv := (.tmp 11)) (v := .agg #[.string x31.f0, .string x31.f1]) (g := g39) (off := 0) (cs := #[.string (⟨#[]⟩ : ByteArray), .string (⟨#[]⟩ : ByteArray)]) (cs' := #[.string x31.f0, .string x31.f1]) (by kernel_rfl) (by kernel_rfl) (by kernel_rfl) (by kernel_rfl) (by kernel_rfl) (Upd.set _ _ _ _) ?_ (by kernel_rfl)
   refine qE (qs (qk (qR (qp 1 [3, 5, 6, 7, 8, 12] [(3, .slice A15 s11.1.length n16), (5, .pointer (some ⟨g39, 0, none⟩)), (6, .slice A0_0 a0.length n0_0), (7, .int .i64 (a0.length : Int)), (8, .int .i64 s11.2), (12, .pointer (some ⟨g39, 1, none⟩))] ?_))))
   refine gl_loadB (T' := 9) (xp := (.tmp 12)) (v := .string x31.f1) (g := g39) (off := 1) (cs := #[.string x31.f0, .string x31.f1]) (e := 50) (fz := (0, 0)) (by kernel_rfl) (by kernel_rfl) (by kernel_rfl) mcs (by kernel_rfl) ?_
   refine qp 1 [3, 5, 6, 7, 8, 14] [(3, .slice A15 s11.1.length n16), (5, .pointer (some ⟨g39, 0, none⟩)), (6, .slice A0_0 a0.length n0_0), (7, .int .i64 (a0.length : Int)), (8, .int .i64 s11.2), (14, .bool (!(x31.f1.toList == (⟨#[]⟩ : ByteArray).toList)))] (qE (qs ?_))
   obtain ⟨j40, hj41, hb13⟩ := bind_some hb13
   refine gk_join (fun t I' L' => ∃ A43 n44 C45, OwnS kS49 50 I' A43 n44 j40 C45 ∧ I20 ≤ I' ∧ C45 ++ L = L' ∧ Knows 21 [(3, .slice A43 j40.length n44), (6, .slice A0_0 a0.length n0_0), (7, .int .i64 (a0.length : Int)), (8, .int .i64 s11.2)] t) ?_ ?_
   ·refine gk_cond (b := (!(x31.f1.toList == (⟨#[]⟩ : ByteArray).toList))) (by kernel_rfl) (by kernel_rfl) (fun hc49 => ?_) (fun hc49 => ?_)
    ·have hj41 := cond_t hc49 hj41
     refine qR (qp 1 [5, 6, 7, 8, 15] [(5, .pointer (some ⟨g39, 0, none⟩)), (6, .slice A0_0 a0.length n0_0), (7, .int .i64 (a0.length : Int)), (8, .int .i64 s11.2), (15, .slice A15 s11.1.length n16)] ?_)
     refine gl_loadB (T' := 50) (xp := (.tmp 5)) (v := .agg #[.string x31.f0, .string x31.f1]) (g := g39) (off := 0) (cs := #[.string x31.f0, .string x31.f1]) (e := 50) (fz := (0, 0)) (by kernel_rfl) (by kernel_rfl) (by kernel_rfl) mcs (by kernel_rfl) ?_
     refine gl_buildSlice (T' := 22) (e := 50) (n := 2) (len := 1) (parts := #[(0, (.tmp 16))]) (l := [(0, .agg #[.string x31.f0, .string x31.f1])]) (cs := #[.string x31.f0, .string x31.f1]) (by kernel_rfl) (by kernel_rfl) (by kernel_rfl) (by kernel_rfl) (by kernel_rfl) (fun g50 => ?_)
     have hO51 : OwnS kS49 50 I20 (some ⟨g50, 0, none⟩) 1 [x31] [(g50, .cells #[.string x31.f0, .string x31.f1] 50)] := OwnS.lit (row_cons (l := [.string x31.f0, .string x31.f1]) (kS49_mk (x := x31) ) (row_nil _ _)) rfl rfl rfl
     refine gl_reord (D := [(g50, .cells #[.string x31.f0, .string x31.f1] 50)] ++ ((g39, .cells #[.string x31.f0, .string x31.f1] 50) :: (C17 ++ L))) (Reord.refl _) ?_
     obtain ⟨zs54, hz55, hj41⟩ := bind_some hj41
     refine gl_append (xv := .slice (some ⟨g50, 0, none⟩) [x31].length 1) (d := kS49) (t := 22) (tx := 22) (e := 50) (s := (.tmp 15)) (x := (.tmp 17)) (xs := s11.1) (fun X => [(g50, .cells #[.string x31.f0, .string x31.f1] 50)] ++ ((g39, .cells #[.string x31.f0, .string x31.f1] 50) :: (X ++ L))) hz55 (by kernel_rfl) (by kernel_rfl) (by kernel_rfl) (by kernel_rfl) (by kernel_rfl) (by kernel_rfl) (fun X => (Upd.app _ (Upd.one _ (Upd.head _ X _)))) hO18 (SrcOk.slice (c := 1) (e := 50) (n := 2) (OwnS.rd hO51 (Upd.selfC _ _)) (by kernel_rfl)) (fun A56 n57 C58 hO59 => ?_)
     refine qp 1 [3, 6, 7, 8] [(3, .slice A56 zs54.length n57), (6, .slice A0_0 a0.length n0_0), (7, .int .i64 (a0.length : Int)), (8, .int .i64 s11.2)] ?_
     refine gl_reord (D := C58 ++ L) (Reord.step (Upd.app _ (Upd.one _ (Upd.rmC _ _))) (Reord.skipC (Reord.skip (Reord.refl _)))) ?_
     refine qE ?_
     obtain rfl := some_inj hj41
     exact ge_mid fun t ht => ⟨A56, n57, C58, hO59, (Imm.refl _), rfl, ht.pick (l := [3, 6, 7, 8]) (by kernel_rfl)⟩
    ·have hj41 := cond_f hc49 hj41
     refine gk_reord (D := C17 ++ L) (Reord.step (Upd.one _ (Upd.rmC _ _)) (Reord.skip (Reord.refl _))) ?_
     refine qx ?_
     obtain rfl := some_inj hj41
     exact ge_mid fun t ht => ⟨A15, n16, C17, hO18, (Imm.refl _), rfl, ht.pick (l := [3, 6, 7, 8]) (by kernel_rfl)⟩
   ·rintro t I48 L' ⟨A43, n44, C45, hO46, hI42, rfl, hK47⟩
    refine ge_at hK47 ?_
    refine qn (qs (qR (qp 2 [3, 6, 7, 8] [(3, .slice A43 j40.length n44), (6, .slice A0_0 a0.length n0_0), (7, .int .i64 (a0.length : Int)), (8, .int .i64 (IntKind.wrap .i64 (s11.2 + 1)))] (qE ?_))))
    obtain rfl := some_inj hb13
    exact ge_round fun t ht => ⟨A43, n44, C45, hO46, (Imm.trans hI14 hI42), rfl, ht.pick (l := [3, 6, 7, 8]) (by kernel_rfl)⟩
  ·have hb13 := cond_f hc30 hb13
   refine qe (qf ?_)
   obtain rfl := some_inj hb13
   refine ge_round_out (fun hrr => ?_) (by intro h; cases h)
   obtain rfl := hrr
   refine qh ?_
   exact ge_mid fun t ht => ⟨A15, n16, C17, hO18, hI14, rfl, ht.pick (l := [3]) (by kernel_rfl)⟩
 ·rintro t I27 L' ⟨A22, n23, C24, hO25, hI21, rfl, hK26⟩
  refine ge_at hK26 ?_
  refine qs (qk (qR (qp 2 [2] [(2, .slice A22 r9.length n23)] (qE (qs (qt ?_))))))
  obtain rfl := some_inj hr
  exact ge_result trivial (ResOk.tmp (by kernel_rfl) ResOk.nil) hI21 ⟨A22, n23, C24, hO25, rfl, rfl⟩
/-! 79 tocsinref04_sorted  -/
noncomputable def tocsinref04_sorted_l74 (x31 : S49) : ((List S49) × Int) → Option (((List S49) × Int) ⊕ ((List S49) × Int)) := fun s59 =>
 Option.bind (bif (decide (s59.2 > 0)) then
  (Option.bind (ix s59.1 (IntKind.wrap .i64 (s59.2 - 1))) fun (x82 : S49) =>
   some (!((Op.bytesLess x82.f0.toList x31.f0.toList) || (x82.f0.toList == x31.f0.toList))))
  else
  (some false)) fun (j76 : Bool) =>
 bif j76 then
 (Option.bind (ix s59.1 (IntKind.wrap .i64 (s59.2 - 1))) fun (x92 : S49) =>
  Option.bind (ix s59.1 s59.2) fun (x101 : S49) =>
  some (Sum.inl ((lset s59.1 s59.2 x92), (IntKind.wrap .i64 (s59.2 - 1)))))
 else
 (some (Sum.inr (s59.1, s59.2)))
noncomputable def tocsinref04_sorted_l28 (a0 : List S49) : ((List S49) × Int) → Option (((List S49) × Int) ⊕ ((List S49))) := fun s11 =>
 bif (decide (s11.2 < (a0.length : Int))) then
 (Option.bind (ix a0 s11.2) fun (x31 : S49) =>
  Option.bind (app s11.1 [x31]) fun (zs44 : List S49) =>
  Option.bind (loopO (tocsinref04_sorted_l74 x31) (zs44, (s11.1.length : Int))) fun (r57 : (List S49) × Int) =>
  Option.bind (ix r57.1 r57.2) fun (x113 : S49) =>
  some (Sum.inl ((lset r57.1 r57.2 x31), (IntKind.wrap .i64 (s11.2 + 1)))))
 else
 (some (Sum.inr s11.1))
noncomputable def tocsinref04_sorted (a0 : List S49) : Option (List S49) :=
 Option.bind (loopO (tocsinref04_sorted_l28 a0) ([], 0)) fun (r9 : (List S49)) =>
 some r9
theorem tocsinref04_sorted_walk {a0 : List S49} {A0_0 : Option Addr} {n0_0 : Nat} {I : Imm} {r : (List S49)}  (hf0_0 : RepS kS49 I A0_0 n0_0 a0) (hr : tocsinref04_sorted a0 = some r) (L : Own) :
  CallsTo Tryz.prog 79 #[.slice A0_0 a0.length n0_0] I L (fun v I' L' => ∃ A0 c0 C0, OwnS kS49 50 I' A0 c0 r C0 ∧ v = .slice A0 r.length c0 ∧ C0 ++ L = L') := by
 unfold tocsinref04_sorted at hr
 refine callsTo_body (N := 48) Tryz.func79 (by kernel_rfl) (by kernel_rfl) (by kernel_rfl) ?_
 refine qq [0] [(0, .slice A0_0 a0.length n0_0)] (qk (qR (qp 1 [0] [(0, .slice A0_0 a0.length n0_0)] (qE (qs (qk (qR (qp 1 [0, 3] [(0, .slice A0_0 a0.length n0_0), (3, .slice none 0 0)] (qE (qs (qk ?_)))))))))))
 refine qk (qR (qp 3 [3, 7, 8, 9] [(3, .slice none 0 0), (7, .slice A0_0 a0.length n0_0), (8, .int .i64 (a0.length : Int)), (9, .int .i64 0)] (qE (qs ?_))))
 obtain ⟨r9, hl10, hr⟩ := bind_some hr
 refine gk_join (fun t I' L' => ∃ A22 n23 C24, OwnS kS49 50 I' A22 n23 r9 C24 ∧ I ≤ I' ∧ C24 ++ L = L' ∧ Knows 48 [(3, .slice A22 r9.length n23)] t) ?_ ?_
 ·refine qb (qq [3, 7, 8, 9] [(3, .slice none 0 0), (7, .slice A0_0 a0.length n0_0), (8, .int .i64 (a0.length : Int)), (9, .int .i64 0)] ?_)
  intro t hK
  refine gc_loop (tocsinref04_sorted_l28 a0) (fun s11 t I' L' => ∃ A15 n16 C17, OwnS kS49 50 I' A15 n16 s11.1 C17 ∧ I ≤ I' ∧ C17 ++ L = L' ∧ Knows 48 [(3, .slice A15 s11.1.length n16), (7, .slice A0_0 a0.length n0_0), (8, .int .i64 (a0.length : Int)), (9, .int .i64 s11.2)] t) (by kernel_rfl) ?_ hl10 ⟨none, 0, [], OwnS.nil _ _ _ _, (Imm.refl _), rfl, hK⟩
  rintro s11 o12 t I20 L' hb13 ⟨A15, n16, C17, hO18, hI14, rfl, hK19⟩
  unfold tocsinref04_sorted_l28 at hb13
  refine gk_at hK19 ?_
  refine qk (qR (qp 1 [3, 7, 8, 9, 10] [(3, .slice A15 s11.1.length n16), (7, .slice A0_0 a0.length n0_0), (8, .int .i64 (a0.length : Int)), (9, .int .i64 s11.2), (10, .bool (decide (s11.2 < (a0.length : Int))))] (qE (qs (qk ?_)))))
  refine gk_cond (b := (decide (s11.2 < (a0.length : Int)))) (by kernel_rfl) (by kernel_rfl) (fun hc30 => ?_) (fun hc30 => ?_)
  ·have hb13 := cond_t hc30 hb13
   refine qx (qs (qk (qb (qk (qR ?_)))))
   obtain ⟨x31, hx32, hb13⟩ := bind_some hb13
   obtain ⟨p33, cs34, hR35, hA36, ha37⟩ := RepS.ixAt hx32 (hf0_0.mono hI14)
   have hi38 := ix_some hx32
   obtain rfl := kS49_open hR35
   refine gl_indexAddrF (c := n0_0) (T' := 22) (e := 50) (xs := (.tmp 7)) (xi := (.tmp 9)) (kd := .i64) ha37 hi38.1 hi38.2.1 (by kernel_rfl) (by kernel_rfl) (by kernel_rfl) (by kernel_rfl) (by kernel_rfl) ?_
   refine gl_loadA (T' := 50) (xp := (.tmp 11)) (p := p33) (cs := [.string x31.f0, .string x31.f1]) (by kernel_rfl) (by kernel_rfl) (by kernel_rfl) (by kernel_rfl) (hA36.take 2) ?_
   refine gl_alloc (T' := 50) (cs := #[.string (⟨#[]⟩ : ByteArray), .string (⟨#[]⟩ : ByteArray)]) (by kernel_rfl) (by kernel_rfl) (by kernel_rfl) (fun g39 => ?_)
   refine gl_storeB (T' := 50) (xp := (.tmp 5)) (xv := (.tmp 12)) (v := .agg #[.string x31.f0, .string x31.f1]) (g := g39) (off := 0) (cs := #[.string (⟨#[]⟩ : ByteArray), .string (⟨#[]⟩ : ByteArray)]) (cs' := #[.string x31.f0, .string x31.f1]) (by kernel_rfl) (by kernel_rfl) (by kernel_rfl) (by kernel_rfl) (by kernel_rfl) (Upd.set _ _ _ _) ?_ (by kernel_rfl)
   refine qE (qs (qk (qR (qp 3 [3, 5, 6, 7, 8, 9] [(3, .slice A15 s11.1.length n16), (5, .pointer (some ⟨g39, 0, none⟩)), (6, .int .i64 (s11.1.length : Int)), (7, .slice A0_0 a0.length n0_0), (8, .int .i64 (a0.length : Int)), (9, .int .i64 s11.2)] (qE (qs (qk (qR (qp 1 [5, 6, 7, 8, 9, 15] [(5, .pointer (some ⟨g39, 0, none⟩)), (6, .int .i64 (s11.1.length : Int)), (7, .slice A0_0 a0.length n0_0), (8, .int .i64 (a0.length : Int)), (9, .int .i64 s11.2), (15, .slice A15 s11.1.length n16)] ?_)))))))))
   refine gl_loadB (T' := 50) (xp := (.tmp 5)) (v := .agg #[.string x31.f0, .string x31.f1]) (g := g39) (off := 0) (cs := #[.string x31.f0, .string x31.f1]) (e := 50) (fz := (0, 0)) (by kernel_rfl) (by kernel_rfl) (by kernel_rfl) mcs (by kernel_rfl) ?_
   refine gl_buildSlice (T' := 22) (e := 50) (n := 2) (len := 1) (parts := #[(0, (.tmp 16))]) (l := [(0, .agg #[.string x31.f0, .string x31.f1])]) (cs := #[.string x31.f0, .string x31.f1]) (by kernel_rfl) (by kernel_rfl) (by kernel_rfl) (by kernel_rfl) (by kernel_rfl) (fun g40 => ?_)
   have hO41 : OwnS kS49 50 I20 (some ⟨g40, 0, none⟩) 1 [x31] [(g40, .cells #[.string x31.f0, .string x31.f1] 50)] := OwnS.lit (row_cons (l := [.string x31.f0, .string x31.f1]) (kS49_mk (x := x31) ) (row_nil _ _)) rfl rfl rfl
   refine gl_reord (D := [(g40, .cells #[.string x31.f0, .string x31.f1] 50)] ++ ((g39, .cells #[.string x31.f0, .string x31.f1] 50) :: (C17 ++ L))) (Reord.refl _) ?_
   obtain ⟨zs44, hz45, hb13⟩ := bind_some hb13
   refine gl_append (xv := .slice (some ⟨g40, 0, none⟩) [x31].length 1) (d := kS49) (t := 22) (tx := 22) (e := 50) (s := (.tmp 15)) (x := (.tmp 17)) (xs := s11.1) (fun X => [(g40, .cells #[.string x31.f0, .string x31.f1] 50)] ++ ((g39, .cells #[.string x31.f0, .string x31.f1] 50) :: (X ++ L))) hz45 (by kernel_rfl) (by kernel_rfl) (by kernel_rfl) (by kernel_rfl) (by kernel_rfl) (by kernel_rfl) (fun X => (Upd.app _ (Upd.one _ (Upd.head _ X _)))) hO18 (SrcOk.slice (c := 1) (e := 50) (n := 2) (OwnS.rd hO41 (Upd.selfC _ _)) (by kernel_rfl)) (fun A46 n47 C48 hO49 => ?_)
   refine qp 1 [3, 5, 6, 7, 8, 9] [(3, .slice A46 zs44.length n47), (5, .pointer (some ⟨g39, 0, none⟩)), (6, .int .i64 (s11.1.length : Int)), (7, .slice A0_0 a0.length n0_0), (8, .int .i64 (a0.length : Int)), (9, .int .i64 s11.2)] (qE (qs (qk ?_)))
   obtain ⟨r57, hl58, hb13⟩ := bind_some hb13
   refine gk_reord (D := C48 ++ ((g39, .cells #[.string x31.f0, .string x31.f1] 50) :: L)) (Reord.step (Upd.app _ (Upd.one _ (Upd.rmC _ _))) (Reord.step1 (Upd.app _ (Upd.rm1 _ _)) (Reord.skipC (Reord.refl _)))) ?_
   refine gk_join (fun t I' L' => ∃ C69, OwnS kS49 50 I' A46 n47 r57.1 C69 ∧ I20 ≤ I' ∧ C69 ++ ((g39, .cells #[.string x31.f0, .string x31.f1] 50) :: L) = L' ∧ Knows 48 [(3, .slice A46 r57.1.length n47), (5, .pointer (some ⟨g39, 0, none⟩)), (6, .int .i64 r57.2), (7, .slice A0_0 a0.length n0_0), (8, .int .i64 (a0.length : Int)), (9, .int .i64 s11.2)] t) ?_ ?_
   ·refine qb (qq [3, 5, 6, 7, 8, 9] [(3, .slice A46 zs44.length n47), (5, .pointer (some ⟨g39, 0, none⟩)), (6, .int .i64 (s11.1.length : Int)), (7, .slice A0_0 a0.length n0_0), (8, .int .i64 (a0.length : Int)), (9, .int .i64 s11.2)] ?_)
    intro t hK
    refine gc_loop (tocsinref04_sorted_l74 x31) (fun s59 t I' L' => ∃ C63, OwnS kS49 50 I' A46 n47 s59.1 C63 ∧ I20 ≤ I' ∧ C63 ++ ((g39, .cells #[.string x31.f0, .string x31.f1] 50) :: L) = L' ∧ Knows 48 [(3, .slice A46 s59.1.length n47), (5, .pointer (some ⟨g39, 0, none⟩)), (6, .int .i64 s59.2), (7, .slice A0_0 a0.length n0_0), (8, .int .i64 (a0.length : Int)), (9, .int .i64 s11.2)] t) (by kernel_rfl) ?_ hl58 ⟨C48, hO49, (Imm.refl _), rfl, hK⟩
    rintro s59 o60 t I67 L' hb61 ⟨C63, hO64, hI62, rfl, hK66⟩
    unfold tocsinref04_sorted_l74 at hb61
    refine gk_at hK66 ?_
    refine qk (qk ?_)
    obtain ⟨j76, hj77, hb61⟩ := bind_some hb61
    refine gk_join (fun t I' L' => I67 ≤ I' ∧ C63 ++ ((g39, .cells #[.string x31.f0, .string x31.f1] 50) :: L) = L' ∧ Knows 48 [(3, .slice A46 s59.1.length n47), (5, .pointer (some ⟨g39, 0, none⟩)), (6, .int .i64 s59.2), (7, .slice A0_0 a0.length n0_0), (8, .int .i64 (a0.length : Int)), (9, .int .i64 s11.2), (31, .bool j76)] t) ?_ ?_
    ·refine gk_draw 13 (rng 0 13) (C63 ++ [(g39, .cells #[.string x31.f0, .string x31.f1] 50)]) (fma ⟨fun q hq => (mal hq), (fmc ⟨(mar mcs), nim⟩)⟩) (by kernel_rfl) (by kernel_rfl) (by kernel_rfl) ?_ (by kernel_rfl)
     refine dp 3 [3, 5, 6, 7, 8, 9, 21] [(3, .slice A46 s59.1.length n47), (5, .pointer (some ⟨g39, 0, none⟩)), (6, .int .i64 s59.2), (7, .slice A0_0 a0.length n0_0), (8, .int .i64 (a0.length : Int)), (9, .int .i64 s11.2), (21, .bool (decide (s59.2 > 0)))] (rng 3 10) (CC.refl (fma ⟨fun q hq => (mal hq), (fmc ⟨(mar mcs), nim⟩)⟩)) ?_
     refine gd_case 21 (b := (decide (s59.2 > 0))) (by kernel_rfl) (fun hc81 => ?_) (fun hc81 => ?_)
     ·have hj77 := cond_t hc81 hj77
      refine dp 3 [3, 5, 6, 7, 8, 9, 21, 22, 24] [(3, .slice A46 s59.1.length n47), (5, .pointer (some ⟨g39, 0, none⟩)), (6, .int .i64 s59.2), (7, .slice A0_0 a0.length n0_0), (8, .int .i64 (a0.length : Int)), (9, .int .i64 s11.2), (21, .bool true), (22, .slice A46 s59.1.length n47), (24, .int .i64 (IntKind.wrap .i64 (s59.2 - 1)))] (rng 6 7) (CC.refl (fma ⟨fun q hq => (mal hq), (fmc ⟨(mar mcs), nim⟩)⟩)) ?_
      obtain ⟨x82, hx83, hj77⟩ := bind_some hj77
      obtain ⟨p84, cs85, hR86, hA87, ha88, hg90⟩ := OwnS.ixAtG hx83 hO64
      have hi89 := ix_some hx83
      obtain rfl := kS49_open hR86
      refine gd_q (v := .pointer (some p84)) (by kernel_rfl) (by kernel_rfl) (CC.refl (fma ⟨fun q hq => (mal hq), (fmc ⟨(mar mcs), nim⟩)⟩)) (fun I' L' T hC kk => gl_indexAddrF (c := n47) (T' := 22) (e := 50) (xs := (.tmp 22)) (xi := (.tmp 24)) (kd := .i64) ha88 hi89.1 hi89.2.1 (by kernel_rfl) (by kernel_rfl) (by kernel_rfl) (by kernel_rfl) (by kernel_rfl) kk) ?_
      refine dp 1 [3, 5, 6, 7, 8, 9, 21, 26] [(3, .slice A46 s59.1.length n47), (5, .pointer (some ⟨g39, 0, none⟩)), (6, .int .i64 s59.2), (7, .slice A0_0 a0.length n0_0), (8, .int .i64 (a0.length : Int)), (9, .int .i64 s11.2), (21, .bool true), (26, .pointer (some (p84.add 0)))] (rng 8 5) (CC.refl (fma ⟨fun q hq => (mal hq), (fmc ⟨(mar mcs), nim⟩)⟩)) ?_
      refine gd_q (v := .string x82.f0) (by kernel_rfl) (by kernel_rfl) (CC.refl (fma ⟨fun q hq => (mal hq), (fmc ⟨(mar mcs), nim⟩)⟩)) (fun I' L' T hC kk => gl_loadO (T' := 9) (xp := (.tmp 26)) (p := (p84.add 0)) (c := .string x82.f0) (n := 1) (by kernel_rfl) (by kernel_rfl) (by kernel_rfl) (by kernel_rfl) ((fun I' L' h => (hA87 I' L' h).drop 0) _ _ (fun q hq => hC.sub _ (mal hq))) kk) ?_
      refine dp 1 [3, 5, 6, 7, 8, 9, 21, 27, 28] [(3, .slice A46 s59.1.length n47), (5, .pointer (some ⟨g39, 0, none⟩)), (6, .int .i64 s59.2), (7, .slice A0_0 a0.length n0_0), (8, .int .i64 (a0.length : Int)), (9, .int .i64 s11.2), (21, .bool true), (27, .string x82.f0), (28, .pointer (some ⟨g39, 0, none⟩))] [(10, true), (11, true), (12, true)] (CC.refl (fma ⟨fun q hq => (mal hq), (fmc ⟨(mar mcs), nim⟩)⟩)) ?_
      refine gd_q (v := .string x31.f0) (by kernel_rfl) (by kernel_rfl) (CC.refl (fma ⟨fun q hq => (mal hq), (fmc ⟨(mar mcs), nim⟩)⟩)) (fun I' L' T hC kk => gl_loadB (T' := 9) (xp := (.tmp 28)) (v := .string x31.f0) (g := g39) (off := 0) (cs := #[.string x31.f0, .string x31.f1]) (e := 50) (fz := (0, 0)) (by kernel_rfl) (by kernel_rfl) (by kernel_rfl) (hC.sub _ (mar mcs)) (by kernel_rfl) kk) ?_
      refine dp 2 [3, 5, 6, 7, 8, 9, 31] [(3, .slice A46 s59.1.length n47), (5, .pointer (some ⟨g39, 0, none⟩)), (6, .int .i64 s59.2), (7, .slice A0_0 a0.length n0_0), (8, .int .i64 (a0.length : Int)), (9, .int .i64 s11.2), (31, .bool (!((Op.bytesLess x82.f0.toList x31.f0.toList) || (x82.f0.toList == x31.f0.toList))))] [] (CC.refl (fma ⟨fun q hq => (mal hq), (fmc ⟨(mar mcs), nim⟩)⟩)) ?_
      refine gd_done ?_
      refine qE ?_
      obtain rfl := some_inj hj77
      exact ge_mid fun t ht => ⟨(Imm.refl _), rfl, ht.pick (l := [3, 5, 6, 7, 8, 9, 31]) (by kernel_rfl)⟩
     ·have hj77 := cond_f hc81 hj77
      refine dp 10 [3, 5, 6, 7, 8, 9, 31] [(3, .slice A46 s59.1.length n47), (5, .pointer (some ⟨g39, 0, none⟩)), (6, .int .i64 s59.2), (7, .slice A0_0 a0.length n0_0), (8, .int .i64 (a0.length : Int)), (9, .int .i64 s11.2), (31, .bool false)] [] (CC.refl (fma ⟨fun q hq => (mal hq), (fmc ⟨(mar mcs), nim⟩)⟩)) ?_
      refine gd_done ?_
      refine qE ?_
      obtain rfl := some_inj hj77
      exact ge_mid fun t ht => ⟨(Imm.refl _), rfl, ht.pick (l := [3, 5, 6, 7, 8, 9, 31]) (by kernel_rfl)⟩
    ·rintro t I80 L' ⟨hI78, rfl, hK79⟩
     refine ge_at hK79 ?_
     refine qs ?_
     refine gk_cond (b := j76) (by kernel_rfl) (by kernel_rfl) (fun hc91 => ?_) (fun hc91 => ?_)
     ·have hb61 := cond_t hc91 hb61
      refine qx (qs (qb (qk (qR (qp 5 [3, 5, 6, 7, 8, 9, 32, 33, 34, 36] [(3, .slice A46 s59.1.length n47), (5, .pointer (some ⟨g39, 0, none⟩)), (6, .int .i64 s59.2), (7, .slice A0_0 a0.length n0_0), (8, .int .i64 (a0.length : Int)), (9, .int .i64 s11.2), (32, .slice A46 s59.1.length n47), (33, .int .i64 s59.2), (34, .slice A46 s59.1.length n47), (36, .int .i64 (IntKind.wrap .i64 (s59.2 - 1)))] ?_)))))
      obtain ⟨x92, hx93, hb61⟩ := bind_some hb61
      refine gl_indexAddrW (d := kS49) (c := n47) (T' := 22) (e := 50) (xs := (.tmp 34)) (xi := (.tmp 36)) (kd := .i64) hx93 (hO64.mono hI78) (Upd.selfC _ _) (by kernel_rfl) (by kernel_rfl) (by kernel_rfl) (by kernel_rfl) (by kernel_rfl) (fun p94 cs95 hR96 hA97 hp100 => ?_)
      obtain rfl := kS49_open hR96
      refine gl_loadOA (T' := 50) (xp := (.tmp 37)) (p := p94) (cs := [.string x92.f0, .string x92.f1]) (by kernel_rfl) (by kernel_rfl) (by kernel_rfl) (by kernel_rfl) (hA97.take 2) ?_
      obtain ⟨x101, hx102, hb61⟩ := bind_some hb61
      refine gl_indexAddrW (d := kS49) (c := n47) (T' := 22) (e := 50) (xs := (.tmp 32)) (xi := (.tmp 33)) (kd := .i64) hx102 (hO64.mono hI78) (Upd.selfC _ _) (by kernel_rfl) (by kernel_rfl) (by kernel_rfl) (by kernel_rfl) (by kernel_rfl) (fun p103 cs104 hR105 hA106 hp109 => ?_)
      obtain rfl := kS49_open hR105
      have hl112 : s59.1.length = (lset s59.1 s59.2 x92).length := by simp [lset]
      refine gl_storeE (d := kS49) (T' := 50) (xp := (.tmp 39)) (xv := (.tmp 38)) (v := .agg #[.string x92.f0, .string x92.f1]) (off := 0) (y := x92) (fun X => X ++ ((g39, .cells #[.string x31.f0, .string x31.f1] 50) :: L)) hx102 (hO64.mono hI78) (fun X => (Upd.head _ X _)) hp109 (by kernel_rfl) (by kernel_rfl) (by kernel_rfl) (by kernel_rfl) (by kernel_rfl) (by kernel_rfl) (fun cs h => by obtain rfl := kS49_open h; exact kS49_mk (x := x92) ) (by kernel_rfl) (fun C110 hO111 => ?_)
      try rw [hl112]
      refine qE (qs (qR (qp 3 [3, 5, 6, 7, 8, 9] [(3, .slice A46 (lset s59.1 s59.2 x92).length n47), (5, .pointer (some ⟨g39, 0, none⟩)), (6, .int .i64 (IntKind.wrap .i64 (s59.2 - 1))), (7, .slice A0_0 a0.length n0_0), (8, .int .i64 (a0.length : Int)), (9, .int .i64 s11.2)] (qE (qn ?_)))))
      obtain rfl := some_inj hb61
      exact ge_round fun t ht => ⟨C110, hO111, (Imm.trans hI62 hI78), rfl, ht.pick (l := [3, 5, 6, 7, 8, 9]) (by kernel_rfl)⟩
     ·have hb61 := cond_f hc91 hb61
      refine qe (qf ?_)
      obtain rfl := some_inj hb61
      refine ge_round_out (fun hrr => ?_) (by intro h; cases h)
      obtain rfl := hrr
      refine qh ?_
      exact ge_mid fun t ht => ⟨C63, (hO64.mono hI78), (Imm.trans hI62 hI78), rfl, ht.pick (l := [3, 5, 6, 7, 8, 9]) (by kernel_rfl)⟩
   ·rintro t I73 L' ⟨C69, hO70, hI68, rfl, hK72⟩
    refine ge_at hK72 ?_
    refine qs (qR (qp 2 [3, 5, 7, 8, 9, 42, 43] [(3, .slice A46 r57.1.length n47), (5, .pointer (some ⟨g39, 0, none⟩)), (7, .slice A0_0 a0.length n0_0), (8, .int .i64 (a0.length : Int)), (9, .int .i64 s11.2), (42, .slice A46 r57.1.length n47), (43, .int .i64 r57.2)] ?_))
    refine gl_loadB (T' := 50) (xp := (.tmp 5)) (v := .agg #[.string x31.f0, .string x31.f1]) (g := g39) (off := 0) (cs := #[.string x31.f0, .string x31.f1]) (e := 50) (fz := (0, 0)) (by kernel_rfl) (by kernel_rfl) (by kernel_rfl) (mar mcs) (by kernel_rfl) ?_
    obtain ⟨x113, hx114, hb13⟩ := bind_some hb13
    refine gl_indexAddrW (d := kS49) (c := n47) (T' := 22) (e := 50) (xs := (.tmp 42)) (xi := (.tmp 43)) (kd := .i64) hx114 hO70 (Upd.selfC _ _) (by kernel_rfl) (by kernel_rfl) (by kernel_rfl) (by kernel_rfl) (by kernel_rfl) (fun p115 cs116 hR117 hA118 hp121 => ?_)
    obtain rfl := kS49_open hR117
    have hl124 : r57.1.length = (lset r57.1 r57.2 x31).length := by simp [lset]
    refine gl_storeE (d := kS49) (T' := 50) (xp := (.tmp 45)) (xv := (.tmp 44)) (v := .agg #[.string x31.f0, .string x31.f1]) (off := 0) (y := x31) (fun X => X ++ ((g39, .cells #[.string x31.f0, .string x31.f1] 50) :: L)) hx114 hO70 (fun X => (Upd.head _ X _)) hp121 (by kernel_rfl) (by kernel_rfl) (by kernel_rfl) (by kernel_rfl) (by kernel_rfl) (by kernel_rfl) (fun cs h => by obtain rfl := kS49_open h; exact kS49_mk (x := x31) ) (by kernel_rfl) (fun C122 hO123 => ?_)
    try rw [hl124]
    refine qE (qn (qs (qR (qp 2 [3, 7, 8, 9] [(3, .slice A46 (lset r57.1 r57.2 x31).length n47), (7, .slice A0_0 a0.length n0_0), (8, .int .i64 (a0.length : Int)), (9, .int .i64 (IntKind.wrap .i64 (s11.2 + 1)))] ?_))))
    refine gl_reord (D := C122 ++ L) (Reord.step (Upd.rmC _ _) (Reord.skip (Reord.refl _))) ?_
    refine qE ?_
    obtain rfl := some_inj hb13
    exact ge_round fun t ht => ⟨A46, n47, C122, hO123, (Imm.trans hI14 hI68), rfl, ht.pick (l := [3, 7, 8, 9]) (by kernel_rfl)⟩
  ·have hb13 := cond_f hc30 hb13
   refine qe (qf ?_)
   obtain rfl := some_inj hb13
   refine ge_round_out (fun hrr => ?_) (by intro h; cases h)
   obtain rfl := hrr
   refine qh ?_
   exact ge_mid fun t ht => ⟨A15, n16, C17, hO18, hI14, rfl, ht.pick (l := [3]) (by kernel_rfl)⟩
 ·rintro t I27 L' ⟨A22, n23, C24, hO25, hI21, rfl, hK26⟩
  refine ge_at hK26 ?_
  refine qs (qk (qR (qp 2 [2] [(2, .slice A22 r9.length n23)] (qE (qs (qt ?_))))))
  obtain rfl := some_inj hr
  exact ge_result trivial (ResOk.tmp (by kernel_rfl) ResOk.nil) hI21 ⟨A22, n23, C24, hO25, rfl, rfl⟩
/-! 26 tocsinref04_Parse  -/
noncomputable def tocsinref04_Parse (a0 : ByteArray) : Option ((List S49) × Int × Int) :=
 bif (decide ((a0.size : Int) > 65536)) then
 (some ([], 4, 0))
 else
 (Option.bind (tocsinref04_Text_Blanks (⟨a0, 0, 0⟩ : S97)) fun (y3 : S97) =>
  Option.bind (tocsinref04_Text_Run y3 true) fun (y8 : ByteArray × S97) =>
  Option.bind (bif (!(y8.1.toList == (⟨#[]⟩ : ByteArray).toList)) then
   (Option.bind (tocsinref04_Metric y8.1) fun (y19 : Bool) =>
    some (!y19))
   else
   (some false)) fun (j13 : Bool) =>
  Option.bind (bif j13 then
   (Option.bind (tocsinref04_Text_Fail y8.2 y3.f1) fun (y27 : S97) =>
    some (y27.f0, y27.f1, y27.f2))
   else
   (some (y8.2.f0, y8.2.f1, y8.2.f2))) fun (j21 : ByteArray × Int × Int) =>
  Option.bind (bif (!(y8.1.toList == (⟨#[]⟩ : ByteArray).toList)) then
   (Option.bind (app ([] : List S49) [(⟨(⟨#[95, 95, 110, 97, 109, 101, 95, 95]⟩ : ByteArray), y8.1⟩ : S49)]) fun (zs46 : List S49) =>
    some zs46)
   else
   (some [])) fun (j32 : (List S49)) =>
  Option.bind (tocsinref04_Text_Is (⟨j21.1, j21.2.1, j21.2.2⟩ : S97) 123) fun (y52 : Bool × S97) =>
  Option.bind (bif y52.1 then
   (Option.bind (tocsinref04_Text_set y52.2) fun (y67 : (List S49) × S97) =>
    Option.bind (app j32 y67.1) fun (zs76 : List S49) =>
    some (zs76, y67.2.f0, y67.2.f1, y67.2.f2))
   else
   (bif (y8.1.toList == (⟨#[]⟩ : ByteArray).toList) then
    (Option.bind (tocsinref04_Text_Fail y52.2 y52.2.f1) fun (y83 : S97) =>
     some (j32, y83.f0, y83.f1, y83.f2))
    else
    (some (j32, y52.2.f0, y52.2.f1, y52.2.f2)))) fun (j57 : (List S49) × ByteArray × Int × Int) =>
  Option.bind (tocsinref04_Text_Blanks (⟨j57.2.1, j57.2.2.1, j57.2.2.2⟩ : S97)) fun (y88 : S97) =>
  Option.bind (bif (decide (y88.f1 < (a0.size : Int))) then
   (Option.bind (tocsinref04_Text_Fail y88 y88.f1) fun (y99 : S97) =>
    some (y99.f0, y99.f1, y99.f2))
   else
   (some (y88.f0, y88.f1, y88.f2))) fun (j93 : ByteArray × Int × Int) =>
  bif (decide (j93.2.2 > 0)) then
  (some ([], 3, (IntKind.wrap .i64 (j93.2.2 - 1))))
  else
  (Option.bind (tocsinref04_twice j57.1) fun (y105 : Bool) =>
   bif y105 then
   (some ([], 6, 0))
   else
   (Option.bind (tocsinref04_full j57.1) fun (y112 : (List S49)) =>
    Option.bind (tocsinref04_sorted y112) fun (y125 : (List S49)) =>
    Option.bind (tocsinref04_Right y125) fun (y134 : Int × Int) =>
    bif (y134.1 != 0) then
    (some ([], y134.1, y134.2))
    else
    (some (y125, 0, 0)))))
theorem tocsinref04_Parse_walk {a0 : ByteArray} {I : Imm} {r : (List S49) × Int × Int}  (hr : tocsinref04_Parse a0 = some r) (L : Own) :
  CallsTo Tryz.prog 26 #[.string a0] I L (fun v I' L' => ∃ A0 c0 C0, OwnS kS49 50 I' A0 c0 r.1 C0 ∧ v = .tuple #[.slice A0 r.1.length c0, .int .i64 r.2.1, .int .i64 r.2.2] ∧ C0 ++ L = L') := by
 unfold tocsinref04_Parse at hr
 refine callsTo_body (N := 97) Tryz.func26 (by kernel_rfl) (by kernel_rfl) (by kernel_rfl) ?_
 refine qq [0] [(0, .string a0)] (qk (qR (qp 3 [0] [(0, .string a0)] (qE (qs (qk (qk (qR (qp 3 [0, 14] [(0, .string a0), (14, .bool (decide ((a0.size : Int) > 65536)))] (qE (qs ?_)))))))))))
 refine gk_cond (b := (decide ((a0.size : Int) > 65536))) (by kernel_rfl) (by kernel_rfl) (fun hc1 => ?_) (fun hc1 => ?_)
 ·have hr := cond_t hc1 hr
  refine qk (qR (qp 3 [2, 3, 4] [(2, .slice none 0 0), (3, .int .i64 4), (4, .int .i64 0)] (qE (qs (qt (qu ?_))))))
  obtain rfl := some_inj hr
  exact ge_result trivial (ResOk.tmp (by kernel_rfl) (ResOk.tmp (by kernel_rfl) (ResOk.tmp (by kernel_rfl) ResOk.nil))) (Imm.refl _) ⟨none, 0, [], OwnS.nil _ _ _ _, rfl, rfl⟩
 ·have hr := cond_f hc1 hr
  refine qx (qs (qk (qR (qp 2 [0, 16] [(0, .string a0), (16, .agg #[.string a0, .int .i64 0, .int .i64 0])] ?_))))
  refine gl_box (T' := 98) (x := (.tmp 16)) (v := .agg #[.string a0, .int .i64 0, .int .i64 0]) (cs := #[.string a0, .int .i64 0, .int .i64 0]) (by kernel_rfl) (by kernel_rfl) (by kernel_rfl) (by kernel_rfl) (fun g2 => ?_)
  refine qp 1 [0, 5] [(0, .string a0), (5, .pointer (some ⟨g2, 0, none⟩))] (qE (qs (qk (qR (qp 1 [0, 5, 6] [(0, .string a0), (5, .pointer (some ⟨g2, 0, none⟩)), (6, .slice none 0 0)] (qE (qs (qk (qR (qp 1 [0, 5, 6, 18] [(0, .string a0), (5, .pointer (some ⟨g2, 0, none⟩)), (6, .slice none 0 0), (18, .pointer (some ⟨g2, 0, none⟩))] ?_))))))))))
  obtain ⟨y3, hx4, hr⟩ := bind_some hr
  refine gl_call (by kernel_rfl) (tocsinref04_Text_Blanks_walk (r := y3) (g0 := g2) (T0 := 98) (a0 := (⟨a0, 0, 0⟩ : S97)) hx4 _) ?_
  rintro v I5 L6 hI7 ⟨rfl, rfl⟩
  refine qE (qs (qk (qR (qp 3 [0, 5, 6, 22] [(0, .string a0), (5, .pointer (some ⟨g2, 0, none⟩)), (6, .slice none 0 0), (22, .pointer (some ⟨g2, 1, none⟩))] ?_))))
  refine gl_loadB (T' := 3) (xp := (.tmp 22)) (v := .int .i64 y3.f1) (g := g2) (off := 1) (cs := #[.string y3.f0, .int .i64 y3.f1, .int .i64 y3.f2]) (e := 98) (fz := (0, 0)) (by kernel_rfl) (by kernel_rfl) (by kernel_rfl) mcs (by kernel_rfl) ?_
  refine qp 1 [0, 5, 6, 7] [(0, .string a0), (5, .pointer (some ⟨g2, 0, none⟩)), (6, .slice none 0 0), (7, .int .i64 y3.f1)] (qE (qs (qk (qR (qp 1 [0, 5, 6, 7, 24] [(0, .string a0), (5, .pointer (some ⟨g2, 0, none⟩)), (6, .slice none 0 0), (7, .int .i64 y3.f1), (24, .pointer (some ⟨g2, 0, none⟩))] ?_)))))
  obtain ⟨y8, hx9, hr⟩ := bind_some hr
  refine gl_call (by kernel_rfl) (tocsinref04_Text_Run_walk (r := y8) (g0 := g2) (T0 := 98) (a0 := y3) hx9 _) ?_
  rintro v I10 L11 hI12 ⟨rfl, rfl⟩
  refine qp 1 [0, 5, 6, 7, 8] [(0, .string a0), (5, .pointer (some ⟨g2, 0, none⟩)), (6, .slice none 0 0), (7, .int .i64 y3.f1), (8, .string y8.1)] (qE (qs (qk (qk ?_))))
  obtain ⟨j13, hj14, hr⟩ := bind_some hr
  refine gk_join (fun t I' L' => I10 ≤ I' ∧ (g2, .cells #[.string y8.2.f0, .int .i64 y8.2.f1, .int .i64 y8.2.f2] 98) :: L = L' ∧ Knows 97 [(0, .string a0), (5, .pointer (some ⟨g2, 0, none⟩)), (6, .slice none 0 0), (7, .int .i64 y3.f1), (8, .string y8.1), (32, .bool j13)] t) ?_ ?_
  ·refine qR (qp 3 [0, 5, 6, 7, 8, 28] [(0, .string a0), (5, .pointer (some ⟨g2, 0, none⟩)), (6, .slice none 0 0), (7, .int .i64 y3.f1), (8, .string y8.1), (28, .bool (!(y8.1.toList == (⟨#[]⟩ : ByteArray).toList)))] ?_)
   refine gl_case 28 (b := (!(y8.1.toList == (⟨#[]⟩ : ByteArray).toList))) (by kernel_rfl) (fun hc18 => ?_) (fun hc18 => ?_)
   ·have hj14 := cond_t hc18 hj14
    refine qp 1 [0, 5, 6, 7, 8, 28, 29] [(0, .string a0), (5, .pointer (some ⟨g2, 0, none⟩)), (6, .slice none 0 0), (7, .int .i64 y3.f1), (8, .string y8.1), (28, .bool true), (29, .string y8.1)] ?_
    obtain ⟨y19, hx20, hj14⟩ := bind_some hj14
    refine gl_callQ (by kernel_rfl) (tocsinref04_Metric_walk (r := y19)  hx20 _) ?_
    refine qp 2 [0, 5, 6, 7, 8, 32] [(0, .string a0), (5, .pointer (some ⟨g2, 0, none⟩)), (6, .slice none 0 0), (7, .int .i64 y3.f1), (8, .string y8.1), (32, .bool (!y19))] (qE ?_)
    obtain rfl := some_inj hj14
    exact ge_mid fun t ht => ⟨(Imm.refl _), rfl, ht.pick (l := [0, 5, 6, 7, 8, 32]) (by kernel_rfl)⟩
   ·have hj14 := cond_f hc18 hj14
    refine qp 4 [0, 5, 6, 7, 8, 32] [(0, .string a0), (5, .pointer (some ⟨g2, 0, none⟩)), (6, .slice none 0 0), (7, .int .i64 y3.f1), (8, .string y8.1), (32, .bool false)] (qE ?_)
    obtain rfl := some_inj hj14
    exact ge_mid fun t ht => ⟨(Imm.refl _), rfl, ht.pick (l := [0, 5, 6, 7, 8, 32]) (by kernel_rfl)⟩
  ·rintro t I17 L' ⟨hI15, rfl, hK16⟩
   refine ge_at hK16 ?_
   refine qs ?_
   obtain ⟨j21, hj22, hr⟩ := bind_some hr
   refine gk_join (fun t I' L' => I17 ≤ I' ∧ (g2, .cells #[.string j21.1, .int .i64 j21.2.1, .int .i64 j21.2.2] 98) :: L = L' ∧ Knows 97 [(0, .string a0), (5, .pointer (some ⟨g2, 0, none⟩)), (6, .slice none 0 0), (8, .string y8.1)] t) ?_ ?_
   ·refine gk_cond (b := j13) (by kernel_rfl) (by kernel_rfl) (fun hc26 => ?_) (fun hc26 => ?_)
    ·have hj22 := cond_t hc26 hj22
     refine qR (qp 2 [0, 5, 6, 8, 33, 34] [(0, .string a0), (5, .pointer (some ⟨g2, 0, none⟩)), (6, .slice none 0 0), (8, .string y8.1), (33, .pointer (some ⟨g2, 0, none⟩)), (34, .int .i64 y3.f1)] ?_)
     obtain ⟨y27, hx28, hj22⟩ := bind_some hj22
     refine gl_call (by kernel_rfl) (tocsinref04_Text_Fail_walk (r := y27) (g0 := g2) (T0 := 98) (a0 := y8.2) hx28 _) ?_
     rintro v I29 L30 hI31 ⟨rfl, rfl⟩
     refine qE ?_
     obtain rfl := some_inj hj22
     exact ge_mid fun t ht => ⟨hI31, rfl, ht.pick (l := [0, 5, 6, 8]) (by kernel_rfl)⟩
    ·have hj22 := cond_f hc26 hj22
     refine qx ?_
     obtain rfl := some_inj hj22
     exact ge_mid fun t ht => ⟨(Imm.refl _), rfl, ht.pick (l := [0, 5, 6, 8]) (by kernel_rfl)⟩
   ·rintro t I25 L' ⟨hI23, rfl, hK24⟩
    refine ge_at hK24 ?_
    refine qs (qk (qk (qR (qp 2 [0, 5, 6, 8, 37] [(0, .string a0), (5, .pointer (some ⟨g2, 0, none⟩)), (6, .slice none 0 0), (8, .string y8.1), (37, .bool (!(y8.1.toList == (⟨#[]⟩ : ByteArray).toList)))] (qE (qs ?_))))))
    obtain ⟨j32, hj33, hr⟩ := bind_some hr
    refine gk_join (fun t I' L' => ∃ A35 n36 C37, OwnS kS49 50 I' A35 n36 j32 C37 ∧ I25 ≤ I' ∧ C37 ++ ((g2, .cells #[.string j21.1, .int .i64 j21.2.1, .int .i64 j21.2.2] 98) :: L) = L' ∧ Knows 97 [(0, .string a0), (5, .pointer (some ⟨g2, 0, none⟩)), (6, .slice A35 j32.length n36), (8, .string y8.1)] t) ?_ ?_
    ·refine gk_cond (b := (!(y8.1.toList == (⟨#[]⟩ : ByteArray).toList))) (by kernel_rfl) (by kernel_rfl) (fun hc41 => ?_) (fun hc41 => ?_)
     ·have hj33 := cond_t hc41 hj33
      refine qR (qp 3 [0, 5, 8, 38, 40] [(0, .string a0), (5, .pointer (some ⟨g2, 0, none⟩)), (8, .string y8.1), (38, .slice none 0 0), (40, .agg #[.string (⟨#[95, 95, 110, 97, 109, 101, 95, 95]⟩ : ByteArray), .string y8.1])] ?_)
      refine gl_buildSlice (T' := 22) (e := 50) (n := 2) (len := 1) (parts := #[(0, (.tmp 40))]) (l := [(0, .agg #[.string (⟨#[95, 95, 110, 97, 109, 101, 95, 95]⟩ : ByteArray), .string y8.1])]) (cs := #[.string (⟨#[95, 95, 110, 97, 109, 101, 95, 95]⟩ : ByteArray), .string y8.1]) (by kernel_rfl) (by kernel_rfl) (by kernel_rfl) (by kernel_rfl) (by kernel_rfl) (fun g42 => ?_)
      have hO43 : OwnS kS49 50 I25 (some ⟨g42, 0, none⟩) 1 [(⟨(⟨#[95, 95, 110, 97, 109, 101, 95, 95]⟩ : ByteArray), y8.1⟩ : S49)] [(g42, .cells #[.string (⟨#[95, 95, 110, 97, 109, 101, 95, 95]⟩ : ByteArray), .string y8.1] 50)] := OwnS.lit (row_cons (l := [.string (⟨#[95, 95, 110, 97, 109, 101, 95, 95]⟩ : ByteArray), .string y8.1]) (kS49_mk (x := (⟨(⟨#[95, 95, 110, 97, 109, 101, 95, 95]⟩ : ByteArray), y8.1⟩ : S49)) ) (row_nil _ _)) rfl rfl rfl
      refine gl_reord (D := [(g42, .cells #[.string (⟨#[95, 95, 110, 97, 109, 101, 95, 95]⟩ : ByteArray), .string y8.1] 50)] ++ ((g2, .cells #[.string j21.1, .int .i64 j21.2.1, .int .i64 j21.2.2] 98) :: L)) (Reord.refl _) ?_
      obtain ⟨zs46, hz47, hj33⟩ := bind_some hj33
      refine gl_append (xv := .slice (some ⟨g42, 0, none⟩) [(⟨(⟨#[95, 95, 110, 97, 109, 101, 95, 95]⟩ : ByteArray), y8.1⟩ : S49)].length 1) (d := kS49) (t := 22) (tx := 22) (e := 50) (s := (.tmp 38)) (x := (.tmp 41)) (xs := []) (A := none) (c := 0) (C := []) (fun X => X ++ ([(g42, .cells #[.string (⟨#[95, 95, 110, 97, 109, 101, 95, 95]⟩ : ByteArray), .string y8.1] 50)] ++ ((g2, .cells #[.string j21.1, .int .i64 j21.2.1, .int .i64 j21.2.2] 98) :: L))) hz47 (by kernel_rfl) (by kernel_rfl) (by kernel_rfl) (by kernel_rfl) (by kernel_rfl) (by kernel_rfl) (fun X => Upd.new X _) (OwnS.nil _ _ _ none) (SrcOk.slice (c := 1) (e := 50) (n := 2) (OwnS.rd hO43 (Upd.selfC _ _)) (by kernel_rfl)) (fun A48 n49 C50 hO51 => ?_)
      refine qp 1 [0, 5, 6, 8] [(0, .string a0), (5, .pointer (some ⟨g2, 0, none⟩)), (6, .slice A48 zs46.length n49), (8, .string y8.1)] ?_
      refine gl_reord (D := C50 ++ ((g2, .cells #[.string j21.1, .int .i64 j21.2.1, .int .i64 j21.2.2] 98) :: L)) (Reord.step (Upd.rmC _ _) (Reord.step1 (Upd.app _ (Upd.rm1 _ _)) (Reord.skipC (Reord.refl _)))) ?_
      refine qE ?_
      obtain rfl := some_inj hj33
      exact ge_mid fun t ht => ⟨A48, n49, C50, hO51, (Imm.refl _), rfl, ht.pick (l := [0, 5, 6, 8]) (by kernel_rfl)⟩
     ·have hj33 := cond_f hc41 hj33
      refine qx ?_
      obtain rfl := some_inj hj33
      exact ge_mid fun t ht => ⟨none, 0, [], OwnS.nil _ _ _ _, (Imm.refl _), rfl, ht.pick (l := [0, 5, 6, 8]) (by kernel_rfl)⟩
    ·rintro t I40 L' ⟨A35, n36, C37, hO38, hI34, rfl, hK39⟩
     refine ge_at hK39 ?_
     refine qs (qk (qk (qR (qp 1 [0, 5, 6, 8, 43] [(0, .string a0), (5, .pointer (some ⟨g2, 0, none⟩)), (6, .slice A35 j32.length n36), (8, .string y8.1), (43, .pointer (some ⟨g2, 0, none⟩))] ?_))))
     obtain ⟨y52, hx53, hr⟩ := bind_some hr
     refine gl_reord (D := (g2, .cells #[.string j21.1, .int .i64 j21.2.1, .int .i64 j21.2.2] 98) :: (C37 ++ L)) (Reord.step1 (Upd.app _ (Upd.rm1 _ _)) (Reord.step (Upd.rmC _ _) (Reord.refl _))) ?_
     refine gl_call (by kernel_rfl) (tocsinref04_Text_Is_walk (r := y52) (g0 := g2) (T0 := 98) (a0 := (⟨j21.1, j21.2.1, j21.2.2⟩ : S97)) hx53 _) ?_
     rintro v I54 L55 hI56 ⟨rfl, rfl⟩
     refine qE (qs ?_)
     obtain ⟨j57, hj58, hr⟩ := bind_some hr
     refine gk_join (fun t I' L' => ∃ A60 n61 C62, OwnS kS49 50 I' A60 n61 j57.1 C62 ∧ I54 ≤ I' ∧ C62 ++ ((g2, .cells #[.string j57.2.1, .int .i64 j57.2.2.1, .int .i64 j57.2.2.2] 98) :: L) = L' ∧ Knows 97 [(0, .string a0), (5, .pointer (some ⟨g2, 0, none⟩)), (6, .slice A60 j57.1.length n61)] t) ?_ ?_
     ·refine gk_cond (b := y52.1) (by kernel_rfl) (by kernel_rfl) (fun hc66 => ?_) (fun hc66 => ?_)
      ·have hj58 := cond_t hc66 hj58
       refine qR (qp 2 [0, 5, 45, 46] [(0, .string a0), (5, .pointer (some ⟨g2, 0, none⟩)), (45, .slice A35 j32.length n36), (46, .pointer (some ⟨g2, 0, none⟩))] ?_)
       obtain ⟨y67, hx68, hj58⟩ := bind_some hj58
       refine gl_call (by kernel_rfl) (tocsinref04_Text_set_walk (r := y67) (g0 := g2) (T0 := 98) (a0 := y52.2) hx68 _) ?_
       rintro v I69 L70 hI71 ⟨A72, c73, C74, hO75, rfl, rfl⟩
       obtain ⟨zs76, hz77, hj58⟩ := bind_some hj58
       refine gl_append (xv := .slice A72 y67.1.length c73) (d := kS49) (t := 22) (tx := 22) (e := 50) (s := (.tmp 45)) (x := (.tmp 47)) (xs := j32) (fun X => C74 ++ ((g2, .cells #[.string y67.2.f0, .int .i64 y67.2.f1, .int .i64 y67.2.f2] 98) :: (X ++ L))) hz77 (by kernel_rfl) (by kernel_rfl) (by kernel_rfl) (by kernel_rfl) (by kernel_rfl) (by kernel_rfl) (fun X => (Upd.app _ (Upd.one _ (Upd.head _ X _)))) (hO38.mono (Imm.trans hI56 hI71)) (SrcOk.slice (c := c73) (e := 50) (n := 2) (OwnS.rd hO75 (Upd.selfC _ _)) (by kernel_rfl)) (fun A78 n79 C80 hO81 => ?_)
       refine qp 1 [0, 5, 6] [(0, .string a0), (5, .pointer (some ⟨g2, 0, none⟩)), (6, .slice A78 zs76.length n79)] ?_
       refine gl_reord (D := C80 ++ ((g2, .cells #[.string y67.2.f0, .int .i64 y67.2.f1, .int .i64 y67.2.f2] 98) :: L)) (Reord.step (Upd.app _ (Upd.one _ (Upd.rmC _ _))) (Reord.step1 (Upd.app _ (Upd.rm1 _ _)) (Reord.skipC (Reord.refl _)))) ?_
       refine qE ?_
       obtain rfl := some_inj hj58
       exact ge_mid fun t ht => ⟨A78, n79, C80, hO81, hI71, rfl, ht.pick (l := [0, 5, 6]) (by kernel_rfl)⟩
      ·have hj58 := cond_f hc66 hj58
       refine qk (qR (qp 2 [0, 5, 6, 50] [(0, .string a0), (5, .pointer (some ⟨g2, 0, none⟩)), (6, .slice A35 j32.length n36), (50, .bool (y8.1.toList == (⟨#[]⟩ : ByteArray).toList))] (qE (qs ?_))))
       refine gk_cond (b := (y8.1.toList == (⟨#[]⟩ : ByteArray).toList)) (by kernel_rfl) (by kernel_rfl) (fun hc82 => ?_) (fun hc82 => ?_)
       ·have hj58 := cond_t hc82 hj58
        refine qR (qp 4 [0, 5, 6, 51, 54] [(0, .string a0), (5, .pointer (some ⟨g2, 0, none⟩)), (6, .slice A35 j32.length n36), (51, .pointer (some ⟨g2, 0, none⟩)), (54, .pointer (some ⟨g2, 1, none⟩))] ?_)
        refine gl_loadB (T' := 3) (xp := (.tmp 54)) (v := .int .i64 y52.2.f1) (g := g2) (off := 1) (cs := #[.string y52.2.f0, .int .i64 y52.2.f1, .int .i64 y52.2.f2]) (e := 98) (fz := (0, 0)) (by kernel_rfl) (by kernel_rfl) (by kernel_rfl) mcs (by kernel_rfl) ?_
        obtain ⟨y83, hx84, hj58⟩ := bind_some hj58
        refine gl_call (by kernel_rfl) (tocsinref04_Text_Fail_walk (r := y83) (g0 := g2) (T0 := 98) (a0 := y52.2) hx84 _) ?_
        rintro v I85 L86 hI87 ⟨rfl, rfl⟩
        refine gl_reord (D := C37 ++ ((g2, .cells #[.string y83.f0, .int .i64 y83.f1, .int .i64 y83.f2] 98) :: L)) (Reord.step (Upd.one _ (Upd.rmC _ _)) (Reord.step1 (Upd.rm1 _ _) (Reord.refl _))) ?_
        refine qE ?_
        obtain rfl := some_inj hj58
        exact ge_mid fun t ht => ⟨A35, n36, C37, (hO38.mono (Imm.trans hI56 hI87)), hI87, rfl, ht.pick (l := [0, 5, 6]) (by kernel_rfl)⟩
       ·have hj58 := cond_f hc82 hj58
        refine gk_reord (D := C37 ++ ((g2, .cells #[.string y52.2.f0, .int .i64 y52.2.f1, .int .i64 y52.2.f2] 98) :: L)) (Reord.step (Upd.one _ (Upd.rmC _ _)) (Reord.step1 (Upd.rm1 _ _) (Reord.refl _))) ?_
        refine qx ?_
        obtain rfl := some_inj hj58
        exact ge_mid fun t ht => ⟨A35, n36, C37, (hO38.mono hI56), (Imm.refl _), rfl, ht.pick (l := [0, 5, 6]) (by kernel_rfl)⟩
     ·rintro t I65 L' ⟨A60, n61, C62, hO63, hI59, rfl, hK64⟩
      refine ge_at hK64 ?_
      refine qs (qk (qR (qp 1 [0, 5, 6, 57] [(0, .string a0), (5, .pointer (some ⟨g2, 0, none⟩)), (6, .slice A60 j57.1.length n61), (57, .pointer (some ⟨g2, 0, none⟩))] ?_)))
      obtain ⟨y88, hx89, hr⟩ := bind_some hr
      refine gl_reord (D := (g2, .cells #[.string j57.2.1, .int .i64 j57.2.2.1, .int .i64 j57.2.2.2] 98) :: (C62 ++ L)) (Reord.step1 (Upd.app _ (Upd.rm1 _ _)) (Reord.step (Upd.rmC _ _) (Reord.refl _))) ?_
      refine gl_call (by kernel_rfl) (tocsinref04_Text_Blanks_walk (r := y88) (g0 := g2) (T0 := 98) (a0 := (⟨j57.2.1, j57.2.2.1, j57.2.2.2⟩ : S97)) hx89 _) ?_
      rintro v I90 L91 hI92 ⟨rfl, rfl⟩
      refine qE (qs (qk (qk (qR (qp 3 [0, 5, 6, 61] [(0, .string a0), (5, .pointer (some ⟨g2, 0, none⟩)), (6, .slice A60 j57.1.length n61), (61, .pointer (some ⟨g2, 1, none⟩))] ?_)))))
      refine gl_loadB (T' := 3) (xp := (.tmp 61)) (v := .int .i64 y88.f1) (g := g2) (off := 1) (cs := #[.string y88.f0, .int .i64 y88.f1, .int .i64 y88.f2]) (e := 98) (fz := (0, 0)) (by kernel_rfl) (by kernel_rfl) (by kernel_rfl) mcs (by kernel_rfl) ?_
      refine qp 3 [5, 6, 65] [(5, .pointer (some ⟨g2, 0, none⟩)), (6, .slice A60 j57.1.length n61), (65, .bool (decide (y88.f1 < (a0.size : Int))))] (qE (qs ?_))
      obtain ⟨j93, hj94, hr⟩ := bind_some hr
      refine gk_join (fun t I' L' => I90 ≤ I' ∧ (g2, .cells #[.string j93.1, .int .i64 j93.2.1, .int .i64 j93.2.2] 98) :: (C62 ++ L) = L' ∧ Knows 97 [(5, .pointer (some ⟨g2, 0, none⟩)), (6, .slice A60 j57.1.length n61)] t) ?_ ?_
      ·refine gk_cond (b := (decide (y88.f1 < (a0.size : Int)))) (by kernel_rfl) (by kernel_rfl) (fun hc98 => ?_) (fun hc98 => ?_)
       ·have hj94 := cond_t hc98 hj94
        refine qR (qp 4 [5, 6, 66, 69] [(5, .pointer (some ⟨g2, 0, none⟩)), (6, .slice A60 j57.1.length n61), (66, .pointer (some ⟨g2, 0, none⟩)), (69, .pointer (some ⟨g2, 1, none⟩))] ?_)
        refine gl_loadB (T' := 3) (xp := (.tmp 69)) (v := .int .i64 y88.f1) (g := g2) (off := 1) (cs := #[.string y88.f0, .int .i64 y88.f1, .int .i64 y88.f2]) (e := 98) (fz := (0, 0)) (by kernel_rfl) (by kernel_rfl) (by kernel_rfl) mcs (by kernel_rfl) ?_
        obtain ⟨y99, hx100, hj94⟩ := bind_some hj94
        refine gl_call (by kernel_rfl) (tocsinref04_Text_Fail_walk (r := y99) (g0 := g2) (T0 := 98) (a0 := y88) hx100 _) ?_
        rintro v I101 L102 hI103 ⟨rfl, rfl⟩
        refine qE ?_
        obtain rfl := some_inj hj94
        exact ge_mid fun t ht => ⟨hI103, rfl, ht.pick (l := [5, 6]) (by kernel_rfl)⟩
       ·have hj94 := cond_f hc98 hj94
        refine qx ?_
        obtain rfl := some_inj hj94
        exact ge_mid fun t ht => ⟨(Imm.refl _), rfl, ht.pick (l := [5, 6]) (by kernel_rfl)⟩
      ·rintro t I97 L' ⟨hI95, rfl, hK96⟩
       refine ge_at hK96 ?_
       refine qs (qk (qk (qR (qp 3 [5, 6, 74] [(5, .pointer (some ⟨g2, 0, none⟩)), (6, .slice A60 j57.1.length n61), (74, .pointer (some ⟨g2, 2, none⟩))] ?_))))
       refine gl_loadB (T' := 3) (xp := (.tmp 74)) (v := .int .i64 j93.2.2) (g := g2) (off := 2) (cs := #[.string j93.1, .int .i64 j93.2.1, .int .i64 j93.2.2]) (e := 98) (fz := (0, 0)) (by kernel_rfl) (by kernel_rfl) (by kernel_rfl) mcs (by kernel_rfl) ?_
       refine qp 1 [5, 6, 76] [(5, .pointer (some ⟨g2, 0, none⟩)), (6, .slice A60 j57.1.length n61), (76, .bool (decide (j93.2.2 > 0)))] (qE (qs ?_))
       refine gk_cond (b := (decide (j93.2.2 > 0))) (by kernel_rfl) (by kernel_rfl) (fun hc104 => ?_) (fun hc104 => ?_)
       ·have hr := cond_t hc104 hr
        refine qk ?_
        refine gk_draw 8 (rng 0 8) [(g2, .cells #[.string j93.1, .int .i64 j93.2.1, .int .i64 j93.2.2] 98)] (fmc ⟨mcs, nim⟩) (by kernel_rfl) (by kernel_rfl) (by kernel_rfl) ?_ (by kernel_rfl)
        refine dp 3 [79] [(79, .pointer (some ⟨g2, 2, none⟩))] (rng 3 5) (CC.refl (fmc ⟨mcs, nim⟩)) ?_
        refine gd_q (v := .int .i64 j93.2.2) (by kernel_rfl) (by kernel_rfl) (CC.refl (fmc ⟨mcs, nim⟩)) (fun I' L' T hC kk => gl_loadB (T' := 3) (xp := (.tmp 79)) (v := .int .i64 j93.2.2) (g := g2) (off := 2) (cs := #[.string j93.1, .int .i64 j93.2.1, .int .i64 j93.2.2]) (e := 98) (fz := (0, 0)) (by kernel_rfl) (by kernel_rfl) (by kernel_rfl) (hC.sub _ mcs) (by kernel_rfl) kk) ?_
        refine dp 4 [2, 3, 4] [(2, .slice none 0 0), (3, .int .i64 3), (4, .int .i64 (IntKind.wrap .i64 (j93.2.2 - 1)))] [] (CC.refl (fmc ⟨mcs, nim⟩)) ?_
        refine gd_done ?_
        refine qE (qs ?_)
        refine gk_reord (D := L) (Reord.skip (Reord.skipC (Reord.refl _))) ?_
        refine qt (qu ?_)
        obtain rfl := some_inj hr
        exact ge_result trivial (ResOk.tmp (by kernel_rfl) (ResOk.tmp (by kernel_rfl) (ResOk.tmp (by kernel_rfl) ResOk.nil))) (Imm.trans (Imm.trans (Imm.trans (Imm.trans (Imm.trans (Imm.trans (Imm.trans (Imm.trans hI7 hI12) hI15) hI23) hI34) hI56) hI59) hI92) hI95) ⟨none, 0, [], OwnS.nil _ _ _ _, rfl, rfl⟩
       ·have hr := cond_f hc104 hr
        refine qx (qs (qk (qk (qR (qp 1 [6, 82] [(6, .slice A60 j57.1.length n61), (82, .slice A60 j57.1.length n61)] ?_)))))
        obtain ⟨y105, hx106, hr⟩ := bind_some hr
        refine gl_callB (r := .bool y105) (Tk.step (Upd.one _ (Upd.rmC _ _)) (Tk.nil _)) (by kernel_rfl) (fun J hJ hC => tocsinref04_twice_walk (r := y105) (OwnS.rest (hO63.mono (Imm.trans hI92 hI95)) hJ hC.left) hx106 _) ?_
        refine qE (qs ?_)
        refine gk_cond (b := y105) (by kernel_rfl) (by kernel_rfl) (fun hc107 => ?_) (fun hc107 => ?_)
        ·have hr := cond_t hc107 hr
         refine qk (qR (qp 3 [2, 3, 4] [(2, .slice none 0 0), (3, .int .i64 6), (4, .int .i64 0)] (qE (qs ?_))))
         refine gk_reord (D := L) (Reord.skip (Reord.skipC (Reord.refl _))) ?_
         refine qt (qu ?_)
         obtain rfl := some_inj hr
         exact ge_result trivial (ResOk.tmp (by kernel_rfl) (ResOk.tmp (by kernel_rfl) (ResOk.tmp (by kernel_rfl) ResOk.nil))) (Imm.trans (Imm.trans (Imm.trans (Imm.trans (Imm.trans (Imm.trans (Imm.trans (Imm.trans hI7 hI12) hI15) hI23) hI34) hI56) hI59) hI92) hI95) ⟨none, 0, [], OwnS.nil _ _ _ _, rfl, rfl⟩
        ·have hr := cond_f hc107 hr
         refine qx (qs (qk (qR (qp 1 [84] [(84, .slice A60 j57.1.length n61)] ?_))))
         refine gl_rest (Tk.step (Upd.one _ (Upd.rmC _ _)) (Tk.nil _)) (fun J108 hJ109 hC110 => ?_)
         have hf111 := (OwnS.rest (hO63.mono (Imm.trans hI92 hI95)) hJ109 hC110.left)
         obtain ⟨y112, hx113, hr⟩ := bind_some hr
         refine gl_call (by kernel_rfl) (tocsinref04_full_walk (r := y112) hf111 hx113 _) ?_
         rintro v I114 L115 hI116 ⟨A117, c118, C119, hO120, rfl, rfl⟩
         refine gl_rest (Tk.step (Upd.rmC _ _) (Tk.nil _)) (fun J121 hJ122 hC123 => ?_)
         have hf124 := (OwnS.rest hO120 hJ122 hC123.left)
         obtain ⟨y125, hx126, hr⟩ := bind_some hr
         refine gl_call (by kernel_rfl) (tocsinref04_sorted_walk (r := y125) hf124 hx126 _) ?_
         rintro v I127 L128 hI129 ⟨A130, c131, C132, hO133, rfl, rfl⟩
         refine qp 1 [9] [(9, .slice A130 y125.length c131)] (qE (qs (qk (qk (qR (qp 1 [9, 88] [(9, .slice A130 y125.length c131), (88, .slice A130 y125.length c131)] ?_))))))
         obtain ⟨y134, hx135, hr⟩ := bind_some hr
         refine gl_callB (r := .tuple #[.int .i64 y134.1, .int .i64 y134.2]) (Tk.step (Upd.rmC _ _) (Tk.nil _)) (by kernel_rfl) (fun J hJ hC => tocsinref04_Right_walk (r := y134) (OwnS.rest hO133 hJ hC.left) hx135 _) ?_
         refine qp 5 [9, 10, 11] [(9, .slice A130 y125.length c131), (10, .int .i64 y134.1), (11, .int .i64 y134.2)] (qE (qs (qk (qR (qp 2 [9, 10, 11, 93] [(9, .slice A130 y125.length c131), (10, .int .i64 y134.1), (11, .int .i64 y134.2), (93, .bool (y134.1 != 0))] (qE (qs ?_)))))))
         refine gk_cond (b := (y134.1 != 0)) (by kernel_rfl) (by kernel_rfl) (fun hc136 => ?_) (fun hc136 => ?_)
         ·have hr := cond_t hc136 hr
          refine qk (qR (qp 5 [2, 3, 4] [(2, .slice none 0 0), (3, .int .i64 y134.1), (4, .int .i64 y134.2)] (qE (qs ?_))))
          refine gk_reord (D := L) (Reord.skipC (Reord.skip (Reord.refl _))) ?_
          refine qt (qu ?_)
          obtain rfl := some_inj hr
          exact ge_result trivial (ResOk.tmp (by kernel_rfl) (ResOk.tmp (by kernel_rfl) (ResOk.tmp (by kernel_rfl) ResOk.nil))) (Imm.trans (Imm.trans (Imm.trans (Imm.trans (Imm.trans (Imm.trans (Imm.trans (Imm.trans (Imm.trans (Imm.trans (Imm.trans (Imm.trans hI7 hI12) hI15) hI23) hI34) hI56) hI59) hI92) hI95) hJ109) hI116) hJ122) hI129) ⟨none, 0, [], OwnS.nil _ _ _ _, rfl, rfl⟩
         ·have hr := cond_f hc136 hr
          refine qx (qs (qk (qR (qp 4 [2, 3, 4] [(2, .slice A130 y125.length c131), (3, .int .i64 0), (4, .int .i64 0)] (qE (qs ?_))))))
          refine gk_reord (D := C132 ++ L) (Reord.step (Upd.rmC _ _) (Reord.skip (Reord.refl _))) ?_
          refine qt ?_
          obtain rfl := some_inj hr
          exact ge_result trivial (ResOk.tmp (by kernel_rfl) (ResOk.tmp (by kernel_rfl) (ResOk.tmp (by kernel_rfl) ResOk.nil))) (Imm.trans (Imm.trans (Imm.trans (Imm.trans (Imm.trans (Imm.trans (Imm.trans (Imm.trans (Imm.trans (Imm.trans (Imm.trans (Imm.trans hI7 hI12) hI15) hI23) hI34) hI56) hI59) hI92) hI95) hJ109) hI116) hJ122) hI129) ⟨A130, c131, C132, hO133, rfl, rfl⟩
/-! 28 tocsinlaw04_Spoil_f28 ('own',) -/
noncomputable def tocsinlaw04_Spoil_f28_l25 (a0 : List S49) : ((List S49) × Int) → Option (((List S49) × Int) ⊕ ((List S49))) := fun s10 =>
 bif (decide (s10.2 < (a0.length : Int))) then
 (Option.bind (ix s10.1 s10.2) fun (x28 : S49) =>
  some (Sum.inl ((lset s10.1 s10.2 (⟨(⟨#[115, 112, 111, 105, 108, 116]⟩ : ByteArray), (⟨#[]⟩ : ByteArray)⟩ : S49)), (IntKind.wrap .i64 (s10.2 + 1)))))
 else
 (some (Sum.inr s10.1))
noncomputable def tocsinlaw04_Spoil_f28 (a0 : List S49) : Option Unit :=
 Option.bind (loopO (tocsinlaw04_Spoil_f28_l25 a0) (a0, 0)) fun (r8 : (List S49)) =>
 Option.bind (app r8 [(⟨(⟨#[115, 112, 111, 105, 108, 116]⟩ : ByteArray), (⟨#[]⟩ : ByteArray)⟩ : S49)]) fun (zs44 : List S49) =>
 Option.bind (ix zs44 (IntKind.wrap .i64 ((zs44.length : Int) - 1))) fun (x50 : S49) =>
 some ()
theorem tocsinlaw04_Spoil_f28_walk {a0 : List S49} {A0 : Option Addr} {c0 : Nat} {C0 : Own} {I : Imm} {r : Unit} (hO0 : OwnS kS49 50 I A0 c0 a0 C0) (hr : tocsinlaw04_Spoil_f28 a0 = some r) (L : Own) :
  CallsTo Tryz.prog 28 #[.slice A0 a0.length c0] I (C0 ++ L) (fun v I' L' => v = .tuple #[] ∧ L = L') := by
 unfold tocsinlaw04_Spoil_f28 at hr
 refine callsTo_body (N := 23) Tryz.func28 (by kernel_rfl) (by kernel_rfl) (by kernel_rfl) ?_
 refine qq [0] [(0, .slice A0 a0.length c0)] (qk (qk (qR (qp 3 [0, 4, 5] [(0, .slice A0 a0.length c0), (4, .int .i64 (a0.length : Int)), (5, .int .i64 0)] (qE (qs ?_))))))
 obtain ⟨r8, hl9, hr⟩ := bind_some hr
 refine gk_join (fun t I' L' => ∃ C20, OwnS kS49 50 I' A0 c0 r8 C20 ∧ I ≤ I' ∧ C20 ++ L = L' ∧ Knows 23 [(0, .slice A0 r8.length c0)] t) ?_ ?_
 ·refine qb (qq [0, 4, 5] [(0, .slice A0 a0.length c0), (4, .int .i64 (a0.length : Int)), (5, .int .i64 0)] ?_)
  intro t hK
  refine gc_loop (tocsinlaw04_Spoil_f28_l25 a0) (fun s10 t I' L' => ∃ C14, OwnS kS49 50 I' A0 c0 s10.1 C14 ∧ I ≤ I' ∧ C14 ++ L = L' ∧ Knows 23 [(0, .slice A0 s10.1.length c0), (4, .int .i64 (a0.length : Int)), (5, .int .i64 s10.2)] t) (by kernel_rfl) ?_ hl9 ⟨C0, hO0, (Imm.refl _), rfl, hK⟩
  rintro s10 o11 t I18 L' hb12 ⟨C14, hO15, hI13, rfl, hK17⟩
  unfold tocsinlaw04_Spoil_f28_l25 at hb12
  refine gk_at hK17 ?_
  refine qk (qR (qp 1 [0, 4, 5, 6] [(0, .slice A0 s10.1.length c0), (4, .int .i64 (a0.length : Int)), (5, .int .i64 s10.2), (6, .bool (decide (s10.2 < (a0.length : Int))))] (qE (qs (qk ?_)))))
  refine gk_cond (b := (decide (s10.2 < (a0.length : Int)))) (by kernel_rfl) (by kernel_rfl) (fun hc27 => ?_) (fun hc27 => ?_)
  ·have hb12 := cond_t hc27 hb12
   refine qx (qs (qk (qb (qk (qR (qp 2 [0, 2, 4, 5] [(0, .slice A0 s10.1.length c0), (2, .int .i64 s10.2), (4, .int .i64 (a0.length : Int)), (5, .int .i64 s10.2)] (qE (qs (qR (qp 3 [0, 4, 5, 8, 9, 10] [(0, .slice A0 s10.1.length c0), (4, .int .i64 (a0.length : Int)), (5, .int .i64 s10.2), (8, .slice A0 s10.1.length c0), (9, .int .i64 s10.2), (10, .agg #[.string (⟨#[115, 112, 111, 105, 108, 116]⟩ : ByteArray), .string (⟨#[]⟩ : ByteArray)])] ?_))))))))))
   obtain ⟨x28, hx29, hb12⟩ := bind_some hb12
   refine gl_indexAddrW (d := kS49) (c := c0) (T' := 22) (e := 50) (xs := (.tmp 8)) (xi := (.tmp 9)) (kd := .i64) hx29 hO15 (Upd.selfC _ _) (by kernel_rfl) (by kernel_rfl) (by kernel_rfl) (by kernel_rfl) (by kernel_rfl) (fun p30 cs31 hR32 hA33 hp36 => ?_)
   obtain rfl := kS49_open hR32
   have hl39 : s10.1.length = (lset s10.1 s10.2 (⟨(⟨#[115, 112, 111, 105, 108, 116]⟩ : ByteArray), (⟨#[]⟩ : ByteArray)⟩ : S49)).length := by simp [lset]
   refine gl_storeE (d := kS49) (T' := 50) (xp := (.tmp 11)) (xv := (.tmp 10)) (v := .agg #[.string (⟨#[115, 112, 111, 105, 108, 116]⟩ : ByteArray), .string (⟨#[]⟩ : ByteArray)]) (off := 0) (y := (⟨(⟨#[115, 112, 111, 105, 108, 116]⟩ : ByteArray), (⟨#[]⟩ : ByteArray)⟩ : S49)) (fun X => X ++ L) hx29 hO15 (fun X => (Upd.head _ X _)) hp36 (by kernel_rfl) (by kernel_rfl) (by kernel_rfl) (by kernel_rfl) (by kernel_rfl) (by kernel_rfl) (fun cs h => by obtain rfl := kS49_open h; exact kS49_mk (x := (⟨(⟨#[115, 112, 111, 105, 108, 116]⟩ : ByteArray), (⟨#[]⟩ : ByteArray)⟩ : S49)) ) (by kernel_rfl) (fun C37 hO38 => ?_)
   try rw [hl39]
   refine qE (qn (qs (qR (qp 2 [0, 4, 5] [(0, .slice A0 (lset s10.1 s10.2 (⟨(⟨#[115, 112, 111, 105, 108, 116]⟩ : ByteArray), (⟨#[]⟩ : ByteArray)⟩ : S49)).length c0), (4, .int .i64 (a0.length : Int)), (5, .int .i64 (IntKind.wrap .i64 (s10.2 + 1)))] (qE ?_)))))
   obtain rfl := some_inj hb12
   exact ge_round fun t ht => ⟨C37, hO38, hI13, rfl, ht.pick (l := [0, 4, 5]) (by kernel_rfl)⟩
  ·have hb12 := cond_f hc27 hb12
   refine qe (qf ?_)
   obtain rfl := some_inj hb12
   refine ge_round_out (fun hrr => ?_) (by intro h; cases h)
   obtain rfl := hrr
   refine qh ?_
   exact ge_mid fun t ht => ⟨C14, hO15, hI13, rfl, ht.pick (l := [0]) (by kernel_rfl)⟩
 ·rintro t I24 L' ⟨C20, hO21, hI19, rfl, hK23⟩
  refine ge_at hK23 ?_
  refine qs (qk (qR (qp 2 [13, 14] [(13, .slice A0 r8.length c0), (14, .agg #[.string (⟨#[115, 112, 111, 105, 108, 116]⟩ : ByteArray), .string (⟨#[]⟩ : ByteArray)])] ?_)))
  refine gl_buildSlice (T' := 22) (e := 50) (n := 2) (len := 1) (parts := #[(0, (.tmp 14))]) (l := [(0, .agg #[.string (⟨#[115, 112, 111, 105, 108, 116]⟩ : ByteArray), .string (⟨#[]⟩ : ByteArray)])]) (cs := #[.string (⟨#[115, 112, 111, 105, 108, 116]⟩ : ByteArray), .string (⟨#[]⟩ : ByteArray)]) (by kernel_rfl) (by kernel_rfl) (by kernel_rfl) (by kernel_rfl) (by kernel_rfl) (fun g40 => ?_)
  have hO41 : OwnS kS49 50 I24 (some ⟨g40, 0, none⟩) 1 [(⟨(⟨#[115, 112, 111, 105, 108, 116]⟩ : ByteArray), (⟨#[]⟩ : ByteArray)⟩ : S49)] [(g40, .cells #[.string (⟨#[115, 112, 111, 105, 108, 116]⟩ : ByteArray), .string (⟨#[]⟩ : ByteArray)] 50)] := OwnS.lit (row_cons (l := [.string (⟨#[115, 112, 111, 105, 108, 116]⟩ : ByteArray), .string (⟨#[]⟩ : ByteArray)]) (kS49_mk (x := (⟨(⟨#[115, 112, 111, 105, 108, 116]⟩ : ByteArray), (⟨#[]⟩ : ByteArray)⟩ : S49)) ) (row_nil _ _)) rfl rfl rfl
  refine gl_reord (D := [(g40, .cells #[.string (⟨#[115, 112, 111, 105, 108, 116]⟩ : ByteArray), .string (⟨#[]⟩ : ByteArray)] 50)] ++ (C20 ++ L)) (Reord.refl _) ?_
  obtain ⟨zs44, hz45, hr⟩ := bind_some hr
  refine gl_append (xv := .slice (some ⟨g40, 0, none⟩) [(⟨(⟨#[115, 112, 111, 105, 108, 116]⟩ : ByteArray), (⟨#[]⟩ : ByteArray)⟩ : S49)].length 1) (d := kS49) (t := 22) (tx := 22) (e := 50) (s := (.tmp 13)) (x := (.tmp 15)) (xs := r8) (fun X => [(g40, .cells #[.string (⟨#[115, 112, 111, 105, 108, 116]⟩ : ByteArray), .string (⟨#[]⟩ : ByteArray)] 50)] ++ (X ++ L)) hz45 (by kernel_rfl) (by kernel_rfl) (by kernel_rfl) (by kernel_rfl) (by kernel_rfl) (by kernel_rfl) (fun X => (Upd.app _ (Upd.head _ X _))) hO21 (SrcOk.slice (c := 1) (e := 50) (n := 2) (OwnS.rd hO41 (Upd.selfC _ _)) (by kernel_rfl)) (fun A46 n47 C48 hO49 => ?_)
  refine qp 1 [0] [(0, .slice A46 zs44.length n47)] (qE (qs (qR (qp 4 [17, 20] [(17, .slice A46 zs44.length n47), (20, .int .i64 (IntKind.wrap .i64 ((zs44.length : Int) - 1)))] ?_))))
  obtain ⟨x50, hx51, hr⟩ := bind_some hr
  refine gl_indexAddrW (d := kS49) (c := n47) (T' := 22) (e := 50) (xs := (.tmp 17)) (xi := (.tmp 20)) (kd := .i64) hx51 hO49 (Upd.app _ (Upd.selfC _ _)) (by kernel_rfl) (by kernel_rfl) (by kernel_rfl) (by kernel_rfl) (by kernel_rfl) (fun p52 cs53 hR54 hA55 hp58 => ?_)
  obtain rfl := kS49_open hR54
  refine qp 1 [22] [(22, .pointer (some (p52.add 1)))] ?_
  have hl61 : zs44.length = (lset zs44 (IntKind.wrap .i64 ((zs44.length : Int) - 1)) (⟨x50.f0, (⟨#[116, 111, 111]⟩ : ByteArray)⟩ : S49)).length := by simp [lset]
  refine gl_storeE (d := kS49) (T' := 9) (xp := (.tmp 22)) (xv := (.const (.string (⟨#[116, 111, 111]⟩ : ByteArray)))) (v := .string (⟨#[116, 111, 111]⟩ : ByteArray)) (off := 1) (y := (⟨x50.f0, (⟨#[116, 111, 111]⟩ : ByteArray)⟩ : S49)) (fun X => [(g40, .cells #[.string (⟨#[115, 112, 111, 105, 108, 116]⟩ : ByteArray), .string (⟨#[]⟩ : ByteArray)] 50)] ++ (X ++ L)) hx51 hO49 (fun X => (Upd.app _ (Upd.head _ X _))) hp58 (by kernel_rfl) (by kernel_rfl) (by kernel_rfl) (by kernel_rfl) (by kernel_rfl) (by kernel_rfl) (fun cs h => by obtain rfl := kS49_open h; exact kS49_mk (x := (⟨x50.f0, (⟨#[116, 111, 111]⟩ : ByteArray)⟩ : S49)) ) (by kernel_rfl) (fun C59 hO60 => ?_)
  try rw [hl61]
  refine gl_reord (D := L) (Reord.skipC (Reord.skipC (Reord.refl _))) ?_
  refine qE ?_
  obtain rfl := some_inj hr
  exact ge_result trivial ResOk.nil hI19 ⟨rfl, rfl⟩
/-! 85 labels_Hash_1 ('imm', 'obj') -/
noncomputable def labels_Hash_1_l16 (a0 : ByteArray) : (Int × Int) → Option ((Int × Int) ⊕ (Int)) := fun s7 =>
 bif (decide (s7.2 < (a0.size : Int))) then
 (Option.bind (bx a0 s7.2) fun (c19 : Int) =>
  some (Sum.inl ((IntKind.wrap .u64 ((bitXor .u64 s7.1 (IntKind.wrap .u64 c19)) * 1099511628211)), (IntKind.wrap .i64 (s7.2 + 1)))))
 else
 (some (Sum.inr s7.1))
noncomputable def labels_Hash_1 (a0 : ByteArray) (a1 : Int) : Option Int :=
 Option.bind (loopO (labels_Hash_1_l16 a0) (a1, 0)) fun (r5 : Int) =>
 some (IntKind.wrap .u64 ((bitXor .u64 r5 255) * 1099511628211))
theorem labels_Hash_1_walk {a0 : ByteArray} {a1 : Int} {g1 : Nat} {T1 : TypeId} {I : Imm} {r : Int}  (hr : labels_Hash_1 a0 a1 = some r) (L : Own) :
  CallsTo Tryz.prog 85 #[.string a0, .pointer (some ⟨g1, 0, none⟩)] I ((g1, .cells #[.int .u64 a1] T1) :: L) (fun v I' L' => v = .tuple #[] ∧ (g1, .cells #[.int .u64 r] T1) :: L = L') := by
 unfold labels_Hash_1 at hr
 refine callsTo_body (N := 20) Tryz.func85 (by kernel_rfl) (by kernel_rfl) (by kernel_rfl) ?_
 refine qq [0, 1] [(0, .string a0), (1, .pointer (some ⟨g1, 0, none⟩))] (qk (qk (qR (qp 3 [0, 1, 5, 6] [(0, .string a0), (1, .pointer (some ⟨g1, 0, none⟩)), (5, .int .i64 (a0.size : Int)), (6, .int .i64 0)] (qE (qs ?_))))))
 obtain ⟨r5, hl6, hr⟩ := bind_some hr
 refine gk_join (fun t I' L' => I ≤ I' ∧ (g1, .cells #[.int .u64 r5] T1) :: L = L' ∧ Knows 20 [(1, .pointer (some ⟨g1, 0, none⟩))] t) ?_ ?_
 ·refine qb (qq [0, 1, 5, 6] [(0, .string a0), (1, .pointer (some ⟨g1, 0, none⟩)), (5, .int .i64 (a0.size : Int)), (6, .int .i64 0)] ?_)
  intro t hK
  refine gc_loop (labels_Hash_1_l16 a0) (fun s7 t I' L' => I ≤ I' ∧ (g1, .cells #[.int .u64 s7.1] T1) :: L = L' ∧ Knows 20 [(0, .string a0), (1, .pointer (some ⟨g1, 0, none⟩)), (5, .int .i64 (a0.size : Int)), (6, .int .i64 s7.2)] t) (by kernel_rfl) ?_ hl6 ⟨(Imm.refl _), rfl, hK⟩
  rintro s7 o8 t I12 L' hb9 ⟨hI10, rfl, hK11⟩
  unfold labels_Hash_1_l16 at hb9
  refine gk_at hK11 ?_
  refine qk (qR (qp 1 [0, 1, 5, 6, 7] [(0, .string a0), (1, .pointer (some ⟨g1, 0, none⟩)), (5, .int .i64 (a0.size : Int)), (6, .int .i64 s7.2), (7, .bool (decide (s7.2 < (a0.size : Int))))] (qE (qs (qk ?_)))))
  refine gk_cond (b := (decide (s7.2 < (a0.size : Int)))) (by kernel_rfl) (by kernel_rfl) (fun hc18 => ?_) (fun hc18 => ?_)
  ·have hb9 := cond_t hc18 hb9
   refine qx (qs (qk (qb (qk (qR (qp 2 [0, 1, 3, 5, 6] [(0, .string a0), (1, .pointer (some ⟨g1, 0, none⟩)), (3, .int .i64 s7.2), (5, .int .i64 (a0.size : Int)), (6, .int .i64 s7.2)] (qE (qs ?_))))))))
   refine gk_draw 7 (rng 0 7) [(g1, .cells #[.int .u64 s7.1] T1)] (fmc ⟨mcs, nim⟩) (by kernel_rfl) (by kernel_rfl) (by kernel_rfl) ?_ (by kernel_rfl)
   refine gd_q (v := .int .u64 s7.1) (by kernel_rfl) (by kernel_rfl) (CC.refl (fmc ⟨mcs, nim⟩)) (fun I' L' T hC kk => gl_loadB (T' := 41) (xp := (.tmp 1)) (v := .int .u64 s7.1) (g := g1) (off := 0) (cs := #[.int .u64 s7.1]) (e := T1) (fz := (0, 0)) (by kernel_rfl) (by kernel_rfl) (by kernel_rfl) (hC.sub _ mcs) (by kernel_rfl) kk) ?_
   refine dp 2 [0, 1, 5, 6, 9, 10, 11] [(0, .string a0), (1, .pointer (some ⟨g1, 0, none⟩)), (5, .int .i64 (a0.size : Int)), (6, .int .i64 s7.2), (9, .int .u64 s7.1), (10, .string a0), (11, .int .i64 s7.2)] (rng 3 4) (CC.refl (fmc ⟨mcs, nim⟩)) ?_
   obtain ⟨c19, hx20, hb9⟩ := bind_some hb9
   refine gd_q (v := .int .u8 c19) (by kernel_rfl) (by kernel_rfl) (CC.refl (fmc ⟨mcs, nim⟩)) (fun I' L' T hC kk => gl_index' (T' := 9) (xs := (.tmp 10)) (xi := (.tmp 11)) (kd := .i64) hx20 (by kernel_rfl) (by kernel_rfl) (by kernel_rfl) (by kernel_rfl) (by kernel_rfl) kk) ?_
   refine dp 3 [0, 1, 5, 6, 15] [(0, .string a0), (1, .pointer (some ⟨g1, 0, none⟩)), (5, .int .i64 (a0.size : Int)), (6, .int .i64 s7.2), (15, .int .u64 (IntKind.wrap .u64 ((bitXor .u64 s7.1 (IntKind.wrap .u64 c19)) * 1099511628211)))] [] (CC.refl (fmc ⟨mcs, nim⟩)) ?_
   refine gd_done ?_
   refine gl_storeB (T' := 41) (xp := (.tmp 1)) (xv := (.tmp 15)) (v := .int .u64 (IntKind.wrap .u64 ((bitXor .u64 s7.1 (IntKind.wrap .u64 c19)) * 1099511628211))) (g := g1) (off := 0) (cs := #[.int .u64 s7.1]) (cs' := #[.int .u64 (IntKind.wrap .u64 ((bitXor .u64 s7.1 (IntKind.wrap .u64 c19)) * 1099511628211))]) (by kernel_rfl) (by kernel_rfl) (by kernel_rfl) (by kernel_rfl) (by kernel_rfl) (Upd.set _ _ _ _) ?_ (by kernel_rfl)
   refine qE (qn (qs (qR (qp 2 [0, 1, 5, 6] [(0, .string a0), (1, .pointer (some ⟨g1, 0, none⟩)), (5, .int .i64 (a0.size : Int)), (6, .int .i64 (IntKind.wrap .i64 (s7.2 + 1)))] (qE ?_)))))
   obtain rfl := some_inj hb9
   exact ge_round fun t ht => ⟨hI10, rfl, ht.pick (l := [0, 1, 5, 6]) (by kernel_rfl)⟩
  ·have hb9 := cond_f hc18 hb9
   refine qe (qf ?_)
   obtain rfl := some_inj hb9
   refine ge_round_out (fun hrr => ?_) (by intro h; cases h)
   obtain rfl := hrr
   refine qh ?_
   exact ge_mid fun t ht => ⟨hI10, rfl, ht.pick (l := [1]) (by kernel_rfl)⟩
 ·rintro t I15 L' ⟨hI13, rfl, hK14⟩
  refine ge_at hK14 ?_
  refine qs (qR ?_)
  refine gl_loadB (T' := 41) (xp := (.tmp 1)) (v := .int .u64 r5) (g := g1) (off := 0) (cs := #[.int .u64 r5]) (e := T1) (fz := (0, 0)) (by kernel_rfl) (by kernel_rfl) (by kernel_rfl) mcs (by kernel_rfl) ?_
  refine qp 2 [1, 19] [(1, .pointer (some ⟨g1, 0, none⟩)), (19, .int .u64 (IntKind.wrap .u64 ((bitXor .u64 r5 255) * 1099511628211)))] ?_
  refine gl_storeB (T' := 41) (xp := (.tmp 1)) (xv := (.tmp 19)) (v := .int .u64 (IntKind.wrap .u64 ((bitXor .u64 r5 255) * 1099511628211))) (g := g1) (off := 0) (cs := #[.int .u64 r5]) (cs' := #[.int .u64 (IntKind.wrap .u64 ((bitXor .u64 r5 255) * 1099511628211))]) (by kernel_rfl) (by kernel_rfl) (by kernel_rfl) (by kernel_rfl) (by kernel_rfl) (Upd.set _ _ _ _) ?_ (by kernel_rfl)
  refine qE ?_
  obtain rfl := some_inj hr
  exact ge_result trivial ResOk.nil hI13 ⟨rfl, rfl⟩
/-! 35 labels_Hash  -/
noncomputable def labels_Hash_l17 (a0 : List S49) : (Int × Int) → Option ((Int × Int) ⊕ (Int)) := fun s8 =>
 bif (decide (s8.2 < (a0.length : Int))) then
 (Option.bind (ix a0 s8.2) fun (x20 : S49) =>
  Option.bind (labels_Hash_1 x20.f0 s8.1) fun (y29 : Int) =>
  Option.bind (labels_Hash_1 x20.f1 y29) fun (y34 : Int) =>
  some (Sum.inl (y34, (IntKind.wrap .i64 (s8.2 + 1)))))
 else
 (some (Sum.inr s8.1))
noncomputable def labels_Hash (a0 : List S49) : Option Int :=
 Option.bind (loopO (labels_Hash_l17 a0) (14695981039346656037, 0)) fun (r6 : Int) =>
 some r6
theorem labels_Hash_walk {a0 : List S49} {A0_0 : Option Addr} {n0_0 : Nat} {I : Imm} {r : Int}  (hf0_0 : RepS kS49 I A0_0 n0_0 a0) (hr : labels_Hash a0 = some r) (L : Own) :
  CallsTo Tryz.prog 35 #[.slice A0_0 a0.length n0_0] I L (fun v I' L' => v = .int .u64 r ∧ L = L') := by
 unfold labels_Hash at hr
 refine callsTo_body (N := 24) Tryz.func35 (by kernel_rfl) (by kernel_rfl) (by kernel_rfl) ?_
 refine qq [0] [(0, .slice A0_0 a0.length n0_0)] (qk (qR (qp 1 [0] [(0, .slice A0_0 a0.length n0_0)] (qE (qs (qk (qR ?_)))))))
 refine gl_alloc (T' := 41) (cs := #[.int .u64 0]) (by kernel_rfl) (by kernel_rfl) (by kernel_rfl) (fun g1 => ?_)
 refine gl_storeB (T' := 41) (xp := (.tmp 3)) (xv := (.const (.int .u64 14695981039346656037))) (v := .int .u64 14695981039346656037) (g := g1) (off := 0) (cs := #[.int .u64 0]) (cs' := #[.int .u64 14695981039346656037]) (by kernel_rfl) (by kernel_rfl) (by kernel_rfl) (by kernel_rfl) (by kernel_rfl) (Upd.set _ _ _ _) ?_ (by kernel_rfl)
 refine qE (qs (qk (qR (qp 2 [0, 3, 4] [(0, .slice A0_0 a0.length n0_0), (3, .pointer (some ⟨g1, 0, none⟩)), (4, .func (.func 85) #[] #[.pointer (some ⟨g1, 0, none⟩)])] (qE (qs (qk (qk (qR (qp 3 [3, 4, 8, 9, 10] [(3, .pointer (some ⟨g1, 0, none⟩)), (4, .func (.func 85) #[] #[.pointer (some ⟨g1, 0, none⟩)]), (8, .slice A0_0 a0.length n0_0), (9, .int .i64 (a0.length : Int)), (10, .int .i64 0)] (qE ?_)))))))))))
 refine qs ?_
 obtain ⟨r6, hl7, hr⟩ := bind_some hr
 refine gk_join (fun t I' L' => I ≤ I' ∧ (g1, .cells #[.int .u64 r6] 41) :: L = L' ∧ Knows 24 [(3, .pointer (some ⟨g1, 0, none⟩))] t) ?_ ?_
 ·refine qb (qq [3, 4, 8, 9, 10] [(3, .pointer (some ⟨g1, 0, none⟩)), (4, .func (.func 85) #[] #[.pointer (some ⟨g1, 0, none⟩)]), (8, .slice A0_0 a0.length n0_0), (9, .int .i64 (a0.length : Int)), (10, .int .i64 0)] ?_)
  intro t hK
  refine gc_loop (labels_Hash_l17 a0) (fun s8 t I' L' => I ≤ I' ∧ (g1, .cells #[.int .u64 s8.1] 41) :: L = L' ∧ Knows 24 [(3, .pointer (some ⟨g1, 0, none⟩)), (4, .func (.func 85) #[] #[.pointer (some ⟨g1, 0, none⟩)]), (8, .slice A0_0 a0.length n0_0), (9, .int .i64 (a0.length : Int)), (10, .int .i64 s8.2)] t) (by kernel_rfl) ?_ hl7 ⟨(Imm.refl _), rfl, hK⟩
  rintro s8 o9 t I13 L' hb10 ⟨hI11, rfl, hK12⟩
  unfold labels_Hash_l17 at hb10
  refine gk_at hK12 ?_
  refine qk (qR (qp 1 [3, 4, 8, 9, 10, 11] [(3, .pointer (some ⟨g1, 0, none⟩)), (4, .func (.func 85) #[] #[.pointer (some ⟨g1, 0, none⟩)]), (8, .slice A0_0 a0.length n0_0), (9, .int .i64 (a0.length : Int)), (10, .int .i64 s8.2), (11, .bool (decide (s8.2 < (a0.length : Int))))] (qE (qs (qk ?_)))))
  refine gk_cond (b := (decide (s8.2 < (a0.length : Int)))) (by kernel_rfl) (by kernel_rfl) (fun hc19 => ?_) (fun hc19 => ?_)
  ·have hb10 := cond_t hc19 hb10
   refine qx (qs (qk (qb (qk (qR ?_)))))
   obtain ⟨x20, hx21, hb10⟩ := bind_some hb10
   obtain ⟨p22, cs23, hR24, hA25, ha26⟩ := RepS.ixAt hx21 (hf0_0.mono hI11)
   have hi27 := ix_some hx21
   obtain rfl := kS49_open hR24
   refine gl_indexAddrF (c := n0_0) (T' := 22) (e := 50) (xs := (.tmp 8)) (xi := (.tmp 10)) (kd := .i64) ha26 hi27.1 hi27.2.1 (by kernel_rfl) (by kernel_rfl) (by kernel_rfl) (by kernel_rfl) (by kernel_rfl) ?_
   refine gl_loadA (T' := 50) (xp := (.tmp 12)) (p := p22) (cs := [.string x20.f0, .string x20.f1]) (by kernel_rfl) (by kernel_rfl) (by kernel_rfl) (by kernel_rfl) (hA25.take 2) ?_
   refine gl_alloc (T' := 50) (cs := #[.string (⟨#[]⟩ : ByteArray), .string (⟨#[]⟩ : ByteArray)]) (by kernel_rfl) (by kernel_rfl) (by kernel_rfl) (fun g28 => ?_)
   refine gl_storeB (T' := 50) (xp := (.tmp 6)) (xv := (.tmp 13)) (v := .agg #[.string x20.f0, .string x20.f1]) (g := g28) (off := 0) (cs := #[.string (⟨#[]⟩ : ByteArray), .string (⟨#[]⟩ : ByteArray)]) (cs' := #[.string x20.f0, .string x20.f1]) (by kernel_rfl) (by kernel_rfl) (by kernel_rfl) (by kernel_rfl) (by kernel_rfl) (Upd.set _ _ _ _) ?_ (by kernel_rfl)
   refine qE (qs (qk (qR (qp 2 [3, 4, 6, 8, 9, 10, 14, 15] [(3, .pointer (some ⟨g1, 0, none⟩)), (4, .func (.func 85) #[] #[.pointer (some ⟨g1, 0, none⟩)]), (6, .pointer (some ⟨g28, 0, none⟩)), (8, .slice A0_0 a0.length n0_0), (9, .int .i64 (a0.length : Int)), (10, .int .i64 s8.2), (14, .func (.func 85) #[] #[.pointer (some ⟨g1, 0, none⟩)]), (15, .pointer (some ⟨g28, 0, none⟩))] ?_))))
   refine gl_loadB (T' := 9) (xp := (.tmp 15)) (v := .string x20.f0) (g := g28) (off := 0) (cs := #[.string x20.f0, .string x20.f1]) (e := 50) (fz := (0, 0)) (by kernel_rfl) (by kernel_rfl) (by kernel_rfl) mcs (by kernel_rfl) ?_
   obtain ⟨y29, hx30, hb10⟩ := bind_some hb10
   refine gl_reord (D := (g1, .cells #[.int .u64 s8.1] 41) :: ((g28, .cells #[.string x20.f0, .string x20.f1] 50) :: L)) (Reord.step1 (Upd.one _ (Upd.rm1 _ _)) (Reord.step1 (Upd.rm1 _ _) (Reord.refl _))) ?_
   refine gl_call (by kernel_rfl) (labels_Hash_1_walk (r := y29) (g1 := g1) (T1 := 41) (a1 := s8.1) hx30 _) ?_
   rintro v I31 L32 hI33 ⟨rfl, rfl⟩
   refine qE (qs (qR (qp 2 [3, 4, 8, 9, 10, 18, 19] [(3, .pointer (some ⟨g1, 0, none⟩)), (4, .func (.func 85) #[] #[.pointer (some ⟨g1, 0, none⟩)]), (8, .slice A0_0 a0.length n0_0), (9, .int .i64 (a0.length : Int)), (10, .int .i64 s8.2), (18, .func (.func 85) #[] #[.pointer (some ⟨g1, 0, none⟩)]), (19, .pointer (some ⟨g28, 1, none⟩))] ?_)))
   refine gl_loadB (T' := 9) (xp := (.tmp 19)) (v := .string x20.f1) (g := g28) (off := 1) (cs := #[.string x20.f0, .string x20.f1]) (e := 50) (fz := (0, 0)) (by kernel_rfl) (by kernel_rfl) (by kernel_rfl) (List.mem_cons_of_mem _ mcs) (by kernel_rfl) ?_
   obtain ⟨y34, hx35, hb10⟩ := bind_some hb10
   refine gl_call (by kernel_rfl) (labels_Hash_1_walk (r := y34) (g1 := g1) (T1 := 41) (a1 := y29) hx35 _) ?_
   rintro v I36 L37 hI38 ⟨rfl, rfl⟩
   refine qE (qn (qs (qR (qp 2 [3, 4, 8, 9, 10] [(3, .pointer (some ⟨g1, 0, none⟩)), (4, .func (.func 85) #[] #[.pointer (some ⟨g1, 0, none⟩)]), (8, .slice A0_0 a0.length n0_0), (9, .int .i64 (a0.length : Int)), (10, .int .i64 (IntKind.wrap .i64 (s8.2 + 1)))] ?_))))
   refine gl_reord (D := (g1, .cells #[.int .u64 y34] 41) :: L) (Reord.step1 (Upd.rm1 _ _) (Reord.skip (Reord.refl _))) ?_
   refine qE ?_
   obtain rfl := some_inj hb10
   exact ge_round fun t ht => ⟨(Imm.trans (Imm.trans hI11 hI33) hI38), rfl, ht.pick (l := [3, 4, 8, 9, 10]) (by kernel_rfl)⟩
  ·have hb10 := cond_f hc19 hb10
   refine qe (qf ?_)
   obtain rfl := some_inj hb10
   refine ge_round_out (fun hrr => ?_) (by intro h; cases h)
   obtain rfl := hrr
   refine qh ?_
   exact ge_mid fun t ht => ⟨hI11, rfl, ht.pick (l := [3]) (by kernel_rfl)⟩
 ·rintro t I16 L' ⟨hI14, rfl, hK15⟩
  refine ge_at hK15 ?_
  refine qs (qk (qR ?_))
  refine gl_loadB (T' := 41) (xp := (.tmp 3)) (v := .int .u64 r6) (g := g1) (off := 0) (cs := #[.int .u64 r6]) (e := 41) (fz := (0, 0)) (by kernel_rfl) (by kernel_rfl) (by kernel_rfl) mcs (by kernel_rfl) ?_
  refine qp 1 [2] [(2, .int .u64 r6)] (qE (qs ?_))
  refine gk_reord (D := L) (Reord.skip (Reord.refl _)) ?_
  refine qt ?_
  obtain rfl := some_inj hr
  exact ge_result trivial (ResOk.tmp (by kernel_rfl) ResOk.nil) hI14 ⟨rfl, rfl⟩
/-! 22 tocsinlaw04_awake  -/
noncomputable def tocsinlaw04_awake : Option Bool :=
 Option.bind (labels_Parse (⟨#[117, 112, 32, 123, 32, 106, 111, 98, 32, 61, 32, 34, 120, 34, 32, 44, 32, 125]⟩ : ByteArray)) fun (y1 : (List S49) × Int × Int) =>
 Option.bind (labels_Print y1.1) fun (y10 : ByteArray × Int) =>
 Option.bind (bif (y1.2.1 == 0) then
  (bif (y10.2 == 0) then
   (bif (y10.1.toList == (⟨#[117, 112, 123, 106, 111, 98, 61, 34, 120, 34, 125]⟩ : ByteArray).toList) then
    (Option.bind (labels_Get y1.1 (⟨#[106, 111, 98]⟩ : ByteArray)) fun (y20 : ByteArray) =>
     bif (y20.toList == (⟨#[120]⟩ : ByteArray).toList) then
     (Option.bind (labels_Hash []) fun (y23 : Int) =>
      some (y23 == 14695981039346656037))
     else
     (some false))
    else
    (some false))
   else
   (some false))
  else
  (some false)) fun (j12 : Bool) =>
 some j12
theorem tocsinlaw04_awake_walk  {I : Imm} {r : Bool} (hG : Gl I) (hr : tocsinlaw04_awake = some r) (L : Own) :
  CallsTo Tryz.prog 22 #[] I L (fun v I' L' => v = .bool r ∧ L = L') := by
 unfold tocsinlaw04_awake at hr
 refine callsTo_body (N := 35) Tryz.func22 (by kernel_rfl) (by kernel_rfl) (by kernel_rfl) ?_
 refine qq [] [] (qk (qR (qp 1 [] [] (qE (qs (qk (qR ?_)))))))
 obtain ⟨y1, hx2, hr⟩ := bind_some hr
 refine gl_call (by kernel_rfl) (labels_Parse_walk (r := y1) hG hx2 _) ?_
 rintro v I3 L4 hI5 ⟨A6, c7, C8, hO9, rfl, rfl⟩
 refine qp 7 [1, 2] [(1, .slice A6 y1.1.length c7), (2, .int .i64 y1.2.1)] (qE (qs (qk (qR (qp 1 [1, 2, 12] [(1, .slice A6 y1.1.length c7), (2, .int .i64 y1.2.1), (12, .slice A6 y1.1.length c7)] ?_)))))
 obtain ⟨y10, hx11, hr⟩ := bind_some hr
 refine gl_callB (r := .tuple #[.string y10.1, .int .i64 y10.2]) (Tk.step (Upd.rmC _ _) (Tk.nil _)) (by kernel_rfl) (fun J hJ hC => labels_Print_walk (r := y10) (hG.mono (Imm.trans hI5 hJ)) (OwnS.rest hO9 hJ hC.left) hx11 _) ?_
 refine qp 5 [1, 2, 4, 5] [(1, .slice A6 y1.1.length c7), (2, .int .i64 y1.2.1), (4, .string y10.1), (5, .int .i64 y10.2)] (qE (qs (qk ?_)))
 obtain ⟨j12, hj13, hr⟩ := bind_some hr
 refine gk_join (fun t I' L' => I3 ≤ I' ∧ L = L' ∧ Knows 35 [(0, .bool j12)] t) ?_ ?_
 ·refine qR (qp 3 [1, 4, 5, 18] [(1, .slice A6 y1.1.length c7), (4, .string y10.1), (5, .int .i64 y10.2), (18, .bool (y1.2.1 == 0))] ?_)
  refine gl_case 18 (b := (y1.2.1 == 0)) (by kernel_rfl) (fun hc17 => ?_) (fun hc17 => ?_)
  ·have hj13 := cond_t hc17 hj13
   refine qp 4 [1, 4, 22] [(1, .slice A6 y1.1.length c7), (4, .string y10.1), (22, .bool (y10.2 == 0))] ?_
   refine gl_case 22 (b := (y10.2 == 0)) (by kernel_rfl) (fun hc18 => ?_) (fun hc18 => ?_)
   ·have hj13 := cond_t hc18 hj13
    refine qp 4 [1, 26] [(1, .slice A6 y1.1.length c7), (26, .bool (y10.1.toList == (⟨#[117, 112, 123, 106, 111, 98, 61, 34, 120, 34, 125]⟩ : ByteArray).toList))] ?_
    refine gl_case 26 (b := (y10.1.toList == (⟨#[117, 112, 123, 106, 111, 98, 61, 34, 120, 34, 125]⟩ : ByteArray).toList)) (by kernel_rfl) (fun hc19 => ?_) (fun hc19 => ?_)
    ·have hj13 := cond_t hc19 hj13
     refine qp 1 [26, 27] [(26, .bool true), (27, .slice A6 y1.1.length c7)] ?_
     obtain ⟨y20, hx21, hj13⟩ := bind_some hj13
     refine gl_callB (r := .string y20) (Tk.step (Upd.rmC _ _) (Tk.nil _)) (by kernel_rfl) (fun J hJ hC => labels_Get_walk (r := y20) (OwnS.rest hO9 hJ hC.left) hx21 _) ?_
     refine qp 3 [31] [(31, .bool (y20.toList == (⟨#[120]⟩ : ByteArray).toList))] ?_
     refine gl_case 31 (b := (y20.toList == (⟨#[120]⟩ : ByteArray).toList)) (by kernel_rfl) (fun hc22 => ?_) (fun hc22 => ?_)
     ·have hj13 := cond_t hc22 hj13
      obtain ⟨y23, hx24, hj13⟩ := bind_some hj13
      refine gl_callQ (by kernel_rfl) (labels_Hash_walk (r := y23) (RepS.nil _ _) hx24 _) ?_
      refine qp 3 [0] [(0, .bool (y23 == 14695981039346656037))] ?_
      refine gl_reord (D := L) (Reord.skipC (Reord.refl _)) ?_
      refine qE ?_
      obtain rfl := some_inj hj13
      exact ge_mid fun t ht => ⟨(Imm.refl _), rfl, ht.pick (l := [0]) (by kernel_rfl)⟩
     ·have hj13 := cond_f hc22 hj13
      refine qp 4 [0] [(0, .bool false)] ?_
      refine gl_reord (D := L) (Reord.skipC (Reord.refl _)) ?_
      refine qE ?_
      obtain rfl := some_inj hj13
      exact ge_mid fun t ht => ⟨(Imm.refl _), rfl, ht.pick (l := [0]) (by kernel_rfl)⟩
    ·have hj13 := cond_f hc19 hj13
     refine qp 9 [0] [(0, .bool false)] ?_
     refine gl_reord (D := L) (Reord.skipC (Reord.refl _)) ?_
     refine qE ?_
     obtain rfl := some_inj hj13
     exact ge_mid fun t ht => ⟨(Imm.refl _), rfl, ht.pick (l := [0]) (by kernel_rfl)⟩
   ·have hj13 := cond_f hc18 hj13
    refine qp 13 [0] [(0, .bool false)] ?_
    refine gl_reord (D := L) (Reord.skipC (Reord.refl _)) ?_
    refine qE ?_
    obtain rfl := some_inj hj13
    exact ge_mid fun t ht => ⟨(Imm.refl _), rfl, ht.pick (l := [0]) (by kernel_rfl)⟩
  ·have hj13 := cond_f hc17 hj13
   refine qp 17 [0] [(0, .bool false)] ?_
   refine gl_reord (D := L) (Reord.skipC (Reord.refl _)) ?_
   refine qE ?_
   obtain rfl := some_inj hj13
   exact ge_mid fun t ht => ⟨(Imm.refl _), rfl, ht.pick (l := [0]) (by kernel_rfl)⟩
 ·rintro t I16 L' ⟨hI14, rfl, hK15⟩
  refine ge_at hK15 ?_
  refine qs (qt ?_)
  obtain rfl := some_inj hr
  exact ge_result trivial (ResOk.tmp (by kernel_rfl) ResOk.nil) (Imm.trans hI5 hI14) ⟨rfl, rfl⟩
end Go.Proofs.YtnlkfajnaelnnaaGreatDoor
