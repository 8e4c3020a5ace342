/- Parts: W4d. -/
import Derived.Test.YtkjkkimnjpodiaaGreatDoorW4cu
set_option linter.unusedVariables false
set_option linter.unusedSimpArgs false
set_option maxRecDepth 100000
namespace Go.Proofs.YtkjkkimnjpodiaaGreatDoor
open Go.GB
noncomputable def slices_rotateCmpFunc_l25 (a2 : Int) : ((List Fl) × Int × Int) → Option (((List Fl) × Int × Int) ⊕ ((List Fl) × Int)) := fun s10 =>
  bif (s10.2.1 != s10.2.2) then
  (Option.bind (bif (decide (s10.2.1 > s10.2.2)) then
      (Option.bind (slices_swapRangeCmpFunc s10.1 (IntKind.wrap .i64 (a2 - s10.2.1)) a2 s10.2.2) fun (y37 : (List Fl)) =>
        some (y37, (IntKind.wrap .i64 (s10.2.1 - s10.2.2)), s10.2.2))
      else
      (Option.bind (slices_swapRangeCmpFunc s10.1 (IntKind.wrap .i64 (a2 - s10.2.1)) (IntKind.wrap .i64 ((IntKind.wrap .i64 (a2 + s10.2.2)) - s10.2.1)) s10.2.1) fun (y45 : (List Fl)) =>
        some (y45, s10.2.1, (IntKind.wrap .i64 (s10.2.2 - s10.2.1))))) fun (j28 : (List Fl) × Int × Int) =>
    some (Sum.inl (j28.1, j28.2.1, j28.2.2)))
  else
  (some (Sum.inr (s10.1, s10.2.1)))
noncomputable def slices_rotateCmpFunc (a0 : List Fl) (a1 : Int) (a2 : Int) (a3 : Int) : Option (List Fl) :=
  Option.bind (loopO (slices_rotateCmpFunc_l25 a2) (a0, (IntKind.wrap .i64 (a2 - a1)), (IntKind.wrap .i64 (a3 - a2)))) fun (r8 : (List Fl) × Int) =>
  Option.bind (slices_swapRangeCmpFunc r8.1 (IntKind.wrap .i64 (a2 - r8.2)) a2 r8.2) fun (y53 : (List Fl)) =>
  some y53
theorem slices_rotateCmpFunc_walk {a0 : List Fl} {A0 : Option Addr} {c0 : Nat} {C0 : Own} {a1 : Int} {a2 : Int} {a3 : Int} {I : Imm} {r : (List Fl)} (hO0 : OwnS Kd.flt 37 I A0 c0 a0 C0) (hr : slices_rotateCmpFunc a0 a1 a2 a3 = some r) (L : Own) :
    CallsTo Tryz.prog 205 #[.slice A0 a0.length c0, .int .i64 a1, .int .i64 a2, .int .i64 a3, .func (.func 145) #[] #[]] I (C0 ++ L) (fun v I' L' => ∃ C0, OwnS Kd.flt 37 I' A0 c0 r C0 ∧ r.length = a0.length ∧ v = .tuple #[] ∧ C0 ++ L = L') := by
  unfold slices_rotateCmpFunc at hr
  refine callsTo_body (N := 58) Tryz.func205 (by kernel_rfl) (by kernel_rfl) (by kernel_rfl) ?_
  refine gk_pick [0, 1, 2, 3, 4] (K' := [(0, .slice A0 a0.length c0), (1, .int .i64 a1), (2, .int .i64 a2), (3, .int .i64 a3), (4, .func (.func 145) #[] #[])]) (by kernel_rfl) ?_
  refine gk_seq (by kernel_rfl) ?_
  refine gk_region (by kernel_rfl) ?_
  refine gl_pure 4 [0, 2, 3, 4, 10] (K' := [(0, .slice A0 a0.length c0), (2, .int .i64 a2), (3, .int .i64 a3), (4, .func (.func 145) #[] #[]), (10, .int .i64 (IntKind.wrap .i64 (a2 - a1)))]) (by kernel_rfl) ?_
  refine gl_atE (by kernel_rfl) ?_
  refine ge_seq ?_
  refine gk_seq (by kernel_rfl) ?_
  refine gk_region (by kernel_rfl) ?_
  refine gl_pure 4 [0, 2, 4, 10, 11] (K' := [(0, .slice A0 a0.length c0), (2, .int .i64 a2), (4, .func (.func 145) #[] #[]), (10, .int .i64 (IntKind.wrap .i64 (a2 - a1))), (11, .int .i64 (IntKind.wrap .i64 (a3 - a2)))]) (by kernel_rfl) ?_
  refine gl_atE (by kernel_rfl) ?_
  refine ge_seq ?_
  refine gk_seq (by kernel_rfl) ?_
  obtain ⟨r8, hl9, hr⟩ := bind_some hr
  refine gk_join (fun t I' L' => ∃ C20, OwnS Kd.flt 37 I' A0 c0 r8.1 C20 ∧ (r8.1.length = a0.length) ∧ I ≤ I' ∧ C20 ++ L = L' ∧ Knows 58 [(0, .slice A0 r8.1.length c0), (2, .int .i64 a2), (4, .func (.func 145) #[] #[]), (10, .int .i64 r8.2)] t) ?_ ?_
  · refine gk_block (by kernel_rfl) ?_
    refine gk_pick [0, 2, 4, 10, 11] (K' := [(0, .slice A0 a0.length c0), (2, .int .i64 a2), (4, .func (.func 145) #[] #[]), (10, .int .i64 (IntKind.wrap .i64 (a2 - a1))), (11, .int .i64 (IntKind.wrap .i64 (a3 - a2)))]) (by kernel_rfl) ?_
    intro t hK
    refine gc_loop (slices_rotateCmpFunc_l25 a2) (fun s10 t I' L' => ∃ C14, OwnS Kd.flt 37 I' A0 c0 s10.1 C14 ∧ (s10.1.length = a0.length) ∧ I ≤ I' ∧ C14 ++ L = L' ∧ Knows 58 [(0, .slice A0 s10.1.length c0), (2, .int .i64 a2), (4, .func (.func 145) #[] #[]), (10, .int .i64 s10.2.1), (11, .int .i64 s10.2.2)] t) (by kernel_rfl) ?_ hl9 ⟨C0, hO0, rfl, (Imm.refl _), rfl, hK⟩
    rintro s10 o11 t I18 L' hb12 ⟨C14, hO15, hL16, hI13, rfl, hK17⟩
    unfold slices_rotateCmpFunc_l25 at hb12
    refine gk_at hK17 ?_
    refine gk_seq (by kernel_rfl) ?_
    refine gk_seq (by kernel_rfl) ?_
    refine gk_region (by kernel_rfl) ?_
    refine gl_pure 3 [0, 2, 4, 10, 11, 20] (K' := [(0, .slice A0 s10.1.length c0), (2, .int .i64 a2), (4, .func (.func 145) #[] #[]), (10, .int .i64 s10.2.1), (11, .int .i64 s10.2.2), (20, .bool (s10.2.1 != s10.2.2))]) (by kernel_rfl) ?_
    refine gl_atE (by kernel_rfl) ?_
    refine ge_seq ?_
    refine gk_cond (b := (s10.2.1 != s10.2.2)) (by kernel_rfl) (by kernel_rfl) (fun hc27 => ?_) (fun hc27 => ?_)
    · have hb12 := cond_t hc27 hb12
      refine gk_skip (by kernel_rfl) ?_
      refine ge_seq ?_
      refine gk_block (by kernel_rfl) ?_
      refine gk_seq (by kernel_rfl) ?_
      refine gk_region (by kernel_rfl) ?_
      refine gl_pure 3 [0, 2, 4, 10, 11, 23] (K' := [(0, .slice A0 s10.1.length c0), (2, .int .i64 a2), (4, .func (.func 145) #[] #[]), (10, .int .i64 s10.2.1), (11, .int .i64 s10.2.2), (23, .bool (decide (s10.2.1 > s10.2.2)))]) (by kernel_rfl) ?_
      refine gl_atE (by kernel_rfl) ?_
      refine ge_seq ?_
      obtain ⟨j28, hj29, hb12⟩ := bind_some hb12
      refine gk_join (fun t I' L' => ∃ C31, OwnS Kd.flt 37 I' A0 c0 j28.1 C31 ∧ (j28.1.length = a0.length) ∧ I18 ≤ I' ∧ C31 ++ L = L' ∧ Knows 58 [(0, .slice A0 j28.1.length c0), (2, .int .i64 a2), (4, .func (.func 145) #[] #[]), (10, .int .i64 j28.2.1), (11, .int .i64 j28.2.2)] t) ?_ ?_
      · refine gk_cond (b := (decide (s10.2.1 > s10.2.2))) (by kernel_rfl) (by kernel_rfl) (fun hc36 => ?_) (fun hc36 => ?_)
        · have hj29 := cond_t hc36 hj29
          refine gk_seq (by kernel_rfl) ?_
          refine gk_region (by kernel_rfl) ?_
          refine gl_pure 7 [0, 2, 4, 10, 11, 24, 27, 28, 29, 30] (K' := [(0, .slice A0 s10.1.length c0), (2, .int .i64 a2), (4, .func (.func 145) #[] #[]), (10, .int .i64 s10.2.1), (11, .int .i64 s10.2.2), (24, .slice A0 s10.1.length c0), (27, .int .i64 (IntKind.wrap .i64 (a2 - s10.2.1))), (28, .int .i64 a2), (29, .int .i64 s10.2.2), (30, .func (.func 145) #[] #[])]) (by kernel_rfl) ?_
          obtain ⟨y37, hx38, hj29⟩ := bind_some hj29
          refine gl_call (by kernel_rfl) (slices_swapRangeCmpFunc_walk (r := y37) (A0 := A0) (c0 := c0) (C0 := C14) (a0 := s10.1) hO15 hx38 _) ?_
          rintro v I39 L40 hI41 ⟨C42, hO43, hO44, rfl, rfl⟩
          refine gl_pick [0, 2, 4, 10, 11, 24, 27, 28, 29, 30, 31] (K' := [(0, .slice A0 s10.1.length c0), (2, .int .i64 a2), (4, .func (.func 145) #[] #[]), (10, .int .i64 s10.2.1), (11, .int .i64 s10.2.2), (24, .slice A0 s10.1.length c0), (27, .int .i64 (IntKind.wrap .i64 (a2 - s10.2.1))), (28, .int .i64 a2), (29, .int .i64 s10.2.2), (30, .func (.func 145) #[] #[]), (31, .tuple #[])]) (by kernel_rfl) ?_
          refine gl_kv (congrArg (fun (zz : Nat) => ([(0, .slice A0 zz c0), (2, .int .i64 a2), (4, .func (.func 145) #[] #[]), (10, .int .i64 s10.2.1), (11, .int .i64 s10.2.2), (24, .slice A0 zz c0), (27, .int .i64 (IntKind.wrap .i64 (a2 - s10.2.1))), (28, .int .i64 a2), (29, .int .i64 s10.2.2), (30, .func (.func 145) #[] #[]), (31, .tuple #[])] : KV)) hO44.symm) ?_
          refine gl_atE (by kernel_rfl) ?_
          refine ge_seq ?_
          refine gk_region (by kernel_rfl) ?_
          refine gl_pure 4 [0, 2, 4, 10, 11] (K' := [(0, .slice A0 y37.length c0), (2, .int .i64 a2), (4, .func (.func 145) #[] #[]), (10, .int .i64 (IntKind.wrap .i64 (s10.2.1 - s10.2.2))), (11, .int .i64 s10.2.2)]) (by kernel_rfl) ?_
          refine gl_atE (by kernel_rfl) ?_
          obtain rfl := some_inj hj29
          exact ge_mid fun t ht => ⟨C42, hO43, (Eq.trans hO44 hL16), hI41, rfl, ht.pick (l := [0, 2, 4, 10, 11]) (by kernel_rfl)⟩
        · have hj29 := cond_f hc36 hj29
          refine gk_seq (by kernel_rfl) ?_
          refine gk_region (by kernel_rfl) ?_
          refine gl_pure 11 [0, 2, 4, 10, 11, 35, 38, 43, 44, 45] (K' := [(0, .slice A0 s10.1.length c0), (2, .int .i64 a2), (4, .func (.func 145) #[] #[]), (10, .int .i64 s10.2.1), (11, .int .i64 s10.2.2), (35, .slice A0 s10.1.length c0), (38, .int .i64 (IntKind.wrap .i64 (a2 - s10.2.1))), (43, .int .i64 (IntKind.wrap .i64 ((IntKind.wrap .i64 (a2 + s10.2.2)) - s10.2.1))), (44, .int .i64 s10.2.1), (45, .func (.func 145) #[] #[])]) (by kernel_rfl) ?_
          obtain ⟨y45, hx46, hj29⟩ := bind_some hj29
          refine gl_call (by kernel_rfl) (slices_swapRangeCmpFunc_walk (r := y45) (A0 := A0) (c0 := c0) (C0 := C14) (a0 := s10.1) hO15 hx46 _) ?_
          rintro v I47 L48 hI49 ⟨C50, hO51, hO52, rfl, rfl⟩
          refine gl_pick [0, 2, 4, 10, 11, 35, 38, 43, 44, 45, 46] (K' := [(0, .slice A0 s10.1.length c0), (2, .int .i64 a2), (4, .func (.func 145) #[] #[]), (10, .int .i64 s10.2.1), (11, .int .i64 s10.2.2), (35, .slice A0 s10.1.length c0), (38, .int .i64 (IntKind.wrap .i64 (a2 - s10.2.1))), (43, .int .i64 (IntKind.wrap .i64 ((IntKind.wrap .i64 (a2 + s10.2.2)) - s10.2.1))), (44, .int .i64 s10.2.1), (45, .func (.func 145) #[] #[]), (46, .tuple #[])]) (by kernel_rfl) ?_
          refine gl_kv (congrArg (fun (zz : Nat) => ([(0, .slice A0 zz c0), (2, .int .i64 a2), (4, .func (.func 145) #[] #[]), (10, .int .i64 s10.2.1), (11, .int .i64 s10.2.2), (35, .slice A0 zz c0), (38, .int .i64 (IntKind.wrap .i64 (a2 - s10.2.1))), (43, .int .i64 (IntKind.wrap .i64 ((IntKind.wrap .i64 (a2 + s10.2.2)) - s10.2.1))), (44, .int .i64 s10.2.1), (45, .func (.func 145) #[] #[]), (46, .tuple #[])] : KV)) hO52.symm) ?_
          refine gl_atE (by kernel_rfl) ?_
          refine ge_seq ?_
          refine gk_region (by kernel_rfl) ?_
          refine gl_pure 4 [0, 2, 4, 10, 11] (K' := [(0, .slice A0 y45.length c0), (2, .int .i64 a2), (4, .func (.func 145) #[] #[]), (10, .int .i64 s10.2.1), (11, .int .i64 (IntKind.wrap .i64 (s10.2.2 - s10.2.1)))]) (by kernel_rfl) ?_
          refine gl_atE (by kernel_rfl) ?_
          obtain rfl := some_inj hj29
          exact ge_mid fun t ht => ⟨C50, hO51, (Eq.trans hO52 hL16), hI49, rfl, ht.pick (l := [0, 2, 4, 10, 11]) (by kernel_rfl)⟩
      · rintro t I35 L' ⟨C31, hO32, hL33, hI30, rfl, hK34⟩
        refine ge_at hK34 ?_
        refine ge_block_normal ?_
        obtain rfl := some_inj hb12
        exact ge_round fun t ht => ⟨C31, hO32, hL33, (Imm.trans hI13 hI30), rfl, ht.pick (l := [0, 2, 4, 10, 11]) (by kernel_rfl)⟩
    · have hb12 := cond_f hc27 hb12
      refine gk_exit (by kernel_rfl) ?_
      refine ge_seq_exit ?_
      obtain rfl := some_inj hb12
      refine ge_round_out (fun hrr => ?_) (by intro h; cases h)
      obtain rfl := hrr
      refine ge_block_hit (by kernel_rfl) ?_
      exact ge_mid fun t ht => ⟨C14, hO15, hL16, hI13, rfl, ht.pick (l := [0, 2, 4, 10]) (by kernel_rfl)⟩
  · rintro t I24 L' ⟨C20, hO21, hL22, hI19, rfl, hK23⟩
    refine ge_at hK23 ?_
    refine ge_seq ?_
    refine gk_region (by kernel_rfl) ?_
    refine gl_pure 7 [0, 50, 53, 54, 55, 56] (K' := [(0, .slice A0 r8.1.length c0), (50, .slice A0 r8.1.length c0), (53, .int .i64 (IntKind.wrap .i64 (a2 - r8.2))), (54, .int .i64 a2), (55, .int .i64 r8.2), (56, .func (.func 145) #[] #[])]) (by kernel_rfl) ?_
    obtain ⟨y53, hx54, hr⟩ := bind_some hr
    refine gl_call (by kernel_rfl) (slices_swapRangeCmpFunc_walk (r := y53) (A0 := A0) (c0 := c0) (C0 := C20) (a0 := r8.1) hO21 hx54 _) ?_
    rintro v I55 L56 hI57 ⟨C58, hO59, hO60, rfl, rfl⟩
    refine gl_pick [0, 50, 53, 54, 55, 56, 57] (K' := [(0, .slice A0 r8.1.length c0), (50, .slice A0 r8.1.length c0), (53, .int .i64 (IntKind.wrap .i64 (a2 - r8.2))), (54, .int .i64 a2), (55, .int .i64 r8.2), (56, .func (.func 145) #[] #[]), (57, .tuple #[])]) (by kernel_rfl) ?_
    refine gl_kv (congrArg (fun (zz : Nat) => ([(0, .slice A0 zz c0), (50, .slice A0 zz c0), (53, .int .i64 (IntKind.wrap .i64 (a2 - r8.2))), (54, .int .i64 a2), (55, .int .i64 r8.2), (56, .func (.func 145) #[] #[]), (57, .tuple #[])] : KV)) hO60.symm) ?_
    refine gl_atE (by kernel_rfl) ?_
    obtain rfl := some_inj hr
    exact ge_result trivial ResOk.nil (Imm.trans hI19 hI57) ⟨C58, hO59, (Eq.trans hO60 hL22), rfl, rfl⟩
noncomputable def slices_symMergeCmpFunc_l17 (a0 : List Fl) (a1 : Int) : (Int × Int) → Option ((Int × Int) ⊕ (Int)) := fun s8 =>
  bif (decide (s8.1 < s8.2)) then
  (Option.bind (ix a0 (IntKind.wrap .i64 (shr .u64 (IntKind.wrap .u64 (IntKind.wrap .i64 (s8.1 + s8.2))) 1))) fun (x20 : Fl) =>
    Option.bind (ix a0 a1) fun (x31 : Fl) =>
    Option.bind (aggr_ahead x20 x31) fun (y42 : Int) =>
    Option.bind (bif (decide (y42 < 0)) then
      (some ((IntKind.wrap .i64 ((IntKind.wrap .i64 (shr .u64 (IntKind.wrap .u64 (IntKind.wrap .i64 (s8.1 + s8.2))) 1)) + 1)), s8.2))
      else
      (some (s8.1, (IntKind.wrap .i64 (shr .u64 (IntKind.wrap .u64 (IntKind.wrap .i64 (s8.1 + s8.2))) 1))))) fun (j44 : Int × Int) =>
    some (Sum.inl (j44.1, j44.2)))
  else
  (some (Sum.inr s8.1))
noncomputable def slices_symMergeCmpFunc_l74 (r6 : Int) : ((List Fl) × Int) → Option (((List Fl) × Int) ⊕ ((List Fl))) := fun s59 =>
  bif (decide (s59.2 < (IntKind.wrap .i64 (r6 - 1)))) then
  (Option.bind (ix s59.1 (IntKind.wrap .i64 (s59.2 + 1))) fun (x77 : Fl) =>
    Option.bind (ix s59.1 s59.2) fun (x88 : Fl) =>
    Option.bind (ix s59.1 s59.2) fun (x99 : Fl) =>
    Option.bind (ix (lset s59.1 s59.2 x77) (IntKind.wrap .i64 (s59.2 + 1))) fun (x113 : Fl) =>
    some (Sum.inl ((lset (lset s59.1 s59.2 x77) (IntKind.wrap .i64 (s59.2 + 1)) x88), (IntKind.wrap .i64 (s59.2 + 1)))))
  else
  (some (Sum.inr s59.1))
noncomputable def slices_symMergeCmpFunc_l143 (a0 : List Fl) (a2 : Int) : (Int × Int) → Option ((Int × Int) ⊕ (Int)) := fun s134 =>
  bif (decide (s134.1 < s134.2)) then
  (Option.bind (ix a0 a2) fun (x146 : Fl) =>
    Option.bind (ix a0 (IntKind.wrap .i64 (shr .u64 (IntKind.wrap .u64 (IntKind.wrap .i64 (s134.1 + s134.2))) 1))) fun (x157 : Fl) =>
    Option.bind (aggr_ahead x146 x157) fun (y168 : Int) =>
    Option.bind (bif (!(decide (y168 < 0))) then
      (some ((IntKind.wrap .i64 ((IntKind.wrap .i64 (shr .u64 (IntKind.wrap .u64 (IntKind.wrap .i64 (s134.1 + s134.2))) 1)) + 1)), s134.2))
      else
      (some (s134.1, (IntKind.wrap .i64 (shr .u64 (IntKind.wrap .u64 (IntKind.wrap .i64 (s134.1 + s134.2))) 1))))) fun (j170 : Int × Int) =>
    some (Sum.inl (j170.1, j170.2)))
  else
  (some (Sum.inr s134.1))
noncomputable def slices_symMergeCmpFunc_l200 (r132 : Int) : ((List Fl) × Int) → Option (((List Fl) × Int) ⊕ ((List Fl))) := fun s185 =>
  bif (decide (s185.2 > r132)) then
  (Option.bind (ix s185.1 (IntKind.wrap .i64 (s185.2 - 1))) fun (x203 : Fl) =>
    Option.bind (ix s185.1 s185.2) fun (x214 : Fl) =>
    Option.bind (ix s185.1 s185.2) fun (x225 : Fl) =>
    Option.bind (ix (lset s185.1 s185.2 x203) (IntKind.wrap .i64 (s185.2 - 1))) fun (x239 : Fl) =>
    some (Sum.inl ((lset (lset s185.1 s185.2 x203) (IntKind.wrap .i64 (s185.2 - 1)) x214), (IntKind.wrap .i64 (s185.2 - 1)))))
  else
  (some (Sum.inr s185.1))
noncomputable def slices_symMergeCmpFunc_l274 (a0 : List Fl) (a1 : Int) (a2 : Int) (a3 : Int) : (Int × Int) → Option ((Int × Int) ⊕ (Int)) := fun s265 =>
  bif (decide (s265.1 < s265.2)) then
  (Option.bind (ix a0 (IntKind.wrap .i64 ((IntKind.wrap .i64 ((IntKind.wrap .i64 ((IntKind.wrap .i64 (shr .u64 (IntKind.wrap .u64 (IntKind.wrap .i64 (a1 + a3))) 1)) + a2)) - 1)) - (IntKind.wrap .i64 (shr .u64 (IntKind.wrap .u64 (IntKind.wrap .i64 (s265.1 + s265.2))) 1))))) fun (x277 : Fl) =>
    Option.bind (ix a0 (IntKind.wrap .i64 (shr .u64 (IntKind.wrap .u64 (IntKind.wrap .i64 (s265.1 + s265.2))) 1))) fun (x288 : Fl) =>
    Option.bind (aggr_ahead x277 x288) fun (y299 : Int) =>
    Option.bind (bif (!(decide (y299 < 0))) then
      (some ((IntKind.wrap .i64 ((IntKind.wrap .i64 (shr .u64 (IntKind.wrap .u64 (IntKind.wrap .i64 (s265.1 + s265.2))) 1)) + 1)), s265.2))
      else
      (some (s265.1, (IntKind.wrap .i64 (shr .u64 (IntKind.wrap .u64 (IntKind.wrap .i64 (s265.1 + s265.2))) 1))))) fun (j301 : Int × Int) =>
    some (Sum.inl (j301.1, j301.2)))
  else
  (some (Sum.inr s265.1))
noncomputable def slices_symMergeCmpFunc_b (rec_ : (List Fl) → Int → Int → Int → Option (List Fl)) (a0 : List Fl) (a1 : Int) (a2 : Int) (a3 : Int) : Option (List Fl) :=
  bif ((IntKind.wrap .i64 (a2 - a1)) == 1) then
  (Option.bind (loopO (slices_symMergeCmpFunc_l17 a0 a1) (a2, a3)) fun (r6 : Int) =>
    Option.bind (loopO (slices_symMergeCmpFunc_l74 r6) (a0, a1)) fun (r57 : (List Fl)) =>
    some r57)
  else
  (bif ((IntKind.wrap .i64 (a3 - a2)) == 1) then
    (Option.bind (loopO (slices_symMergeCmpFunc_l143 a0 a2) (a1, a2)) fun (r132 : Int) =>
      Option.bind (loopO (slices_symMergeCmpFunc_l200 r132) (a0, a2)) fun (r183 : (List Fl)) =>
      some r183)
    else
    (Option.bind (bif (decide (a2 > (IntKind.wrap .i64 (shr .u64 (IntKind.wrap .u64 (IntKind.wrap .i64 (a1 + a3))) 1)))) then
        (some ((IntKind.wrap .i64 ((IntKind.wrap .i64 ((IntKind.wrap .i64 (shr .u64 (IntKind.wrap .u64 (IntKind.wrap .i64 (a1 + a3))) 1)) + a2)) - a3)), (IntKind.wrap .i64 (shr .u64 (IntKind.wrap .u64 (IntKind.wrap .i64 (a1 + a3))) 1))))
        else
        (some (a1, a2))) fun (j253 : Int × Int) =>
      Option.bind (loopO (slices_symMergeCmpFunc_l274 a0 a1 a2 a3) (j253.1, j253.2)) fun (r263 : Int) =>
      Option.bind (bif ((decide (r263 < a2)) && (decide (a2 < (IntKind.wrap .i64 ((IntKind.wrap .i64 ((IntKind.wrap .i64 (shr .u64 (IntKind.wrap .u64 (IntKind.wrap .i64 (a1 + a3))) 1)) + a2)) - r263))))) then
        (Option.bind (slices_rotateCmpFunc a0 r263 a2 (IntKind.wrap .i64 ((IntKind.wrap .i64 ((IntKind.wrap .i64 (shr .u64 (IntKind.wrap .u64 (IntKind.wrap .i64 (a1 + a3))) 1)) + a2)) - r263))) fun (y322 : (List Fl)) =>
          some y322)
        else
        (some a0)) fun (j313 : (List Fl)) =>
      Option.bind (bif ((decide (a1 < r263)) && (decide (r263 < (IntKind.wrap .i64 (shr .u64 (IntKind.wrap .u64 (IntKind.wrap .i64 (a1 + a3))) 1))))) then
        (Option.bind (rec_ j313 a1 r263 (IntKind.wrap .i64 (shr .u64 (IntKind.wrap .u64 (IntKind.wrap .i64 (a1 + a3))) 1))) fun (y345 : (List Fl)) =>
          some y345)
        else
        (some j313)) fun (j336 : (List Fl)) =>
      Option.bind (bif ((decide ((IntKind.wrap .i64 (shr .u64 (IntKind.wrap .u64 (IntKind.wrap .i64 (a1 + a3))) 1)) < (IntKind.wrap .i64 ((IntKind.wrap .i64 ((IntKind.wrap .i64 (shr .u64 (IntKind.wrap .u64 (IntKind.wrap .i64 (a1 + a3))) 1)) + a2)) - r263)))) && (decide ((IntKind.wrap .i64 ((IntKind.wrap .i64 ((IntKind.wrap .i64 (shr .u64 (IntKind.wrap .u64 (IntKind.wrap .i64 (a1 + a3))) 1)) + a2)) - r263)) < a3))) then
        (Option.bind (rec_ j336 (IntKind.wrap .i64 (shr .u64 (IntKind.wrap .u64 (IntKind.wrap .i64 (a1 + a3))) 1)) (IntKind.wrap .i64 ((IntKind.wrap .i64 ((IntKind.wrap .i64 (shr .u64 (IntKind.wrap .u64 (IntKind.wrap .i64 (a1 + a3))) 1)) + a2)) - r263)) a3) fun (y368 : (List Fl)) =>
          some y368)
        else
        (some j336)) fun (j359 : (List Fl)) =>
      some j359))
noncomputable def slices_symMergeCmpFunc (a0 : List Fl) (a1 : Int) (a2 : Int) (a3 : Int) : Option (List Fl) :=
  iterF (fun (rec_ : ((List Fl) × Int × Int × Int) → Option (List Fl)) (x : (List Fl) × Int × Int × Int) => slices_symMergeCmpFunc_b (fun a0 a1 a2 a3 => rec_ (a0, a1, a2, a3)) x.1 x.2.1 x.2.2.1 x.2.2.2) 4294967296 (a0, a1, a2, a3)
theorem slices_symMergeCmpFunc_b_walk {rec_ : (List Fl) → Int → Int → Int → Option (List Fl)} (rec__walk : ∀ {a0 : List Fl} {A0 : Option Addr} {c0 : Nat} {C0 : Own} {a1 : Int} {a2 : Int} {a3 : Int} {I : Imm} {r : (List Fl)} (hO0 : OwnS Kd.flt 37 I A0 c0 a0 C0) (hr : rec_ a0 a1 a2 a3 = some r) (L : Own), CallsTo Tryz.prog 194 #[.slice A0 a0.length c0, .int .i64 a1, .int .i64 a2, .int .i64 a3, .func (.func 145) #[] #[]] I (C0 ++ L) (fun v I' L' => ∃ C0, OwnS Kd.flt 37 I' A0 c0 r C0 ∧ r.length = a0.length ∧ v = .tuple #[] ∧ C0 ++ L = L')) {a0 : List Fl} {A0 : Option Addr} {c0 : Nat} {C0 : Own} {a1 : Int} {a2 : Int} {a3 : Int} {I : Imm} {r : (List Fl)} (hO0 : OwnS Kd.flt 37 I A0 c0 a0 C0) (hr : slices_symMergeCmpFunc_b rec_ a0 a1 a2 a3 = some r) (L : Own) :
    CallsTo Tryz.prog 194 #[.slice A0 a0.length c0, .int .i64 a1, .int .i64 a2, .int .i64 a3, .func (.func 145) #[] #[]] I (C0 ++ L) (fun v I' L' => ∃ C0, OwnS Kd.flt 37 I' A0 c0 r C0 ∧ r.length = a0.length ∧ v = .tuple #[] ∧ C0 ++ L = L') := by
  unfold slices_symMergeCmpFunc_b at hr
  refine callsTo_body (N := 220) Tryz.func194 (by kernel_rfl) (by kernel_rfl) (by kernel_rfl) ?_
  refine gk_pick [0, 1, 2, 3, 4] (K' := [(0, .slice A0 a0.length c0), (1, .int .i64 a1), (2, .int .i64 a2), (3, .int .i64 a3), (4, .func (.func 145) #[] #[])]) (by kernel_rfl) ?_
  refine gk_seq (by kernel_rfl) ?_
  refine gk_seq (by kernel_rfl) ?_
  refine gk_region (by kernel_rfl) ?_
  refine gl_pure 4 [0, 1, 2, 3, 4, 28] (K' := [(0, .slice A0 a0.length c0), (1, .int .i64 a1), (2, .int .i64 a2), (3, .int .i64 a3), (4, .func (.func 145) #[] #[]), (28, .bool ((IntKind.wrap .i64 (a2 - a1)) == 1))]) (by kernel_rfl) ?_
  refine gl_atE (by kernel_rfl) ?_
  refine ge_seq ?_
  refine gk_cond (b := ((IntKind.wrap .i64 (a2 - a1)) == 1)) (by kernel_rfl) (by kernel_rfl) (fun hc1 => ?_) (fun hc1 => ?_)
  · have hr := cond_t hc1 hr
    refine gk_seq (by kernel_rfl) ?_
    refine gk_region (by kernel_rfl) ?_
    refine gl_pure 2 [0, 1, 3, 4, 10] (K' := [(0, .slice A0 a0.length c0), (1, .int .i64 a1), (3, .int .i64 a3), (4, .func (.func 145) #[] #[]), (10, .int .i64 a2)]) (by kernel_rfl) ?_
    refine gl_atE (by kernel_rfl) ?_
    refine ge_seq ?_
    refine gk_seq (by kernel_rfl) ?_
    refine gk_region (by kernel_rfl) ?_
    refine gl_pure 2 [0, 1, 4, 10, 11] (K' := [(0, .slice A0 a0.length c0), (1, .int .i64 a1), (4, .func (.func 145) #[] #[]), (10, .int .i64 a2), (11, .int .i64 a3)]) (by kernel_rfl) ?_
    refine gl_atE (by kernel_rfl) ?_
    refine ge_seq ?_
    refine gk_seq (by kernel_rfl) ?_
    obtain ⟨r6, hl7, hr⟩ := bind_some hr
    refine gk_join (fun t I' L' => I ≤ I' ∧ C0 ++ L = L' ∧ Knows 220 [(0, .slice A0 a0.length c0), (1, .int .i64 a1), (10, .int .i64 r6)] t) ?_ ?_
    · refine gk_block (by kernel_rfl) ?_
      refine gk_pick [0, 1, 4, 10, 11] (K' := [(0, .slice A0 a0.length c0), (1, .int .i64 a1), (4, .func (.func 145) #[] #[]), (10, .int .i64 a2), (11, .int .i64 a3)]) (by kernel_rfl) ?_
      intro t hK
      refine gc_loop (slices_symMergeCmpFunc_l17 a0 a1) (fun s8 t I' L' => I ≤ I' ∧ C0 ++ L = L' ∧ Knows 220 [(0, .slice A0 a0.length c0), (1, .int .i64 a1), (4, .func (.func 145) #[] #[]), (10, .int .i64 s8.1), (11, .int .i64 s8.2)] t) (by kernel_rfl) ?_ hl7 ⟨(Imm.refl _), rfl, hK⟩
      rintro s8 o9 t I13 L' hb10 ⟨hI11, rfl, hK12⟩
      unfold slices_symMergeCmpFunc_l17 at hb10
      refine gk_at hK12 ?_
      refine gk_seq (by kernel_rfl) ?_
      refine gk_seq (by kernel_rfl) ?_
      refine gk_region (by kernel_rfl) ?_
      refine gl_pure 3 [0, 1, 4, 10, 11, 33] (K' := [(0, .slice A0 a0.length c0), (1, .int .i64 a1), (4, .func (.func 145) #[] #[]), (10, .int .i64 s8.1), (11, .int .i64 s8.2), (33, .bool (decide (s8.1 < s8.2)))]) (by kernel_rfl) ?_
      refine gl_atE (by kernel_rfl) ?_
      refine ge_seq ?_
      refine gk_cond (b := (decide (s8.1 < s8.2))) (by kernel_rfl) (by kernel_rfl) (fun hc19 => ?_) (fun hc19 => ?_)
      · have hb10 := cond_t hc19 hb10
        refine gk_skip (by kernel_rfl) ?_
        refine ge_seq ?_
        refine gk_block (by kernel_rfl) ?_
        refine gk_seq (by kernel_rfl) ?_
        refine gk_region (by kernel_rfl) ?_
        refine gl_pure 7 [0, 1, 4, 10, 11, 12] (K' := [(0, .slice A0 a0.length c0), (1, .int .i64 a1), (4, .func (.func 145) #[] #[]), (10, .int .i64 s8.1), (11, .int .i64 s8.2), (12, .int .i64 (IntKind.wrap .i64 (shr .u64 (IntKind.wrap .u64 (IntKind.wrap .i64 (s8.1 + s8.2))) 1)))]) (by kernel_rfl) ?_
        refine gl_atE (by kernel_rfl) ?_
        refine ge_seq ?_
        refine gk_seq (by kernel_rfl) ?_
        refine gk_draw 9 [(0, true), (1, true), (2, true), (3, true), (4, true), (5, true), (6, true), (7, true), (8, true)] (C0 ++ []) (List.forall_mem_append.2 ⟨fun q hq => (List.mem_append_left _ hq), (fun p hp => by cases hp)⟩) (by kernel_rfl) (by kernel_rfl) (by kernel_rfl) ?_ (by kernel_rfl)
        refine gd_pure 3 [0, 1, 4, 10, 11, 12, 40, 41, 42] (K' := [(0, .slice A0 a0.length c0), (1, .int .i64 a1), (4, .func (.func 145) #[] #[]), (10, .int .i64 s8.1), (11, .int .i64 s8.2), (12, .int .i64 (IntKind.wrap .i64 (shr .u64 (IntKind.wrap .u64 (IntKind.wrap .i64 (s8.1 + s8.2))) 1))), (40, .func (.func 145) #[] #[]), (41, .slice A0 a0.length c0), (42, .int .i64 (IntKind.wrap .i64 (shr .u64 (IntKind.wrap .u64 (IntKind.wrap .i64 (s8.1 + s8.2))) 1)))]) (s' := [(3, true), (4, true), (5, true), (6, true), (7, true), (8, true)]) (CC.refl (List.forall_mem_append.2 ⟨fun q hq => (List.mem_append_left _ hq), (fun p hp => by cases hp)⟩)) (by kernel_rfl) ?_
        obtain ⟨x20, hx21, hb10⟩ := bind_some hb10
        obtain ⟨p22, cs23, hR24, hA25, ha26, hg30⟩ := OwnS.ixAtG hx21 (hO0.mono hI11)
        have hi27 := ix_some hx21
        obtain ⟨b28, rfl, hf29⟩ := hR24
        refine gd_q (v := .pointer (some p22)) (by kernel_rfl) (by kernel_rfl) (CC.refl (List.forall_mem_append.2 ⟨fun q hq => (List.mem_append_left _ hq), (fun p hp => by cases hp)⟩)) (fun I' L' T hC kk => gl_indexAddrF (c := c0) (T' := 43) (e := 37) (xs := (.tmp 41)) (xi := (.tmp 42)) (kd := .i64) ha26 hi27.1 hi27.2.1 (by kernel_rfl) (by kernel_rfl) (by kernel_rfl) (by kernel_rfl) (by kernel_rfl) kk) ?_
        refine gd_q (v := .float .f64 b28) (by kernel_rfl) (by kernel_rfl) (CC.refl (List.forall_mem_append.2 ⟨fun q hq => (List.mem_append_left _ hq), (fun p hp => by cases hp)⟩)) (fun I' L' T hC kk => gl_loadO (T' := 37) (xp := (.tmp 43)) (p := p22) (c := .float .f64 b28) (n := 1) (by kernel_rfl) (by kernel_rfl) (by kernel_rfl) (by kernel_rfl) (hA25 _ _ (fun q hq => hC.sub _ (List.mem_append_left _ hq))) kk) ?_
        refine gd_pure 2 [0, 1, 4, 10, 11, 12, 40, 44, 45, 46] (K' := [(0, .slice A0 a0.length c0), (1, .int .i64 a1), (4, .func (.func 145) #[] #[]), (10, .int .i64 s8.1), (11, .int .i64 s8.2), (12, .int .i64 (IntKind.wrap .i64 (shr .u64 (IntKind.wrap .u64 (IntKind.wrap .i64 (s8.1 + s8.2))) 1))), (40, .func (.func 145) #[] #[]), (44, .float .f64 b28), (45, .slice A0 a0.length c0), (46, .int .i64 a1)]) (s' := [(7, true), (8, true)]) (CC.refl (List.forall_mem_append.2 ⟨fun q hq => (List.mem_append_left _ hq), (fun p hp => by cases hp)⟩)) (by kernel_rfl) ?_
        obtain ⟨x31, hx32, hb10⟩ := bind_some hb10
        obtain ⟨p33, cs34, hR35, hA36, ha37, hg41⟩ := OwnS.ixAtG hx32 (hO0.mono hI11)
        have hi38 := ix_some hx32
        obtain ⟨b39, rfl, hf40⟩ := hR35
        refine gd_q (v := .pointer (some p33)) (by kernel_rfl) (by kernel_rfl) (CC.refl (List.forall_mem_append.2 ⟨fun q hq => (List.mem_append_left _ hq), (fun p hp => by cases hp)⟩)) (fun I' L' T hC kk => gl_indexAddrF (c := c0) (T' := 43) (e := 37) (xs := (.tmp 45)) (xi := (.tmp 46)) (kd := .i64) ha37 hi38.1 hi38.2.1 (by kernel_rfl) (by kernel_rfl) (by kernel_rfl) (by kernel_rfl) (by kernel_rfl) kk) ?_
        refine gd_q (v := .float .f64 b39) (by kernel_rfl) (by kernel_rfl) (CC.refl (List.forall_mem_append.2 ⟨fun q hq => (List.mem_append_left _ hq), (fun p hp => by cases hp)⟩)) (fun I' L' T hC kk => gl_loadO (T' := 37) (xp := (.tmp 47)) (p := p33) (c := .float .f64 b39) (n := 1) (by kernel_rfl) (by kernel_rfl) (by kernel_rfl) (by kernel_rfl) (hA36 _ _ (fun q hq => hC.sub _ (List.mem_append_left _ hq))) kk) ?_
        refine gd_done ?_
        obtain ⟨y42, hx43, hb10⟩ := bind_some hb10
        refine gl_callQ (by kernel_rfl) (aggr_ahead_walk (r := y42) hf29 hf40 hx43 _) ?_
        refine gl_pure 1 [0, 1, 4, 10, 11, 12, 50] (K' := [(0, .slice A0 a0.length c0), (1, .int .i64 a1), (4, .func (.func 145) #[] #[]), (10, .int .i64 s8.1), (11, .int .i64 s8.2), (12, .int .i64 (IntKind.wrap .i64 (shr .u64 (IntKind.wrap .u64 (IntKind.wrap .i64 (s8.1 + s8.2))) 1))), (50, .bool (decide (y42 < 0)))]) (by kernel_rfl) ?_
        refine gl_atE (by kernel_rfl) ?_
        refine ge_seq ?_
        obtain ⟨j44, hj45, hb10⟩ := bind_some hb10
        refine gk_join (fun t I' L' => I13 ≤ I' ∧ C0 ++ L = L' ∧ Knows 220 [(0, .slice A0 a0.length c0), (1, .int .i64 a1), (4, .func (.func 145) #[] #[]), (10, .int .i64 j44.1), (11, .int .i64 j44.2)] t) ?_ ?_
        · refine gk_cond (b := (decide (y42 < 0))) (by kernel_rfl) (by kernel_rfl) (fun hc49 => ?_) (fun hc49 => ?_)
          · have hj45 := cond_t hc49 hj45
            refine gk_region (by kernel_rfl) ?_
            refine gl_pure 3 [0, 1, 4, 10, 11] (K' := [(0, .slice A0 a0.length c0), (1, .int .i64 a1), (4, .func (.func 145) #[] #[]), (10, .int .i64 (IntKind.wrap .i64 ((IntKind.wrap .i64 (shr .u64 (IntKind.wrap .u64 (IntKind.wrap .i64 (s8.1 + s8.2))) 1)) + 1))), (11, .int .i64 s8.2)]) (by kernel_rfl) ?_
            refine gl_atE (by kernel_rfl) ?_
            obtain rfl := some_inj hj45
            exact ge_mid fun t ht => ⟨(Imm.refl _), rfl, ht.pick (l := [0, 1, 4, 10, 11]) (by kernel_rfl)⟩
          · have hj45 := cond_f hc49 hj45
            refine gk_region (by kernel_rfl) ?_
            refine gl_pure 2 [0, 1, 4, 10, 11] (K' := [(0, .slice A0 a0.length c0), (1, .int .i64 a1), (4, .func (.func 145) #[] #[]), (10, .int .i64 s8.1), (11, .int .i64 (IntKind.wrap .i64 (shr .u64 (IntKind.wrap .u64 (IntKind.wrap .i64 (s8.1 + s8.2))) 1)))]) (by kernel_rfl) ?_
            refine gl_atE (by kernel_rfl) ?_
            obtain rfl := some_inj hj45
            exact ge_mid fun t ht => ⟨(Imm.refl _), rfl, ht.pick (l := [0, 1, 4, 10, 11]) (by kernel_rfl)⟩
        · rintro t I48 L' ⟨hI46, rfl, hK47⟩
          refine ge_at hK47 ?_
          refine ge_block_normal ?_
          obtain rfl := some_inj hb10
          exact ge_round fun t ht => ⟨(Imm.trans hI11 hI46), rfl, ht.pick (l := [0, 1, 4, 10, 11]) (by kernel_rfl)⟩
      · have hb10 := cond_f hc19 hb10
        refine gk_exit (by kernel_rfl) ?_
        refine ge_seq_exit ?_
        obtain rfl := some_inj hb10
        refine ge_round_out (fun hrr => ?_) (by intro h; cases h)
        obtain rfl := hrr
        refine ge_block_hit (by kernel_rfl) ?_
        exact ge_mid fun t ht => ⟨hI11, rfl, ht.pick (l := [0, 1, 10]) (by kernel_rfl)⟩
    · rintro t I16 L' ⟨hI14, rfl, hK15⟩
      refine ge_at hK15 ?_
      refine ge_seq ?_
      refine gk_seq (by kernel_rfl) ?_
      refine gk_seq (by kernel_rfl) ?_
      refine gk_region (by kernel_rfl) ?_
      refine gl_pure 2 [0, 10, 13] (K' := [(0, .slice A0 a0.length c0), (10, .int .i64 r6), (13, .int .i64 a1)]) (by kernel_rfl) ?_
      refine gl_atE (by kernel_rfl) ?_
      refine ge_seq ?_
      obtain ⟨r57, hl58, hr⟩ := bind_some hr
      refine gk_join (fun t I' L' => ∃ C69, OwnS Kd.flt 37 I' A0 c0 r57 C69 ∧ (r57.length = a0.length) ∧ I16 ≤ I' ∧ C69 ++ L = L' ∧ Knows 220 [(0, .slice A0 r57.length c0)] t) ?_ ?_
      · refine gk_block (by kernel_rfl) ?_
        refine gk_pick [0, 10, 13] (K' := [(0, .slice A0 a0.length c0), (10, .int .i64 r6), (13, .int .i64 a1)]) (by kernel_rfl) ?_
        intro t hK
        refine gc_loop (slices_symMergeCmpFunc_l74 r6) (fun s59 t I' L' => ∃ C63, OwnS Kd.flt 37 I' A0 c0 s59.1 C63 ∧ (s59.1.length = a0.length) ∧ I16 ≤ I' ∧ C63 ++ L = L' ∧ Knows 220 [(0, .slice A0 s59.1.length c0), (10, .int .i64 r6), (13, .int .i64 s59.2)] t) (by kernel_rfl) ?_ hl58 ⟨C0, (hO0.mono hI14), rfl, (Imm.refl _), rfl, hK⟩
        rintro s59 o60 t I67 L' hb61 ⟨C63, hO64, hL65, hI62, rfl, hK66⟩
        unfold slices_symMergeCmpFunc_l74 at hb61
        refine gk_at hK66 ?_
        refine gk_seq (by kernel_rfl) ?_
        refine gk_seq (by kernel_rfl) ?_
        refine gk_region (by kernel_rfl) ?_
        refine gl_pure 4 [0, 10, 13, 58] (K' := [(0, .slice A0 s59.1.length c0), (10, .int .i64 r6), (13, .int .i64 s59.2), (58, .bool (decide (s59.2 < (IntKind.wrap .i64 (r6 - 1)))))]) (by kernel_rfl) ?_
        refine gl_atE (by kernel_rfl) ?_
        refine ge_seq ?_
        refine gk_cond (b := (decide (s59.2 < (IntKind.wrap .i64 (r6 - 1))))) (by kernel_rfl) (by kernel_rfl) (fun hc76 => ?_) (fun hc76 => ?_)
        · have hb61 := cond_t hc76 hb61
          refine gk_skip (by kernel_rfl) ?_
          refine ge_seq ?_
          refine gk_seq (by kernel_rfl) ?_
          refine gk_block (by kernel_rfl) ?_
          refine gk_drawS 17 [(0, true), (1, true), (2, true), (3, true), (4, true), (5, true), (6, true), (7, true), (8, true), (9, true), (10, true), (11, true), (12, true), (13, true), (14, false), (15, false), (16, false)] [9, 13] [] (C63 ++ []) (List.forall_mem_append.2 ⟨fun q hq => (List.mem_append_left _ hq), (fun p hp => by cases hp)⟩) (fun p hp => List.mem_append_right _ ((fun p hp => hp) p hp)) (by kernel_rfl) (by kernel_rfl) (by kernel_rfl) ?_ (by kernel_rfl)
          refine gd_pure 8 [0, 10, 13, 61, 62, 63, 65, 66, 68] (K' := [(0, .slice A0 s59.1.length c0), (10, .int .i64 r6), (13, .int .i64 s59.2), (61, .slice A0 s59.1.length c0), (62, .int .i64 s59.2), (63, .slice A0 s59.1.length c0), (65, .int .i64 (IntKind.wrap .i64 (s59.2 + 1))), (66, .slice A0 s59.1.length c0), (68, .int .i64 (IntKind.wrap .i64 (s59.2 + 1)))]) (s' := [(8, true), (9, true), (10, true), (11, true), (12, true), (13, true), (14, false), (15, false), (16, false)]) (CC.refl (List.forall_mem_append.2 ⟨fun q hq => (List.mem_append_left _ hq), (fun p hp => by cases hp)⟩)) (by kernel_rfl) ?_
          obtain ⟨x77, hx78, hb61⟩ := bind_some hb61
          obtain ⟨p79, cs80, hR81, hA82, ha83, hg87⟩ := OwnS.ixAtG hx78 hO64
          have hi84 := ix_some hx78
          obtain ⟨b85, rfl, hf86⟩ := hR81
          refine gd_q (v := .pointer (some p79)) (by kernel_rfl) (by kernel_rfl) (CC.refl (List.forall_mem_append.2 ⟨fun q hq => (List.mem_append_left _ hq), (fun p hp => by cases hp)⟩)) (fun I' L' T hC kk => gl_indexAddrF (c := c0) (T' := 43) (e := 37) (xs := (.tmp 66)) (xi := (.tmp 68)) (kd := .i64) ha83 hi84.1 hi84.2.1 (by kernel_rfl) (by kernel_rfl) (by kernel_rfl) (by kernel_rfl) (by kernel_rfl) kk) ?_
          refine gd_q (v := .float .f64 b85) (by kernel_rfl) (by kernel_rfl) (CC.refl (List.forall_mem_append.2 ⟨fun q hq => (List.mem_append_left _ hq), (fun p hp => by cases hp)⟩)) (fun I' L' T hC kk => gl_loadO (T' := 37) (xp := (.tmp 69)) (p := p79) (c := .float .f64 b85) (n := 1) (by kernel_rfl) (by kernel_rfl) (by kernel_rfl) (by kernel_rfl) (hA82 _ _ (fun q hq => hC.sub _ (List.mem_append_left _ hq))) kk) ?_
          refine gd_pure 2 [0, 10, 13, 61, 62, 63, 65, 70, 71, 72] (K' := [(0, .slice A0 s59.1.length c0), (10, .int .i64 r6), (13, .int .i64 s59.2), (61, .slice A0 s59.1.length c0), (62, .int .i64 s59.2), (63, .slice A0 s59.1.length c0), (65, .int .i64 (IntKind.wrap .i64 (s59.2 + 1))), (70, .float .f64 b85), (71, .slice A0 s59.1.length c0), (72, .int .i64 s59.2)]) (s' := [(12, true), (13, true), (14, false), (15, false), (16, false)]) (CC.refl (List.forall_mem_append.2 ⟨fun q hq => (List.mem_append_left _ hq), (fun p hp => by cases hp)⟩)) (by kernel_rfl) ?_
          obtain ⟨x88, hx89, hb61⟩ := bind_some hb61
          obtain ⟨p90, cs91, hR92, hA93, ha94, hg98⟩ := OwnS.ixAtG hx89 hO64
          have hi95 := ix_some hx89
          obtain ⟨b96, rfl, hf97⟩ := hR92
          refine gd_q (v := .pointer (some p90)) (by kernel_rfl) (by kernel_rfl) (CC.refl (List.forall_mem_append.2 ⟨fun q hq => (List.mem_append_left _ hq), (fun p hp => by cases hp)⟩)) (fun I' L' T hC kk => gl_indexAddrF (c := c0) (T' := 43) (e := 37) (xs := (.tmp 71)) (xi := (.tmp 72)) (kd := .i64) ha94 hi95.1 hi95.2.1 (by kernel_rfl) (by kernel_rfl) (by kernel_rfl) (by kernel_rfl) (by kernel_rfl) kk) ?_
          refine gd_q (v := .float .f64 b96) (by kernel_rfl) (by kernel_rfl) (CC.refl (List.forall_mem_append.2 ⟨fun q hq => (List.mem_append_left _ hq), (fun p hp => by cases hp)⟩)) (fun I' L' T hC kk => gl_loadO (T' := 37) (xp := (.tmp 73)) (p := p90) (c := .float .f64 b96) (n := 1) (by kernel_rfl) (by kernel_rfl) (by kernel_rfl) (by kernel_rfl) (hA93 _ _ (fun q hq => hC.sub _ (List.mem_append_left _ hq))) kk) ?_
          refine gd_one (by kernel_rfl) ?_
          obtain ⟨x99, hx100, hb61⟩ := bind_some hb61
          refine gl_indexAddrW (d := Kd.flt) (c := c0) (T' := 43) (e := 37) (xs := (.tmp 61)) (xi := (.tmp 62)) (kd := .i64) hx100 hO64 (Upd.selfC _ _) (by kernel_rfl) (by kernel_rfl) (by kernel_rfl) (by kernel_rfl) (by kernel_rfl) (fun p101 cs102 hR103 hA104 hp109 => ?_)
          obtain ⟨b107, rfl, hf108⟩ := hR103
          refine gl_toD (by kernel_rfl) ⟨(Imm.refl _), (List.forall_mem_append.2 ⟨fun q hq => (List.mem_append_left _ hq), (fun p hp => by cases hp)⟩)⟩ ?_
          refine gd_flip (by kernel_rfl) (by kernel_rfl) ?_
          have hl112 : s59.1.length = (lset s59.1 s59.2 x77).length := by simp [lset]
          refine gl_storeE (d := Kd.flt) (T' := 37) (xp := (.tmp 75)) (xv := (.tmp 70)) (v := .float .f64 b85) (off := 0) (y := x77) (fun X => X ++ L) hx100 hO64 (fun X => (Upd.head _ X _)) hp109 (by kernel_rfl) (by kernel_rfl) (by kernel_rfl) (by kernel_rfl) (by kernel_rfl) (by kernel_rfl) (fun cs h => by obtain ⟨b', rfl, _⟩ := h; exact ⟨_, rfl, hf86⟩) (by kernel_rfl) (fun C110 hO111 => ?_)
          try rw [hl112]
          refine gl_toD (by kernel_rfl) ⟨(Imm.refl _), (fun p hp => by cases hp)⟩ ?_
          refine gd_one (by kernel_rfl) ?_
          obtain ⟨x113, hx114, hb61⟩ := bind_some hb61
          refine gl_indexAddrW (d := Kd.flt) (c := c0) (T' := 43) (e := 37) (xs := (.tmp 63)) (xi := (.tmp 65)) (kd := .i64) hx114 hO111 (Upd.selfC _ _) (by kernel_rfl) (by kernel_rfl) (by kernel_rfl) (by kernel_rfl) (by kernel_rfl) (fun p115 cs116 hR117 hA118 hp123 => ?_)
          obtain ⟨b121, rfl, hf122⟩ := hR117
          refine gl_toD (by kernel_rfl) ⟨(Imm.refl _), (fun p hp => by cases hp)⟩ ?_
          refine gd_done ?_
          have hl126 : (lset s59.1 s59.2 x77).length = (lset (lset s59.1 s59.2 x77) (IntKind.wrap .i64 (s59.2 + 1)) x88).length := by simp [lset]
          refine gl_storeE (d := Kd.flt) (T' := 37) (xp := (.tmp 76)) (xv := (.tmp 74)) (v := .float .f64 b96) (off := 0) (y := x88) (fun X => X ++ L) hx114 hO111 (fun X => (Upd.head _ X _)) hp123 (by kernel_rfl) (by kernel_rfl) (by kernel_rfl) (by kernel_rfl) (by kernel_rfl) (by kernel_rfl) (fun cs h => by obtain ⟨b', rfl, _⟩ := h; exact ⟨_, rfl, hf97⟩) (by kernel_rfl) (fun C124 hO125 => ?_)
          try rw [hl126]
          refine gl_atE (by kernel_rfl) ?_
          refine ge_block_normal ?_
          refine ge_seq ?_
          refine gk_region (by kernel_rfl) ?_
          refine gl_pure 3 [0, 10, 13] (K' := [(0, .slice A0 (lset (lset s59.1 s59.2 x77) (IntKind.wrap .i64 (s59.2 + 1)) x88).length c0), (10, .int .i64 r6), (13, .int .i64 (IntKind.wrap .i64 (s59.2 + 1)))]) (by kernel_rfl) ?_
          refine gl_atE (by kernel_rfl) ?_
          obtain rfl := some_inj hb61
          exact ge_round fun t ht => ⟨C124, hO125, (Eq.trans (lset_length _ _ _) (Eq.trans (lset_length _ _ _) hL65)), hI62, rfl, ht.pick (l := [0, 10, 13]) (by kernel_rfl)⟩
        · have hb61 := cond_f hc76 hb61
          refine gk_exit (by kernel_rfl) ?_
          refine ge_seq_exit ?_
          obtain rfl := some_inj hb61
          refine ge_round_out (fun hrr => ?_) (by intro h; cases h)
          obtain rfl := hrr
          refine ge_block_hit (by kernel_rfl) ?_
          exact ge_mid fun t ht => ⟨C63, hO64, hL65, hI62, rfl, ht.pick (l := [0]) (by kernel_rfl)⟩
      · rintro t I73 L' ⟨C69, hO70, hL71, hI68, rfl, hK72⟩
        refine ge_at hK72 ?_
        refine ge_seq ?_
        refine gk_ret (by kernel_rfl) ?_
        refine ge_seq_ret ?_
        obtain rfl := some_inj hr
        exact ge_result trivial ResOk.nil (Imm.trans hI14 hI68) ⟨C69, hO70, hL71, rfl, rfl⟩
  · have hr := cond_f hc1 hr
    refine gk_skip (by kernel_rfl) ?_
    refine ge_seq ?_
    refine gk_seq (by kernel_rfl) ?_
    refine gk_seq (by kernel_rfl) ?_
    refine gk_region (by kernel_rfl) ?_
    refine gl_pure 4 [0, 1, 2, 3, 4, 80] (K' := [(0, .slice A0 a0.length c0), (1, .int .i64 a1), (2, .int .i64 a2), (3, .int .i64 a3), (4, .func (.func 145) #[] #[]), (80, .bool ((IntKind.wrap .i64 (a3 - a2)) == 1))]) (by kernel_rfl) ?_
    refine gl_atE (by kernel_rfl) ?_
    refine ge_seq ?_
    refine gk_cond (b := ((IntKind.wrap .i64 (a3 - a2)) == 1)) (by kernel_rfl) (by kernel_rfl) (fun hc127 => ?_) (fun hc127 => ?_)
    · have hr := cond_t hc127 hr
      refine gk_seq (by kernel_rfl) ?_
      refine gk_region (by kernel_rfl) ?_
      refine gl_pure 2 [0, 2, 4, 14] (K' := [(0, .slice A0 a0.length c0), (2, .int .i64 a2), (4, .func (.func 145) #[] #[]), (14, .int .i64 a1)]) (by kernel_rfl) ?_
      refine gl_atE (by kernel_rfl) ?_
      refine ge_seq ?_
      refine gk_seq (by kernel_rfl) ?_
      refine gk_region (by kernel_rfl) ?_
      refine gl_pure 2 [0, 2, 4, 14, 15] (K' := [(0, .slice A0 a0.length c0), (2, .int .i64 a2), (4, .func (.func 145) #[] #[]), (14, .int .i64 a1), (15, .int .i64 a2)]) (by kernel_rfl) ?_
      refine gl_atE (by kernel_rfl) ?_
      refine ge_seq ?_
      refine gk_seq (by kernel_rfl) ?_
      obtain ⟨r132, hl133, hr⟩ := bind_some hr
      refine gk_join (fun t I' L' => I ≤ I' ∧ C0 ++ L = L' ∧ Knows 220 [(0, .slice A0 a0.length c0), (2, .int .i64 a2), (14, .int .i64 r132)] t) ?_ ?_
      · refine gk_block (by kernel_rfl) ?_
        refine gk_pick [0, 2, 4, 14, 15] (K' := [(0, .slice A0 a0.length c0), (2, .int .i64 a2), (4, .func (.func 145) #[] #[]), (14, .int .i64 a1), (15, .int .i64 a2)]) (by kernel_rfl) ?_
        intro t hK
        refine gc_loop (slices_symMergeCmpFunc_l143 a0 a2) (fun s134 t I' L' => I ≤ I' ∧ C0 ++ L = L' ∧ Knows 220 [(0, .slice A0 a0.length c0), (2, .int .i64 a2), (4, .func (.func 145) #[] #[]), (14, .int .i64 s134.1), (15, .int .i64 s134.2)] t) (by kernel_rfl) ?_ hl133 ⟨(Imm.refl _), rfl, hK⟩
        rintro s134 o135 t I139 L' hb136 ⟨hI137, rfl, hK138⟩
        unfold slices_symMergeCmpFunc_l143 at hb136
        refine gk_at hK138 ?_
        refine gk_seq (by kernel_rfl) ?_
        refine gk_seq (by kernel_rfl) ?_
        refine gk_region (by kernel_rfl) ?_
        refine gl_pure 3 [0, 2, 4, 14, 15, 85] (K' := [(0, .slice A0 a0.length c0), (2, .int .i64 a2), (4, .func (.func 145) #[] #[]), (14, .int .i64 s134.1), (15, .int .i64 s134.2), (85, .bool (decide (s134.1 < s134.2)))]) (by kernel_rfl) ?_
        refine gl_atE (by kernel_rfl) ?_
        refine ge_seq ?_
        refine gk_cond (b := (decide (s134.1 < s134.2))) (by kernel_rfl) (by kernel_rfl) (fun hc145 => ?_) (fun hc145 => ?_)
        · have hb136 := cond_t hc145 hb136
          refine gk_skip (by kernel_rfl) ?_
          refine ge_seq ?_
          refine gk_block (by kernel_rfl) ?_
          refine gk_seq (by kernel_rfl) ?_
          refine gk_region (by kernel_rfl) ?_
          refine gl_pure 7 [0, 2, 4, 14, 15, 16] (K' := [(0, .slice A0 a0.length c0), (2, .int .i64 a2), (4, .func (.func 145) #[] #[]), (14, .int .i64 s134.1), (15, .int .i64 s134.2), (16, .int .i64 (IntKind.wrap .i64 (shr .u64 (IntKind.wrap .u64 (IntKind.wrap .i64 (s134.1 + s134.2))) 1)))]) (by kernel_rfl) ?_
          refine gl_atE (by kernel_rfl) ?_
          refine ge_seq ?_
          refine gk_seq (by kernel_rfl) ?_
          refine gk_draw 9 [(0, true), (1, true), (2, true), (3, true), (4, true), (5, true), (6, true), (7, true), (8, true)] (C0 ++ []) (List.forall_mem_append.2 ⟨fun q hq => (List.mem_append_left _ hq), (fun p hp => by cases hp)⟩) (by kernel_rfl) (by kernel_rfl) (by kernel_rfl) ?_ (by kernel_rfl)
          refine gd_pure 3 [0, 2, 4, 14, 15, 16, 92, 93, 94] (K' := [(0, .slice A0 a0.length c0), (2, .int .i64 a2), (4, .func (.func 145) #[] #[]), (14, .int .i64 s134.1), (15, .int .i64 s134.2), (16, .int .i64 (IntKind.wrap .i64 (shr .u64 (IntKind.wrap .u64 (IntKind.wrap .i64 (s134.1 + s134.2))) 1))), (92, .func (.func 145) #[] #[]), (93, .slice A0 a0.length c0), (94, .int .i64 a2)]) (s' := [(3, true), (4, true), (5, true), (6, true), (7, true), (8, true)]) (CC.refl (List.forall_mem_append.2 ⟨fun q hq => (List.mem_append_left _ hq), (fun p hp => by cases hp)⟩)) (by kernel_rfl) ?_
          obtain ⟨x146, hx147, hb136⟩ := bind_some hb136
          obtain ⟨p148, cs149, hR150, hA151, ha152, hg156⟩ := OwnS.ixAtG hx147 (hO0.mono hI137)
          have hi153 := ix_some hx147
          obtain ⟨b154, rfl, hf155⟩ := hR150
          refine gd_q (v := .pointer (some p148)) (by kernel_rfl) (by kernel_rfl) (CC.refl (List.forall_mem_append.2 ⟨fun q hq => (List.mem_append_left _ hq), (fun p hp => by cases hp)⟩)) (fun I' L' T hC kk => gl_indexAddrF (c := c0) (T' := 43) (e := 37) (xs := (.tmp 93)) (xi := (.tmp 94)) (kd := .i64) ha152 hi153.1 hi153.2.1 (by kernel_rfl) (by kernel_rfl) (by kernel_rfl) (by kernel_rfl) (by kernel_rfl) kk) ?_
          refine gd_q (v := .float .f64 b154) (by kernel_rfl) (by kernel_rfl) (CC.refl (List.forall_mem_append.2 ⟨fun q hq => (List.mem_append_left _ hq), (fun p hp => by cases hp)⟩)) (fun I' L' T hC kk => gl_loadO (T' := 37) (xp := (.tmp 95)) (p := p148) (c := .float .f64 b154) (n := 1) (by kernel_rfl) (by kernel_rfl) (by kernel_rfl) (by kernel_rfl) (hA151 _ _ (fun q hq => hC.sub _ (List.mem_append_left _ hq))) kk) ?_
          refine gd_pure 2 [0, 2, 4, 14, 15, 16, 92, 96, 97, 98] (K' := [(0, .slice A0 a0.length c0), (2, .int .i64 a2), (4, .func (.func 145) #[] #[]), (14, .int .i64 s134.1), (15, .int .i64 s134.2), (16, .int .i64 (IntKind.wrap .i64 (shr .u64 (IntKind.wrap .u64 (IntKind.wrap .i64 (s134.1 + s134.2))) 1))), (92, .func (.func 145) #[] #[]), (96, .float .f64 b154), (97, .slice A0 a0.length c0), (98, .int .i64 (IntKind.wrap .i64 (shr .u64 (IntKind.wrap .u64 (IntKind.wrap .i64 (s134.1 + s134.2))) 1)))]) (s' := [(7, true), (8, true)]) (CC.refl (List.forall_mem_append.2 ⟨fun q hq => (List.mem_append_left _ hq), (fun p hp => by cases hp)⟩)) (by kernel_rfl) ?_
          obtain ⟨x157, hx158, hb136⟩ := bind_some hb136
          obtain ⟨p159, cs160, hR161, hA162, ha163, hg167⟩ := OwnS.ixAtG hx158 (hO0.mono hI137)
          have hi164 := ix_some hx158
          obtain ⟨b165, rfl, hf166⟩ := hR161
          refine gd_q (v := .pointer (some p159)) (by kernel_rfl) (by kernel_rfl) (CC.refl (List.forall_mem_append.2 ⟨fun q hq => (List.mem_append_left _ hq), (fun p hp => by cases hp)⟩)) (fun I' L' T hC kk => gl_indexAddrF (c := c0) (T' := 43) (e := 37) (xs := (.tmp 97)) (xi := (.tmp 98)) (kd := .i64) ha163 hi164.1 hi164.2.1 (by kernel_rfl) (by kernel_rfl) (by kernel_rfl) (by kernel_rfl) (by kernel_rfl) kk) ?_
          refine gd_q (v := .float .f64 b165) (by kernel_rfl) (by kernel_rfl) (CC.refl (List.forall_mem_append.2 ⟨fun q hq => (List.mem_append_left _ hq), (fun p hp => by cases hp)⟩)) (fun I' L' T hC kk => gl_loadO (T' := 37) (xp := (.tmp 99)) (p := p159) (c := .float .f64 b165) (n := 1) (by kernel_rfl) (by kernel_rfl) (by kernel_rfl) (by kernel_rfl) (hA162 _ _ (fun q hq => hC.sub _ (List.mem_append_left _ hq))) kk) ?_
          refine gd_done ?_
          obtain ⟨y168, hx169, hb136⟩ := bind_some hb136
          refine gl_callQ (by kernel_rfl) (aggr_ahead_walk (r := y168) hf155 hf166 hx169 _) ?_
          refine gl_pure 2 [0, 2, 4, 14, 15, 16, 103] (K' := [(0, .slice A0 a0.length c0), (2, .int .i64 a2), (4, .func (.func 145) #[] #[]), (14, .int .i64 s134.1), (15, .int .i64 s134.2), (16, .int .i64 (IntKind.wrap .i64 (shr .u64 (IntKind.wrap .u64 (IntKind.wrap .i64 (s134.1 + s134.2))) 1))), (103, .bool (!(decide (y168 < 0))))]) (by kernel_rfl) ?_
          refine gl_atE (by kernel_rfl) ?_
          refine ge_seq ?_
          obtain ⟨j170, hj171, hb136⟩ := bind_some hb136
          refine gk_join (fun t I' L' => I139 ≤ I' ∧ C0 ++ L = L' ∧ Knows 220 [(0, .slice A0 a0.length c0), (2, .int .i64 a2), (4, .func (.func 145) #[] #[]), (14, .int .i64 j170.1), (15, .int .i64 j170.2)] t) ?_ ?_
          · refine gk_cond (b := (!(decide (y168 < 0)))) (by kernel_rfl) (by kernel_rfl) (fun hc175 => ?_) (fun hc175 => ?_)
            · have hj171 := cond_t hc175 hj171
              refine gk_region (by kernel_rfl) ?_
              refine gl_pure 3 [0, 2, 4, 14, 15] (K' := [(0, .slice A0 a0.length c0), (2, .int .i64 a2), (4, .func (.func 145) #[] #[]), (14, .int .i64 (IntKind.wrap .i64 ((IntKind.wrap .i64 (shr .u64 (IntKind.wrap .u64 (IntKind.wrap .i64 (s134.1 + s134.2))) 1)) + 1))), (15, .int .i64 s134.2)]) (by kernel_rfl) ?_
              refine gl_atE (by kernel_rfl) ?_
              obtain rfl := some_inj hj171
              exact ge_mid fun t ht => ⟨(Imm.refl _), rfl, ht.pick (l := [0, 2, 4, 14, 15]) (by kernel_rfl)⟩
            · have hj171 := cond_f hc175 hj171
              refine gk_region (by kernel_rfl) ?_
              refine gl_pure 2 [0, 2, 4, 14, 15] (K' := [(0, .slice A0 a0.length c0), (2, .int .i64 a2), (4, .func (.func 145) #[] #[]), (14, .int .i64 s134.1), (15, .int .i64 (IntKind.wrap .i64 (shr .u64 (IntKind.wrap .u64 (IntKind.wrap .i64 (s134.1 + s134.2))) 1)))]) (by kernel_rfl) ?_
              refine gl_atE (by kernel_rfl) ?_
              obtain rfl := some_inj hj171
              exact ge_mid fun t ht => ⟨(Imm.refl _), rfl, ht.pick (l := [0, 2, 4, 14, 15]) (by kernel_rfl)⟩
          · rintro t I174 L' ⟨hI172, rfl, hK173⟩
            refine ge_at hK173 ?_
            refine ge_block_normal ?_
            obtain rfl := some_inj hb136
            exact ge_round fun t ht => ⟨(Imm.trans hI137 hI172), rfl, ht.pick (l := [0, 2, 4, 14, 15]) (by kernel_rfl)⟩
        · have hb136 := cond_f hc145 hb136
          refine gk_exit (by kernel_rfl) ?_
          refine ge_seq_exit ?_
          obtain rfl := some_inj hb136
          refine ge_round_out (fun hrr => ?_) (by intro h; cases h)
          obtain rfl := hrr
          refine ge_block_hit (by kernel_rfl) ?_
          exact ge_mid fun t ht => ⟨hI137, rfl, ht.pick (l := [0, 2, 14]) (by kernel_rfl)⟩
      · rintro t I142 L' ⟨hI140, rfl, hK141⟩
        refine ge_at hK141 ?_
        refine ge_seq ?_
        refine gk_seq (by kernel_rfl) ?_
        refine gk_seq (by kernel_rfl) ?_
        refine gk_region (by kernel_rfl) ?_
        refine gl_pure 2 [0, 14, 17] (K' := [(0, .slice A0 a0.length c0), (14, .int .i64 r132), (17, .int .i64 a2)]) (by kernel_rfl) ?_
        refine gl_atE (by kernel_rfl) ?_
        refine ge_seq ?_
        obtain ⟨r183, hl184, hr⟩ := bind_some hr
        refine gk_join (fun t I' L' => ∃ C195, OwnS Kd.flt 37 I' A0 c0 r183 C195 ∧ (r183.length = a0.length) ∧ I142 ≤ I' ∧ C195 ++ L = L' ∧ Knows 220 [(0, .slice A0 r183.length c0)] t) ?_ ?_
        · refine gk_block (by kernel_rfl) ?_
          refine gk_pick [0, 14, 17] (K' := [(0, .slice A0 a0.length c0), (14, .int .i64 r132), (17, .int .i64 a2)]) (by kernel_rfl) ?_
          intro t hK
          refine gc_loop (slices_symMergeCmpFunc_l200 r132) (fun s185 t I' L' => ∃ C189, OwnS Kd.flt 37 I' A0 c0 s185.1 C189 ∧ (s185.1.length = a0.length) ∧ I142 ≤ I' ∧ C189 ++ L = L' ∧ Knows 220 [(0, .slice A0 s185.1.length c0), (14, .int .i64 r132), (17, .int .i64 s185.2)] t) (by kernel_rfl) ?_ hl184 ⟨C0, (hO0.mono hI140), rfl, (Imm.refl _), rfl, hK⟩
          rintro s185 o186 t I193 L' hb187 ⟨C189, hO190, hL191, hI188, rfl, hK192⟩
          unfold slices_symMergeCmpFunc_l200 at hb187
          refine gk_at hK192 ?_
          refine gk_seq (by kernel_rfl) ?_
          refine gk_seq (by kernel_rfl) ?_
          refine gk_region (by kernel_rfl) ?_
          refine gl_pure 3 [0, 14, 17, 110] (K' := [(0, .slice A0 s185.1.length c0), (14, .int .i64 r132), (17, .int .i64 s185.2), (110, .bool (decide (s185.2 > r132)))]) (by kernel_rfl) ?_
          refine gl_atE (by kernel_rfl) ?_
          refine ge_seq ?_
          refine gk_cond (b := (decide (s185.2 > r132))) (by kernel_rfl) (by kernel_rfl) (fun hc202 => ?_) (fun hc202 => ?_)
          · have hb187 := cond_t hc202 hb187
            refine gk_skip (by kernel_rfl) ?_
            refine ge_seq ?_
            refine gk_seq (by kernel_rfl) ?_
            refine gk_block (by kernel_rfl) ?_
            refine gk_drawS 17 [(0, true), (1, true), (2, true), (3, true), (4, true), (5, true), (6, true), (7, true), (8, true), (9, true), (10, true), (11, true), (12, true), (13, true), (14, false), (15, false), (16, false)] [9, 13] [] (C189 ++ []) (List.forall_mem_append.2 ⟨fun q hq => (List.mem_append_left _ hq), (fun p hp => by cases hp)⟩) (fun p hp => List.mem_append_right _ ((fun p hp => hp) p hp)) (by kernel_rfl) (by kernel_rfl) (by kernel_rfl) ?_ (by kernel_rfl)
            refine gd_pure 8 [0, 14, 17, 113, 114, 115, 117, 118, 120] (K' := [(0, .slice A0 s185.1.length c0), (14, .int .i64 r132), (17, .int .i64 s185.2), (113, .slice A0 s185.1.length c0), (114, .int .i64 s185.2), (115, .slice A0 s185.1.length c0), (117, .int .i64 (IntKind.wrap .i64 (s185.2 - 1))), (118, .slice A0 s185.1.length c0), (120, .int .i64 (IntKind.wrap .i64 (s185.2 - 1)))]) (s' := [(8, true), (9, true), (10, true), (11, true), (12, true), (13, true), (14, false), (15, false), (16, false)]) (CC.refl (List.forall_mem_append.2 ⟨fun q hq => (List.mem_append_left _ hq), (fun p hp => by cases hp)⟩)) (by kernel_rfl) ?_
            obtain ⟨x203, hx204, hb187⟩ := bind_some hb187
            obtain ⟨p205, cs206, hR207, hA208, ha209, hg213⟩ := OwnS.ixAtG hx204 hO190
            have hi210 := ix_some hx204
            obtain ⟨b211, rfl, hf212⟩ := hR207
            refine gd_q (v := .pointer (some p205)) (by kernel_rfl) (by kernel_rfl) (CC.refl (List.forall_mem_append.2 ⟨fun q hq => (List.mem_append_left _ hq), (fun p hp => by cases hp)⟩)) (fun I' L' T hC kk => gl_indexAddrF (c := c0) (T' := 43) (e := 37) (xs := (.tmp 118)) (xi := (.tmp 120)) (kd := .i64) ha209 hi210.1 hi210.2.1 (by kernel_rfl) (by kernel_rfl) (by kernel_rfl) (by kernel_rfl) (by kernel_rfl) kk) ?_
            refine gd_q (v := .float .f64 b211) (by kernel_rfl) (by kernel_rfl) (CC.refl (List.forall_mem_append.2 ⟨fun q hq => (List.mem_append_left _ hq), (fun p hp => by cases hp)⟩)) (fun I' L' T hC kk => gl_loadO (T' := 37) (xp := (.tmp 121)) (p := p205) (c := .float .f64 b211) (n := 1) (by kernel_rfl) (by kernel_rfl) (by kernel_rfl) (by kernel_rfl) (hA208 _ _ (fun q hq => hC.sub _ (List.mem_append_left _ hq))) kk) ?_
            refine gd_pure 2 [0, 14, 17, 113, 114, 115, 117, 122, 123, 124] (K' := [(0, .slice A0 s185.1.length c0), (14, .int .i64 r132), (17, .int .i64 s185.2), (113, .slice A0 s185.1.length c0), (114, .int .i64 s185.2), (115, .slice A0 s185.1.length c0), (117, .int .i64 (IntKind.wrap .i64 (s185.2 - 1))), (122, .float .f64 b211), (123, .slice A0 s185.1.length c0), (124, .int .i64 s185.2)]) (s' := [(12, true), (13, true), (14, false), (15, false), (16, false)]) (CC.refl (List.forall_mem_append.2 ⟨fun q hq => (List.mem_append_left _ hq), (fun p hp => by cases hp)⟩)) (by kernel_rfl) ?_
            obtain ⟨x214, hx215, hb187⟩ := bind_some hb187
            obtain ⟨p216, cs217, hR218, hA219, ha220, hg224⟩ := OwnS.ixAtG hx215 hO190
            have hi221 := ix_some hx215
            obtain ⟨b222, rfl, hf223⟩ := hR218
            refine gd_q (v := .pointer (some p216)) (by kernel_rfl) (by kernel_rfl) (CC.refl (List.forall_mem_append.2 ⟨fun q hq => (List.mem_append_left _ hq), (fun p hp => by cases hp)⟩)) (fun I' L' T hC kk => gl_indexAddrF (c := c0) (T' := 43) (e := 37) (xs := (.tmp 123)) (xi := (.tmp 124)) (kd := .i64) ha220 hi221.1 hi221.2.1 (by kernel_rfl) (by kernel_rfl) (by kernel_rfl) (by kernel_rfl) (by kernel_rfl) kk) ?_
            refine gd_q (v := .float .f64 b222) (by kernel_rfl) (by kernel_rfl) (CC.refl (List.forall_mem_append.2 ⟨fun q hq => (List.mem_append_left _ hq), (fun p hp => by cases hp)⟩)) (fun I' L' T hC kk => gl_loadO (T' := 37) (xp := (.tmp 125)) (p := p216) (c := .float .f64 b222) (n := 1) (by kernel_rfl) (by kernel_rfl) (by kernel_rfl) (by kernel_rfl) (hA219 _ _ (fun q hq => hC.sub _ (List.mem_append_left _ hq))) kk) ?_
            refine gd_one (by kernel_rfl) ?_
            obtain ⟨x225, hx226, hb187⟩ := bind_some hb187
            refine gl_indexAddrW (d := Kd.flt) (c := c0) (T' := 43) (e := 37) (xs := (.tmp 113)) (xi := (.tmp 114)) (kd := .i64) hx226 hO190 (Upd.selfC _ _) (by kernel_rfl) (by kernel_rfl) (by kernel_rfl) (by kernel_rfl) (by kernel_rfl) (fun p227 cs228 hR229 hA230 hp235 => ?_)
            obtain ⟨b233, rfl, hf234⟩ := hR229
            refine gl_toD (by kernel_rfl) ⟨(Imm.refl _), (List.forall_mem_append.2 ⟨fun q hq => (List.mem_append_left _ hq), (fun p hp => by cases hp)⟩)⟩ ?_
            refine gd_flip (by kernel_rfl) (by kernel_rfl) ?_
            have hl238 : s185.1.length = (lset s185.1 s185.2 x203).length := by simp [lset]
            refine gl_storeE (d := Kd.flt) (T' := 37) (xp := (.tmp 127)) (xv := (.tmp 122)) (v := .float .f64 b211) (off := 0) (y := x203) (fun X => X ++ L) hx226 hO190 (fun X => (Upd.head _ X _)) hp235 (by kernel_rfl) (by kernel_rfl) (by kernel_rfl) (by kernel_rfl) (by kernel_rfl) (by kernel_rfl) (fun cs h => by obtain ⟨b', rfl, _⟩ := h; exact ⟨_, rfl, hf212⟩) (by kernel_rfl) (fun C236 hO237 => ?_)
            try rw [hl238]
            refine gl_toD (by kernel_rfl) ⟨(Imm.refl _), (fun p hp => by cases hp)⟩ ?_
            refine gd_one (by kernel_rfl) ?_
            obtain ⟨x239, hx240, hb187⟩ := bind_some hb187
            refine gl_indexAddrW (d := Kd.flt) (c := c0) (T' := 43) (e := 37) (xs := (.tmp 115)) (xi := (.tmp 117)) (kd := .i64) hx240 hO237 (Upd.selfC _ _) (by kernel_rfl) (by kernel_rfl) (by kernel_rfl) (by kernel_rfl) (by kernel_rfl) (fun p241 cs242 hR243 hA244 hp249 => ?_)
            obtain ⟨b247, rfl, hf248⟩ := hR243
            refine gl_toD (by kernel_rfl) ⟨(Imm.refl _), (fun p hp => by cases hp)⟩ ?_
            refine gd_done ?_
            have hl252 : (lset s185.1 s185.2 x203).length = (lset (lset s185.1 s185.2 x203) (IntKind.wrap .i64 (s185.2 - 1)) x214).length := by simp [lset]
            refine gl_storeE (d := Kd.flt) (T' := 37) (xp := (.tmp 128)) (xv := (.tmp 126)) (v := .float .f64 b222) (off := 0) (y := x214) (fun X => X ++ L) hx240 hO237 (fun X => (Upd.head _ X _)) hp249 (by kernel_rfl) (by kernel_rfl) (by kernel_rfl) (by kernel_rfl) (by kernel_rfl) (by kernel_rfl) (fun cs h => by obtain ⟨b', rfl, _⟩ := h; exact ⟨_, rfl, hf223⟩) (by kernel_rfl) (fun C250 hO251 => ?_)
            try rw [hl252]
            refine gl_atE (by kernel_rfl) ?_
            refine ge_block_normal ?_
            refine ge_seq ?_
            refine gk_region (by kernel_rfl) ?_
            refine gl_pure 3 [0, 14, 17] (K' := [(0, .slice A0 (lset (lset s185.1 s185.2 x203) (IntKind.wrap .i64 (s185.2 - 1)) x214).length c0), (14, .int .i64 r132), (17, .int .i64 (IntKind.wrap .i64 (s185.2 - 1)))]) (by kernel_rfl) ?_
            refine gl_atE (by kernel_rfl) ?_
            obtain rfl := some_inj hb187
            exact ge_round fun t ht => ⟨C250, hO251, (Eq.trans (lset_length _ _ _) (Eq.trans (lset_length _ _ _) hL191)), hI188, rfl, ht.pick (l := [0, 14, 17]) (by kernel_rfl)⟩
          · have hb187 := cond_f hc202 hb187
            refine gk_exit (by kernel_rfl) ?_
            refine ge_seq_exit ?_
            obtain rfl := some_inj hb187
            refine ge_round_out (fun hrr => ?_) (by intro h; cases h)
            obtain rfl := hrr
            refine ge_block_hit (by kernel_rfl) ?_
            exact ge_mid fun t ht => ⟨C189, hO190, hL191, hI188, rfl, ht.pick (l := [0]) (by kernel_rfl)⟩
        · rintro t I199 L' ⟨C195, hO196, hL197, hI194, rfl, hK198⟩
          refine ge_at hK198 ?_
          refine ge_seq ?_
          refine gk_ret (by kernel_rfl) ?_
          refine ge_seq_ret ?_
          obtain rfl := some_inj hr
          exact ge_result trivial ResOk.nil (Imm.trans hI140 hI194) ⟨C195, hO196, hL197, rfl, rfl⟩
    · have hr := cond_f hc127 hr
      refine gk_skip (by kernel_rfl) ?_
      refine ge_seq ?_
      refine gk_seq (by kernel_rfl) ?_
      refine gk_region (by kernel_rfl) ?_
      refine gl_pure 7 [0, 1, 2, 3, 4, 18] (K' := [(0, .slice A0 a0.length c0), (1, .int .i64 a1), (2, .int .i64 a2), (3, .int .i64 a3), (4, .func (.func 145) #[] #[]), (18, .int .i64 (IntKind.wrap .i64 (shr .u64 (IntKind.wrap .u64 (IntKind.wrap .i64 (a1 + a3))) 1)))]) (by kernel_rfl) ?_
      refine gl_atE (by kernel_rfl) ?_
      refine ge_seq ?_
      refine gk_seq (by kernel_rfl) ?_
      refine gk_region (by kernel_rfl) ?_
      refine gl_pure 4 [0, 1, 2, 3, 4, 18, 19] (K' := [(0, .slice A0 a0.length c0), (1, .int .i64 a1), (2, .int .i64 a2), (3, .int .i64 a3), (4, .func (.func 145) #[] #[]), (18, .int .i64 (IntKind.wrap .i64 (shr .u64 (IntKind.wrap .u64 (IntKind.wrap .i64 (a1 + a3))) 1))), (19, .int .i64 (IntKind.wrap .i64 ((IntKind.wrap .i64 (shr .u64 (IntKind.wrap .u64 (IntKind.wrap .i64 (a1 + a3))) 1)) + a2)))]) (by kernel_rfl) ?_
      refine gl_atE (by kernel_rfl) ?_
      refine ge_seq ?_
      refine gk_seq (by kernel_rfl) ?_
      refine gk_region (by kernel_rfl) ?_
      refine gl_pure 2 [0, 1, 2, 3, 4, 18, 19] (K' := [(0, .slice A0 a0.length c0), (1, .int .i64 a1), (2, .int .i64 a2), (3, .int .i64 a3), (4, .func (.func 145) #[] #[]), (18, .int .i64 (IntKind.wrap .i64 (shr .u64 (IntKind.wrap .u64 (IntKind.wrap .i64 (a1 + a3))) 1))), (19, .int .i64 (IntKind.wrap .i64 ((IntKind.wrap .i64 (shr .u64 (IntKind.wrap .u64 (IntKind.wrap .i64 (a1 + a3))) 1)) + a2)))]) (by kernel_rfl) ?_
      refine gl_atE (by kernel_rfl) ?_
      refine ge_seq ?_
      refine gk_seq (by kernel_rfl) ?_
      refine gk_seq (by kernel_rfl) ?_
      refine gk_region (by kernel_rfl) ?_
      refine gl_pure 3 [0, 1, 2, 3, 4, 18, 19, 140] (K' := [(0, .slice A0 a0.length c0), (1, .int .i64 a1), (2, .int .i64 a2), (3, .int .i64 a3), (4, .func (.func 145) #[] #[]), (18, .int .i64 (IntKind.wrap .i64 (shr .u64 (IntKind.wrap .u64 (IntKind.wrap .i64 (a1 + a3))) 1))), (19, .int .i64 (IntKind.wrap .i64 ((IntKind.wrap .i64 (shr .u64 (IntKind.wrap .u64 (IntKind.wrap .i64 (a1 + a3))) 1)) + a2))), (140, .bool (decide (a2 > (IntKind.wrap .i64 (shr .u64 (IntKind.wrap .u64 (IntKind.wrap .i64 (a1 + a3))) 1)))))]) (by kernel_rfl) ?_
      refine gl_atE (by kernel_rfl) ?_
      refine ge_seq ?_
      obtain ⟨j253, hj254, hr⟩ := bind_some hr
      refine gk_join (fun t I' L' => I ≤ I' ∧ C0 ++ L = L' ∧ Knows 220 [(0, .slice A0 a0.length c0), (1, .int .i64 a1), (2, .int .i64 a2), (3, .int .i64 a3), (4, .func (.func 145) #[] #[]), (18, .int .i64 (IntKind.wrap .i64 (shr .u64 (IntKind.wrap .u64 (IntKind.wrap .i64 (a1 + a3))) 1))), (19, .int .i64 (IntKind.wrap .i64 ((IntKind.wrap .i64 (shr .u64 (IntKind.wrap .u64 (IntKind.wrap .i64 (a1 + a3))) 1)) + a2))), (20, .int .i64 j253.1), (21, .int .i64 j253.2)] t) ?_ ?_
      · refine gk_cond (b := (decide (a2 > (IntKind.wrap .i64 (shr .u64 (IntKind.wrap .u64 (IntKind.wrap .i64 (a1 + a3))) 1))))) (by kernel_rfl) (by kernel_rfl) (fun hc258 => ?_) (fun hc258 => ?_)
        · have hj254 := cond_t hc258 hj254
          refine gk_seq (by kernel_rfl) ?_
          refine gk_region (by kernel_rfl) ?_
          refine gl_pure 4 [0, 1, 2, 3, 4, 18, 19, 20] (K' := [(0, .slice A0 a0.length c0), (1, .int .i64 a1), (2, .int .i64 a2), (3, .int .i64 a3), (4, .func (.func 145) #[] #[]), (18, .int .i64 (IntKind.wrap .i64 (shr .u64 (IntKind.wrap .u64 (IntKind.wrap .i64 (a1 + a3))) 1))), (19, .int .i64 (IntKind.wrap .i64 ((IntKind.wrap .i64 (shr .u64 (IntKind.wrap .u64 (IntKind.wrap .i64 (a1 + a3))) 1)) + a2))), (20, .int .i64 (IntKind.wrap .i64 ((IntKind.wrap .i64 ((IntKind.wrap .i64 (shr .u64 (IntKind.wrap .u64 (IntKind.wrap .i64 (a1 + a3))) 1)) + a2)) - a3)))]) (by kernel_rfl) ?_
          refine gl_atE (by kernel_rfl) ?_
          refine ge_seq ?_
          refine gk_region (by kernel_rfl) ?_
          refine gl_pure 2 [0, 1, 2, 3, 4, 18, 19, 20, 21] (K' := [(0, .slice A0 a0.length c0), (1, .int .i64 a1), (2, .int .i64 a2), (3, .int .i64 a3), (4, .func (.func 145) #[] #[]), (18, .int .i64 (IntKind.wrap .i64 (shr .u64 (IntKind.wrap .u64 (IntKind.wrap .i64 (a1 + a3))) 1))), (19, .int .i64 (IntKind.wrap .i64 ((IntKind.wrap .i64 (shr .u64 (IntKind.wrap .u64 (IntKind.wrap .i64 (a1 + a3))) 1)) + a2))), (20, .int .i64 (IntKind.wrap .i64 ((IntKind.wrap .i64 ((IntKind.wrap .i64 (shr .u64 (IntKind.wrap .u64 (IntKind.wrap .i64 (a1 + a3))) 1)) + a2)) - a3))), (21, .int .i64 (IntKind.wrap .i64 (shr .u64 (IntKind.wrap .u64 (IntKind.wrap .i64 (a1 + a3))) 1)))]) (by kernel_rfl) ?_
          refine gl_atE (by kernel_rfl) ?_
          obtain rfl := some_inj hj254
          exact ge_mid fun t ht => ⟨(Imm.refl _), rfl, ht.pick (l := [0, 1, 2, 3, 4, 18, 19, 20, 21]) (by kernel_rfl)⟩
        · have hj254 := cond_f hc258 hj254
          refine gk_seq (by kernel_rfl) ?_
          refine gk_region (by kernel_rfl) ?_
          refine gl_pure 2 [0, 1, 2, 3, 4, 18, 19, 20] (K' := [(0, .slice A0 a0.length c0), (1, .int .i64 a1), (2, .int .i64 a2), (3, .int .i64 a3), (4, .func (.func 145) #[] #[]), (18, .int .i64 (IntKind.wrap .i64 (shr .u64 (IntKind.wrap .u64 (IntKind.wrap .i64 (a1 + a3))) 1))), (19, .int .i64 (IntKind.wrap .i64 ((IntKind.wrap .i64 (shr .u64 (IntKind.wrap .u64 (IntKind.wrap .i64 (a1 + a3))) 1)) + a2))), (20, .int .i64 a1)]) (by kernel_rfl) ?_
          refine gl_atE (by kernel_rfl) ?_
          refine ge_seq ?_
          refine gk_region (by kernel_rfl) ?_
          refine gl_pure 2 [0, 1, 2, 3, 4, 18, 19, 20, 21] (K' := [(0, .slice A0 a0.length c0), (1, .int .i64 a1), (2, .int .i64 a2), (3, .int .i64 a3), (4, .func (.func 145) #[] #[]), (18, .int .i64 (IntKind.wrap .i64 (shr .u64 (IntKind.wrap .u64 (IntKind.wrap .i64 (a1 + a3))) 1))), (19, .int .i64 (IntKind.wrap .i64 ((IntKind.wrap .i64 (shr .u64 (IntKind.wrap .u64 (IntKind.wrap .i64 (a1 + a3))) 1)) + a2))), (20, .int .i64 a1), (21, .int .i64 a2)]) (by kernel_rfl) ?_
          refine gl_atE (by kernel_rfl) ?_
          obtain rfl := some_inj hj254
          exact ge_mid fun t ht => ⟨(Imm.refl _), rfl, ht.pick (l := [0, 1, 2, 3, 4, 18, 19, 20, 21]) (by kernel_rfl)⟩
      · rintro t I257 L' ⟨hI255, rfl, hK256⟩
        refine ge_at hK256 ?_
        refine ge_seq ?_
        refine gk_seq (by kernel_rfl) ?_
        refine gk_region (by kernel_rfl) ?_
        refine gl_pure 3 [0, 1, 2, 3, 4, 18, 19, 20, 21, 22] (K' := [(0, .slice A0 a0.length c0), (1, .int .i64 a1), (2, .int .i64 a2), (3, .int .i64 a3), (4, .func (.func 145) #[] #[]), (18, .int .i64 (IntKind.wrap .i64 (shr .u64 (IntKind.wrap .u64 (IntKind.wrap .i64 (a1 + a3))) 1))), (19, .int .i64 (IntKind.wrap .i64 ((IntKind.wrap .i64 (shr .u64 (IntKind.wrap .u64 (IntKind.wrap .i64 (a1 + a3))) 1)) + a2))), (20, .int .i64 j253.1), (21, .int .i64 j253.2), (22, .int .i64 (IntKind.wrap .i64 ((IntKind.wrap .i64 ((IntKind.wrap .i64 (shr .u64 (IntKind.wrap .u64 (IntKind.wrap .i64 (a1 + a3))) 1)) + a2)) - 1)))]) (by kernel_rfl) ?_
        refine gl_atE (by kernel_rfl) ?_
        refine ge_seq ?_
        refine gk_seq (by kernel_rfl) ?_
        obtain ⟨r263, hl264, hr⟩ := bind_some hr
        refine gk_join (fun t I' L' => I257 ≤ I' ∧ C0 ++ L = L' ∧ Knows 220 [(0, .slice A0 a0.length c0), (1, .int .i64 a1), (2, .int .i64 a2), (3, .int .i64 a3), (4, .func (.func 145) #[] #[]), (18, .int .i64 (IntKind.wrap .i64 (shr .u64 (IntKind.wrap .u64 (IntKind.wrap .i64 (a1 + a3))) 1))), (19, .int .i64 (IntKind.wrap .i64 ((IntKind.wrap .i64 (shr .u64 (IntKind.wrap .u64 (IntKind.wrap .i64 (a1 + a3))) 1)) + a2))), (20, .int .i64 r263)] t) ?_ ?_
        · refine gk_block (by kernel_rfl) ?_
          refine gk_pick [0, 1, 2, 3, 4, 18, 19, 20, 21, 22] (K' := [(0, .slice A0 a0.length c0), (1, .int .i64 a1), (2, .int .i64 a2), (3, .int .i64 a3), (4, .func (.func 145) #[] #[]), (18, .int .i64 (IntKind.wrap .i64 (shr .u64 (IntKind.wrap .u64 (IntKind.wrap .i64 (a1 + a3))) 1))), (19, .int .i64 (IntKind.wrap .i64 ((IntKind.wrap .i64 (shr .u64 (IntKind.wrap .u64 (IntKind.wrap .i64 (a1 + a3))) 1)) + a2))), (20, .int .i64 j253.1), (21, .int .i64 j253.2), (22, .int .i64 (IntKind.wrap .i64 ((IntKind.wrap .i64 ((IntKind.wrap .i64 (shr .u64 (IntKind.wrap .u64 (IntKind.wrap .i64 (a1 + a3))) 1)) + a2)) - 1)))]) (by kernel_rfl) ?_
          intro t hK
          refine gc_loop (slices_symMergeCmpFunc_l274 a0 a1 a2 a3) (fun s265 t I' L' => I257 ≤ I' ∧ C0 ++ L = L' ∧ Knows 220 [(0, .slice A0 a0.length c0), (1, .int .i64 a1), (2, .int .i64 a2), (3, .int .i64 a3), (4, .func (.func 145) #[] #[]), (18, .int .i64 (IntKind.wrap .i64 (shr .u64 (IntKind.wrap .u64 (IntKind.wrap .i64 (a1 + a3))) 1))), (19, .int .i64 (IntKind.wrap .i64 ((IntKind.wrap .i64 (shr .u64 (IntKind.wrap .u64 (IntKind.wrap .i64 (a1 + a3))) 1)) + a2))), (20, .int .i64 s265.1), (21, .int .i64 s265.2), (22, .int .i64 (IntKind.wrap .i64 ((IntKind.wrap .i64 ((IntKind.wrap .i64 (shr .u64 (IntKind.wrap .u64 (IntKind.wrap .i64 (a1 + a3))) 1)) + a2)) - 1)))] t) (by kernel_rfl) ?_ hl264 ⟨(Imm.refl _), rfl, hK⟩
          rintro s265 o266 t I270 L' hb267 ⟨hI268, rfl, hK269⟩
          unfold slices_symMergeCmpFunc_l274 at hb267
          refine gk_at hK269 ?_
          refine gk_seq (by kernel_rfl) ?_
          refine gk_seq (by kernel_rfl) ?_
          refine gk_region (by kernel_rfl) ?_
          refine gl_pure 3 [0, 1, 2, 3, 4, 18, 19, 20, 21, 22, 151] (K' := [(0, .slice A0 a0.length c0), (1, .int .i64 a1), (2, .int .i64 a2), (3, .int .i64 a3), (4, .func (.func 145) #[] #[]), (18, .int .i64 (IntKind.wrap .i64 (shr .u64 (IntKind.wrap .u64 (IntKind.wrap .i64 (a1 + a3))) 1))), (19, .int .i64 (IntKind.wrap .i64 ((IntKind.wrap .i64 (shr .u64 (IntKind.wrap .u64 (IntKind.wrap .i64 (a1 + a3))) 1)) + a2))), (20, .int .i64 s265.1), (21, .int .i64 s265.2), (22, .int .i64 (IntKind.wrap .i64 ((IntKind.wrap .i64 ((IntKind.wrap .i64 (shr .u64 (IntKind.wrap .u64 (IntKind.wrap .i64 (a1 + a3))) 1)) + a2)) - 1))), (151, .bool (decide (s265.1 < s265.2)))]) (by kernel_rfl) ?_
          refine gl_atE (by kernel_rfl) ?_
          refine ge_seq ?_
          refine gk_cond (b := (decide (s265.1 < s265.2))) (by kernel_rfl) (by kernel_rfl) (fun hc276 => ?_) (fun hc276 => ?_)
          · have hb267 := cond_t hc276 hb267
            refine gk_skip (by kernel_rfl) ?_
            refine ge_seq ?_
            refine gk_block (by kernel_rfl) ?_
            refine gk_seq (by kernel_rfl) ?_
            refine gk_region (by kernel_rfl) ?_
            refine gl_pure 7 [0, 1, 2, 3, 4, 18, 19, 20, 21, 22, 23] (K' := [(0, .slice A0 a0.length c0), (1, .int .i64 a1), (2, .int .i64 a2), (3, .int .i64 a3), (4, .func (.func 145) #[] #[]), (18, .int .i64 (IntKind.wrap .i64 (shr .u64 (IntKind.wrap .u64 (IntKind.wrap .i64 (a1 + a3))) 1))), (19, .int .i64 (IntKind.wrap .i64 ((IntKind.wrap .i64 (shr .u64 (IntKind.wrap .u64 (IntKind.wrap .i64 (a1 + a3))) 1)) + a2))), (20, .int .i64 s265.1), (21, .int .i64 s265.2), (22, .int .i64 (IntKind.wrap .i64 ((IntKind.wrap .i64 ((IntKind.wrap .i64 (shr .u64 (IntKind.wrap .u64 (IntKind.wrap .i64 (a1 + a3))) 1)) + a2)) - 1))), (23, .int .i64 (IntKind.wrap .i64 (shr .u64 (IntKind.wrap .u64 (IntKind.wrap .i64 (s265.1 + s265.2))) 1)))]) (by kernel_rfl) ?_
            refine gl_atE (by kernel_rfl) ?_
            refine ge_seq ?_
            refine gk_seq (by kernel_rfl) ?_
            refine gk_draw 11 [(0, true), (1, true), (2, true), (3, true), (4, true), (5, true), (6, true), (7, true), (8, true), (9, true), (10, true)] (C0 ++ []) (List.forall_mem_append.2 ⟨fun q hq => (List.mem_append_left _ hq), (fun p hp => by cases hp)⟩) (by kernel_rfl) (by kernel_rfl) (by kernel_rfl) ?_ (by kernel_rfl)
            refine gd_pure 5 [0, 1, 2, 3, 4, 18, 19, 20, 21, 22, 23, 158, 159, 162] (K' := [(0, .slice A0 a0.length c0), (1, .int .i64 a1), (2, .int .i64 a2), (3, .int .i64 a3), (4, .func (.func 145) #[] #[]), (18, .int .i64 (IntKind.wrap .i64 (shr .u64 (IntKind.wrap .u64 (IntKind.wrap .i64 (a1 + a3))) 1))), (19, .int .i64 (IntKind.wrap .i64 ((IntKind.wrap .i64 (shr .u64 (IntKind.wrap .u64 (IntKind.wrap .i64 (a1 + a3))) 1)) + a2))), (20, .int .i64 s265.1), (21, .int .i64 s265.2), (22, .int .i64 (IntKind.wrap .i64 ((IntKind.wrap .i64 ((IntKind.wrap .i64 (shr .u64 (IntKind.wrap .u64 (IntKind.wrap .i64 (a1 + a3))) 1)) + a2)) - 1))), (23, .int .i64 (IntKind.wrap .i64 (shr .u64 (IntKind.wrap .u64 (IntKind.wrap .i64 (s265.1 + s265.2))) 1))), (158, .func (.func 145) #[] #[]), (159, .slice A0 a0.length c0), (162, .int .i64 (IntKind.wrap .i64 ((IntKind.wrap .i64 ((IntKind.wrap .i64 ((IntKind.wrap .i64 (shr .u64 (IntKind.wrap .u64 (IntKind.wrap .i64 (a1 + a3))) 1)) + a2)) - 1)) - (IntKind.wrap .i64 (shr .u64 (IntKind.wrap .u64 (IntKind.wrap .i64 (s265.1 + s265.2))) 1)))))]) (s' := [(5, true), (6, true), (7, true), (8, true), (9, true), (10, true)]) (CC.refl (List.forall_mem_append.2 ⟨fun q hq => (List.mem_append_left _ hq), (fun p hp => by cases hp)⟩)) (by kernel_rfl) ?_
            obtain ⟨x277, hx278, hb267⟩ := bind_some hb267
            obtain ⟨p279, cs280, hR281, hA282, ha283, hg287⟩ := OwnS.ixAtG hx278 (hO0.mono (Imm.trans hI255 hI268))
            have hi284 := ix_some hx278
            obtain ⟨b285, rfl, hf286⟩ := hR281
            refine gd_q (v := .pointer (some p279)) (by kernel_rfl) (by kernel_rfl) (CC.refl (List.forall_mem_append.2 ⟨fun q hq => (List.mem_append_left _ hq), (fun p hp => by cases hp)⟩)) (fun I' L' T hC kk => gl_indexAddrF (c := c0) (T' := 43) (e := 37) (xs := (.tmp 159)) (xi := (.tmp 162)) (kd := .i64) ha283 hi284.1 hi284.2.1 (by kernel_rfl) (by kernel_rfl) (by kernel_rfl) (by kernel_rfl) (by kernel_rfl) kk) ?_
            refine gd_q (v := .float .f64 b285) (by kernel_rfl) (by kernel_rfl) (CC.refl (List.forall_mem_append.2 ⟨fun q hq => (List.mem_append_left _ hq), (fun p hp => by cases hp)⟩)) (fun I' L' T hC kk => gl_loadO (T' := 37) (xp := (.tmp 163)) (p := p279) (c := .float .f64 b285) (n := 1) (by kernel_rfl) (by kernel_rfl) (by kernel_rfl) (by kernel_rfl) (hA282 _ _ (fun q hq => hC.sub _ (List.mem_append_left _ hq))) kk) ?_
            refine gd_pure 2 [0, 1, 2, 3, 4, 18, 19, 20, 21, 22, 23, 158, 164, 165, 166] (K' := [(0, .slice A0 a0.length c0), (1, .int .i64 a1), (2, .int .i64 a2), (3, .int .i64 a3), (4, .func (.func 145) #[] #[]), (18, .int .i64 (IntKind.wrap .i64 (shr .u64 (IntKind.wrap .u64 (IntKind.wrap .i64 (a1 + a3))) 1))), (19, .int .i64 (IntKind.wrap .i64 ((IntKind.wrap .i64 (shr .u64 (IntKind.wrap .u64 (IntKind.wrap .i64 (a1 + a3))) 1)) + a2))), (20, .int .i64 s265.1), (21, .int .i64 s265.2), (22, .int .i64 (IntKind.wrap .i64 ((IntKind.wrap .i64 ((IntKind.wrap .i64 (shr .u64 (IntKind.wrap .u64 (IntKind.wrap .i64 (a1 + a3))) 1)) + a2)) - 1))), (23, .int .i64 (IntKind.wrap .i64 (shr .u64 (IntKind.wrap .u64 (IntKind.wrap .i64 (s265.1 + s265.2))) 1))), (158, .func (.func 145) #[] #[]), (164, .float .f64 b285), (165, .slice A0 a0.length c0), (166, .int .i64 (IntKind.wrap .i64 (shr .u64 (IntKind.wrap .u64 (IntKind.wrap .i64 (s265.1 + s265.2))) 1)))]) (s' := [(9, true), (10, true)]) (CC.refl (List.forall_mem_append.2 ⟨fun q hq => (List.mem_append_left _ hq), (fun p hp => by cases hp)⟩)) (by kernel_rfl) ?_
            obtain ⟨x288, hx289, hb267⟩ := bind_some hb267
            obtain ⟨p290, cs291, hR292, hA293, ha294, hg298⟩ := OwnS.ixAtG hx289 (hO0.mono (Imm.trans hI255 hI268))
            have hi295 := ix_some hx289
            obtain ⟨b296, rfl, hf297⟩ := hR292
            refine gd_q (v := .pointer (some p290)) (by kernel_rfl) (by kernel_rfl) (CC.refl (List.forall_mem_append.2 ⟨fun q hq => (List.mem_append_left _ hq), (fun p hp => by cases hp)⟩)) (fun I' L' T hC kk => gl_indexAddrF (c := c0) (T' := 43) (e := 37) (xs := (.tmp 165)) (xi := (.tmp 166)) (kd := .i64) ha294 hi295.1 hi295.2.1 (by kernel_rfl) (by kernel_rfl) (by kernel_rfl) (by kernel_rfl) (by kernel_rfl) kk) ?_
            refine gd_q (v := .float .f64 b296) (by kernel_rfl) (by kernel_rfl) (CC.refl (List.forall_mem_append.2 ⟨fun q hq => (List.mem_append_left _ hq), (fun p hp => by cases hp)⟩)) (fun I' L' T hC kk => gl_loadO (T' := 37) (xp := (.tmp 167)) (p := p290) (c := .float .f64 b296) (n := 1) (by kernel_rfl) (by kernel_rfl) (by kernel_rfl) (by kernel_rfl) (hA293 _ _ (fun q hq => hC.sub _ (List.mem_append_left _ hq))) kk) ?_
            refine gd_done ?_
            obtain ⟨y299, hx300, hb267⟩ := bind_some hb267
            refine gl_callQ (by kernel_rfl) (aggr_ahead_walk (r := y299) hf286 hf297 hx300 _) ?_
            refine gl_pure 2 [0, 1, 2, 3, 4, 18, 19, 20, 21, 22, 23, 171] (K' := [(0, .slice A0 a0.length c0), (1, .int .i64 a1), (2, .int .i64 a2), (3, .int .i64 a3), (4, .func (.func 145) #[] #[]), (18, .int .i64 (IntKind.wrap .i64 (shr .u64 (IntKind.wrap .u64 (IntKind.wrap .i64 (a1 + a3))) 1))), (19, .int .i64 (IntKind.wrap .i64 ((IntKind.wrap .i64 (shr .u64 (IntKind.wrap .u64 (IntKind.wrap .i64 (a1 + a3))) 1)) + a2))), (20, .int .i64 s265.1), (21, .int .i64 s265.2), (22, .int .i64 (IntKind.wrap .i64 ((IntKind.wrap .i64 ((IntKind.wrap .i64 (shr .u64 (IntKind.wrap .u64 (IntKind.wrap .i64 (a1 + a3))) 1)) + a2)) - 1))), (23, .int .i64 (IntKind.wrap .i64 (shr .u64 (IntKind.wrap .u64 (IntKind.wrap .i64 (s265.1 + s265.2))) 1))), (171, .bool (!(decide (y299 < 0))))]) (by kernel_rfl) ?_
            refine gl_atE (by kernel_rfl) ?_
            refine ge_seq ?_
            obtain ⟨j301, hj302, hb267⟩ := bind_some hb267
            refine gk_join (fun t I' L' => I270 ≤ I' ∧ C0 ++ L = L' ∧ Knows 220 [(0, .slice A0 a0.length c0), (1, .int .i64 a1), (2, .int .i64 a2), (3, .int .i64 a3), (4, .func (.func 145) #[] #[]), (18, .int .i64 (IntKind.wrap .i64 (shr .u64 (IntKind.wrap .u64 (IntKind.wrap .i64 (a1 + a3))) 1))), (19, .int .i64 (IntKind.wrap .i64 ((IntKind.wrap .i64 (shr .u64 (IntKind.wrap .u64 (IntKind.wrap .i64 (a1 + a3))) 1)) + a2))), (20, .int .i64 j301.1), (21, .int .i64 j301.2), (22, .int .i64 (IntKind.wrap .i64 ((IntKind.wrap .i64 ((IntKind.wrap .i64 (shr .u64 (IntKind.wrap .u64 (IntKind.wrap .i64 (a1 + a3))) 1)) + a2)) - 1)))] t) ?_ ?_
            · refine gk_cond (b := (!(decide (y299 < 0)))) (by kernel_rfl) (by kernel_rfl) (fun hc306 => ?_) (fun hc306 => ?_)
              · have hj302 := cond_t hc306 hj302
                refine gk_region (by kernel_rfl) ?_
                refine gl_pure 3 [0, 1, 2, 3, 4, 18, 19, 20, 21, 22] (K' := [(0, .slice A0 a0.length c0), (1, .int .i64 a1), (2, .int .i64 a2), (3, .int .i64 a3), (4, .func (.func 145) #[] #[]), (18, .int .i64 (IntKind.wrap .i64 (shr .u64 (IntKind.wrap .u64 (IntKind.wrap .i64 (a1 + a3))) 1))), (19, .int .i64 (IntKind.wrap .i64 ((IntKind.wrap .i64 (shr .u64 (IntKind.wrap .u64 (IntKind.wrap .i64 (a1 + a3))) 1)) + a2))), (20, .int .i64 (IntKind.wrap .i64 ((IntKind.wrap .i64 (shr .u64 (IntKind.wrap .u64 (IntKind.wrap .i64 (s265.1 + s265.2))) 1)) + 1))), (21, .int .i64 s265.2), (22, .int .i64 (IntKind.wrap .i64 ((IntKind.wrap .i64 ((IntKind.wrap .i64 (shr .u64 (IntKind.wrap .u64 (IntKind.wrap .i64 (a1 + a3))) 1)) + a2)) - 1)))]) (by kernel_rfl) ?_
                refine gl_atE (by kernel_rfl) ?_
                obtain rfl := some_inj hj302
                exact ge_mid fun t ht => ⟨(Imm.refl _), rfl, ht.pick (l := [0, 1, 2, 3, 4, 18, 19, 20, 21, 22]) (by kernel_rfl)⟩
              · have hj302 := cond_f hc306 hj302
                refine gk_region (by kernel_rfl) ?_
                refine gl_pure 2 [0, 1, 2, 3, 4, 18, 19, 20, 21, 22] (K' := [(0, .slice A0 a0.length c0), (1, .int .i64 a1), (2, .int .i64 a2), (3, .int .i64 a3), (4, .func (.func 145) #[] #[]), (18, .int .i64 (IntKind.wrap .i64 (shr .u64 (IntKind.wrap .u64 (IntKind.wrap .i64 (a1 + a3))) 1))), (19, .int .i64 (IntKind.wrap .i64 ((IntKind.wrap .i64 (shr .u64 (IntKind.wrap .u64 (IntKind.wrap .i64 (a1 + a3))) 1)) + a2))), (20, .int .i64 s265.1), (21, .int .i64 (IntKind.wrap .i64 (shr .u64 (IntKind.wrap .u64 (IntKind.wrap .i64 (s265.1 + s265.2))) 1))), (22, .int .i64 (IntKind.wrap .i64 ((IntKind.wrap .i64 ((IntKind.wrap .i64 (shr .u64 (IntKind.wrap .u64 (IntKind.wrap .i64 (a1 + a3))) 1)) + a2)) - 1)))]) (by kernel_rfl) ?_
                refine gl_atE (by kernel_rfl) ?_
                obtain rfl := some_inj hj302
                exact ge_mid fun t ht => ⟨(Imm.refl _), rfl, ht.pick (l := [0, 1, 2, 3, 4, 18, 19, 20, 21, 22]) (by kernel_rfl)⟩
            · rintro t I305 L' ⟨hI303, rfl, hK304⟩
              refine ge_at hK304 ?_
              refine ge_block_normal ?_
              obtain rfl := some_inj hb267
              exact ge_round fun t ht => ⟨(Imm.trans hI268 hI303), rfl, ht.pick (l := [0, 1, 2, 3, 4, 18, 19, 20, 21, 22]) (by kernel_rfl)⟩
          · have hb267 := cond_f hc276 hb267
            refine gk_exit (by kernel_rfl) ?_
            refine ge_seq_exit ?_
            obtain rfl := some_inj hb267
            refine ge_round_out (fun hrr => ?_) (by intro h; cases h)
            obtain rfl := hrr
            refine ge_block_hit (by kernel_rfl) ?_
            exact ge_mid fun t ht => ⟨hI268, rfl, ht.pick (l := [0, 1, 2, 3, 4, 18, 19, 20]) (by kernel_rfl)⟩
        · rintro t I273 L' ⟨hI271, rfl, hK272⟩
          refine ge_at hK272 ?_
          refine ge_seq ?_
          refine gk_seq (by kernel_rfl) ?_
          refine gk_region (by kernel_rfl) ?_
          refine gl_pure 4 [0, 1, 2, 3, 4, 18, 20, 24] (K' := [(0, .slice A0 a0.length c0), (1, .int .i64 a1), (2, .int .i64 a2), (3, .int .i64 a3), (4, .func (.func 145) #[] #[]), (18, .int .i64 (IntKind.wrap .i64 (shr .u64 (IntKind.wrap .u64 (IntKind.wrap .i64 (a1 + a3))) 1))), (20, .int .i64 r263), (24, .int .i64 (IntKind.wrap .i64 ((IntKind.wrap .i64 ((IntKind.wrap .i64 (shr .u64 (IntKind.wrap .u64 (IntKind.wrap .i64 (a1 + a3))) 1)) + a2)) - r263)))]) (by kernel_rfl) ?_
          refine gl_atE (by kernel_rfl) ?_
          refine ge_seq ?_
          refine gk_seq (by kernel_rfl) ?_
          refine gk_seq (by kernel_rfl) ?_
          obtain ⟨b309, hb310⟩ : ∃ z, z = ((decide (r263 < a2)) && (decide (a2 < (IntKind.wrap .i64 ((IntKind.wrap .i64 ((IntKind.wrap .i64 (shr .u64 (IntKind.wrap .u64 (IntKind.wrap .i64 (a1 + a3))) 1)) + a2)) - r263))))) := ⟨_, rfl⟩
          refine gk_join (fun t I' L' => I273 ≤ I' ∧ C0 ++ L = L' ∧ Knows 220 [(0, .slice A0 a0.length c0), (1, .int .i64 a1), (2, .int .i64 a2), (3, .int .i64 a3), (4, .func (.func 145) #[] #[]), (18, .int .i64 (IntKind.wrap .i64 (shr .u64 (IntKind.wrap .u64 (IntKind.wrap .i64 (a1 + a3))) 1))), (20, .int .i64 r263), (24, .int .i64 (IntKind.wrap .i64 ((IntKind.wrap .i64 ((IntKind.wrap .i64 (shr .u64 (IntKind.wrap .u64 (IntKind.wrap .i64 (a1 + a3))) 1)) + a2)) - r263))), (185, .bool b309)] t) ?_ ?_
          · refine gk_region (by kernel_rfl) ?_
            refine gl_pure 4 [0, 1, 2, 3, 4, 18, 20, 24, 181] (K' := [(0, .slice A0 a0.length c0), (1, .int .i64 a1), (2, .int .i64 a2), (3, .int .i64 a3), (4, .func (.func 145) #[] #[]), (18, .int .i64 (IntKind.wrap .i64 (shr .u64 (IntKind.wrap .u64 (IntKind.wrap .i64 (a1 + a3))) 1))), (20, .int .i64 r263), (24, .int .i64 (IntKind.wrap .i64 ((IntKind.wrap .i64 ((IntKind.wrap .i64 (shr .u64 (IntKind.wrap .u64 (IntKind.wrap .i64 (a1 + a3))) 1)) + a2)) - r263))), (181, .bool (decide (r263 < a2)))]) (by kernel_rfl) ?_
            refine gl_case 181 (b := (decide (r263 < a2))) (by kernel_rfl) (fun hc312 => ?_) (fun hc312 => ?_)
            · refine gl_pure 4 [0, 1, 2, 3, 4, 18, 20, 24, 185] (K' := [(0, .slice A0 a0.length c0), (1, .int .i64 a1), (2, .int .i64 a2), (3, .int .i64 a3), (4, .func (.func 145) #[] #[]), (18, .int .i64 (IntKind.wrap .i64 (shr .u64 (IntKind.wrap .u64 (IntKind.wrap .i64 (a1 + a3))) 1))), (20, .int .i64 r263), (24, .int .i64 (IntKind.wrap .i64 ((IntKind.wrap .i64 ((IntKind.wrap .i64 (shr .u64 (IntKind.wrap .u64 (IntKind.wrap .i64 (a1 + a3))) 1)) + a2)) - r263))), (185, .bool (decide (a2 < (IntKind.wrap .i64 ((IntKind.wrap .i64 ((IntKind.wrap .i64 (shr .u64 (IntKind.wrap .u64 (IntKind.wrap .i64 (a1 + a3))) 1)) + a2)) - r263)))))]) (by kernel_rfl) ?_
              refine gl_atE (by kernel_rfl) ?_
              exact ge_mid fun t ht => ⟨(Imm.refl _), rfl, by rw [(show b309 = (decide (a2 < (IntKind.wrap .i64 ((IntKind.wrap .i64 ((IntKind.wrap .i64 (shr .u64 (IntKind.wrap .u64 (IntKind.wrap .i64 (a1 + a3))) 1)) + a2)) - r263)))) from hb310.trans (by first | (rw [hc312]; done) | (rw [hc312]; rfl) | (simp [hc312]; done) | (simp only [hc312]; rfl) | (simp at *; omega)))]; exact ht.pick (l := [0, 1, 2, 3, 4, 18, 20, 24, 185]) (by kernel_rfl)⟩
            · refine gl_pure 4 [0, 1, 2, 3, 4, 18, 20, 24, 185] (K' := [(0, .slice A0 a0.length c0), (1, .int .i64 a1), (2, .int .i64 a2), (3, .int .i64 a3), (4, .func (.func 145) #[] #[]), (18, .int .i64 (IntKind.wrap .i64 (shr .u64 (IntKind.wrap .u64 (IntKind.wrap .i64 (a1 + a3))) 1))), (20, .int .i64 r263), (24, .int .i64 (IntKind.wrap .i64 ((IntKind.wrap .i64 ((IntKind.wrap .i64 (shr .u64 (IntKind.wrap .u64 (IntKind.wrap .i64 (a1 + a3))) 1)) + a2)) - r263))), (185, .bool false)]) (by kernel_rfl) ?_
              refine gl_atE (by kernel_rfl) ?_
              exact ge_mid fun t ht => ⟨(Imm.refl _), rfl, by rw [(show b309 = false from hb310.trans (by first | (rw [hc312]; done) | (rw [hc312]; rfl) | (simp [hc312]; done) | (simp only [hc312]; rfl) | (simp at *; omega)))]; exact ht.pick (l := [0, 1, 2, 3, 4, 18, 20, 24, 185]) (by kernel_rfl)⟩
          · rintro t I311 L' ⟨hI307, rfl, hK308⟩
            subst hb310
            refine ge_at hK308 ?_
            refine ge_seq ?_
            obtain ⟨j313, hj314, hr⟩ := bind_some hr
            refine gk_join (fun t I' L' => ∃ C316, OwnS Kd.flt 37 I' A0 c0 j313 C316 ∧ (j313.length = a0.length) ∧ I311 ≤ I' ∧ C316 ++ L = L' ∧ Knows 220 [(0, .slice A0 j313.length c0), (1, .int .i64 a1), (3, .int .i64 a3), (4, .func (.func 145) #[] #[]), (18, .int .i64 (IntKind.wrap .i64 (shr .u64 (IntKind.wrap .u64 (IntKind.wrap .i64 (a1 + a3))) 1))), (20, .int .i64 r263), (24, .int .i64 (IntKind.wrap .i64 ((IntKind.wrap .i64 ((IntKind.wrap .i64 (shr .u64 (IntKind.wrap .u64 (IntKind.wrap .i64 (a1 + a3))) 1)) + a2)) - r263)))] t) ?_ ?_
            · refine gk_cond (b := ((decide (r263 < a2)) && (decide (a2 < (IntKind.wrap .i64 ((IntKind.wrap .i64 ((IntKind.wrap .i64 (shr .u64 (IntKind.wrap .u64 (IntKind.wrap .i64 (a1 + a3))) 1)) + a2)) - r263)))))) (by kernel_rfl) (by kernel_rfl) (fun hc321 => ?_) (fun hc321 => ?_)
              · have hj314 := cond_t hc321 hj314
                refine gk_region (by kernel_rfl) ?_
                refine gl_pure 5 [0, 1, 3, 4, 18, 20, 24, 186, 187, 188, 189, 190] (K' := [(0, .slice A0 a0.length c0), (1, .int .i64 a1), (3, .int .i64 a3), (4, .func (.func 145) #[] #[]), (18, .int .i64 (IntKind.wrap .i64 (shr .u64 (IntKind.wrap .u64 (IntKind.wrap .i64 (a1 + a3))) 1))), (20, .int .i64 r263), (24, .int .i64 (IntKind.wrap .i64 ((IntKind.wrap .i64 ((IntKind.wrap .i64 (shr .u64 (IntKind.wrap .u64 (IntKind.wrap .i64 (a1 + a3))) 1)) + a2)) - r263))), (186, .slice A0 a0.length c0), (187, .int .i64 r263), (188, .int .i64 a2), (189, .int .i64 (IntKind.wrap .i64 ((IntKind.wrap .i64 ((IntKind.wrap .i64 (shr .u64 (IntKind.wrap .u64 (IntKind.wrap .i64 (a1 + a3))) 1)) + a2)) - r263))), (190, .func (.func 145) #[] #[])]) (by kernel_rfl) ?_
                obtain ⟨y322, hx323, hj314⟩ := bind_some hj314
                refine gl_call (by kernel_rfl) (slices_rotateCmpFunc_walk (r := y322) (A0 := A0) (c0 := c0) (C0 := C0) (a0 := a0) (hO0.mono (Imm.trans (Imm.trans hI255 hI271) hI307)) hx323 _) ?_
                rintro v I324 L325 hI326 ⟨C327, hO328, hO329, rfl, rfl⟩
                refine gl_pick [0, 1, 3, 4, 18, 20, 24, 186, 187, 188, 189, 190, 191] (K' := [(0, .slice A0 a0.length c0), (1, .int .i64 a1), (3, .int .i64 a3), (4, .func (.func 145) #[] #[]), (18, .int .i64 (IntKind.wrap .i64 (shr .u64 (IntKind.wrap .u64 (IntKind.wrap .i64 (a1 + a3))) 1))), (20, .int .i64 r263), (24, .int .i64 (IntKind.wrap .i64 ((IntKind.wrap .i64 ((IntKind.wrap .i64 (shr .u64 (IntKind.wrap .u64 (IntKind.wrap .i64 (a1 + a3))) 1)) + a2)) - r263))), (186, .slice A0 a0.length c0), (187, .int .i64 r263), (188, .int .i64 a2), (189, .int .i64 (IntKind.wrap .i64 ((IntKind.wrap .i64 ((IntKind.wrap .i64 (shr .u64 (IntKind.wrap .u64 (IntKind.wrap .i64 (a1 + a3))) 1)) + a2)) - r263))), (190, .func (.func 145) #[] #[]), (191, .tuple #[])]) (by kernel_rfl) ?_
                refine gl_kv (congrArg (fun (zz : Nat) => ([(0, .slice A0 zz c0), (1, .int .i64 a1), (3, .int .i64 a3), (4, .func (.func 145) #[] #[]), (18, .int .i64 (IntKind.wrap .i64 (shr .u64 (IntKind.wrap .u64 (IntKind.wrap .i64 (a1 + a3))) 1))), (20, .int .i64 r263), (24, .int .i64 (IntKind.wrap .i64 ((IntKind.wrap .i64 ((IntKind.wrap .i64 (shr .u64 (IntKind.wrap .u64 (IntKind.wrap .i64 (a1 + a3))) 1)) + a2)) - r263))), (186, .slice A0 zz c0), (187, .int .i64 r263), (188, .int .i64 a2), (189, .int .i64 (IntKind.wrap .i64 ((IntKind.wrap .i64 ((IntKind.wrap .i64 (shr .u64 (IntKind.wrap .u64 (IntKind.wrap .i64 (a1 + a3))) 1)) + a2)) - r263))), (190, .func (.func 145) #[] #[]), (191, .tuple #[])] : KV)) hO329.symm) ?_
                refine gl_atE (by kernel_rfl) ?_
                obtain rfl := some_inj hj314
                exact ge_mid fun t ht => ⟨C327, hO328, (Eq.trans hO329 rfl), hI326, rfl, ht.pick (l := [0, 1, 3, 4, 18, 20, 24]) (by kernel_rfl)⟩
              · have hj314 := cond_f hc321 hj314
                refine gk_skip (by kernel_rfl) ?_
                obtain rfl := some_inj hj314
                exact ge_mid fun t ht => ⟨C0, (hO0.mono (Imm.trans (Imm.trans hI255 hI271) hI307)), rfl, (Imm.refl _), rfl, ht.pick (l := [0, 1, 3, 4, 18, 20, 24]) (by kernel_rfl)⟩
            · rintro t I320 L' ⟨C316, hO317, hL318, hI315, rfl, hK319⟩
              refine ge_at hK319 ?_
              refine ge_seq ?_
              refine gk_seq (by kernel_rfl) ?_
              refine gk_seq (by kernel_rfl) ?_
              obtain ⟨b332, hb333⟩ : ∃ z, z = ((decide (a1 < r263)) && (decide (r263 < (IntKind.wrap .i64 (shr .u64 (IntKind.wrap .u64 (IntKind.wrap .i64 (a1 + a3))) 1))))) := ⟨_, rfl⟩
              refine gk_join (fun t I' L' => I320 ≤ I' ∧ C316 ++ L = L' ∧ Knows 220 [(0, .slice A0 j313.length c0), (1, .int .i64 a1), (3, .int .i64 a3), (4, .func (.func 145) #[] #[]), (18, .int .i64 (IntKind.wrap .i64 (shr .u64 (IntKind.wrap .u64 (IntKind.wrap .i64 (a1 + a3))) 1))), (20, .int .i64 r263), (24, .int .i64 (IntKind.wrap .i64 ((IntKind.wrap .i64 ((IntKind.wrap .i64 (shr .u64 (IntKind.wrap .u64 (IntKind.wrap .i64 (a1 + a3))) 1)) + a2)) - r263))), (199, .bool b332)] t) ?_ ?_
              · refine gk_region (by kernel_rfl) ?_
                refine gl_pure 4 [0, 1, 3, 4, 18, 20, 24, 195] (K' := [(0, .slice A0 j313.length c0), (1, .int .i64 a1), (3, .int .i64 a3), (4, .func (.func 145) #[] #[]), (18, .int .i64 (IntKind.wrap .i64 (shr .u64 (IntKind.wrap .u64 (IntKind.wrap .i64 (a1 + a3))) 1))), (20, .int .i64 r263), (24, .int .i64 (IntKind.wrap .i64 ((IntKind.wrap .i64 ((IntKind.wrap .i64 (shr .u64 (IntKind.wrap .u64 (IntKind.wrap .i64 (a1 + a3))) 1)) + a2)) - r263))), (195, .bool (decide (a1 < r263)))]) (by kernel_rfl) ?_
                refine gl_case 195 (b := (decide (a1 < r263))) (by kernel_rfl) (fun hc335 => ?_) (fun hc335 => ?_)
                · refine gl_pure 4 [0, 1, 3, 4, 18, 20, 24, 199] (K' := [(0, .slice A0 j313.length c0), (1, .int .i64 a1), (3, .int .i64 a3), (4, .func (.func 145) #[] #[]), (18, .int .i64 (IntKind.wrap .i64 (shr .u64 (IntKind.wrap .u64 (IntKind.wrap .i64 (a1 + a3))) 1))), (20, .int .i64 r263), (24, .int .i64 (IntKind.wrap .i64 ((IntKind.wrap .i64 ((IntKind.wrap .i64 (shr .u64 (IntKind.wrap .u64 (IntKind.wrap .i64 (a1 + a3))) 1)) + a2)) - r263))), (199, .bool (decide (r263 < (IntKind.wrap .i64 (shr .u64 (IntKind.wrap .u64 (IntKind.wrap .i64 (a1 + a3))) 1)))))]) (by kernel_rfl) ?_
                  refine gl_atE (by kernel_rfl) ?_
                  exact ge_mid fun t ht => ⟨(Imm.refl _), rfl, by rw [(show b332 = (decide (r263 < (IntKind.wrap .i64 (shr .u64 (IntKind.wrap .u64 (IntKind.wrap .i64 (a1 + a3))) 1)))) from hb333.trans (by first | (rw [hc335]; done) | (rw [hc335]; rfl) | (simp [hc335]; done) | (simp only [hc335]; rfl) | (simp at *; omega)))]; exact ht.pick (l := [0, 1, 3, 4, 18, 20, 24, 199]) (by kernel_rfl)⟩
                · refine gl_pure 4 [0, 1, 3, 4, 18, 20, 24, 199] (K' := [(0, .slice A0 j313.length c0), (1, .int .i64 a1), (3, .int .i64 a3), (4, .func (.func 145) #[] #[]), (18, .int .i64 (IntKind.wrap .i64 (shr .u64 (IntKind.wrap .u64 (IntKind.wrap .i64 (a1 + a3))) 1))), (20, .int .i64 r263), (24, .int .i64 (IntKind.wrap .i64 ((IntKind.wrap .i64 ((IntKind.wrap .i64 (shr .u64 (IntKind.wrap .u64 (IntKind.wrap .i64 (a1 + a3))) 1)) + a2)) - r263))), (199, .bool false)]) (by kernel_rfl) ?_
                  refine gl_atE (by kernel_rfl) ?_
                  exact ge_mid fun t ht => ⟨(Imm.refl _), rfl, by rw [(show b332 = false from hb333.trans (by first | (rw [hc335]; done) | (rw [hc335]; rfl) | (simp [hc335]; done) | (simp only [hc335]; rfl) | (simp at *; omega)))]; exact ht.pick (l := [0, 1, 3, 4, 18, 20, 24, 199]) (by kernel_rfl)⟩
              · rintro t I334 L' ⟨hI330, rfl, hK331⟩
                subst hb333
                refine ge_at hK331 ?_
                refine ge_seq ?_
                obtain ⟨j336, hj337, hr⟩ := bind_some hr
                refine gk_join (fun t I' L' => ∃ C339, OwnS Kd.flt 37 I' A0 c0 j336 C339 ∧ (j336.length = a0.length) ∧ I334 ≤ I' ∧ C339 ++ L = L' ∧ Knows 220 [(0, .slice A0 j336.length c0), (3, .int .i64 a3), (4, .func (.func 145) #[] #[]), (18, .int .i64 (IntKind.wrap .i64 (shr .u64 (IntKind.wrap .u64 (IntKind.wrap .i64 (a1 + a3))) 1))), (24, .int .i64 (IntKind.wrap .i64 ((IntKind.wrap .i64 ((IntKind.wrap .i64 (shr .u64 (IntKind.wrap .u64 (IntKind.wrap .i64 (a1 + a3))) 1)) + a2)) - r263)))] t) ?_ ?_
                · refine gk_cond (b := ((decide (a1 < r263)) && (decide (r263 < (IntKind.wrap .i64 (shr .u64 (IntKind.wrap .u64 (IntKind.wrap .i64 (a1 + a3))) 1)))))) (by kernel_rfl) (by kernel_rfl) (fun hc344 => ?_) (fun hc344 => ?_)
                  · have hj337 := cond_t hc344 hj337
                    refine gk_region (by kernel_rfl) ?_
                    refine gl_pure 5 [0, 3, 4, 18, 24, 200, 201, 202, 203, 204] (K' := [(0, .slice A0 j313.length c0), (3, .int .i64 a3), (4, .func (.func 145) #[] #[]), (18, .int .i64 (IntKind.wrap .i64 (shr .u64 (IntKind.wrap .u64 (IntKind.wrap .i64 (a1 + a3))) 1))), (24, .int .i64 (IntKind.wrap .i64 ((IntKind.wrap .i64 ((IntKind.wrap .i64 (shr .u64 (IntKind.wrap .u64 (IntKind.wrap .i64 (a1 + a3))) 1)) + a2)) - r263))), (200, .slice A0 j313.length c0), (201, .int .i64 a1), (202, .int .i64 r263), (203, .int .i64 (IntKind.wrap .i64 (shr .u64 (IntKind.wrap .u64 (IntKind.wrap .i64 (a1 + a3))) 1))), (204, .func (.func 145) #[] #[])]) (by kernel_rfl) ?_
                    obtain ⟨y345, hx346, hj337⟩ := bind_some hj337
                    refine gl_call (by kernel_rfl) (rec__walk (r := y345) (A0 := A0) (c0 := c0) (C0 := C316) (a0 := j313) (hO317.mono hI330) hx346 _) ?_
                    rintro v I347 L348 hI349 ⟨C350, hO351, hO352, rfl, rfl⟩
                    refine gl_pick [0, 3, 4, 18, 24, 200, 201, 202, 203, 204, 205] (K' := [(0, .slice A0 j313.length c0), (3, .int .i64 a3), (4, .func (.func 145) #[] #[]), (18, .int .i64 (IntKind.wrap .i64 (shr .u64 (IntKind.wrap .u64 (IntKind.wrap .i64 (a1 + a3))) 1))), (24, .int .i64 (IntKind.wrap .i64 ((IntKind.wrap .i64 ((IntKind.wrap .i64 (shr .u64 (IntKind.wrap .u64 (IntKind.wrap .i64 (a1 + a3))) 1)) + a2)) - r263))), (200, .slice A0 j313.length c0), (201, .int .i64 a1), (202, .int .i64 r263), (203, .int .i64 (IntKind.wrap .i64 (shr .u64 (IntKind.wrap .u64 (IntKind.wrap .i64 (a1 + a3))) 1))), (204, .func (.func 145) #[] #[]), (205, .tuple #[])]) (by kernel_rfl) ?_
                    refine gl_kv (congrArg (fun (zz : Nat) => ([(0, .slice A0 zz c0), (3, .int .i64 a3), (4, .func (.func 145) #[] #[]), (18, .int .i64 (IntKind.wrap .i64 (shr .u64 (IntKind.wrap .u64 (IntKind.wrap .i64 (a1 + a3))) 1))), (24, .int .i64 (IntKind.wrap .i64 ((IntKind.wrap .i64 ((IntKind.wrap .i64 (shr .u64 (IntKind.wrap .u64 (IntKind.wrap .i64 (a1 + a3))) 1)) + a2)) - r263))), (200, .slice A0 zz c0), (201, .int .i64 a1), (202, .int .i64 r263), (203, .int .i64 (IntKind.wrap .i64 (shr .u64 (IntKind.wrap .u64 (IntKind.wrap .i64 (a1 + a3))) 1))), (204, .func (.func 145) #[] #[]), (205, .tuple #[])] : KV)) hO352.symm) ?_
                    refine gl_atE (by kernel_rfl) ?_
                    obtain rfl := some_inj hj337
                    exact ge_mid fun t ht => ⟨C350, hO351, (Eq.trans hO352 hL318), hI349, rfl, ht.pick (l := [0, 3, 4, 18, 24]) (by kernel_rfl)⟩
                  · have hj337 := cond_f hc344 hj337
                    refine gk_skip (by kernel_rfl) ?_
                    obtain rfl := some_inj hj337
                    exact ge_mid fun t ht => ⟨C316, (hO317.mono hI330), hL318, (Imm.refl _), rfl, ht.pick (l := [0, 3, 4, 18, 24]) (by kernel_rfl)⟩
                · rintro t I343 L' ⟨C339, hO340, hL341, hI338, rfl, hK342⟩
                  refine ge_at hK342 ?_
                  refine ge_seq ?_
                  refine gk_seq (by kernel_rfl) ?_
                  obtain ⟨b355, hb356⟩ : ∃ z, z = ((decide ((IntKind.wrap .i64 (shr .u64 (IntKind.wrap .u64 (IntKind.wrap .i64 (a1 + a3))) 1)) < (IntKind.wrap .i64 ((IntKind.wrap .i64 ((IntKind.wrap .i64 (shr .u64 (IntKind.wrap .u64 (IntKind.wrap .i64 (a1 + a3))) 1)) + a2)) - r263)))) && (decide ((IntKind.wrap .i64 ((IntKind.wrap .i64 ((IntKind.wrap .i64 (shr .u64 (IntKind.wrap .u64 (IntKind.wrap .i64 (a1 + a3))) 1)) + a2)) - r263)) < a3))) := ⟨_, rfl⟩
                  refine gk_join (fun t I' L' => I343 ≤ I' ∧ C339 ++ L = L' ∧ Knows 220 [(0, .slice A0 j336.length c0), (3, .int .i64 a3), (4, .func (.func 145) #[] #[]), (18, .int .i64 (IntKind.wrap .i64 (shr .u64 (IntKind.wrap .u64 (IntKind.wrap .i64 (a1 + a3))) 1))), (24, .int .i64 (IntKind.wrap .i64 ((IntKind.wrap .i64 ((IntKind.wrap .i64 (shr .u64 (IntKind.wrap .u64 (IntKind.wrap .i64 (a1 + a3))) 1)) + a2)) - r263))), (213, .bool b355)] t) ?_ ?_
                  · refine gk_region (by kernel_rfl) ?_
                    refine gl_pure 4 [0, 3, 4, 18, 24, 209] (K' := [(0, .slice A0 j336.length c0), (3, .int .i64 a3), (4, .func (.func 145) #[] #[]), (18, .int .i64 (IntKind.wrap .i64 (shr .u64 (IntKind.wrap .u64 (IntKind.wrap .i64 (a1 + a3))) 1))), (24, .int .i64 (IntKind.wrap .i64 ((IntKind.wrap .i64 ((IntKind.wrap .i64 (shr .u64 (IntKind.wrap .u64 (IntKind.wrap .i64 (a1 + a3))) 1)) + a2)) - r263))), (209, .bool (decide ((IntKind.wrap .i64 (shr .u64 (IntKind.wrap .u64 (IntKind.wrap .i64 (a1 + a3))) 1)) < (IntKind.wrap .i64 ((IntKind.wrap .i64 ((IntKind.wrap .i64 (shr .u64 (IntKind.wrap .u64 (IntKind.wrap .i64 (a1 + a3))) 1)) + a2)) - r263)))))]) (by kernel_rfl) ?_
                    refine gl_case 209 (b := (decide ((IntKind.wrap .i64 (shr .u64 (IntKind.wrap .u64 (IntKind.wrap .i64 (a1 + a3))) 1)) < (IntKind.wrap .i64 ((IntKind.wrap .i64 ((IntKind.wrap .i64 (shr .u64 (IntKind.wrap .u64 (IntKind.wrap .i64 (a1 + a3))) 1)) + a2)) - r263))))) (by kernel_rfl) (fun hc358 => ?_) (fun hc358 => ?_)
                    · refine gl_pure 4 [0, 3, 4, 18, 24, 213] (K' := [(0, .slice A0 j336.length c0), (3, .int .i64 a3), (4, .func (.func 145) #[] #[]), (18, .int .i64 (IntKind.wrap .i64 (shr .u64 (IntKind.wrap .u64 (IntKind.wrap .i64 (a1 + a3))) 1))), (24, .int .i64 (IntKind.wrap .i64 ((IntKind.wrap .i64 ((IntKind.wrap .i64 (shr .u64 (IntKind.wrap .u64 (IntKind.wrap .i64 (a1 + a3))) 1)) + a2)) - r263))), (213, .bool (decide ((IntKind.wrap .i64 ((IntKind.wrap .i64 ((IntKind.wrap .i64 (shr .u64 (IntKind.wrap .u64 (IntKind.wrap .i64 (a1 + a3))) 1)) + a2)) - r263)) < a3)))]) (by kernel_rfl) ?_
                      refine gl_atE (by kernel_rfl) ?_
                      exact ge_mid fun t ht => ⟨(Imm.refl _), rfl, by rw [(show b355 = (decide ((IntKind.wrap .i64 ((IntKind.wrap .i64 ((IntKind.wrap .i64 (shr .u64 (IntKind.wrap .u64 (IntKind.wrap .i64 (a1 + a3))) 1)) + a2)) - r263)) < a3)) from hb356.trans (by first | (rw [hc358]; done) | (rw [hc358]; rfl) | (simp [hc358]; done) | (simp only [hc358]; rfl) | (simp at *; omega)))]; exact ht.pick (l := [0, 3, 4, 18, 24, 213]) (by kernel_rfl)⟩
                    · refine gl_pure 4 [0, 3, 4, 18, 24, 213] (K' := [(0, .slice A0 j336.length c0), (3, .int .i64 a3), (4, .func (.func 145) #[] #[]), (18, .int .i64 (IntKind.wrap .i64 (shr .u64 (IntKind.wrap .u64 (IntKind.wrap .i64 (a1 + a3))) 1))), (24, .int .i64 (IntKind.wrap .i64 ((IntKind.wrap .i64 ((IntKind.wrap .i64 (shr .u64 (IntKind.wrap .u64 (IntKind.wrap .i64 (a1 + a3))) 1)) + a2)) - r263))), (213, .bool false)]) (by kernel_rfl) ?_
                      refine gl_atE (by kernel_rfl) ?_
                      exact ge_mid fun t ht => ⟨(Imm.refl _), rfl, by rw [(show b355 = false from hb356.trans (by first | (rw [hc358]; done) | (rw [hc358]; rfl) | (simp [hc358]; done) | (simp only [hc358]; rfl) | (simp at *; omega)))]; exact ht.pick (l := [0, 3, 4, 18, 24, 213]) (by kernel_rfl)⟩
                  · rintro t I357 L' ⟨hI353, rfl, hK354⟩
                    subst hb356
                    refine ge_at hK354 ?_
                    refine ge_seq ?_
                    obtain ⟨j359, hj360, hr⟩ := bind_some hr
                    refine gk_join (fun t I' L' => ∃ C362, OwnS Kd.flt 37 I' A0 c0 j359 C362 ∧ (j359.length = a0.length) ∧ I357 ≤ I' ∧ C362 ++ L = L' ∧ Knows 220 [(0, .slice A0 j359.length c0)] t) ?_ ?_
                    · refine gk_cond (b := ((decide ((IntKind.wrap .i64 (shr .u64 (IntKind.wrap .u64 (IntKind.wrap .i64 (a1 + a3))) 1)) < (IntKind.wrap .i64 ((IntKind.wrap .i64 ((IntKind.wrap .i64 (shr .u64 (IntKind.wrap .u64 (IntKind.wrap .i64 (a1 + a3))) 1)) + a2)) - r263)))) && (decide ((IntKind.wrap .i64 ((IntKind.wrap .i64 ((IntKind.wrap .i64 (shr .u64 (IntKind.wrap .u64 (IntKind.wrap .i64 (a1 + a3))) 1)) + a2)) - r263)) < a3)))) (by kernel_rfl) (by kernel_rfl) (fun hc367 => ?_) (fun hc367 => ?_)
                      · have hj360 := cond_t hc367 hj360
                        refine gk_region (by kernel_rfl) ?_
                        refine gl_pure 5 [0, 214, 215, 216, 217, 218] (K' := [(0, .slice A0 j336.length c0), (214, .slice A0 j336.length c0), (215, .int .i64 (IntKind.wrap .i64 (shr .u64 (IntKind.wrap .u64 (IntKind.wrap .i64 (a1 + a3))) 1))), (216, .int .i64 (IntKind.wrap .i64 ((IntKind.wrap .i64 ((IntKind.wrap .i64 (shr .u64 (IntKind.wrap .u64 (IntKind.wrap .i64 (a1 + a3))) 1)) + a2)) - r263))), (217, .int .i64 a3), (218, .func (.func 145) #[] #[])]) (by kernel_rfl) ?_
                        obtain ⟨y368, hx369, hj360⟩ := bind_some hj360
                        refine gl_call (by kernel_rfl) (rec__walk (r := y368) (A0 := A0) (c0 := c0) (C0 := C339) (a0 := j336) (hO340.mono hI353) hx369 _) ?_
                        rintro v I370 L371 hI372 ⟨C373, hO374, hO375, rfl, rfl⟩
                        refine gl_pick [0, 214, 215, 216, 217, 218, 219] (K' := [(0, .slice A0 j336.length c0), (214, .slice A0 j336.length c0), (215, .int .i64 (IntKind.wrap .i64 (shr .u64 (IntKind.wrap .u64 (IntKind.wrap .i64 (a1 + a3))) 1))), (216, .int .i64 (IntKind.wrap .i64 ((IntKind.wrap .i64 ((IntKind.wrap .i64 (shr .u64 (IntKind.wrap .u64 (IntKind.wrap .i64 (a1 + a3))) 1)) + a2)) - r263))), (217, .int .i64 a3), (218, .func (.func 145) #[] #[]), (219, .tuple #[])]) (by kernel_rfl) ?_
                        refine gl_kv (congrArg (fun (zz : Nat) => ([(0, .slice A0 zz c0), (214, .slice A0 zz c0), (215, .int .i64 (IntKind.wrap .i64 (shr .u64 (IntKind.wrap .u64 (IntKind.wrap .i64 (a1 + a3))) 1))), (216, .int .i64 (IntKind.wrap .i64 ((IntKind.wrap .i64 ((IntKind.wrap .i64 (shr .u64 (IntKind.wrap .u64 (IntKind.wrap .i64 (a1 + a3))) 1)) + a2)) - r263))), (217, .int .i64 a3), (218, .func (.func 145) #[] #[]), (219, .tuple #[])] : KV)) hO375.symm) ?_
                        refine gl_atE (by kernel_rfl) ?_
                        obtain rfl := some_inj hj360
                        exact ge_mid fun t ht => ⟨C373, hO374, (Eq.trans hO375 hL341), hI372, rfl, ht.pick (l := [0]) (by kernel_rfl)⟩
                      · have hj360 := cond_f hc367 hj360
                        refine gk_skip (by kernel_rfl) ?_
                        obtain rfl := some_inj hj360
                        exact ge_mid fun t ht => ⟨C339, (hO340.mono hI353), hL341, (Imm.refl _), rfl, ht.pick (l := [0]) (by kernel_rfl)⟩
                    · rintro t I366 L' ⟨C362, hO363, hL364, hI361, rfl, hK365⟩
                      refine ge_at hK365 ?_
                      obtain rfl := some_inj hr
                      exact ge_result trivial ResOk.nil (Imm.trans (Imm.trans (Imm.trans (Imm.trans (Imm.trans (Imm.trans (Imm.trans hI255 hI271) hI307) hI315) hI330) hI338) hI353) hI361) ⟨C362, hO363, hL364, rfl, rfl⟩
theorem slices_symMergeCmpFunc_walk {a0 : List Fl} {A0 : Option Addr} {c0 : Nat} {C0 : Own} {a1 : Int} {a2 : Int} {a3 : Int} {I : Imm} {r : (List Fl)} (hO0 : OwnS Kd.flt 37 I A0 c0 a0 C0) (hr : slices_symMergeCmpFunc a0 a1 a2 a3 = some r) (L : Own) :
    CallsTo Tryz.prog 194 #[.slice A0 a0.length c0, .int .i64 a1, .int .i64 a2, .int .i64 a3, .func (.func 145) #[] #[]] I (C0 ++ L) (fun v I' L' => ∃ C0, OwnS Kd.flt 37 I' A0 c0 r C0 ∧ r.length = a0.length ∧ v = .tuple #[] ∧ C0 ++ L = L') := by
  have key : ∀ n : Nat, ∀ {a0 : List Fl} {A0 : Option Addr} {c0 : Nat} {C0 : Own} {a1 : Int} {a2 : Int} {a3 : Int} {I : Imm} {r : (List Fl)} (hO0 : OwnS Kd.flt 37 I A0 c0 a0 C0) (hr : iterF (fun (rec_ : ((List Fl) × Int × Int × Int) → Option (List Fl)) (x : (List Fl) × Int × Int × Int) => slices_symMergeCmpFunc_b (fun a0 a1 a2 a3 => rec_ (a0, a1, a2, a3)) x.1 x.2.1 x.2.2.1 x.2.2.2) n (a0, a1, a2, a3) = some r) (L : Own), CallsTo Tryz.prog 194 #[.slice A0 a0.length c0, .int .i64 a1, .int .i64 a2, .int .i64 a3, .func (.func 145) #[] #[]] I (C0 ++ L) (fun v I' L' => ∃ C0, OwnS Kd.flt 37 I' A0 c0 r C0 ∧ r.length = a0.length ∧ v = .tuple #[] ∧ C0 ++ L = L') := by
    intro n
    induction n with
    | zero => intro _ _ _ _ _ _ _ _ _ _ hr _; cases hr
    | succ n ih => intro a0 A0 c0 C0 a1 a2 a3 I r hO0 hr L; exact slices_symMergeCmpFunc_b_walk (rec_ := fun a0 a1 a2 a3 => iterF (fun (rec_ : ((List Fl) × Int × Int × Int) → Option (List Fl)) (x : (List Fl) × Int × Int × Int) => slices_symMergeCmpFunc_b (fun a0 a1 a2 a3 => rec_ (a0, a1, a2, a3)) x.1 x.2.1 x.2.2.1 x.2.2.2) n (a0, a1, a2, a3)) ih hO0 hr L
  exact key _ hO0 hr L
noncomputable def slices_stableCmpFunc_l25 (a1 : Int) : ((List Fl) × Int × Int) → Option (((List Fl) × Int × Int) ⊕ ((List Fl) × Int)) := fun s10 =>
  bif (decide (s10.2.2 ≤ a1)) then
  (Option.bind (slices_insertionSortCmpFunc s10.1 s10.2.1 s10.2.2) fun (y28 : (List Fl)) =>
    some (Sum.inl (y28, s10.2.2, (IntKind.wrap .i64 (s10.2.2 + 20)))))
  else
  (some (Sum.inr (s10.1, s10.2.1)))
noncomputable def slices_stableCmpFunc_l95 (a1 : Int) (s53 : (List Fl) × Int) : ((List Fl) × Int × Int) → Option (((List Fl) × Int × Int) ⊕ ((List Fl) × Int)) := fun s80 =>
  bif (decide (s80.2.2 ≤ a1)) then
  (Option.bind (slices_symMergeCmpFunc s80.1 s80.2.1 (IntKind.wrap .i64 (s80.2.1 + s53.2)) s80.2.2) fun (y98 : (List Fl)) =>
    some (Sum.inl (y98, s80.2.2, (IntKind.wrap .i64 (s80.2.2 + (IntKind.wrap .i64 (2 * s53.2)))))))
  else
  (some (Sum.inr (s80.1, s80.2.1)))
noncomputable def slices_stableCmpFunc_l68 (a1 : Int) : ((List Fl) × Int) → Option (((List Fl) × Int) ⊕ ((List Fl))) := fun s53 =>
  bif (decide (s53.2 < a1)) then
  (Option.bind (loopO (slices_stableCmpFunc_l95 a1 s53) (s53.1, 0, (IntKind.wrap .i64 (2 * s53.2)))) fun (r78 : (List Fl) × Int) =>
    Option.bind (bif (decide ((IntKind.wrap .i64 (r78.2 + s53.2)) < a1)) then
      (Option.bind (slices_symMergeCmpFunc r78.1 r78.2 (IntKind.wrap .i64 (r78.2 + s53.2)) a1) fun (y115 : (List Fl)) =>
        some y115)
      else
      (some r78.1)) fun (j106 : (List Fl)) =>
    some (Sum.inl (j106, (IntKind.wrap .i64 (s53.2 * 2)))))
  else
  (some (Sum.inr s53.1))
noncomputable def slices_stableCmpFunc (a0 : List Fl) (a1 : Int) : Option (List Fl) :=
  Option.bind (loopO (slices_stableCmpFunc_l25 a1) (a0, 0, 20)) fun (r8 : (List Fl) × Int) =>
  Option.bind (slices_insertionSortCmpFunc r8.1 r8.2 a1) fun (y36 : (List Fl)) =>
  Option.bind (loopO (slices_stableCmpFunc_l68 a1) (y36, 20)) fun (r51 : (List Fl)) =>
  some r51
theorem slices_stableCmpFunc_walk {a0 : List Fl} {A0 : Option Addr} {c0 : Nat} {C0 : Own} {a1 : Int} {I : Imm} {r : (List Fl)} (hO0 : OwnS Kd.flt 37 I A0 c0 a0 C0) (hr : slices_stableCmpFunc a0 a1 = some r) (L : Own) :
    CallsTo Tryz.prog 174 #[.slice A0 a0.length c0, .int .i64 a1, .func (.func 145) #[] #[]] I (C0 ++ L) (fun v I' L' => ∃ C0, OwnS Kd.flt 37 I' A0 c0 r C0 ∧ r.length = a0.length ∧ v = .tuple #[] ∧ C0 ++ L = L') := by
  unfold slices_stableCmpFunc at hr
  refine callsTo_body (N := 63) Tryz.func174 (by kernel_rfl) (by kernel_rfl) (by kernel_rfl) ?_
  refine gk_pick [0, 1, 2] (K' := [(0, .slice A0 a0.length c0), (1, .int .i64 a1), (2, .func (.func 145) #[] #[])]) (by kernel_rfl) ?_
  refine gk_seq (by kernel_rfl) ?_
  refine gk_region (by kernel_rfl) ?_
  refine gl_pure 1 [0, 1, 2, 6] (K' := [(0, .slice A0 a0.length c0), (1, .int .i64 a1), (2, .func (.func 145) #[] #[]), (6, .int .i64 20)]) (by kernel_rfl) ?_
  refine gl_atE (by kernel_rfl) ?_
  refine ge_seq ?_
  refine gk_seq (by kernel_rfl) ?_
  refine gk_region (by kernel_rfl) ?_
  refine gl_pure 3 [0, 1, 2, 6, 7, 8] (K' := [(0, .slice A0 a0.length c0), (1, .int .i64 a1), (2, .func (.func 145) #[] #[]), (6, .int .i64 20), (7, .int .i64 0), (8, .int .i64 20)]) (by kernel_rfl) ?_
  refine gl_atE (by kernel_rfl) ?_
  refine ge_seq ?_
  refine gk_seq (by kernel_rfl) ?_
  obtain ⟨r8, hl9, hr⟩ := bind_some hr
  refine gk_join (fun t I' L' => ∃ C20, OwnS Kd.flt 37 I' A0 c0 r8.1 C20 ∧ (r8.1.length = a0.length) ∧ I ≤ I' ∧ C20 ++ L = L' ∧ Knows 63 [(0, .slice A0 r8.1.length c0), (1, .int .i64 a1), (2, .func (.func 145) #[] #[]), (6, .int .i64 20), (7, .int .i64 r8.2)] t) ?_ ?_
  · refine gk_block (by kernel_rfl) ?_
    refine gk_pick [0, 1, 2, 6, 7, 8] (K' := [(0, .slice A0 a0.length c0), (1, .int .i64 a1), (2, .func (.func 145) #[] #[]), (6, .int .i64 20), (7, .int .i64 0), (8, .int .i64 20)]) (by kernel_rfl) ?_
    intro t hK
    refine gc_loop (slices_stableCmpFunc_l25 a1) (fun s10 t I' L' => ∃ C14, OwnS Kd.flt 37 I' A0 c0 s10.1 C14 ∧ (s10.1.length = a0.length) ∧ I ≤ I' ∧ C14 ++ L = L' ∧ Knows 63 [(0, .slice A0 s10.1.length c0), (1, .int .i64 a1), (2, .func (.func 145) #[] #[]), (6, .int .i64 20), (7, .int .i64 s10.2.1), (8, .int .i64 s10.2.2)] t) (by kernel_rfl) ?_ hl9 ⟨C0, hO0, rfl, (Imm.refl _), rfl, hK⟩
    rintro s10 o11 t I18 L' hb12 ⟨C14, hO15, hL16, hI13, rfl, hK17⟩
    unfold slices_stableCmpFunc_l25 at hb12
    refine gk_at hK17 ?_
    refine gk_seq (by kernel_rfl) ?_
    refine gk_seq (by kernel_rfl) ?_
    refine gk_region (by kernel_rfl) ?_
    refine gl_pure 3 [0, 1, 2, 6, 7, 8, 13] (K' := [(0, .slice A0 s10.1.length c0), (1, .int .i64 a1), (2, .func (.func 145) #[] #[]), (6, .int .i64 20), (7, .int .i64 s10.2.1), (8, .int .i64 s10.2.2), (13, .bool (decide (s10.2.2 ≤ a1)))]) (by kernel_rfl) ?_
    refine gl_atE (by kernel_rfl) ?_
    refine ge_seq ?_
    refine gk_cond (b := (decide (s10.2.2 ≤ a1))) (by kernel_rfl) (by kernel_rfl) (fun hc27 => ?_) (fun hc27 => ?_)
    · have hb12 := cond_t hc27 hb12
      refine gk_skip (by kernel_rfl) ?_
      refine ge_seq ?_
      refine gk_block (by kernel_rfl) ?_
      refine gk_seq (by kernel_rfl) ?_
      refine gk_region (by kernel_rfl) ?_
      refine gl_pure 4 [0, 1, 2, 6, 8, 14, 15, 16, 17] (K' := [(0, .slice A0 s10.1.length c0), (1, .int .i64 a1), (2, .func (.func 145) #[] #[]), (6, .int .i64 20), (8, .int .i64 s10.2.2), (14, .slice A0 s10.1.length c0), (15, .int .i64 s10.2.1), (16, .int .i64 s10.2.2), (17, .func (.func 145) #[] #[])]) (by kernel_rfl) ?_
      obtain ⟨y28, hx29, hb12⟩ := bind_some hb12
      refine gl_call (by kernel_rfl) (slices_insertionSortCmpFunc_walk (r := y28) (A0 := A0) (c0 := c0) (C0 := C14) (a0 := s10.1) hO15 hx29 _) ?_
      rintro v I30 L31 hI32 ⟨C33, hO34, hO35, rfl, rfl⟩
      refine gl_pick [0, 1, 2, 6, 8, 14, 15, 16, 17, 18] (K' := [(0, .slice A0 s10.1.length c0), (1, .int .i64 a1), (2, .func (.func 145) #[] #[]), (6, .int .i64 20), (8, .int .i64 s10.2.2), (14, .slice A0 s10.1.length c0), (15, .int .i64 s10.2.1), (16, .int .i64 s10.2.2), (17, .func (.func 145) #[] #[]), (18, .tuple #[])]) (by kernel_rfl) ?_
      refine gl_kv (congrArg (fun (zz : Nat) => ([(0, .slice A0 zz c0), (1, .int .i64 a1), (2, .func (.func 145) #[] #[]), (6, .int .i64 20), (8, .int .i64 s10.2.2), (14, .slice A0 zz c0), (15, .int .i64 s10.2.1), (16, .int .i64 s10.2.2), (17, .func (.func 145) #[] #[]), (18, .tuple #[])] : KV)) hO35.symm) ?_
      refine gl_atE (by kernel_rfl) ?_
      refine ge_seq ?_
      refine gk_seq (by kernel_rfl) ?_
      refine gk_region (by kernel_rfl) ?_
      refine gl_pure 2 [0, 1, 2, 6, 7, 8] (K' := [(0, .slice A0 y28.length c0), (1, .int .i64 a1), (2, .func (.func 145) #[] #[]), (6, .int .i64 20), (7, .int .i64 s10.2.2), (8, .int .i64 s10.2.2)]) (by kernel_rfl) ?_
      refine gl_atE (by kernel_rfl) ?_
      refine ge_seq ?_
      refine gk_region (by kernel_rfl) ?_
      refine gl_pure 4 [0, 1, 2, 6, 7, 8] (K' := [(0, .slice A0 y28.length c0), (1, .int .i64 a1), (2, .func (.func 145) #[] #[]), (6, .int .i64 20), (7, .int .i64 s10.2.2), (8, .int .i64 (IntKind.wrap .i64 (s10.2.2 + 20)))]) (by kernel_rfl) ?_
      refine gl_atE (by kernel_rfl) ?_
      refine ge_block_normal ?_
      obtain rfl := some_inj hb12
      exact ge_round fun t ht => ⟨C33, hO34, (Eq.trans hO35 hL16), (Imm.trans hI13 hI32), rfl, ht.pick (l := [0, 1, 2, 6, 7, 8]) (by kernel_rfl)⟩
    · have hb12 := cond_f hc27 hb12
      refine gk_exit (by kernel_rfl) ?_
      refine ge_seq_exit ?_
      obtain rfl := some_inj hb12
      refine ge_round_out (fun hrr => ?_) (by intro h; cases h)
      obtain rfl := hrr
      refine ge_block_hit (by kernel_rfl) ?_
      exact ge_mid fun t ht => ⟨C14, hO15, hL16, hI13, rfl, ht.pick (l := [0, 1, 2, 6, 7]) (by kernel_rfl)⟩
  · rintro t I24 L' ⟨C20, hO21, hL22, hI19, rfl, hK23⟩
    refine ge_at hK23 ?_
    refine ge_seq ?_
    refine gk_seq (by kernel_rfl) ?_
    refine gk_region (by kernel_rfl) ?_
    refine gl_pure 4 [0, 1, 2, 6, 23, 24, 25, 26] (K' := [(0, .slice A0 r8.1.length c0), (1, .int .i64 a1), (2, .func (.func 145) #[] #[]), (6, .int .i64 20), (23, .slice A0 r8.1.length c0), (24, .int .i64 r8.2), (25, .int .i64 a1), (26, .func (.func 145) #[] #[])]) (by kernel_rfl) ?_
    obtain ⟨y36, hx37, hr⟩ := bind_some hr
    refine gl_call (by kernel_rfl) (slices_insertionSortCmpFunc_walk (r := y36) (A0 := A0) (c0 := c0) (C0 := C20) (a0 := r8.1) hO21 hx37 _) ?_
    rintro v I38 L39 hI40 ⟨C41, hO42, hO43, rfl, rfl⟩
    refine gl_pick [0, 1, 2, 6, 23, 24, 25, 26, 27] (K' := [(0, .slice A0 r8.1.length c0), (1, .int .i64 a1), (2, .func (.func 145) #[] #[]), (6, .int .i64 20), (23, .slice A0 r8.1.length c0), (24, .int .i64 r8.2), (25, .int .i64 a1), (26, .func (.func 145) #[] #[]), (27, .tuple #[])]) (by kernel_rfl) ?_
    refine gl_kv (congrArg (fun (zz : Nat) => ([(0, .slice A0 zz c0), (1, .int .i64 a1), (2, .func (.func 145) #[] #[]), (6, .int .i64 20), (23, .slice A0 zz c0), (24, .int .i64 r8.2), (25, .int .i64 a1), (26, .func (.func 145) #[] #[]), (27, .tuple #[])] : KV)) hO43.symm) ?_
    refine gl_atE (by kernel_rfl) ?_
    refine ge_seq ?_
    obtain ⟨r51, hl52, hr⟩ := bind_some hr
    refine gk_join (fun t I' L' => ∃ C63, OwnS Kd.flt 37 I' A0 c0 r51 C63 ∧ (r51.length = a0.length) ∧ I38 ≤ I' ∧ C63 ++ L = L' ∧ Knows 63 [(0, .slice A0 r51.length c0)] t) ?_ ?_
    · refine gk_block (by kernel_rfl) ?_
      refine gk_pick [0, 1, 2, 6] (K' := [(0, .slice A0 y36.length c0), (1, .int .i64 a1), (2, .func (.func 145) #[] #[]), (6, .int .i64 20)]) (by kernel_rfl) ?_
      intro t hK
      refine gc_loop (slices_stableCmpFunc_l68 a1) (fun s53 t I' L' => ∃ C57, OwnS Kd.flt 37 I' A0 c0 s53.1 C57 ∧ (s53.1.length = a0.length) ∧ I38 ≤ I' ∧ C57 ++ L = L' ∧ Knows 63 [(0, .slice A0 s53.1.length c0), (1, .int .i64 a1), (2, .func (.func 145) #[] #[]), (6, .int .i64 s53.2)] t) (by kernel_rfl) ?_ hl52 ⟨C41, hO42, (Eq.trans hO43 hL22), (Imm.refl _), rfl, hK⟩
      rintro s53 o54 t I61 L' hb55 ⟨C57, hO58, hL59, hI56, rfl, hK60⟩
      unfold slices_stableCmpFunc_l68 at hb55
      refine gk_at hK60 ?_
      refine gk_seq (by kernel_rfl) ?_
      refine gk_seq (by kernel_rfl) ?_
      refine gk_region (by kernel_rfl) ?_
      refine gl_pure 3 [0, 1, 2, 6, 30] (K' := [(0, .slice A0 s53.1.length c0), (1, .int .i64 a1), (2, .func (.func 145) #[] #[]), (6, .int .i64 s53.2), (30, .bool (decide (s53.2 < a1)))]) (by kernel_rfl) ?_
      refine gl_atE (by kernel_rfl) ?_
      refine ge_seq ?_
      refine gk_cond (b := (decide (s53.2 < a1))) (by kernel_rfl) (by kernel_rfl) (fun hc70 => ?_) (fun hc70 => ?_)
      · have hb55 := cond_t hc70 hb55
        refine gk_skip (by kernel_rfl) ?_
        refine ge_seq ?_
        refine gk_block (by kernel_rfl) ?_
        refine gk_seq (by kernel_rfl) ?_
        refine gk_region (by kernel_rfl) ?_
        refine gl_pure 4 [0, 1, 2, 6, 7, 8] (K' := [(0, .slice A0 s53.1.length c0), (1, .int .i64 a1), (2, .func (.func 145) #[] #[]), (6, .int .i64 s53.2), (7, .int .i64 0), (8, .int .i64 (IntKind.wrap .i64 (2 * s53.2)))]) (by kernel_rfl) ?_
        refine gl_atE (by kernel_rfl) ?_
        refine ge_seq ?_
        refine gk_seq (by kernel_rfl) ?_
        obtain ⟨r78, hl79, hb55⟩ := bind_some hb55
        refine gk_join (fun t I' L' => ∃ C90, OwnS Kd.flt 37 I' A0 c0 r78.1 C90 ∧ (r78.1.length = a0.length) ∧ I61 ≤ I' ∧ C90 ++ L = L' ∧ Knows 63 [(0, .slice A0 r78.1.length c0), (1, .int .i64 a1), (2, .func (.func 145) #[] #[]), (6, .int .i64 s53.2), (7, .int .i64 r78.2)] t) ?_ ?_
        · refine gk_block (by kernel_rfl) ?_
          refine gk_pick [0, 1, 2, 6, 7, 8] (K' := [(0, .slice A0 s53.1.length c0), (1, .int .i64 a1), (2, .func (.func 145) #[] #[]), (6, .int .i64 s53.2), (7, .int .i64 0), (8, .int .i64 (IntKind.wrap .i64 (2 * s53.2)))]) (by kernel_rfl) ?_
          intro t hK
          refine gc_loop (slices_stableCmpFunc_l95 a1 s53) (fun s80 t I' L' => ∃ C84, OwnS Kd.flt 37 I' A0 c0 s80.1 C84 ∧ (s80.1.length = a0.length) ∧ I61 ≤ I' ∧ C84 ++ L = L' ∧ Knows 63 [(0, .slice A0 s80.1.length c0), (1, .int .i64 a1), (2, .func (.func 145) #[] #[]), (6, .int .i64 s53.2), (7, .int .i64 s80.2.1), (8, .int .i64 s80.2.2)] t) (by kernel_rfl) ?_ hl79 ⟨C57, hO58, hL59, (Imm.refl _), rfl, hK⟩
          rintro s80 o81 t I88 L' hb82 ⟨C84, hO85, hL86, hI83, rfl, hK87⟩
          unfold slices_stableCmpFunc_l95 at hb82
          refine gk_at hK87 ?_
          refine gk_seq (by kernel_rfl) ?_
          refine gk_seq (by kernel_rfl) ?_
          refine gk_region (by kernel_rfl) ?_
          refine gl_pure 3 [0, 1, 2, 6, 7, 8, 35] (K' := [(0, .slice A0 s80.1.length c0), (1, .int .i64 a1), (2, .func (.func 145) #[] #[]), (6, .int .i64 s53.2), (7, .int .i64 s80.2.1), (8, .int .i64 s80.2.2), (35, .bool (decide (s80.2.2 ≤ a1)))]) (by kernel_rfl) ?_
          refine gl_atE (by kernel_rfl) ?_
          refine ge_seq ?_
          refine gk_cond (b := (decide (s80.2.2 ≤ a1))) (by kernel_rfl) (by kernel_rfl) (fun hc97 => ?_) (fun hc97 => ?_)
          · have hb82 := cond_t hc97 hb82
            refine gk_skip (by kernel_rfl) ?_
            refine ge_seq ?_
            refine gk_block (by kernel_rfl) ?_
            refine gk_seq (by kernel_rfl) ?_
            refine gk_region (by kernel_rfl) ?_
            refine gl_pure 7 [0, 1, 2, 6, 8, 36, 37, 40, 41, 42] (K' := [(0, .slice A0 s80.1.length c0), (1, .int .i64 a1), (2, .func (.func 145) #[] #[]), (6, .int .i64 s53.2), (8, .int .i64 s80.2.2), (36, .slice A0 s80.1.length c0), (37, .int .i64 s80.2.1), (40, .int .i64 (IntKind.wrap .i64 (s80.2.1 + s53.2))), (41, .int .i64 s80.2.2), (42, .func (.func 145) #[] #[])]) (by kernel_rfl) ?_
            obtain ⟨y98, hx99, hb82⟩ := bind_some hb82
            refine gl_call (by kernel_rfl) (slices_symMergeCmpFunc_walk (r := y98) (A0 := A0) (c0 := c0) (C0 := C84) (a0 := s80.1) hO85 hx99 _) ?_
            rintro v I100 L101 hI102 ⟨C103, hO104, hO105, rfl, rfl⟩
            refine gl_pick [0, 1, 2, 6, 8, 36, 37, 40, 41, 42, 43] (K' := [(0, .slice A0 s80.1.length c0), (1, .int .i64 a1), (2, .func (.func 145) #[] #[]), (6, .int .i64 s53.2), (8, .int .i64 s80.2.2), (36, .slice A0 s80.1.length c0), (37, .int .i64 s80.2.1), (40, .int .i64 (IntKind.wrap .i64 (s80.2.1 + s53.2))), (41, .int .i64 s80.2.2), (42, .func (.func 145) #[] #[]), (43, .tuple #[])]) (by kernel_rfl) ?_
            refine gl_kv (congrArg (fun (zz : Nat) => ([(0, .slice A0 zz c0), (1, .int .i64 a1), (2, .func (.func 145) #[] #[]), (6, .int .i64 s53.2), (8, .int .i64 s80.2.2), (36, .slice A0 zz c0), (37, .int .i64 s80.2.1), (40, .int .i64 (IntKind.wrap .i64 (s80.2.1 + s53.2))), (41, .int .i64 s80.2.2), (42, .func (.func 145) #[] #[]), (43, .tuple #[])] : KV)) hO105.symm) ?_
            refine gl_atE (by kernel_rfl) ?_
            refine ge_seq ?_
            refine gk_seq (by kernel_rfl) ?_
            refine gk_region (by kernel_rfl) ?_
            refine gl_pure 2 [0, 1, 2, 6, 7, 8] (K' := [(0, .slice A0 y98.length c0), (1, .int .i64 a1), (2, .func (.func 145) #[] #[]), (6, .int .i64 s53.2), (7, .int .i64 s80.2.2), (8, .int .i64 s80.2.2)]) (by kernel_rfl) ?_
            refine gl_atE (by kernel_rfl) ?_
            refine ge_seq ?_
            refine gk_region (by kernel_rfl) ?_
            refine gl_pure 5 [0, 1, 2, 6, 7, 8] (K' := [(0, .slice A0 y98.length c0), (1, .int .i64 a1), (2, .func (.func 145) #[] #[]), (6, .int .i64 s53.2), (7, .int .i64 s80.2.2), (8, .int .i64 (IntKind.wrap .i64 (s80.2.2 + (IntKind.wrap .i64 (2 * s53.2)))))]) (by kernel_rfl) ?_
            refine gl_atE (by kernel_rfl) ?_
            refine ge_block_normal ?_
            obtain rfl := some_inj hb82
            exact ge_round fun t ht => ⟨C103, hO104, (Eq.trans hO105 hL86), (Imm.trans hI83 hI102), rfl, ht.pick (l := [0, 1, 2, 6, 7, 8]) (by kernel_rfl)⟩
          · have hb82 := cond_f hc97 hb82
            refine gk_exit (by kernel_rfl) ?_
            refine ge_seq_exit ?_
            obtain rfl := some_inj hb82
            refine ge_round_out (fun hrr => ?_) (by intro h; cases h)
            obtain rfl := hrr
            refine ge_block_hit (by kernel_rfl) ?_
            exact ge_mid fun t ht => ⟨C84, hO85, hL86, hI83, rfl, ht.pick (l := [0, 1, 2, 6, 7]) (by kernel_rfl)⟩
        · rintro t I94 L' ⟨C90, hO91, hL92, hI89, rfl, hK93⟩
          refine ge_at hK93 ?_
          refine ge_seq ?_
          refine gk_seq (by kernel_rfl) ?_
          refine gk_seq (by kernel_rfl) ?_
          refine gk_region (by kernel_rfl) ?_
          refine gl_pure 4 [0, 1, 2, 6, 7, 9] (K' := [(0, .slice A0 r78.1.length c0), (1, .int .i64 a1), (2, .func (.func 145) #[] #[]), (6, .int .i64 s53.2), (7, .int .i64 r78.2), (9, .int .i64 (IntKind.wrap .i64 (r78.2 + s53.2)))]) (by kernel_rfl) ?_
          refine gl_atE (by kernel_rfl) ?_
          refine ge_seq ?_
          refine gk_seq (by kernel_rfl) ?_
          refine gk_region (by kernel_rfl) ?_
          refine gl_pure 3 [0, 1, 2, 6, 7, 9, 54] (K' := [(0, .slice A0 r78.1.length c0), (1, .int .i64 a1), (2, .func (.func 145) #[] #[]), (6, .int .i64 s53.2), (7, .int .i64 r78.2), (9, .int .i64 (IntKind.wrap .i64 (r78.2 + s53.2))), (54, .bool (decide ((IntKind.wrap .i64 (r78.2 + s53.2)) < a1)))]) (by kernel_rfl) ?_
          refine gl_atE (by kernel_rfl) ?_
          refine ge_seq ?_
          obtain ⟨j106, hj107, hb55⟩ := bind_some hb55
          refine gk_join (fun t I' L' => ∃ C109, OwnS Kd.flt 37 I' A0 c0 j106 C109 ∧ (j106.length = a0.length) ∧ I94 ≤ I' ∧ C109 ++ L = L' ∧ Knows 63 [(0, .slice A0 j106.length c0), (1, .int .i64 a1), (2, .func (.func 145) #[] #[]), (6, .int .i64 s53.2)] t) ?_ ?_
          · refine gk_cond (b := (decide ((IntKind.wrap .i64 (r78.2 + s53.2)) < a1))) (by kernel_rfl) (by kernel_rfl) (fun hc114 => ?_) (fun hc114 => ?_)
            · have hj107 := cond_t hc114 hj107
              refine gk_region (by kernel_rfl) ?_
              refine gl_pure 5 [0, 1, 2, 6, 55, 56, 57, 58, 59] (K' := [(0, .slice A0 r78.1.length c0), (1, .int .i64 a1), (2, .func (.func 145) #[] #[]), (6, .int .i64 s53.2), (55, .slice A0 r78.1.length c0), (56, .int .i64 r78.2), (57, .int .i64 (IntKind.wrap .i64 (r78.2 + s53.2))), (58, .int .i64 a1), (59, .func (.func 145) #[] #[])]) (by kernel_rfl) ?_
              obtain ⟨y115, hx116, hj107⟩ := bind_some hj107
              refine gl_call (by kernel_rfl) (slices_symMergeCmpFunc_walk (r := y115) (A0 := A0) (c0 := c0) (C0 := C90) (a0 := r78.1) hO91 hx116 _) ?_
              rintro v I117 L118 hI119 ⟨C120, hO121, hO122, rfl, rfl⟩
              refine gl_pick [0, 1, 2, 6, 55, 56, 57, 58, 59, 60] (K' := [(0, .slice A0 r78.1.length c0), (1, .int .i64 a1), (2, .func (.func 145) #[] #[]), (6, .int .i64 s53.2), (55, .slice A0 r78.1.length c0), (56, .int .i64 r78.2), (57, .int .i64 (IntKind.wrap .i64 (r78.2 + s53.2))), (58, .int .i64 a1), (59, .func (.func 145) #[] #[]), (60, .tuple #[])]) (by kernel_rfl) ?_
              refine gl_kv (congrArg (fun (zz : Nat) => ([(0, .slice A0 zz c0), (1, .int .i64 a1), (2, .func (.func 145) #[] #[]), (6, .int .i64 s53.2), (55, .slice A0 zz c0), (56, .int .i64 r78.2), (57, .int .i64 (IntKind.wrap .i64 (r78.2 + s53.2))), (58, .int .i64 a1), (59, .func (.func 145) #[] #[]), (60, .tuple #[])] : KV)) hO122.symm) ?_
              refine gl_atE (by kernel_rfl) ?_
              obtain rfl := some_inj hj107
              exact ge_mid fun t ht => ⟨C120, hO121, (Eq.trans hO122 hL92), hI119, rfl, ht.pick (l := [0, 1, 2, 6]) (by kernel_rfl)⟩
            · have hj107 := cond_f hc114 hj107
              refine gk_skip (by kernel_rfl) ?_
              obtain rfl := some_inj hj107
              exact ge_mid fun t ht => ⟨C90, hO91, hL92, (Imm.refl _), rfl, ht.pick (l := [0, 1, 2, 6]) (by kernel_rfl)⟩
          · rintro t I113 L' ⟨C109, hO110, hL111, hI108, rfl, hK112⟩
            refine ge_at hK112 ?_
            refine ge_seq ?_
            refine gk_region (by kernel_rfl) ?_
            refine gl_pure 3 [0, 1, 2, 6] (K' := [(0, .slice A0 j106.length c0), (1, .int .i64 a1), (2, .func (.func 145) #[] #[]), (6, .int .i64 (IntKind.wrap .i64 (s53.2 * 2)))]) (by kernel_rfl) ?_
            refine gl_atE (by kernel_rfl) ?_
            refine ge_block_normal ?_
            obtain rfl := some_inj hb55
            exact ge_round fun t ht => ⟨C109, hO110, hL111, (Imm.trans (Imm.trans hI56 hI89) hI108), rfl, ht.pick (l := [0, 1, 2, 6]) (by kernel_rfl)⟩
      · have hb55 := cond_f hc70 hb55
        refine gk_exit (by kernel_rfl) ?_
        refine ge_seq_exit ?_
        obtain rfl := some_inj hb55
        refine ge_round_out (fun hrr => ?_) (by intro h; cases h)
        obtain rfl := hrr
        refine ge_block_hit (by kernel_rfl) ?_
        exact ge_mid fun t ht => ⟨C57, hO58, hL59, hI56, rfl, ht.pick (l := [0]) (by kernel_rfl)⟩
    · rintro t I67 L' ⟨C63, hO64, hL65, hI62, rfl, hK66⟩
      refine ge_at hK66 ?_
      obtain rfl := some_inj hr
      exact ge_result trivial ResOk.nil (Imm.trans (Imm.trans hI19 hI40) hI62) ⟨C63, hO64, hL65, rfl, rfl⟩
noncomputable def slices_SortStableFunc (a0 : List Fl) : Option (List Fl) :=
  Option.bind (slices_stableCmpFunc a0 (a0.length : Int)) fun (y1 : (List Fl)) =>
  some y1
theorem slices_SortStableFunc_walk {a0 : List Fl} {A0 : Option Addr} {c0 : Nat} {C0 : Own} {I : Imm} {r : (List Fl)} (hO0 : OwnS Kd.flt 37 I A0 c0 a0 C0) (hr : slices_SortStableFunc a0 = some r) (L : Own) :
    CallsTo Tryz.prog 144 #[.slice A0 a0.length c0, .func (.func 145) #[] #[]] I (C0 ++ L) (fun v I' L' => ∃ C0, OwnS Kd.flt 37 I' A0 c0 r C0 ∧ r.length = a0.length ∧ v = .tuple #[] ∧ C0 ++ L = L') := by
  unfold slices_SortStableFunc at hr
  refine callsTo_body (N := 9) Tryz.func144 (by kernel_rfl) (by kernel_rfl) (by kernel_rfl) ?_
  refine gk_pick [0, 1] (K' := [(0, .slice A0 a0.length c0), (1, .func (.func 145) #[] #[])]) (by kernel_rfl) ?_
  refine gk_region (by kernel_rfl) ?_
  refine gl_pure 4 [0, 4, 6, 7] (K' := [(0, .slice A0 a0.length c0), (4, .slice A0 a0.length c0), (6, .int .i64 (a0.length : Int)), (7, .func (.func 145) #[] #[])]) (by kernel_rfl) ?_
  obtain ⟨y1, hx2, hr⟩ := bind_some hr
  refine gl_call (by kernel_rfl) (slices_stableCmpFunc_walk (r := y1) (A0 := A0) (c0 := c0) (C0 := C0) (a0 := a0) hO0 hx2 _) ?_
  rintro v I3 L4 hI5 ⟨C6, hO7, hO8, rfl, rfl⟩
  refine gl_pick [0, 4, 6, 7, 8] (K' := [(0, .slice A0 a0.length c0), (4, .slice A0 a0.length c0), (6, .int .i64 (a0.length : Int)), (7, .func (.func 145) #[] #[]), (8, .tuple #[])]) (by kernel_rfl) ?_
  refine gl_kv (congrArg (fun (zz : Nat) => ([(0, .slice A0 zz c0), (4, .slice A0 zz c0), (6, .int .i64 (a0.length : Int)), (7, .func (.func 145) #[] #[]), (8, .tuple #[])] : KV)) hO8.symm) ?_
  refine gl_atE (by kernel_rfl) ?_
  obtain rfl := some_inj hr
  exact ge_result trivial ResOk.nil hI5 ⟨C6, hO7, (Eq.trans hO8 rfl), rfl, rfl⟩
noncomputable def aggr_values_quantile (a0 : List Fl) (a1 : Fl) : Option Fl :=
  bif (math_IsNaN a1) then
  (some a1)
  else
  (bif (fcmp .lss a1 (some 0 : Fl)) then
    (Option.bind (math_Inf (-1)) fun (y3 : Fl) =>
      some y3)
    else
    (bif (fcmp .gtr a1 (some 4607182418800017408 : Fl)) then
      (Option.bind (math_Inf 1) fun (y11 : Fl) =>
        some y11)
      else
      (Option.bind (slices_Clone_f143 a0) fun (y18 : (List Fl)) =>
        Option.bind (slices_SortStableFunc y18) fun (y27 : (List Fl)) =>
        Option.bind (ftoi .i64 (farith .mul a1 (some (FloatKind.nearest .f64 (IntKind.wrap .i64 ((y27.length : Int) - 1))) : Fl))) fun (q37 : Int) =>
        Option.bind (ix y27 q37) fun (x41 : Fl) =>
        Option.bind (ix y27 (if (IntKind.wrap .i64 ((y27.length : Int) - 1)) < (IntKind.wrap .i64 (q37 + 1)) then (IntKind.wrap .i64 ((y27.length : Int) - 1)) else (IntKind.wrap .i64 (q37 + 1)))) fun (x56 : Fl) =>
        some (farith .add (farith .mul x41 (farith .sub (some 4607182418800017408 : Fl) (farith .sub (farith .mul a1 (some (FloatKind.nearest .f64 (IntKind.wrap .i64 ((y27.length : Int) - 1))) : Fl)) (some (FloatKind.nearest .f64 q37) : Fl)))) (farith .mul x56 (farith .sub (farith .mul a1 (some (FloatKind.nearest .f64 (IntKind.wrap .i64 ((y27.length : Int) - 1))) : Fl)) (some (FloatKind.nearest .f64 q37) : Fl)))))))
theorem aggr_values_quantile_walk {a0 : List Fl} {A0_0 : Option Addr} {n0_0 : Nat} {a1 : Fl} {b1_0 : Nat} {I : Imm} {r : Fl}  (hf0_0 : RepS Kd.flt I A0_0 n0_0 a0)  (hf1_0 : FRep a1 b1_0) (hr : aggr_values_quantile a0 a1 = some r) (L : Own) :
    CallsTo Tryz.prog 102 #[.slice A0_0 a0.length n0_0, .float .f64 b1_0] I L (fun v I' L' => ∃ b0_0, FRep r b0_0 ∧ v = .float .f64 b0_0 ∧ L = L') := by
  unfold aggr_values_quantile at hr
  refine callsTo_body (N := 58) Tryz.func102 (by kernel_rfl) (by kernel_rfl) (by kernel_rfl) ?_
  refine gk_pick [0, 1] (K' := [(0, .slice A0_0 a0.length n0_0), (1, .float .f64 b1_0)]) (by kernel_rfl) ?_
  refine gk_seq (by kernel_rfl) ?_
  refine gk_region (by kernel_rfl) ?_
  refine gl_pure 1 [0, 1] (K' := [(0, .slice A0_0 a0.length n0_0), (1, .float .f64 b1_0)]) (by kernel_rfl) ?_
  refine gl_atE (by kernel_rfl) ?_
  refine ge_seq ?_
  refine gk_seq (by kernel_rfl) ?_
  refine gk_block (by kernel_rfl) ?_
  refine gk_seq (by kernel_rfl) ?_
  refine gk_region (by kernel_rfl) ?_
  refine gl_pure 1 [0, 1, 11] (K' := [(0, .slice A0_0 a0.length n0_0), (1, .float .f64 b1_0), (11, .float .f64 b1_0)]) (by kernel_rfl) ?_
  refine gl_callQ (by kernel_rfl) (math_IsNaN_walk (r := (math_IsNaN a1)) hf1_0 rfl _) ?_
  refine gl_pure 1 [0, 1, 10] (K' := [(0, .slice A0_0 a0.length n0_0), (1, .float .f64 b1_0), (10, .bool (math_IsNaN a1))]) (by kernel_rfl) ?_
  refine gl_atE (by kernel_rfl) ?_
  refine ge_seq ?_
  refine gk_cond (b := (math_IsNaN a1)) (by kernel_rfl) (by kernel_rfl) (fun hc1 => ?_) (fun hc1 => ?_)
  · have hr := cond_t hc1 hr
    refine gk_seq (by kernel_rfl) ?_
    refine gk_region (by kernel_rfl) ?_
    refine gl_pure 2 [4] (K' := [(4, .float .f64 b1_0)]) (by kernel_rfl) ?_
    refine gl_atE (by kernel_rfl) ?_
    refine ge_seq ?_
    refine gk_ret (by kernel_rfl) ?_
    refine ge_block_ret ?_
    refine ge_seq_ret ?_
    obtain rfl := some_inj hr
    exact ge_result trivial (ResOk.tmp (by kernel_rfl) ResOk.nil) (Imm.refl _) ⟨b1_0, hf1_0, rfl, rfl⟩
  · have hr := cond_f hc1 hr
    refine gk_seq (by kernel_rfl) ?_
    refine gk_region (by kernel_rfl) ?_
    refine gl_pure 1 [0, 1, 15] (K' := [(0, .slice A0_0 a0.length n0_0), (1, .float .f64 b1_0), (15, .float .f64 b1_0)]) (by kernel_rfl) ?_
    refine gl_fcmp (op := .lss) (t := 37) (t' := 37) (xx := (.tmp 15)) (yy := (.const (.float .f64 0))) hf1_0 (FRep.of 0) (by kernel_rfl) (by kernel_rfl) rfl (by kernel_rfl) (by kernel_rfl) ?_
    refine gl_pure 1 [0, 1, 14] (K' := [(0, .slice A0_0 a0.length n0_0), (1, .float .f64 b1_0), (14, .bool (fcmp .lss a1 (some 0 : Fl)))]) (by kernel_rfl) ?_
    refine gl_atE (by kernel_rfl) ?_
    refine ge_seq ?_
    refine gk_cond (b := (fcmp .lss a1 (some 0 : Fl))) (by kernel_rfl) (by kernel_rfl) (fun hc2 => ?_) (fun hc2 => ?_)
    · have hr := cond_t hc2 hr
      refine gk_seq (by kernel_rfl) ?_
      refine gk_region (by kernel_rfl) ?_
      obtain ⟨y3, hx4, hr⟩ := bind_some hr
      refine gl_call (by kernel_rfl) (math_Inf_walk (r := y3)  hx4 _) ?_
      rintro v I5 L6 hI7 ⟨z8, hO9, rfl, rfl⟩
      refine gl_pure 1 [4] (K' := [(4, .float .f64 z8)]) (by kernel_rfl) ?_
      refine gl_atE (by kernel_rfl) ?_
      refine ge_seq ?_
      refine gk_ret (by kernel_rfl) ?_
      refine ge_block_ret ?_
      refine ge_seq_ret ?_
      obtain rfl := some_inj hr
      exact ge_result trivial (ResOk.tmp (by kernel_rfl) ResOk.nil) hI7 ⟨z8, hO9, rfl, rfl⟩
    · have hr := cond_f hc2 hr
      refine gk_seq (by kernel_rfl) ?_
      refine gk_region (by kernel_rfl) ?_
      refine gl_pure 1 [0, 1, 19] (K' := [(0, .slice A0_0 a0.length n0_0), (1, .float .f64 b1_0), (19, .float .f64 b1_0)]) (by kernel_rfl) ?_
      refine gl_fcmp (op := .gtr) (t := 37) (t' := 37) (xx := (.tmp 19)) (yy := (.const (.float .f64 4607182418800017408))) hf1_0 (FRep.of 4607182418800017408) (by kernel_rfl) (by kernel_rfl) rfl (by kernel_rfl) (by kernel_rfl) ?_
      refine gl_pure 1 [0, 1, 18] (K' := [(0, .slice A0_0 a0.length n0_0), (1, .float .f64 b1_0), (18, .bool (fcmp .gtr a1 (some 4607182418800017408 : Fl)))]) (by kernel_rfl) ?_
      refine gl_atE (by kernel_rfl) ?_
      refine ge_seq ?_
      refine gk_cond (b := (fcmp .gtr a1 (some 4607182418800017408 : Fl))) (by kernel_rfl) (by kernel_rfl) (fun hc10 => ?_) (fun hc10 => ?_)
      · have hr := cond_t hc10 hr
        refine gk_seq (by kernel_rfl) ?_
        refine gk_region (by kernel_rfl) ?_
        obtain ⟨y11, hx12, hr⟩ := bind_some hr
        refine gl_call (by kernel_rfl) (math_Inf_walk (r := y11)  hx12 _) ?_
        rintro v I13 L14 hI15 ⟨z16, hO17, rfl, rfl⟩
        refine gl_pure 1 [4] (K' := [(4, .float .f64 z16)]) (by kernel_rfl) ?_
        refine gl_atE (by kernel_rfl) ?_
        refine ge_seq ?_
        refine gk_ret (by kernel_rfl) ?_
        refine ge_block_ret ?_
        refine ge_seq_ret ?_
        obtain rfl := some_inj hr
        exact ge_result trivial (ResOk.tmp (by kernel_rfl) ResOk.nil) hI15 ⟨z16, hO17, rfl, rfl⟩
      · have hr := cond_f hc10 hr
        refine gk_skip (by kernel_rfl) ?_
        refine ge_block_normal ?_
        refine ge_seq ?_
        refine gk_seq (by kernel_rfl) ?_
        refine gk_region (by kernel_rfl) ?_
        refine gl_pure 1 [1, 22] (K' := [(1, .float .f64 b1_0), (22, .slice A0_0 a0.length n0_0)]) (by kernel_rfl) ?_
        obtain ⟨y18, hx19, hr⟩ := bind_some hr
        refine gl_call (by kernel_rfl) (slices_Clone_f143_walk (r := y18) hf0_0 hx19 _) ?_
        rintro v I20 L21 hI22 ⟨A23, c24, C25, hO26, rfl, rfl⟩
        refine gl_pure 1 [1, 5] (K' := [(1, .float .f64 b1_0), (5, .slice A23 y18.length c24)]) (by kernel_rfl) ?_
        refine gl_atE (by kernel_rfl) ?_
        refine ge_seq ?_
        refine gk_seq (by kernel_rfl) ?_
        refine gk_region (by kernel_rfl) ?_
        refine gl_pure 1 [1, 5, 24] (K' := [(1, .float .f64 b1_0), (5, .slice A23 y18.length c24), (24, .slice A23 y18.length c24)]) (by kernel_rfl) ?_
        obtain ⟨y27, hx28, hr⟩ := bind_some hr
        refine gl_call (by kernel_rfl) (slices_SortStableFunc_walk (r := y27) (A0 := A23) (c0 := c24) (C0 := C25) (a0 := y18) hO26 hx28 _) ?_
        rintro v I29 L30 hI31 ⟨C32, hO33, hO34, rfl, rfl⟩
        refine gl_pick [1, 5, 24, 25] (K' := [(1, .float .f64 b1_0), (5, .slice A23 y18.length c24), (24, .slice A23 y18.length c24), (25, .tuple #[])]) (by kernel_rfl) ?_
        refine gl_kv (congrArg (fun (zz : Nat) => ([(1, .float .f64 b1_0), (5, .slice A23 zz c24), (24, .slice A23 zz c24), (25, .tuple #[])] : KV)) hO34.symm) ?_
        refine gl_atE (by kernel_rfl) ?_
        refine ge_seq ?_
        refine gk_seq (by kernel_rfl) ?_
        refine gk_region (by kernel_rfl) ?_
        refine gl_pure 5 [5, 26, 30] (K' := [(5, .slice A23 y27.length c24), (26, .float .f64 b1_0), (30, .float .f64 (FloatKind.nearest .f64 (IntKind.wrap .i64 ((y27.length : Int) - 1))))]) (by kernel_rfl) ?_
        refine gl_farith (op := .mul) (t := 37) (t' := 37) (xx := (.tmp 26)) (yy := (.tmp 30)) hf1_0 (FRep.of (FloatKind.nearest .f64 (IntKind.wrap .i64 ((y27.length : Int) - 1)))) (by kernel_rfl) (by kernel_rfl) rfl (by kernel_rfl) (by kernel_rfl) (fun b35 hf36 => ?_)
        refine gl_pure 1 [5, 6] (K' := [(5, .slice A23 y27.length c24), (6, .float .f64 b35)]) (by kernel_rfl) ?_
        refine gl_atE (by kernel_rfl) ?_
        refine ge_seq ?_
        refine gk_seq (by kernel_rfl) ?_
        refine gk_region (by kernel_rfl) ?_
        refine gl_pure 1 [5, 6, 32] (K' := [(5, .slice A23 y27.length c24), (6, .float .f64 b35), (32, .float .f64 b35)]) (by kernel_rfl) ?_
        obtain ⟨q37, hx38, hr⟩ := bind_some hr
        refine gl_ftoi (src := 37) (dst := 3) (xx := (.tmp 32)) (kd := .i64) hx38 hf36 (by kernel_rfl) (by kernel_rfl) (by kernel_rfl) ⟨.float .f64, by kernel_rfl⟩ (by kernel_rfl) ?_
        refine gl_pure 1 [5, 6, 7] (K' := [(5, .slice A23 y27.length c24), (6, .float .f64 b35), (7, .int .i64 q37)]) (by kernel_rfl) ?_
        refine gl_atE (by kernel_rfl) ?_
        refine ge_seq ?_
        refine gk_seq (by kernel_rfl) ?_
        refine gk_region (by kernel_rfl) ?_
        refine gl_pure 7 [5, 6, 7, 8] (K' := [(5, .slice A23 y27.length c24), (6, .float .f64 b35), (7, .int .i64 q37), (8, .int .i64 (if (IntKind.wrap .i64 ((y27.length : Int) - 1)) < (IntKind.wrap .i64 (q37 + 1)) then (IntKind.wrap .i64 ((y27.length : Int) - 1)) else (IntKind.wrap .i64 (q37 + 1))))]) (by kernel_rfl) ?_
        refine gl_atE (by kernel_rfl) ?_
        refine ge_seq ?_
        refine gk_seq (by kernel_rfl) ?_
        refine gk_region (by kernel_rfl) ?_
        refine gl_pure 3 [5, 7, 8, 40, 42] (K' := [(5, .slice A23 y27.length c24), (7, .int .i64 q37), (8, .int .i64 (if (IntKind.wrap .i64 ((y27.length : Int) - 1)) < (IntKind.wrap .i64 (q37 + 1)) then (IntKind.wrap .i64 ((y27.length : Int) - 1)) else (IntKind.wrap .i64 (q37 + 1)))), (40, .float .f64 b35), (42, .float .f64 (FloatKind.nearest .f64 q37))]) (by kernel_rfl) ?_
        refine gl_farith (op := .sub) (t := 37) (t' := 37) (xx := (.tmp 40)) (yy := (.tmp 42)) hf36 (FRep.of (FloatKind.nearest .f64 q37)) (by kernel_rfl) (by kernel_rfl) rfl (by kernel_rfl) (by kernel_rfl) (fun b39 hf40 => ?_)
        refine gl_pure 1 [5, 7, 8, 9] (K' := [(5, .slice A23 y27.length c24), (7, .int .i64 q37), (8, .int .i64 (if (IntKind.wrap .i64 ((y27.length : Int) - 1)) < (IntKind.wrap .i64 (q37 + 1)) then (IntKind.wrap .i64 ((y27.length : Int) - 1)) else (IntKind.wrap .i64 (q37 + 1)))), (9, .float .f64 b39)]) (by kernel_rfl) ?_
        refine gl_atE (by kernel_rfl) ?_
        refine ge_seq ?_
        refine gk_seq (by kernel_rfl) ?_
        refine gk_draw 15 [(0, true), (1, true), (2, true), (3, true), (4, true), (5, true), (6, true), (7, true), (8, true), (9, true), (10, true), (11, true), (12, true), (13, true), (14, true)] [] (fun p hp => by cases hp) (by kernel_rfl) (by kernel_rfl) (by kernel_rfl) ?_ (by kernel_rfl)
        refine gd_ofQ (by kernel_rfl) (fun p hp => by cases hp) ?_
        refine gq_pure 2 [5, 8, 9, 44, 45] (K' := [(5, .slice A23 y27.length c24), (8, .int .i64 (if (IntKind.wrap .i64 ((y27.length : Int) - 1)) < (IntKind.wrap .i64 (q37 + 1)) then (IntKind.wrap .i64 ((y27.length : Int) - 1)) else (IntKind.wrap .i64 (q37 + 1)))), (9, .float .f64 b39), (44, .slice A23 y27.length c24), (45, .int .i64 q37)]) (s' := [(2, true), (3, true), (4, true), (5, true), (6, true), (7, true), (8, true), (9, true), (10, true), (11, true), (12, true), (13, true), (14, true)]) (by kernel_rfl) ?_
        refine gq_step (by kernel_rfl) (by kernel_rfl) ?_
        obtain ⟨x41, hx42, hr⟩ := bind_some hr
        refine gl_indexAddrW (d := Kd.flt) (c := c24) (T' := 92) (e := 37) (xs := (.tmp 44)) (xi := (.tmp 45)) (kd := .i64) hx42 hO33 (Upd.selfC _ _) (by kernel_rfl) (by kernel_rfl) (by kernel_rfl) (by kernel_rfl) (by kernel_rfl) (fun p43 cs44 hR45 hA46 hp51 => ?_)
        obtain ⟨b49, rfl, hf50⟩ := hR45
        refine gq_end (by kernel_rfl) ?_
        refine gq_step (by kernel_rfl) (by kernel_rfl) ?_
        refine gl_loadO (T' := 37) (xp := (.tmp 46)) (p := p43) (c := .float .f64 b49) (n := 1) (by kernel_rfl) (by kernel_rfl) (by kernel_rfl) (by kernel_rfl) hA46 ?_
        refine gq_end (by kernel_rfl) ?_
        refine gq_pure 1 [5, 8, 9, 47, 48] (K' := [(5, .slice A23 y27.length c24), (8, .int .i64 (if (IntKind.wrap .i64 ((y27.length : Int) - 1)) < (IntKind.wrap .i64 (q37 + 1)) then (IntKind.wrap .i64 ((y27.length : Int) - 1)) else (IntKind.wrap .i64 (q37 + 1)))), (9, .float .f64 b39), (47, .float .f64 b49), (48, .float .f64 b39)]) (s' := [(5, true), (6, true), (7, true), (8, true), (9, true), (10, true), (11, true), (12, true), (13, true), (14, true)]) (by kernel_rfl) ?_
        refine gq_step (by kernel_rfl) (by kernel_rfl) ?_
        refine gl_farith (op := .sub) (t := 37) (t' := 37) (xx := (.const (.float .f64 4607182418800017408))) (yy := (.tmp 48)) (FRep.of 4607182418800017408) hf40 (by kernel_rfl) (by kernel_rfl) rfl (by kernel_rfl) (by kernel_rfl) (fun b52 hf53 => ?_)
        refine gq_end (by kernel_rfl) ?_
        refine gq_step (by kernel_rfl) (by kernel_rfl) ?_
        refine gl_farith (op := .mul) (t := 37) (t' := 37) (xx := (.tmp 47)) (yy := (.tmp 49)) hf50 hf53 (by kernel_rfl) (by kernel_rfl) rfl (by kernel_rfl) (by kernel_rfl) (fun b54 hf55 => ?_)
        refine gq_end (by kernel_rfl) ?_
        refine gq_pure 2 [9, 50, 51, 52] (K' := [(9, .float .f64 b39), (50, .float .f64 b54), (51, .slice A23 y27.length c24), (52, .int .i64 (if (IntKind.wrap .i64 ((y27.length : Int) - 1)) < (IntKind.wrap .i64 (q37 + 1)) then (IntKind.wrap .i64 ((y27.length : Int) - 1)) else (IntKind.wrap .i64 (q37 + 1))))]) (s' := [(9, true), (10, true), (11, true), (12, true), (13, true), (14, true)]) (by kernel_rfl) ?_
        refine gq_step (by kernel_rfl) (by kernel_rfl) ?_
        obtain ⟨x56, hx57, hr⟩ := bind_some hr
        refine gl_indexAddrW (d := Kd.flt) (c := c24) (T' := 92) (e := 37) (xs := (.tmp 51)) (xi := (.tmp 52)) (kd := .i64) hx57 hO33 (Upd.selfC _ _) (by kernel_rfl) (by kernel_rfl) (by kernel_rfl) (by kernel_rfl) (by kernel_rfl) (fun p58 cs59 hR60 hA61 hp66 => ?_)
        obtain ⟨b64, rfl, hf65⟩ := hR60
        refine gq_end (by kernel_rfl) ?_
        refine gq_step (by kernel_rfl) (by kernel_rfl) ?_
        refine gl_loadO (T' := 37) (xp := (.tmp 53)) (p := p58) (c := .float .f64 b64) (n := 1) (by kernel_rfl) (by kernel_rfl) (by kernel_rfl) (by kernel_rfl) hA61 ?_
        refine gq_end (by kernel_rfl) ?_
        refine gq_pure 1 [50, 54, 55] (K' := [(50, .float .f64 b54), (54, .float .f64 b64), (55, .float .f64 b39)]) (s' := [(12, true), (13, true), (14, true)]) (by kernel_rfl) ?_
        refine gq_step (by kernel_rfl) (by kernel_rfl) ?_
        refine gl_farith (op := .mul) (t := 37) (t' := 37) (xx := (.tmp 54)) (yy := (.tmp 55)) hf65 hf40 (by kernel_rfl) (by kernel_rfl) rfl (by kernel_rfl) (by kernel_rfl) (fun b67 hf68 => ?_)
        refine gq_end (by kernel_rfl) ?_
        refine gq_step (by kernel_rfl) (by kernel_rfl) ?_
        refine gl_farith (op := .add) (t := 37) (t' := 37) (xx := (.tmp 50)) (yy := (.tmp 56)) hf55 hf68 (by kernel_rfl) (by kernel_rfl) rfl (by kernel_rfl) (by kernel_rfl) (fun b69 hf70 => ?_)
        refine gq_end (by kernel_rfl) ?_
        refine gq_pure 1 [4] (K' := [(4, .float .f64 b69)]) (s' := []) (by kernel_rfl) ?_
        refine gq_done ?_
        refine gl_atE (by kernel_rfl) ?_
        refine ge_seq ?_
        refine gk_reord (D := L) (Reord.skipC (Reord.refl _)) ?_
        refine gk_ret (by kernel_rfl) ?_
        obtain rfl := some_inj hr
        exact ge_result trivial (ResOk.tmp (by kernel_rfl) ResOk.nil) (Imm.trans hI22 hI31) ⟨b69, hf70, rfl, rfl⟩
theorem aggr_values_quantile_impl88  {I : Imm}  : Fn88 I (.func (.func 102) #[] #[]) aggr_values_quantile := ⟨fun I' hI x0 x1 r hr A0_0 c0_0 b1_0 h0_0 h1_0 L => ⟨102, #[], #[], rfl, ⟨_, Tryz.func102, by kernel_rfl, by kernel_rfl⟩, by
  simp only [List.append_toArray, List.nil_append, List.append_nil, Array.append_empty, Array.empty_append, List.push_append_toArray, List.cons_append]
  exact aggr_values_quantile_walk  h0_0 h1_0  hr L⟩⟩
noncomputable def tabf_48 : Nat → (List Fl) → Fl → Option Fl
  | 0, _, _ => none
  | 1, x0, x1 => aggr_values_sum x0 x1
  | 2, x0, x1 => aggr_values_avg x0 x1
  | 3, x0, x1 => aggr_values_min x0 x1
  | 4, x0, x1 => aggr_values_max x0 x1
  | 5, x0, x1 => (fun x0 x1 => some (aggr_values_count x0 x1)) x0 x1
  | 6, x0, x1 => (fun x0 x1 => some (aggr_values_group x0 x1)) x0 x1
  | 7, x0, x1 => aggr_values_stdvar x0 x1
  | 8, x0, x1 => aggr_values_stddev x0 x1
  | _ + 9, x0, x1 => aggr_values_quantile x0 x1
theorem tabf_48_fn {I : Imm} : ∀ k : Nat, Fn88 I (tabv_48 k) (tabf_48 k)
  | 0 => ⟨fun _ _ _ _ _ h => by cases h⟩
  | 1 => aggr_values_sum_impl88
  | 2 => aggr_values_avg_impl88
  | 3 => aggr_values_min_impl88
  | 4 => aggr_values_max_impl88
  | 5 => aggr_values_count_impl88
  | 6 => aggr_values_group_impl88
  | 7 => aggr_values_stdvar_impl88
  | 8 => aggr_values_stddev_impl88
  | _ + 9 => aggr_values_quantile_impl88
noncomputable def aggr_told (a0 : Fl) : Fl :=
  bif (math_IsNaN a0) then
  ((some (9221120237041090561 : Int).toNat : Fl))
  else
  (a0)
theorem aggr_told_walk {a0 : Fl} {b0_0 : Nat} {I : Imm} {r : Fl}  (hf0_0 : FRep a0 b0_0) (hr : aggr_told a0 = r) (L : Own) :
    CallsTo Tryz.prog 52 #[.float .f64 b0_0] I L (fun v I' L' => ∃ b0_0, FRep r b0_0 ∧ v = .float .f64 b0_0 ∧ L = L') := by
  replace hr : some (aggr_told a0) = some r := congrArg some hr
  unfold aggr_told at hr
  refine callsTo_body (N := 7) Tryz.func52 (by kernel_rfl) (by kernel_rfl) (by kernel_rfl) ?_
  refine gk_pick [0] (K' := [(0, .float .f64 b0_0)]) (by kernel_rfl) ?_
  refine gk_seq (by kernel_rfl) ?_
  refine gk_region (by kernel_rfl) ?_
  refine gl_pure 1 [0] (K' := [(0, .float .f64 b0_0)]) (by kernel_rfl) ?_
  refine gl_atE (by kernel_rfl) ?_
  refine ge_seq ?_
  refine gk_seq (by kernel_rfl) ?_
  refine gk_seq (by kernel_rfl) ?_
  refine gk_region (by kernel_rfl) ?_
  refine gl_pure 1 [0, 3] (K' := [(0, .float .f64 b0_0), (3, .float .f64 b0_0)]) (by kernel_rfl) ?_
  refine gl_callQ (by kernel_rfl) (math_IsNaN_walk (r := (math_IsNaN a0)) hf0_0 rfl _) ?_
  refine gl_atE (by kernel_rfl) ?_
  refine ge_seq ?_
  refine gk_cond (b := (math_IsNaN a0)) (by kernel_rfl) (by kernel_rfl) (fun hc1 => ?_) (fun hc1 => ?_)
  · have hr := scond_t hc1 hr
    refine gk_seq (by kernel_rfl) ?_
    refine gk_region (by kernel_rfl) ?_
    refine gl_f64from (n := 9221120237041090561) Tryz.func105 (by kernel_rfl) (by kernel_rfl) (by kernel_rfl) (by kernel_rfl) (by kernel_rfl) (by kernel_rfl) ?_
    refine gl_pure 1 [2] (K' := [(2, .float .f64 ((9221120237041090561 : Int).toNat))]) (by kernel_rfl) ?_
    refine gl_atE (by kernel_rfl) ?_
    refine ge_seq ?_
    refine gk_ret (by kernel_rfl) ?_
    refine ge_seq_ret ?_
    obtain rfl := some_inj hr
    exact ge_result trivial (ResOk.tmp (by kernel_rfl) ResOk.nil) (Imm.refl _) ⟨(9221120237041090561 : Int).toNat, (FRep.of (9221120237041090561 : Int).toNat), rfl, rfl⟩
  · have hr := scond_f hc1 hr
    refine gk_skip (by kernel_rfl) ?_
    refine ge_seq ?_
    refine gk_seq (by kernel_rfl) ?_
    refine gk_region (by kernel_rfl) ?_
    refine gl_pure 2 [2] (K' := [(2, .float .f64 b0_0)]) (by kernel_rfl) ?_
    refine gl_atE (by kernel_rfl) ?_
    refine ge_seq ?_
    refine gk_ret (by kernel_rfl) ?_
    obtain rfl := some_inj hr
    exact ge_result trivial (ResOk.tmp (by kernel_rfl) ResOk.nil) (Imm.refl _) ⟨b0_0, hf0_0, rfl, rfl⟩
noncomputable def aggr_Number_l96 (x51 : List S38) : ((List Fl) × Int) → Option (((List Fl) × Int) ⊕ ((List Fl))) := fun s79 =>
  bif (decide (s79.2 < (x51.length : Int))) then
  (Option.bind (ix x51 s79.2) fun (x99 : S38) =>
    Option.bind (app s79.1 [x99.f1]) fun (zs117 : List Fl) =>
    some (Sum.inl (zs117, (IntKind.wrap .i64 (s79.2 + 1)))))
  else
  (some (Sum.inr s79.1))
noncomputable def aggr_Number_l48 (a0 : ByteArray) (a2 : List ByteArray) (a3 : Bool) (a4 : Fl) (y11 : (List (List S38)) × Int) : ((List S38) × Int) → Option (((List S38) × Int) ⊕ ((List S38))) := fun s31 =>
  bif (decide (s31.2 < (y11.1.length : Int))) then
  (Option.bind (ix y11.1 s31.2) fun (x51 : List S38) =>
    bif ((aggr_fold a0) == 0) then
    (none)
    else
    (Option.bind (loopO (aggr_Number_l96 x51) ([], 0)) fun (r77 : (List Fl)) =>
      Option.bind (ix x51 0) fun (x123 : S38) =>
      Option.bind (aggr_group x123.f0 a2 a3) fun (y136 : (List S76)) =>
      Option.bind (tabf_48 (aggr_fold a0) r77 a4) fun (y152 : Fl) =>
      Option.bind (app s31.1 [(⟨y136, (aggr_told y152)⟩ : S38)]) fun (zs171 : List S38) =>
      some (Sum.inl (zs171, (IntKind.wrap .i64 (s31.2 + 1))))))
  else
  (some (Sum.inr s31.1))
noncomputable def aggr_Number (a0 : ByteArray) (a1 : List S38) (a2 : List ByteArray) (a3 : Bool) (a4 : Fl) : Option ((List S38) × Int) :=
  Option.bind (slices_Contains aggr_Words a0) fun (y8 : Bool) =>
  bif (!y8) then
  (some ([], 60))
  else
  (Option.bind (aggr_Groups a1 a2 a3) fun (y11 : (List (List S38)) × Int) =>
    bif (y11.2 != 0) then
    (some ([], y11.2))
    else
    (Option.bind (loopO (aggr_Number_l48 a0 a2 a3 a4 y11) ([], 0)) fun (r29 : (List S38)) =>
      Option.bind (vec_Vector r29) fun (y181 : (List S38) × Int) =>
      some (y181.1, y181.2)))
theorem aggr_Number_walk {a0 : ByteArray} {a1 : List S38} {A1_0 : Option Addr} {n1_0 : Nat} {a2 : List ByteArray} {A2_0 : Option Addr} {n2_0 : Nat} {a3 : Bool} {a4 : Fl} {b4_0 : Nat} {I : Imm} {r : (List S38) × Int} (hG : Gl I)  (hf1_0 : RepS kS38 I A1_0 n1_0 a1)  (hf2_0 : RepS Kd.str I A2_0 n2_0 a2)  (hf4_0 : FRep a4 b4_0) (hr : aggr_Number a0 a1 a2 a3 a4 = some r) (L : Own) :
    CallsTo Tryz.prog 18 #[.string a0, .slice A1_0 a1.length n1_0, .slice A2_0 a2.length n2_0, .bool a3, .float .f64 b4_0] I L (fun v I' L' => ∃ A0 c0 C0, OwnS kS38 39 I' A0 c0 r.1 C0 ∧ v = .tuple #[.slice A0 r.1.length c0, .int .i64 r.2] ∧ C0 ++ L = L') := by
  unfold aggr_Number at hr
  refine callsTo_body (N := 91) Tryz.func18 (by kernel_rfl) (by kernel_rfl) (by kernel_rfl) ?_
  refine gk_pick [0, 1, 2, 3, 4] (K' := [(0, .string a0), (1, .slice A1_0 a1.length n1_0), (2, .slice A2_0 a2.length n2_0), (3, .bool a3), (4, .float .f64 b4_0)]) (by kernel_rfl) ?_
  refine gk_seq (by kernel_rfl) ?_
  refine gk_region (by kernel_rfl) ?_
  refine gl_pure 2 [0, 1, 2, 3, 4] (K' := [(0, .string a0), (1, .slice A1_0 a1.length n1_0), (2, .slice A2_0 a2.length n2_0), (3, .bool a3), (4, .float .f64 b4_0)]) (by kernel_rfl) ?_
  refine gl_atE (by kernel_rfl) ?_
  refine ge_seq ?_
  refine gk_seq (by kernel_rfl) ?_
  refine gk_seq (by kernel_rfl) ?_
  refine gk_region (by kernel_rfl) ?_
  refine gl_call (by kernel_rfl) (aggr_Words_walk (r := aggr_Words)  rfl _) ?_
  rintro v I1 L2 hI3 ⟨A4, c5, C6, hO7, rfl, rfl⟩
  refine gl_pure 1 [0, 1, 2, 3, 4, 21, 22] (K' := [(0, .string a0), (1, .slice A1_0 a1.length n1_0), (2, .slice A2_0 a2.length n2_0), (3, .bool a3), (4, .float .f64 b4_0), (21, .slice A4 aggr_Words.length c5), (22, .string a0)]) (by kernel_rfl) ?_
  obtain ⟨y8, hx9, hr⟩ := bind_some hr
  refine gl_callB (r := .bool y8) (Tk.step (Upd.rmC _ _) (Tk.nil _)) (by kernel_rfl) (fun J hJ hC => slices_Contains_walk (r := y8) (OwnS.rest hO7 hJ hC.left) hx9 _) ?_
  refine gl_pure 1 [0, 1, 2, 3, 4, 24] (K' := [(0, .string a0), (1, .slice A1_0 a1.length n1_0), (2, .slice A2_0 a2.length n2_0), (3, .bool a3), (4, .float .f64 b4_0), (24, .bool (!y8))]) (by kernel_rfl) ?_
  refine gl_atE (by kernel_rfl) ?_
  refine ge_seq ?_
  refine gk_cond (b := (!y8)) (by kernel_rfl) (by kernel_rfl) (fun hc10 => ?_) (fun hc10 => ?_)
  · have hr := cond_t hc10 hr
    refine gk_seq (by kernel_rfl) ?_
    refine gk_region (by kernel_rfl) ?_
    refine gl_pure 2 [10, 11] (K' := [(10, .slice none 0 0), (11, .int .i64 60)]) (by kernel_rfl) ?_
    refine gl_atE (by kernel_rfl) ?_
    refine ge_seq ?_
    refine gk_reord (D := L) (Reord.skipC (Reord.refl _)) ?_
    refine gk_ret (by kernel_rfl) ?_
    refine ge_seq_ret ?_
    obtain rfl := some_inj hr
    exact ge_result trivial (ResOk.tmp (by kernel_rfl) (ResOk.tmp (by kernel_rfl) ResOk.nil)) hI3 ⟨none, 0, [], OwnS.nil _ _ _ _, rfl, rfl⟩
  · have hr := cond_f hc10 hr
    refine gk_skip (by kernel_rfl) ?_
    refine ge_seq ?_
    refine gk_seq (by kernel_rfl) ?_
    refine gk_region (by kernel_rfl) ?_
    refine gl_pure 3 [0, 2, 3, 4, 26, 27, 28] (K' := [(0, .string a0), (2, .slice A2_0 a2.length n2_0), (3, .bool a3), (4, .float .f64 b4_0), (26, .slice A1_0 a1.length n1_0), (27, .slice A2_0 a2.length n2_0), (28, .bool a3)]) (by kernel_rfl) ?_
    obtain ⟨y11, hx12, hr⟩ := bind_some hr
    refine gl_call (by kernel_rfl) (aggr_Groups_walk (r := y11) (hG.mono hI3) (hf1_0.mono hI3) (hf2_0.mono hI3) hx12 _) ?_
    rintro v I13 L14 hI15 ⟨A16, c17, C18, hO19, rfl, rfl⟩
    refine gl_pure 5 [0, 2, 3, 4, 12, 13] (K' := [(0, .string a0), (2, .slice A2_0 a2.length n2_0), (3, .bool a3), (4, .float .f64 b4_0), (12, .slice A16 y11.1.length c17), (13, .int .i64 y11.2)]) (by kernel_rfl) ?_
    refine gl_atE (by kernel_rfl) ?_
    refine ge_seq ?_
    refine gk_seq (by kernel_rfl) ?_
    refine gk_seq (by kernel_rfl) ?_
    refine gk_region (by kernel_rfl) ?_
    refine gl_pure 2 [0, 2, 3, 4, 12, 13, 33] (K' := [(0, .string a0), (2, .slice A2_0 a2.length n2_0), (3, .bool a3), (4, .float .f64 b4_0), (12, .slice A16 y11.1.length c17), (13, .int .i64 y11.2), (33, .bool (y11.2 != 0))]) (by kernel_rfl) ?_
    refine gl_atE (by kernel_rfl) ?_
    refine ge_seq ?_
    refine gk_cond (b := (y11.2 != 0)) (by kernel_rfl) (by kernel_rfl) (fun hc20 => ?_) (fun hc20 => ?_)
    · have hr := cond_t hc20 hr
      refine gk_seq (by kernel_rfl) ?_
      refine gk_region (by kernel_rfl) ?_
      refine gl_pure 3 [10, 11] (K' := [(10, .slice none 0 0), (11, .int .i64 y11.2)]) (by kernel_rfl) ?_
      refine gl_atE (by kernel_rfl) ?_
      refine ge_seq ?_
      refine gk_reord (D := L) (Reord.skipC (Reord.skipC (Reord.refl _))) ?_
      refine gk_ret (by kernel_rfl) ?_
      refine ge_seq_ret ?_
      obtain rfl := some_inj hr
      exact ge_result trivial (ResOk.tmp (by kernel_rfl) (ResOk.tmp (by kernel_rfl) ResOk.nil)) (Imm.trans hI3 hI15) ⟨none, 0, [], OwnS.nil _ _ _ _, rfl, rfl⟩
    · have hr := cond_f hc20 hr
      refine gk_skip (by kernel_rfl) ?_
      refine ge_seq ?_
      refine gk_seq (by kernel_rfl) ?_
      refine gk_region (by kernel_rfl) ?_
      refine gl_pure 1 [0, 2, 3, 4, 12, 35] (K' := [(0, .string a0), (2, .slice A2_0 a2.length n2_0), (3, .bool a3), (4, .float .f64 b4_0), (12, .slice A16 y11.1.length c17), (35, .string a0)]) (by kernel_rfl) ?_
      refine gl_callQ (by kernel_rfl) (aggr_fold_walk (r := (aggr_fold a0))  rfl _) ?_
      refine gl_pure 1 [0, 2, 3, 4, 12, 14] (K' := [(0, .string a0), (2, .slice A2_0 a2.length n2_0), (3, .bool a3), (4, .float .f64 b4_0), (12, .slice A16 y11.1.length c17), (14, (tabv_48 (aggr_fold a0)))]) (by kernel_rfl) ?_
      refine gl_atE (by kernel_rfl) ?_
      refine ge_seq ?_
      refine gk_seq (by kernel_rfl) ?_
      refine gk_region (by kernel_rfl) ?_
      refine gl_pure 1 [0, 2, 3, 4, 12, 14, 15] (K' := [(0, .string a0), (2, .slice A2_0 a2.length n2_0), (3, .bool a3), (4, .float .f64 b4_0), (12, .slice A16 y11.1.length c17), (14, (tabv_48 (aggr_fold a0))), (15, .slice none 0 0)]) (by kernel_rfl) ?_
      refine gl_atE (by kernel_rfl) ?_
      refine ge_seq ?_
      refine gk_seq (by kernel_rfl) ?_
      refine gk_seq (by kernel_rfl) ?_
      refine gk_region (by kernel_rfl) ?_
      refine gl_pure 3 [0, 2, 3, 4, 14, 15, 37, 38, 39] (K' := [(0, .string a0), (2, .slice A2_0 a2.length n2_0), (3, .bool a3), (4, .float .f64 b4_0), (14, (tabv_48 (aggr_fold a0))), (15, .slice none 0 0), (37, .slice A16 y11.1.length c17), (38, .int .i64 (y11.1.length : Int)), (39, .int .i64 0)]) (by kernel_rfl) ?_
      refine gl_atE (by kernel_rfl) ?_
      refine ge_seq ?_
      obtain ⟨r29, hl30, hr⟩ := bind_some hr
      refine gk_reord (D := C18 ++ L) (Reord.step (Upd.rmC _ _) (Reord.skipC (Reord.refl _))) ?_
      refine gk_join (fun t I' L' => ∃ A42 n43 C44, OwnS kS38 39 I' A42 n43 r29 C44 ∧ I13 ≤ I' ∧ C44 ++ L = L' ∧ Knows 91 [(15, .slice A42 r29.length n43)] t) ?_ ?_
      · refine gk_block (by kernel_rfl) ?_
        refine gk_pick [0, 2, 3, 4, 14, 15, 37, 38, 39] (K' := [(0, .string a0), (2, .slice A2_0 a2.length n2_0), (3, .bool a3), (4, .float .f64 b4_0), (14, (tabv_48 (aggr_fold a0))), (15, .slice none 0 0), (37, .slice A16 y11.1.length c17), (38, .int .i64 (y11.1.length : Int)), (39, .int .i64 0)]) (by kernel_rfl) ?_
        intro t hK
        refine gc_loop (aggr_Number_l48 a0 a2 a3 a4 y11) (fun s31 t I' L' => ∃ A35 n36 C37, OwnS kS38 39 I' A35 n36 s31.1 C37 ∧ I13 ≤ I' ∧ C37 ++ (C18 ++ L) = L' ∧ Knows 91 [(0, .string a0), (2, .slice A2_0 a2.length n2_0), (3, .bool a3), (4, .float .f64 b4_0), (14, (tabv_48 (aggr_fold a0))), (15, .slice A35 s31.1.length n36), (37, .slice A16 y11.1.length c17), (38, .int .i64 (y11.1.length : Int)), (39, .int .i64 s31.2)] t) (by kernel_rfl) ?_ hl30 ⟨none, 0, [], OwnS.nil _ _ _ _, (Imm.refl _), rfl, hK⟩
        rintro s31 o32 t I40 L' hb33 ⟨A35, n36, C37, hO38, hI34, rfl, hK39⟩
        unfold aggr_Number_l48 at hb33
        refine gk_at hK39 ?_
        refine gk_seq (by kernel_rfl) ?_
        refine gk_region (by kernel_rfl) ?_
        refine gl_pure 1 [0, 2, 3, 4, 14, 15, 37, 38, 39, 40] (K' := [(0, .string a0), (2, .slice A2_0 a2.length n2_0), (3, .bool a3), (4, .float .f64 b4_0), (14, (tabv_48 (aggr_fold a0))), (15, .slice A35 s31.1.length n36), (37, .slice A16 y11.1.length c17), (38, .int .i64 (y11.1.length : Int)), (39, .int .i64 s31.2), (40, .bool (decide (s31.2 < (y11.1.length : Int))))]) (by kernel_rfl) ?_
        refine gl_atE (by kernel_rfl) ?_
        refine ge_seq ?_
        refine gk_seq (by kernel_rfl) ?_
        refine gk_cond (b := (decide (s31.2 < (y11.1.length : Int)))) (by kernel_rfl) (by kernel_rfl) (fun hc50 => ?_) (fun hc50 => ?_)
        · have hb33 := cond_t hc50 hb33
          refine gk_skip (by kernel_rfl) ?_
          refine ge_seq ?_
          refine gk_seq (by kernel_rfl) ?_
          refine gk_block (by kernel_rfl) ?_
          refine gk_seq (by kernel_rfl) ?_
          refine gk_region (by kernel_rfl) ?_
          obtain ⟨x51, hx52, hb33⟩ := bind_some hb33
          refine gl_indexAddrW (d := (Kd.sl kS38)) (c := c17) (T' := 48) (e := 22) (xs := (.tmp 37)) (xi := (.tmp 39)) (kd := .i64) hx52 (hO19.mono hI34) (Upd.app _ (Upd.selfC _ _)) (by kernel_rfl) (by kernel_rfl) (by kernel_rfl) (by kernel_rfl) (by kernel_rfl) (fun p53 cs54 hR55 hA56 hp62 => ?_)
          obtain ⟨A59, n60, rfl, hf61⟩ := sl_open hR55
          refine gl_loadO (T' := 22) (xp := (.tmp 41)) (p := p53) (c := .slice A59 x51.length n60) (n := 1) (by kernel_rfl) (by kernel_rfl) (by kernel_rfl) (by kernel_rfl) hA56 ?_
          refine gl_pure 1 [0, 2, 3, 4, 14, 15, 17, 37, 38, 39] (K' := [(0, .string a0), (2, .slice A2_0 a2.length n2_0), (3, .bool a3), (4, .float .f64 b4_0), (14, (tabv_48 (aggr_fold a0))), (15, .slice A35 s31.1.length n36), (17, .slice A59 x51.length n60), (37, .slice A16 y11.1.length c17), (38, .int .i64 (y11.1.length : Int)), (39, .int .i64 s31.2)]) (by kernel_rfl) ?_
          refine gl_atE (by kernel_rfl) ?_
          refine ge_seq ?_
          refine gk_seq (by kernel_rfl) ?_
          refine gk_seq (by kernel_rfl) ?_
          refine gk_region (by kernel_rfl) ?_
          refine gl_pure 1 [0, 2, 3, 4, 14, 15, 17, 37, 38, 39, 43] (K' := [(0, .string a0), (2, .slice A2_0 a2.length n2_0), (3, .bool a3), (4, .float .f64 b4_0), (14, (tabv_48 (aggr_fold a0))), (15, .slice A35 s31.1.length n36), (17, .slice A59 x51.length n60), (37, .slice A16 y11.1.length c17), (38, .int .i64 (y11.1.length : Int)), (39, .int .i64 s31.2), (43, (tabv_48 (aggr_fold a0)))]) (by kernel_rfl) ?_
          refine gl_eqNilTab (neg := false) (b := ((aggr_fold a0) == 0)) (t := 88) (t' := 88) (x := (.tmp 43)) (y := (.const (.nilFunc))) (tabv_48_cases (aggr_fold a0)) (by kernel_rfl) (by kernel_rfl) (by kernel_rfl) (by kernel_rfl) (by kernel_rfl) ?_
          refine gl_atE (by kernel_rfl) ?_
          refine ge_seq ?_
          refine gk_cond (b := ((aggr_fold a0) == 0)) (by kernel_rfl) (by kernel_rfl) (fun hc63 => ?_) (fun hc63 => ?_)
          · have hb33 := cond_t hc63 hb33
            cases hb33
          · have hb33 := cond_f hc63 hb33
            refine gk_skip (by kernel_rfl) ?_
            refine ge_seq ?_
            refine gk_seq (by kernel_rfl) ?_
            refine gk_region (by kernel_rfl) ?_
            refine gl_pure 1 [0, 2, 3, 4, 14, 15, 17, 18, 37, 38, 39] (K' := [(0, .string a0), (2, .slice A2_0 a2.length n2_0), (3, .bool a3), (4, .float .f64 b4_0), (14, (tabv_48 (aggr_fold a0))), (15, .slice A35 s31.1.length n36), (17, .slice A59 x51.length n60), (18, .slice none 0 0), (37, .slice A16 y11.1.length c17), (38, .int .i64 (y11.1.length : Int)), (39, .int .i64 s31.2)]) (by kernel_rfl) ?_
            refine gl_atE (by kernel_rfl) ?_
            refine ge_seq ?_
            refine gk_seq (by kernel_rfl) ?_
            refine gk_seq (by kernel_rfl) ?_
            refine gk_region (by kernel_rfl) ?_
            refine gl_pure 3 [0, 2, 3, 4, 14, 15, 17, 18, 37, 38, 39, 58, 59, 60] (K' := [(0, .string a0), (2, .slice A2_0 a2.length n2_0), (3, .bool a3), (4, .float .f64 b4_0), (14, (tabv_48 (aggr_fold a0))), (15, .slice A35 s31.1.length n36), (17, .slice A59 x51.length n60), (18, .slice none 0 0), (37, .slice A16 y11.1.length c17), (38, .int .i64 (y11.1.length : Int)), (39, .int .i64 s31.2), (58, .slice A59 x51.length n60), (59, .int .i64 (x51.length : Int)), (60, .int .i64 0)]) (by kernel_rfl) ?_
            refine gl_atE (by kernel_rfl) ?_
            refine ge_seq ?_
            obtain ⟨r77, hl78, hb33⟩ := bind_some hb33
            refine gk_join (fun t I' L' => ∃ A90 n91 C92, OwnS Kd.flt 37 I' A90 n91 r77 C92 ∧ I40 ≤ I' ∧ C92 ++ (C37 ++ (C18 ++ L)) = L' ∧ Knows 91 [(0, .string a0), (2, .slice A2_0 a2.length n2_0), (3, .bool a3), (4, .float .f64 b4_0), (14, (tabv_48 (aggr_fold a0))), (15, .slice A35 s31.1.length n36), (17, .slice A59 x51.length n60), (18, .slice A90 r77.length n91), (37, .slice A16 y11.1.length c17), (38, .int .i64 (y11.1.length : Int)), (39, .int .i64 s31.2)] t) ?_ ?_
            · refine gk_block (by kernel_rfl) ?_
              refine gk_pick [0, 2, 3, 4, 14, 15, 17, 18, 37, 38, 39, 58, 59, 60] (K' := [(0, .string a0), (2, .slice A2_0 a2.length n2_0), (3, .bool a3), (4, .float .f64 b4_0), (14, (tabv_48 (aggr_fold a0))), (15, .slice A35 s31.1.length n36), (17, .slice A59 x51.length n60), (18, .slice none 0 0), (37, .slice A16 y11.1.length c17), (38, .int .i64 (y11.1.length : Int)), (39, .int .i64 s31.2), (58, .slice A59 x51.length n60), (59, .int .i64 (x51.length : Int)), (60, .int .i64 0)]) (by kernel_rfl) ?_
              intro t hK
              refine gc_loop (aggr_Number_l96 x51) (fun s79 t I' L' => ∃ A83 n84 C85, OwnS Kd.flt 37 I' A83 n84 s79.1 C85 ∧ I40 ≤ I' ∧ C85 ++ (C37 ++ (C18 ++ L)) = L' ∧ Knows 91 [(0, .string a0), (2, .slice A2_0 a2.length n2_0), (3, .bool a3), (4, .float .f64 b4_0), (14, (tabv_48 (aggr_fold a0))), (15, .slice A35 s31.1.length n36), (17, .slice A59 x51.length n60), (18, .slice A83 s79.1.length n84), (37, .slice A16 y11.1.length c17), (38, .int .i64 (y11.1.length : Int)), (39, .int .i64 s31.2), (58, .slice A59 x51.length n60), (59, .int .i64 (x51.length : Int)), (60, .int .i64 s79.2)] t) (by kernel_rfl) ?_ hl78 ⟨none, 0, [], OwnS.nil _ _ _ _, (Imm.refl _), rfl, hK⟩
              rintro s79 o80 t I88 L' hb81 ⟨A83, n84, C85, hO86, hI82, rfl, hK87⟩
              unfold aggr_Number_l96 at hb81
              refine gk_at hK87 ?_
              refine gk_seq (by kernel_rfl) ?_
              refine gk_region (by kernel_rfl) ?_
              refine gl_pure 1 [0, 2, 3, 4, 14, 15, 17, 18, 37, 38, 39, 58, 59, 60, 61] (K' := [(0, .string a0), (2, .slice A2_0 a2.length n2_0), (3, .bool a3), (4, .float .f64 b4_0), (14, (tabv_48 (aggr_fold a0))), (15, .slice A35 s31.1.length n36), (17, .slice A59 x51.length n60), (18, .slice A83 s79.1.length n84), (37, .slice A16 y11.1.length c17), (38, .int .i64 (y11.1.length : Int)), (39, .int .i64 s31.2), (58, .slice A59 x51.length n60), (59, .int .i64 (x51.length : Int)), (60, .int .i64 s79.2), (61, .bool (decide (s79.2 < (x51.length : Int))))]) (by kernel_rfl) ?_
              refine gl_atE (by kernel_rfl) ?_
              refine ge_seq ?_
              refine gk_seq (by kernel_rfl) ?_
              refine gk_cond (b := (decide (s79.2 < (x51.length : Int)))) (by kernel_rfl) (by kernel_rfl) (fun hc98 => ?_) (fun hc98 => ?_)
              · have hb81 := cond_t hc98 hb81
                refine gk_skip (by kernel_rfl) ?_
                refine ge_seq ?_
                refine gk_seq (by kernel_rfl) ?_
                refine gk_block (by kernel_rfl) ?_
                refine gk_seq (by kernel_rfl) ?_
                refine gk_region (by kernel_rfl) ?_
                obtain ⟨x99, hx100, hb81⟩ := bind_some hb81
                obtain ⟨p101, cs102, hR103, hA104, ha105⟩ := RepS.ixAt hx100 (hf61.mono hI82)
                have hi106 := ix_some hx100
                obtain ⟨A107, n108, b110, hf109, hf111, rfl⟩ := kS38_open hR103
                refine gl_indexAddrF (c := n60) (T' := 22) (e := 39) (xs := (.tmp 58)) (xi := (.tmp 60)) (kd := .i64) ha105 hi106.1 hi106.2.1 (by kernel_rfl) (by kernel_rfl) (by kernel_rfl) (by kernel_rfl) (by kernel_rfl) ?_
                refine gl_loadA (T' := 39) (xp := (.tmp 62)) (p := p101) (cs := [.slice A107 x99.f0.length n108, .float .f64 b110]) (by kernel_rfl) (by kernel_rfl) (by kernel_rfl) (by kernel_rfl) (hA104.take 2) ?_
                refine gl_alloc (T' := 39) (cs := #[.slice none 0 0, .float .f64 0]) (by kernel_rfl) (by kernel_rfl) (by kernel_rfl) (fun g112 => ?_)
                refine gl_storeB (T' := 39) (xp := (.tmp 20)) (xv := (.tmp 63)) (v := .agg #[.slice A107 x99.f0.length n108, .float .f64 b110]) (g := g112) (off := 0) (cs := #[.slice none 0 0, .float .f64 0]) (cs' := #[.slice A107 x99.f0.length n108, .float .f64 b110]) (by kernel_rfl) (by kernel_rfl) (by kernel_rfl) (by kernel_rfl) (by kernel_rfl) (Upd.set _ _ _ _) ?_ (by kernel_rfl)
                refine gl_atE (by kernel_rfl) ?_
                refine ge_seq ?_
                refine gk_region (by kernel_rfl) ?_
                refine gl_pure 2 [0, 2, 3, 4, 14, 15, 17, 37, 38, 39, 58, 59, 60, 64, 65] (K' := [(0, .string a0), (2, .slice A2_0 a2.length n2_0), (3, .bool a3), (4, .float .f64 b4_0), (14, (tabv_48 (aggr_fold a0))), (15, .slice A35 s31.1.length n36), (17, .slice A59 x51.length n60), (37, .slice A16 y11.1.length c17), (38, .int .i64 (y11.1.length : Int)), (39, .int .i64 s31.2), (58, .slice A59 x51.length n60), (59, .int .i64 (x51.length : Int)), (60, .int .i64 s79.2), (64, .slice A83 s79.1.length n84), (65, .pointer (some ⟨g112, 1, none⟩))]) (by kernel_rfl) ?_
                refine gl_loadB (T' := 37) (xp := (.tmp 65)) (v := .float .f64 b110) (g := g112) (off := 1) (cs := #[.slice A107 x99.f0.length n108, .float .f64 b110]) (e := 39) (fz := (0, 0)) (by kernel_rfl) (by kernel_rfl) (by kernel_rfl) List.mem_cons_self (by kernel_rfl) ?_
                refine gl_buildSlice (T' := 92) (e := 37) (n := 1) (len := 1) (parts := #[(0, (.tmp 66))]) (l := [(0, .float .f64 b110)]) (cs := #[.float .f64 b110]) (by kernel_rfl) (by kernel_rfl) (by kernel_rfl) (by kernel_rfl) (by kernel_rfl) (fun g113 => ?_)
                have hO114 : OwnS Kd.flt 37 I88 (some ⟨g113, 0, none⟩) 1 [x99.f1] [(g113, .cells #[.float .f64 b110] 37)] := OwnS.lit (row_cons (l := [.float .f64 b110]) ⟨_, rfl, hf111⟩ (row_nil _ _)) rfl rfl rfl
                refine gl_reord (D := [(g113, .cells #[.float .f64 b110] 37)] ++ ((g112, .cells #[.slice A107 x99.f0.length n108, .float .f64 b110] 39) :: (C85 ++ (C37 ++ (C18 ++ L))))) (Reord.refl _) ?_
                obtain ⟨zs117, hz118, hb81⟩ := bind_some hb81
                refine gl_append (xv := .slice (some ⟨g113, 0, none⟩) [x99.f1].length 1) (d := Kd.flt) (t := 92) (tx := 92) (e := 37) (s := (.tmp 64)) (x := (.tmp 67)) (xs := s79.1) (fun X => [(g113, .cells #[.float .f64 b110] 37)] ++ ((g112, .cells #[.slice A107 x99.f0.length n108, .float .f64 b110] 39) :: (X ++ (C37 ++ (C18 ++ L))))) hz118 (by kernel_rfl) (by kernel_rfl) (by kernel_rfl) (by kernel_rfl) (by kernel_rfl) (by kernel_rfl) (fun X => (Upd.app _ (Upd.one _ (Upd.head _ X _)))) hO86 (SrcOk.slice (c := 1) (e := 37) (n := 1) (OwnS.rd hO114 (Upd.selfC _ _)) (by kernel_rfl)) (fun A119 n120 C121 hO122 => ?_)
                refine gl_pure 1 [0, 2, 3, 4, 14, 15, 17, 18, 37, 38, 39, 58, 59, 60] (K' := [(0, .string a0), (2, .slice A2_0 a2.length n2_0), (3, .bool a3), (4, .float .f64 b4_0), (14, (tabv_48 (aggr_fold a0))), (15, .slice A35 s31.1.length n36), (17, .slice A59 x51.length n60), (18, .slice A119 zs117.length n120), (37, .slice A16 y11.1.length c17), (38, .int .i64 (y11.1.length : Int)), (39, .int .i64 s31.2), (58, .slice A59 x51.length n60), (59, .int .i64 (x51.length : Int)), (60, .int .i64 s79.2)]) (by kernel_rfl) ?_
                refine gl_atE (by kernel_rfl) ?_
                refine ge_block_normal ?_
                refine ge_seq ?_
                refine gk_region (by kernel_rfl) ?_
                refine gl_pure 2 [0, 2, 3, 4, 14, 15, 17, 18, 37, 38, 39, 58, 59, 60] (K' := [(0, .string a0), (2, .slice A2_0 a2.length n2_0), (3, .bool a3), (4, .float .f64 b4_0), (14, (tabv_48 (aggr_fold a0))), (15, .slice A35 s31.1.length n36), (17, .slice A59 x51.length n60), (18, .slice A119 zs117.length n120), (37, .slice A16 y11.1.length c17), (38, .int .i64 (y11.1.length : Int)), (39, .int .i64 s31.2), (58, .slice A59 x51.length n60), (59, .int .i64 (x51.length : Int)), (60, .int .i64 (IntKind.wrap .i64 (s79.2 + 1)))]) (by kernel_rfl) ?_
                refine gl_reord (D := C121 ++ (C37 ++ (C18 ++ L))) (Reord.step (Upd.app _ (Upd.one _ (Upd.rmC _ _))) (Reord.step (Upd.app _ (Upd.one _ (Upd.rmC _ _))) (Reord.step (Upd.app _ (Upd.one _ (Upd.rmC _ _))) (Reord.skipC (Reord.skip (Reord.refl _)))))) ?_
                refine gl_atE (by kernel_rfl) ?_
                obtain rfl := some_inj hb81
                exact ge_round fun t ht => ⟨A119, n120, C121, hO122, hI82, rfl, ht.pick (l := [0, 2, 3, 4, 14, 15, 17, 18, 37, 38, 39, 58, 59, 60]) (by kernel_rfl)⟩
              · have hb81 := cond_f hc98 hb81
                refine gk_exit (by kernel_rfl) ?_
                refine ge_seq_exit ?_
                obtain rfl := some_inj hb81
                refine ge_round_out (fun hrr => ?_) (by intro h; cases h)
                obtain rfl := hrr
                refine ge_block_hit (by kernel_rfl) ?_
                exact ge_mid fun t ht => ⟨A83, n84, C85, hO86, hI82, rfl, ht.pick (l := [0, 2, 3, 4, 14, 15, 17, 18, 37, 38, 39]) (by kernel_rfl)⟩
            · rintro t I95 L' ⟨A90, n91, C92, hO93, hI89, rfl, hK94⟩
              refine ge_at hK94 ?_
              refine ge_seq ?_
              refine gk_region (by kernel_rfl) ?_
              refine gl_pure 2 [0, 2, 3, 4, 14, 18, 37, 38, 39, 70, 71] (K' := [(0, .string a0), (2, .slice A2_0 a2.length n2_0), (3, .bool a3), (4, .float .f64 b4_0), (14, (tabv_48 (aggr_fold a0))), (18, .slice A90 r77.length n91), (37, .slice A16 y11.1.length c17), (38, .int .i64 (y11.1.length : Int)), (39, .int .i64 s31.2), (70, .slice A35 s31.1.length n36), (71, .slice A59 x51.length n60)]) (by kernel_rfl) ?_
              obtain ⟨x123, hx124, hb33⟩ := bind_some hb33
              obtain ⟨p125, cs126, hR127, hA128, ha129⟩ := RepS.ixAt hx124 (hf61.mono hI89)
              have hi130 := ix_some hx124
              obtain ⟨A131, n132, b134, hf133, hf135, rfl⟩ := kS38_open hR127
              refine gl_indexAddrF (c := n60) (T' := 22) (e := 39) (xs := (.tmp 71)) (xi := (.const (.int .i64 0))) (kd := .i64) ha129 hi130.1 hi130.2.1 (by kernel_rfl) (by kernel_rfl) (by kernel_rfl) (by kernel_rfl) (by kernel_rfl) ?_
              refine gl_pure 1 [0, 2, 3, 4, 14, 18, 37, 38, 39, 70, 73] (K' := [(0, .string a0), (2, .slice A2_0 a2.length n2_0), (3, .bool a3), (4, .float .f64 b4_0), (14, (tabv_48 (aggr_fold a0))), (18, .slice A90 r77.length n91), (37, .slice A16 y11.1.length c17), (38, .int .i64 (y11.1.length : Int)), (39, .int .i64 s31.2), (70, .slice A35 s31.1.length n36), (73, .pointer (some (p125.add 0)))]) (by kernel_rfl) ?_
              refine gl_load (T' := 36) (xp := (.tmp 73)) (p := (p125.add 0)) (c := .slice A131 x123.f0.length n132) (n := 1) (by kernel_rfl) (by kernel_rfl) (by kernel_rfl) (by kernel_rfl) (hA128.drop 0) ?_
              refine gl_pure 2 [0, 2, 3, 4, 14, 18, 37, 38, 39, 70, 74, 75, 76] (K' := [(0, .string a0), (2, .slice A2_0 a2.length n2_0), (3, .bool a3), (4, .float .f64 b4_0), (14, (tabv_48 (aggr_fold a0))), (18, .slice A90 r77.length n91), (37, .slice A16 y11.1.length c17), (38, .int .i64 (y11.1.length : Int)), (39, .int .i64 s31.2), (70, .slice A35 s31.1.length n36), (74, .slice A131 x123.f0.length n132), (75, .slice A2_0 a2.length n2_0), (76, .bool a3)]) (by kernel_rfl) ?_
              obtain ⟨y136, hx137, hb33⟩ := bind_some hb33
              refine gl_call (by kernel_rfl) (aggr_group_walk (r := y136) (hG.mono (Imm.trans (Imm.trans (Imm.trans hI3 hI15) hI34) hI89)) hf133 (hf2_0.mono (Imm.trans (Imm.trans (Imm.trans hI3 hI15) hI34) hI89)) hx137 _) ?_
              rintro v I138 L139 hI140 ⟨A141, c142, C143, hO144, rfl, rfl⟩
              refine gl_pure 3 [0, 2, 3, 4, 14, 37, 38, 39, 70, 77, 78, 79, 80] (K' := [(0, .string a0), (2, .slice A2_0 a2.length n2_0), (3, .bool a3), (4, .float .f64 b4_0), (14, (tabv_48 (aggr_fold a0))), (37, .slice A16 y11.1.length c17), (38, .int .i64 (y11.1.length : Int)), (39, .int .i64 s31.2), (70, .slice A35 s31.1.length n36), (77, .slice A141 y136.length c142), (78, (tabv_48 (aggr_fold a0))), (79, .slice A90 r77.length n91), (80, .float .f64 b4_0)]) (by kernel_rfl) ?_
              refine gl_rest (Tk.step (Upd.app _ (Upd.rmC _ _)) (Tk.nil _)) (fun J147 hJ148 hC149 => ?_)
              have hf150 := (OwnS.rest (hO93.mono hI140) hJ148 hC149.left)
              obtain ⟨y152, hx151, hb33⟩ := bind_some hb33
              refine gl_callv (by kernel_rfl) ((tabf_48_fn (aggr_fold a0)).out _ (Imm.refl _) _ _ _ hx151 _ _ _ hf150 hf4_0 _) ?_
              rintro v I153 L154 hI155 ⟨z156, hO157, rfl, rfl⟩
              refine gl_call (by kernel_rfl) (aggr_told_walk (r := (aggr_told y152)) hO157 rfl _) ?_
              rintro v I158 L159 hI160 ⟨z161, hO162, rfl, rfl⟩
              refine gl_pure 1 [0, 2, 3, 4, 14, 37, 38, 39, 70, 83] (K' := [(0, .string a0), (2, .slice A2_0 a2.length n2_0), (3, .bool a3), (4, .float .f64 b4_0), (14, (tabv_48 (aggr_fold a0))), (37, .slice A16 y11.1.length c17), (38, .int .i64 (y11.1.length : Int)), (39, .int .i64 s31.2), (70, .slice A35 s31.1.length n36), (83, .agg #[.slice A141 y136.length c142, .float .f64 z161])]) (by kernel_rfl) ?_
              refine gl_rest (Tk.step (Upd.rmC _ _) (Tk.nil _)) (fun J163 hJ164 hC165 => ?_)
              have hf166 := (OwnS.rest (hO144.mono (Imm.trans (Imm.trans hJ148 hI155) hI160)) hJ164 hC165.left)
              refine gl_buildSlice (T' := 22) (e := 39) (n := 2) (len := 1) (parts := #[(0, (.tmp 83))]) (l := [(0, .agg #[.slice A141 y136.length c142, .float .f64 z161])]) (cs := #[.slice A141 y136.length c142, .float .f64 z161]) (by kernel_rfl) (by kernel_rfl) (by kernel_rfl) (by kernel_rfl) (by kernel_rfl) (fun g167 => ?_)
              have hO168 : OwnS kS38 39 J163 (some ⟨g167, 0, none⟩) 1 [(⟨y136, (aggr_told y152)⟩ : S38)] [(g167, .cells #[.slice A141 y136.length c142, .float .f64 z161] 39)] := OwnS.lit (row_cons (l := [.slice A141 y136.length c142, .float .f64 z161]) (kS38_mk (x := (⟨y136, (aggr_told y152)⟩ : S38)) hf166 hO162) (row_nil _ _)) rfl rfl rfl
              refine gl_reord (D := [(g167, .cells #[.slice A141 y136.length c142, .float .f64 z161] 39)] ++ (C37 ++ (C18 ++ L))) (Reord.refl _) ?_
              obtain ⟨zs171, hz172, hb33⟩ := bind_some hb33
              refine gl_append (xv := .slice (some ⟨g167, 0, none⟩) [(⟨y136, (aggr_told y152)⟩ : S38)].length 1) (d := kS38) (t := 22) (tx := 22) (e := 39) (s := (.tmp 70)) (x := (.tmp 84)) (xs := s31.1) (fun X => [(g167, .cells #[.slice A141 y136.length c142, .float .f64 z161] 39)] ++ (X ++ (C18 ++ L))) hz172 (by kernel_rfl) (by kernel_rfl) (by kernel_rfl) (by kernel_rfl) (by kernel_rfl) (by kernel_rfl) (fun X => (Upd.app _ (Upd.head _ X _))) (hO38.mono (Imm.trans (Imm.trans (Imm.trans (Imm.trans (Imm.trans hI89 hI140) hJ148) hI155) hI160) hJ164)) (SrcOk.slice (c := 1) (e := 39) (n := 2) (OwnS.rd hO168 (Upd.selfC _ _)) (by kernel_rfl)) (fun A173 n174 C175 hO176 => ?_)
              refine gl_pure 1 [0, 2, 3, 4, 14, 15, 37, 38, 39] (K' := [(0, .string a0), (2, .slice A2_0 a2.length n2_0), (3, .bool a3), (4, .float .f64 b4_0), (14, (tabv_48 (aggr_fold a0))), (15, .slice A173 zs171.length n174), (37, .slice A16 y11.1.length c17), (38, .int .i64 (y11.1.length : Int)), (39, .int .i64 s31.2)]) (by kernel_rfl) ?_
              refine gl_atE (by kernel_rfl) ?_
              refine ge_block_normal ?_
              refine ge_seq ?_
              refine gk_region (by kernel_rfl) ?_
              refine gl_pure 2 [0, 2, 3, 4, 14, 15, 37, 38, 39] (K' := [(0, .string a0), (2, .slice A2_0 a2.length n2_0), (3, .bool a3), (4, .float .f64 b4_0), (14, (tabv_48 (aggr_fold a0))), (15, .slice A173 zs171.length n174), (37, .slice A16 y11.1.length c17), (38, .int .i64 (y11.1.length : Int)), (39, .int .i64 (IntKind.wrap .i64 (s31.2 + 1)))]) (by kernel_rfl) ?_
              refine gl_reord (D := C175 ++ (C18 ++ L)) (Reord.step (Upd.app _ (Upd.rmC _ _)) (Reord.step (Upd.app _ (Upd.rmC _ _)) (Reord.skipC (Reord.refl _)))) ?_
              refine gl_atE (by kernel_rfl) ?_
              obtain rfl := some_inj hb33
              exact ge_round fun t ht => ⟨A173, n174, C175, hO176, (Imm.trans (Imm.trans (Imm.trans (Imm.trans (Imm.trans (Imm.trans hI34 hI89) hI140) hJ148) hI155) hI160) hJ164), rfl, ht.pick (l := [0, 2, 3, 4, 14, 15, 37, 38, 39]) (by kernel_rfl)⟩
        · have hb33 := cond_f hc50 hb33
          refine gk_reord (D := C37 ++ L) (Reord.step (Upd.rmC _ _) (Reord.skipC (Reord.refl _))) ?_
          refine gk_exit (by kernel_rfl) ?_
          refine ge_seq_exit ?_
          obtain rfl := some_inj hb33
          refine ge_round_out (fun hrr => ?_) (by intro h; cases h)
          obtain rfl := hrr
          refine ge_block_hit (by kernel_rfl) ?_
          exact ge_mid fun t ht => ⟨A35, n36, C37, hO38, hI34, rfl, ht.pick (l := [15]) (by kernel_rfl)⟩
      · rintro t I47 L' ⟨A42, n43, C44, hO45, hI41, rfl, hK46⟩
        refine ge_at hK46 ?_
        refine ge_seq ?_
        refine gk_seq (by kernel_rfl) ?_
        refine gk_region (by kernel_rfl) ?_
        refine gl_pure 1 [87] (K' := [(87, .slice A42 r29.length n43)]) (by kernel_rfl) ?_
        refine gl_rest (Tk.step (Upd.rmC _ _) (Tk.nil _)) (fun J177 hJ178 hC179 => ?_)
        have hf180 := (OwnS.rest hO45 hJ178 hC179.left)
        obtain ⟨y181, hx182, hr⟩ := bind_some hr
        refine gl_call (by kernel_rfl) (vec_Vector_walk (r := y181) (hG.mono (Imm.trans (Imm.trans (Imm.trans hI3 hI15) hI41) hJ178)) hf180 hx182 _) ?_
        rintro v I183 L184 hI185 ⟨A186, c187, C188, hO189, rfl, rfl⟩
        refine gl_pure 4 [10, 11] (K' := [(10, .slice A186 y181.1.length c187), (11, .int .i64 y181.2)]) (by kernel_rfl) ?_
        refine gl_atE (by kernel_rfl) ?_
        refine ge_seq ?_
        refine gk_ret (by kernel_rfl) ?_
        obtain rfl := some_inj hr
        exact ge_result trivial (ResOk.tmp (by kernel_rfl) (ResOk.tmp (by kernel_rfl) ResOk.nil)) (Imm.trans (Imm.trans (Imm.trans (Imm.trans hI3 hI15) hI41) hJ178) hI185) ⟨A186, c187, C188, hO189, rfl, rfl⟩
noncomputable def aggr_Fold (a0 : ByteArray) (a1 : List Fl) (a2 : Fl) : Option (Fl × Int) :=
  bif ((aggr_fold a0) == 0) then
  (some ((some 0 : Fl), 60))
  else
  (bif ((a1.length : Int) == 0) then
    (some ((some 0 : Fl), 5))
    else
    (Option.bind (tabf_48 (aggr_fold a0) a1 a2) fun (y4 : Fl) =>
      some ((aggr_told y4), 0)))
theorem aggr_Fold_walk {a0 : ByteArray} {a1 : List Fl} {A1_0 : Option Addr} {n1_0 : Nat} {a2 : Fl} {b2_0 : Nat} {I : Imm} {r : Fl × Int}  (hf1_0 : RepS Kd.flt I A1_0 n1_0 a1)  (hf2_0 : FRep a2 b2_0) (hr : aggr_Fold a0 a1 a2 = some r) (L : Own) :
    CallsTo Tryz.prog 20 #[.string a0, .slice A1_0 a1.length n1_0, .float .f64 b2_0] I L (fun v I' L' => ∃ b0_0, FRep r.1 b0_0 ∧ v = .tuple #[.float .f64 b0_0, .int .i64 r.2] ∧ L = L') := by
  unfold aggr_Fold at hr
  refine callsTo_body (N := 23) Tryz.func20 (by kernel_rfl) (by kernel_rfl) (by kernel_rfl) ?_
  refine gk_pick [0, 1, 2] (K' := [(0, .string a0), (1, .slice A1_0 a1.length n1_0), (2, .float .f64 b2_0)]) (by kernel_rfl) ?_
  refine gk_seq (by kernel_rfl) ?_
  refine gk_region (by kernel_rfl) ?_
  refine gl_pure 2 [0, 1, 2] (K' := [(0, .string a0), (1, .slice A1_0 a1.length n1_0), (2, .float .f64 b2_0)]) (by kernel_rfl) ?_
  refine gl_atE (by kernel_rfl) ?_
  refine ge_seq ?_
  refine gk_seq (by kernel_rfl) ?_
  refine gk_region (by kernel_rfl) ?_
  refine gl_pure 1 [1, 2, 9] (K' := [(1, .slice A1_0 a1.length n1_0), (2, .float .f64 b2_0), (9, .string a0)]) (by kernel_rfl) ?_
  refine gl_callQ (by kernel_rfl) (aggr_fold_walk (r := (aggr_fold a0))  rfl _) ?_
  refine gl_pure 1 [1, 2, 8] (K' := [(1, .slice A1_0 a1.length n1_0), (2, .float .f64 b2_0), (8, (tabv_48 (aggr_fold a0)))]) (by kernel_rfl) ?_
  refine gl_atE (by kernel_rfl) ?_
  refine ge_seq ?_
  refine gk_seq (by kernel_rfl) ?_
  refine gk_block (by kernel_rfl) ?_
  refine gk_seq (by kernel_rfl) ?_
  refine gk_region (by kernel_rfl) ?_
  refine gl_pure 1 [1, 2, 8, 12] (K' := [(1, .slice A1_0 a1.length n1_0), (2, .float .f64 b2_0), (8, (tabv_48 (aggr_fold a0))), (12, (tabv_48 (aggr_fold a0)))]) (by kernel_rfl) ?_
  refine gl_eqNilTab (neg := false) (b := ((aggr_fold a0) == 0)) (t := 88) (t' := 88) (x := (.tmp 12)) (y := (.const (.nilFunc))) (tabv_48_cases (aggr_fold a0)) (by kernel_rfl) (by kernel_rfl) (by kernel_rfl) (by kernel_rfl) (by kernel_rfl) ?_
  refine gl_pure 1 [1, 2, 8, 11] (K' := [(1, .slice A1_0 a1.length n1_0), (2, .float .f64 b2_0), (8, (tabv_48 (aggr_fold a0))), (11, .bool ((aggr_fold a0) == 0))]) (by kernel_rfl) ?_
  refine gl_atE (by kernel_rfl) ?_
  refine ge_seq ?_
  refine gk_cond (b := ((aggr_fold a0) == 0)) (by kernel_rfl) (by kernel_rfl) (fun hc1 => ?_) (fun hc1 => ?_)
  · have hr := cond_t hc1 hr
    refine gk_seq (by kernel_rfl) ?_
    refine gk_region (by kernel_rfl) ?_
    refine gl_pure 2 [6, 7] (K' := [(6, .float .f64 0), (7, .int .i64 60)]) (by kernel_rfl) ?_
    refine gl_atE (by kernel_rfl) ?_
    refine ge_seq ?_
    refine gk_ret (by kernel_rfl) ?_
    refine ge_block_ret ?_
    refine ge_seq_ret ?_
    obtain rfl := some_inj hr
    exact ge_result trivial (ResOk.tmp (by kernel_rfl) (ResOk.tmp (by kernel_rfl) ResOk.nil)) (Imm.refl _) ⟨0, (FRep.of 0), rfl, rfl⟩
  · have hr := cond_f hc1 hr
    refine gk_seq (by kernel_rfl) ?_
    refine gk_region (by kernel_rfl) ?_
    refine gl_pure 4 [1, 2, 8, 14] (K' := [(1, .slice A1_0 a1.length n1_0), (2, .float .f64 b2_0), (8, (tabv_48 (aggr_fold a0))), (14, .bool ((a1.length : Int) == 0))]) (by kernel_rfl) ?_
    refine gl_atE (by kernel_rfl) ?_
    refine ge_seq ?_
    refine gk_cond (b := ((a1.length : Int) == 0)) (by kernel_rfl) (by kernel_rfl) (fun hc2 => ?_) (fun hc2 => ?_)
    · have hr := cond_t hc2 hr
      refine gk_seq (by kernel_rfl) ?_
      refine gk_region (by kernel_rfl) ?_
      refine gl_pure 2 [6, 7] (K' := [(6, .float .f64 0), (7, .int .i64 5)]) (by kernel_rfl) ?_
      refine gl_atE (by kernel_rfl) ?_
      refine ge_seq ?_
      refine gk_ret (by kernel_rfl) ?_
      refine ge_block_ret ?_
      refine ge_seq_ret ?_
      obtain rfl := some_inj hr
      exact ge_result trivial (ResOk.tmp (by kernel_rfl) (ResOk.tmp (by kernel_rfl) ResOk.nil)) (Imm.refl _) ⟨0, (FRep.of 0), rfl, rfl⟩
    · have hr := cond_f hc2 hr
      refine gk_skip (by kernel_rfl) ?_
      refine ge_block_normal ?_
      refine ge_seq ?_
      refine gk_seq (by kernel_rfl) ?_
      refine gk_region (by kernel_rfl) ?_
      refine gl_pure 3 [18, 19, 20] (K' := [(18, (tabv_48 (aggr_fold a0))), (19, .slice A1_0 a1.length n1_0), (20, .float .f64 b2_0)]) (by kernel_rfl) ?_
      obtain ⟨y4, hx3, hr⟩ := bind_some hr
      refine gl_callv (by kernel_rfl) ((tabf_48_fn (aggr_fold a0)).out _ (Imm.refl _) _ _ _ hx3 _ _ _ hf1_0 hf2_0 _) ?_
      rintro v I5 L6 hI7 ⟨z8, hO9, rfl, rfl⟩
      refine gl_call (by kernel_rfl) (aggr_told_walk (r := (aggr_told y4)) hO9 rfl _) ?_
      rintro v I10 L11 hI12 ⟨z13, hO14, rfl, rfl⟩
      refine gl_pure 2 [6, 7] (K' := [(6, .float .f64 z13), (7, .int .i64 0)]) (by kernel_rfl) ?_
      refine gl_atE (by kernel_rfl) ?_
      refine ge_seq ?_
      refine gk_ret (by kernel_rfl) ?_
      obtain rfl := some_inj hr
      exact ge_result trivial (ResOk.tmp (by kernel_rfl) (ResOk.tmp (by kernel_rfl) ResOk.nil)) (Imm.trans hI7 hI12) ⟨z13, hO14, rfl, rfl⟩
noncomputable def tocsinlaw16_awake : Option Bool :=
  Option.bind (aggr_Number (⟨#[115, 117, 109]⟩ : ByteArray) [(⟨[(⟨(⟨#[97]⟩ : ByteArray), (⟨#[49]⟩ : ByteArray)⟩ : S76), (⟨(⟨#[98]⟩ : ByteArray), (⟨#[120]⟩ : ByteArray)⟩ : S76)], (some 4611686018427387904 : Fl)⟩ : S38), (⟨[(⟨(⟨#[97]⟩ : ByteArray), (⟨#[49]⟩ : ByteArray)⟩ : S76), (⟨(⟨#[98]⟩ : ByteArray), (⟨#[121]⟩ : ByteArray)⟩ : S76)], (some 4616189618054758400 : Fl)⟩ : S38)] [(⟨#[97]⟩ : ByteArray)] false (some 0 : Fl)) fun (y27 : (List S38) × Int) =>
  Option.bind (aggr_Fold (⟨#[97, 118, 103]⟩ : ByteArray) [(some 4611686018427387904 : Fl), (some 4616189618054758400 : Fl)] (some 0 : Fl)) fun (y44 : Fl × Int) =>
  Option.bind (bif (y27.2 == 0) then
    (bif ((y27.1.length : Int) == 1) then
      (Option.bind (ix y27.1 0) fun (x58 : S38) =>
        bif (fcmp .eql x58.f1 (some 4618441417868443648 : Fl)) then
        (Option.bind (ix y27.1 0) fun (x73 : S38) =>
          bif ((x73.f0.length : Int) == 1) then
          (bif (y44.2 == 0) then
            (some (fcmp .eql y44.1 (some 4613937818241073152 : Fl)))
            else
            (some false))
          else
          (some false))
        else
        (some false))
      else
      (some false))
    else
    (some false)) fun (j51 : Bool) =>
  some j51
theorem tocsinlaw16_awake_walk  {I : Imm} {r : Bool} (hG : Gl I) (hr : tocsinlaw16_awake = some r) (L : Own) :
    CallsTo Tryz.prog 19 #[] I L (fun v I' L' => v = .bool r ∧ L = L') := by
  unfold tocsinlaw16_awake at hr
  refine callsTo_body (N := 56) Tryz.func19 (by kernel_rfl) (by kernel_rfl) (by kernel_rfl) ?_
  refine gk_pick [] (K' := []) (by kernel_rfl) ?_
  refine gk_seq (by kernel_rfl) ?_
  refine gk_region (by kernel_rfl) ?_
  refine gl_pure 1 [] (K' := []) (by kernel_rfl) ?_
  refine gl_atE (by kernel_rfl) ?_
  refine ge_seq ?_
  refine gk_seq (by kernel_rfl) ?_
  refine gk_region (by kernel_rfl) ?_
  refine gl_pure 2 [6, 7] (K' := [(6, .agg #[.string (⟨#[97]⟩ : ByteArray), .string (⟨#[49]⟩ : ByteArray)]), (7, .agg #[.string (⟨#[98]⟩ : ByteArray), .string (⟨#[120]⟩ : ByteArray)])]) (by kernel_rfl) ?_
  refine gl_buildSlice (T' := 36) (e := 77) (n := 2) (len := 2) (parts := #[(0, (.tmp 6)), (1, (.tmp 7))]) (l := [(0, .agg #[.string (⟨#[97]⟩ : ByteArray), .string (⟨#[49]⟩ : ByteArray)]), (1, .agg #[.string (⟨#[98]⟩ : ByteArray), .string (⟨#[120]⟩ : ByteArray)])]) (cs := #[.string (⟨#[97]⟩ : ByteArray), .string (⟨#[49]⟩ : ByteArray), .string (⟨#[98]⟩ : ByteArray), .string (⟨#[120]⟩ : ByteArray)]) (by kernel_rfl) (by kernel_rfl) (by kernel_rfl) (by kernel_rfl) (by kernel_rfl) (fun g1 => ?_)
  have hO2 : OwnS kS76 77 I (some ⟨g1, 0, none⟩) 2 [(⟨(⟨#[97]⟩ : ByteArray), (⟨#[49]⟩ : ByteArray)⟩ : S76), (⟨(⟨#[98]⟩ : ByteArray), (⟨#[120]⟩ : ByteArray)⟩ : S76)] [(g1, .cells #[.string (⟨#[97]⟩ : ByteArray), .string (⟨#[49]⟩ : ByteArray), .string (⟨#[98]⟩ : ByteArray), .string (⟨#[120]⟩ : ByteArray)] 77)] := OwnS.lit (row_cons (l := [.string (⟨#[97]⟩ : ByteArray), .string (⟨#[49]⟩ : ByteArray)]) (kS76_mk (x := (⟨(⟨#[97]⟩ : ByteArray), (⟨#[49]⟩ : ByteArray)⟩ : S76)) ) (row_cons (l := [.string (⟨#[98]⟩ : ByteArray), .string (⟨#[120]⟩ : ByteArray)]) (kS76_mk (x := (⟨(⟨#[98]⟩ : ByteArray), (⟨#[120]⟩ : ByteArray)⟩ : S76)) ) (row_nil _ _))) rfl rfl rfl
  refine gl_reord (D := [(g1, .cells #[.string (⟨#[97]⟩ : ByteArray), .string (⟨#[49]⟩ : ByteArray), .string (⟨#[98]⟩ : ByteArray), .string (⟨#[120]⟩ : ByteArray)] 77)] ++ L) (Reord.refl _) ?_
  refine gl_pure 3 [9, 10, 11] (K' := [(9, .agg #[.slice (some ⟨g1, 0, none⟩) [(⟨(⟨#[97]⟩ : ByteArray), (⟨#[49]⟩ : ByteArray)⟩ : S76), (⟨(⟨#[98]⟩ : ByteArray), (⟨#[120]⟩ : ByteArray)⟩ : S76)].length 2, .float .f64 4611686018427387904]), (10, .agg #[.string (⟨#[97]⟩ : ByteArray), .string (⟨#[49]⟩ : ByteArray)]), (11, .agg #[.string (⟨#[98]⟩ : ByteArray), .string (⟨#[121]⟩ : ByteArray)])]) (by kernel_rfl) ?_
  refine gl_buildSlice (T' := 36) (e := 77) (n := 2) (len := 2) (parts := #[(0, (.tmp 10)), (1, (.tmp 11))]) (l := [(0, .agg #[.string (⟨#[97]⟩ : ByteArray), .string (⟨#[49]⟩ : ByteArray)]), (1, .agg #[.string (⟨#[98]⟩ : ByteArray), .string (⟨#[121]⟩ : ByteArray)])]) (cs := #[.string (⟨#[97]⟩ : ByteArray), .string (⟨#[49]⟩ : ByteArray), .string (⟨#[98]⟩ : ByteArray), .string (⟨#[121]⟩ : ByteArray)]) (by kernel_rfl) (by kernel_rfl) (by kernel_rfl) (by kernel_rfl) (by kernel_rfl) (fun g5 => ?_)
  have hO6 : OwnS kS76 77 I (some ⟨g5, 0, none⟩) 2 [(⟨(⟨#[97]⟩ : ByteArray), (⟨#[49]⟩ : ByteArray)⟩ : S76), (⟨(⟨#[98]⟩ : ByteArray), (⟨#[121]⟩ : ByteArray)⟩ : S76)] [(g5, .cells #[.string (⟨#[97]⟩ : ByteArray), .string (⟨#[49]⟩ : ByteArray), .string (⟨#[98]⟩ : ByteArray), .string (⟨#[121]⟩ : ByteArray)] 77)] := OwnS.lit (row_cons (l := [.string (⟨#[97]⟩ : ByteArray), .string (⟨#[49]⟩ : ByteArray)]) (kS76_mk (x := (⟨(⟨#[97]⟩ : ByteArray), (⟨#[49]⟩ : ByteArray)⟩ : S76)) ) (row_cons (l := [.string (⟨#[98]⟩ : ByteArray), .string (⟨#[121]⟩ : ByteArray)]) (kS76_mk (x := (⟨(⟨#[98]⟩ : ByteArray), (⟨#[121]⟩ : ByteArray)⟩ : S76)) ) (row_nil _ _))) rfl rfl rfl
  refine gl_reord (D := [(g5, .cells #[.string (⟨#[97]⟩ : ByteArray), .string (⟨#[49]⟩ : ByteArray), .string (⟨#[98]⟩ : ByteArray), .string (⟨#[121]⟩ : ByteArray)] 77)] ++ ([(g1, .cells #[.string (⟨#[97]⟩ : ByteArray), .string (⟨#[49]⟩ : ByteArray), .string (⟨#[98]⟩ : ByteArray), .string (⟨#[120]⟩ : ByteArray)] 77)] ++ L)) (Reord.refl _) ?_
  refine gl_pure 1 [9, 13] (K' := [(9, .agg #[.slice (some ⟨g1, 0, none⟩) [(⟨(⟨#[97]⟩ : ByteArray), (⟨#[49]⟩ : ByteArray)⟩ : S76), (⟨(⟨#[98]⟩ : ByteArray), (⟨#[120]⟩ : ByteArray)⟩ : S76)].length 2, .float .f64 4611686018427387904]), (13, .agg #[.slice (some ⟨g5, 0, none⟩) [(⟨(⟨#[97]⟩ : ByteArray), (⟨#[49]⟩ : ByteArray)⟩ : S76), (⟨(⟨#[98]⟩ : ByteArray), (⟨#[121]⟩ : ByteArray)⟩ : S76)].length 2, .float .f64 4616189618054758400])]) (by kernel_rfl) ?_
  refine gl_rest (Tk.step (Upd.rmC _ _) (Tk.step (Upd.rmC _ _) (Tk.nil _))) (fun J9 hJ10 hC11 => ?_)
  have hf12 := (OwnS.rest hO6 hJ10 hC11.left)
  have hf13 := (OwnS.rest hO2 hJ10 hC11.right.left)
  refine gl_buildSlice (T' := 22) (e := 39) (n := 2) (len := 2) (parts := #[(0, (.tmp 9)), (1, (.tmp 13))]) (l := [(0, .agg #[.slice (some ⟨g1, 0, none⟩) [(⟨(⟨#[97]⟩ : ByteArray), (⟨#[49]⟩ : ByteArray)⟩ : S76), (⟨(⟨#[98]⟩ : ByteArray), (⟨#[120]⟩ : ByteArray)⟩ : S76)].length 2, .float .f64 4611686018427387904]), (1, .agg #[.slice (some ⟨g5, 0, none⟩) [(⟨(⟨#[97]⟩ : ByteArray), (⟨#[49]⟩ : ByteArray)⟩ : S76), (⟨(⟨#[98]⟩ : ByteArray), (⟨#[121]⟩ : ByteArray)⟩ : S76)].length 2, .float .f64 4616189618054758400])]) (cs := #[.slice (some ⟨g1, 0, none⟩) [(⟨(⟨#[97]⟩ : ByteArray), (⟨#[49]⟩ : ByteArray)⟩ : S76), (⟨(⟨#[98]⟩ : ByteArray), (⟨#[120]⟩ : ByteArray)⟩ : S76)].length 2, .float .f64 4611686018427387904, .slice (some ⟨g5, 0, none⟩) [(⟨(⟨#[97]⟩ : ByteArray), (⟨#[49]⟩ : ByteArray)⟩ : S76), (⟨(⟨#[98]⟩ : ByteArray), (⟨#[121]⟩ : ByteArray)⟩ : S76)].length 2, .float .f64 4616189618054758400]) (by kernel_rfl) (by kernel_rfl) (by kernel_rfl) (by kernel_rfl) (by kernel_rfl) (fun g14 => ?_)
  have hO15 : OwnS kS38 39 J9 (some ⟨g14, 0, none⟩) 2 [(⟨[(⟨(⟨#[97]⟩ : ByteArray), (⟨#[49]⟩ : ByteArray)⟩ : S76), (⟨(⟨#[98]⟩ : ByteArray), (⟨#[120]⟩ : ByteArray)⟩ : S76)], (some 4611686018427387904 : Fl)⟩ : S38), (⟨[(⟨(⟨#[97]⟩ : ByteArray), (⟨#[49]⟩ : ByteArray)⟩ : S76), (⟨(⟨#[98]⟩ : ByteArray), (⟨#[121]⟩ : ByteArray)⟩ : S76)], (some 4616189618054758400 : Fl)⟩ : S38)] [(g14, .cells #[.slice (some ⟨g1, 0, none⟩) [(⟨(⟨#[97]⟩ : ByteArray), (⟨#[49]⟩ : ByteArray)⟩ : S76), (⟨(⟨#[98]⟩ : ByteArray), (⟨#[120]⟩ : ByteArray)⟩ : S76)].length 2, .float .f64 4611686018427387904, .slice (some ⟨g5, 0, none⟩) [(⟨(⟨#[97]⟩ : ByteArray), (⟨#[49]⟩ : ByteArray)⟩ : S76), (⟨(⟨#[98]⟩ : ByteArray), (⟨#[121]⟩ : ByteArray)⟩ : S76)].length 2, .float .f64 4616189618054758400] 39)] := OwnS.lit (row_cons (l := [.slice (some ⟨g1, 0, none⟩) [(⟨(⟨#[97]⟩ : ByteArray), (⟨#[49]⟩ : ByteArray)⟩ : S76), (⟨(⟨#[98]⟩ : ByteArray), (⟨#[120]⟩ : ByteArray)⟩ : S76)].length 2, .float .f64 4611686018427387904]) (kS38_mk (x := (⟨[(⟨(⟨#[97]⟩ : ByteArray), (⟨#[49]⟩ : ByteArray)⟩ : S76), (⟨(⟨#[98]⟩ : ByteArray), (⟨#[120]⟩ : ByteArray)⟩ : S76)], (some 4611686018427387904 : Fl)⟩ : S38)) hf13 (FRep.of 4611686018427387904)) (row_cons (l := [.slice (some ⟨g5, 0, none⟩) [(⟨(⟨#[97]⟩ : ByteArray), (⟨#[49]⟩ : ByteArray)⟩ : S76), (⟨(⟨#[98]⟩ : ByteArray), (⟨#[121]⟩ : ByteArray)⟩ : S76)].length 2, .float .f64 4616189618054758400]) (kS38_mk (x := (⟨[(⟨(⟨#[97]⟩ : ByteArray), (⟨#[49]⟩ : ByteArray)⟩ : S76), (⟨(⟨#[98]⟩ : ByteArray), (⟨#[121]⟩ : ByteArray)⟩ : S76)], (some 4616189618054758400 : Fl)⟩ : S38)) hf12 (FRep.of 4616189618054758400)) (row_nil _ _))) rfl rfl rfl
  refine gl_reord (D := [(g14, .cells #[.slice (some ⟨g1, 0, none⟩) [(⟨(⟨#[97]⟩ : ByteArray), (⟨#[49]⟩ : ByteArray)⟩ : S76), (⟨(⟨#[98]⟩ : ByteArray), (⟨#[120]⟩ : ByteArray)⟩ : S76)].length 2, .float .f64 4611686018427387904, .slice (some ⟨g5, 0, none⟩) [(⟨(⟨#[97]⟩ : ByteArray), (⟨#[49]⟩ : ByteArray)⟩ : S76), (⟨(⟨#[98]⟩ : ByteArray), (⟨#[121]⟩ : ByteArray)⟩ : S76)].length 2, .float .f64 4616189618054758400] 39)] ++ L) (Reord.refl _) ?_
  refine gl_pure 1 [1] (K' := [(1, .slice (some ⟨g14, 0, none⟩) [(⟨[(⟨(⟨#[97]⟩ : ByteArray), (⟨#[49]⟩ : ByteArray)⟩ : S76), (⟨(⟨#[98]⟩ : ByteArray), (⟨#[120]⟩ : ByteArray)⟩ : S76)], (some 4611686018427387904 : Fl)⟩ : S38), (⟨[(⟨(⟨#[97]⟩ : ByteArray), (⟨#[49]⟩ : ByteArray)⟩ : S76), (⟨(⟨#[98]⟩ : ByteArray), (⟨#[121]⟩ : ByteArray)⟩ : S76)], (some 4616189618054758400 : Fl)⟩ : S38)].length 2)]) (by kernel_rfl) ?_
  refine gl_atE (by kernel_rfl) ?_
  refine ge_seq ?_
  refine gk_seq (by kernel_rfl) ?_
  refine gk_region (by kernel_rfl) ?_
  refine gl_pure 1 [16] (K' := [(16, .slice (some ⟨g14, 0, none⟩) [(⟨[(⟨(⟨#[97]⟩ : ByteArray), (⟨#[49]⟩ : ByteArray)⟩ : S76), (⟨(⟨#[98]⟩ : ByteArray), (⟨#[120]⟩ : ByteArray)⟩ : S76)], (some 4611686018427387904 : Fl)⟩ : S38), (⟨[(⟨(⟨#[97]⟩ : ByteArray), (⟨#[49]⟩ : ByteArray)⟩ : S76), (⟨(⟨#[98]⟩ : ByteArray), (⟨#[121]⟩ : ByteArray)⟩ : S76)], (some 4616189618054758400 : Fl)⟩ : S38)].length 2)]) (by kernel_rfl) ?_
  refine gl_buildSlice (T' := 23) (e := 9) (n := 1) (len := 1) (parts := #[(0, (.const (.string (⟨#[97]⟩ : ByteArray))))]) (l := [(0, .string (⟨#[97]⟩ : ByteArray))]) (cs := #[.string (⟨#[97]⟩ : ByteArray)]) (by kernel_rfl) (by kernel_rfl) (by kernel_rfl) (by kernel_rfl) (by kernel_rfl) (fun g18 => ?_)
  have hO19 : OwnS Kd.str 9 J9 (some ⟨g18, 0, none⟩) 1 [(⟨#[97]⟩ : ByteArray)] [(g18, .cells #[.string (⟨#[97]⟩ : ByteArray)] 9)] := OwnS.lit (row_cons (l := [.string (⟨#[97]⟩ : ByteArray)]) rfl (row_nil _ _)) rfl rfl rfl
  refine gl_reord (D := [(g18, .cells #[.string (⟨#[97]⟩ : ByteArray)] 9)] ++ ([(g14, .cells #[.slice (some ⟨g1, 0, none⟩) [(⟨(⟨#[97]⟩ : ByteArray), (⟨#[49]⟩ : ByteArray)⟩ : S76), (⟨(⟨#[98]⟩ : ByteArray), (⟨#[120]⟩ : ByteArray)⟩ : S76)].length 2, .float .f64 4611686018427387904, .slice (some ⟨g5, 0, none⟩) [(⟨(⟨#[97]⟩ : ByteArray), (⟨#[49]⟩ : ByteArray)⟩ : S76), (⟨(⟨#[98]⟩ : ByteArray), (⟨#[121]⟩ : ByteArray)⟩ : S76)].length 2, .float .f64 4616189618054758400] 39)] ++ L)) (Reord.refl _) ?_
  refine gl_rest (Tk.step (Upd.rmC _ _) (Tk.step (Upd.rmC _ _) (Tk.nil _))) (fun J22 hJ23 hC24 => ?_)
  have hf25 := (OwnS.rest hO19 hJ23 hC24.left)
  have hf26 := (OwnS.rest hO15 hJ23 hC24.right.left)
  obtain ⟨y27, hx28, hr⟩ := bind_some hr
  refine gl_call (by kernel_rfl) (aggr_Number_walk (r := y27) (hG.mono (Imm.trans hJ10 hJ23)) hf26 hf25 (FRep.of 0) hx28 _) ?_
  rintro v I29 L30 hI31 ⟨A32, c33, C34, hO35, rfl, rfl⟩
  refine gl_pure 5 [2, 3] (K' := [(2, .slice A32 y27.1.length c33), (3, .int .i64 y27.2)]) (by kernel_rfl) ?_
  refine gl_atE (by kernel_rfl) ?_
  refine ge_seq ?_
  refine gk_seq (by kernel_rfl) ?_
  refine gk_region (by kernel_rfl) ?_
  refine gl_buildSlice (T' := 43) (e := 37) (n := 1) (len := 2) (parts := #[(0, (.const (.float .f64 4611686018427387904))), (1, (.const (.float .f64 4616189618054758400)))]) (l := [(0, .float .f64 4611686018427387904), (1, .float .f64 4616189618054758400)]) (cs := #[.float .f64 4611686018427387904, .float .f64 4616189618054758400]) (by kernel_rfl) (by kernel_rfl) (by kernel_rfl) (by kernel_rfl) (by kernel_rfl) (fun g36 => ?_)
  have hO37 : OwnS Kd.flt 37 I29 (some ⟨g36, 0, none⟩) 2 [(some 4611686018427387904 : Fl), (some 4616189618054758400 : Fl)] [(g36, .cells #[.float .f64 4611686018427387904, .float .f64 4616189618054758400] 37)] := OwnS.lit (row_cons (l := [.float .f64 4611686018427387904]) ⟨_, rfl, (FRep.of 4611686018427387904)⟩ (row_cons (l := [.float .f64 4616189618054758400]) ⟨_, rfl, (FRep.of 4616189618054758400)⟩ (row_nil _ _))) rfl rfl rfl
  refine gl_reord (D := [(g36, .cells #[.float .f64 4611686018427387904, .float .f64 4616189618054758400] 37)] ++ (C34 ++ L)) (Reord.refl _) ?_
  refine gl_rest (Tk.step (Upd.rmC _ _) (Tk.nil _)) (fun J40 hJ41 hC42 => ?_)
  have hf43 := (OwnS.rest hO37 hJ41 hC42.left)
  obtain ⟨y44, hx45, hr⟩ := bind_some hr
  refine gl_call (by kernel_rfl) (aggr_Fold_walk (r := y44) hf43 (FRep.of 0) hx45 _) ?_
  rintro v I46 L47 hI48 ⟨z49, hO50, rfl, rfl⟩
  refine gl_pure 5 [2, 3, 4, 5] (K' := [(2, .slice A32 y27.1.length c33), (3, .int .i64 y27.2), (4, .float .f64 z49), (5, .int .i64 y44.2)]) (by kernel_rfl) ?_
  refine gl_atE (by kernel_rfl) ?_
  refine ge_seq ?_
  refine gk_seq (by kernel_rfl) ?_
  obtain ⟨j51, hj52, hr⟩ := bind_some hr
  refine gk_join (fun t I' L' => I46 ≤ I' ∧ L = L' ∧ Knows 56 [(0, .bool j51)] t) ?_ ?_
  · refine gk_region (by kernel_rfl) ?_
    refine gl_pure 3 [2, 4, 5, 28] (K' := [(2, .slice A32 y27.1.length c33), (4, .float .f64 z49), (5, .int .i64 y44.2), (28, .bool (y27.2 == 0))]) (by kernel_rfl) ?_
    refine gl_case 28 (b := (y27.2 == 0)) (by kernel_rfl) (fun hc56 => ?_) (fun hc56 => ?_)
    · have hj52 := cond_t hc56 hj52
      refine gl_pure 5 [2, 4, 5, 33] (K' := [(2, .slice A32 y27.1.length c33), (4, .float .f64 z49), (5, .int .i64 y44.2), (33, .bool ((y27.1.length : Int) == 1))]) (by kernel_rfl) ?_
      refine gl_case 33 (b := ((y27.1.length : Int) == 1)) (by kernel_rfl) (fun hc57 => ?_) (fun hc57 => ?_)
      · have hj52 := cond_t hc57 hj52
        refine gl_pure 1 [2, 4, 5, 33, 34] (K' := [(2, .slice A32 y27.1.length c33), (4, .float .f64 z49), (5, .int .i64 y44.2), (33, .bool true), (34, .slice A32 y27.1.length c33)]) (by kernel_rfl) ?_
        obtain ⟨x58, hx59, hj52⟩ := bind_some hj52
        refine gl_indexAddrW (d := kS38) (c := c33) (T' := 22) (e := 39) (xs := (.tmp 34)) (xi := (.const (.int .i64 0))) (kd := .i64) hx59 (hO35.mono (Imm.trans hJ41 hI48)) (Upd.selfC _ _) (by kernel_rfl) (by kernel_rfl) (by kernel_rfl) (by kernel_rfl) (by kernel_rfl) (fun p60 cs61 hR62 hA63 hp71 => ?_)
        obtain ⟨A66, n67, b69, hf68, hf70, rfl⟩ := kS38_open hR62
        refine gl_pure 1 [2, 4, 5, 33, 36] (K' := [(2, .slice A32 y27.1.length c33), (4, .float .f64 z49), (5, .int .i64 y44.2), (33, .bool true), (36, .pointer (some (p60.add 1)))]) (by kernel_rfl) ?_
        refine gl_loadO (T' := 37) (xp := (.tmp 36)) (p := (p60.add 1)) (c := .float .f64 b69) (n := 1) (by kernel_rfl) (by kernel_rfl) (by kernel_rfl) (by kernel_rfl) (hA63.drop 1) ?_
        refine gl_fcmp (op := .eql) (t := 37) (t' := 37) (xx := (.tmp 37)) (yy := (.const (.float .f64 4618441417868443648))) hf70 (FRep.of 4618441417868443648) (by kernel_rfl) (by kernel_rfl) rfl (by kernel_rfl) (by kernel_rfl) ?_
        refine gl_pure 2 [2, 4, 5, 40] (K' := [(2, .slice A32 y27.1.length c33), (4, .float .f64 z49), (5, .int .i64 y44.2), (40, .bool (fcmp .eql x58.f1 (some 4618441417868443648 : Fl)))]) (by kernel_rfl) ?_
        refine gl_case 40 (b := (fcmp .eql x58.f1 (some 4618441417868443648 : Fl))) (by kernel_rfl) (fun hc72 => ?_) (fun hc72 => ?_)
        · have hj52 := cond_t hc72 hj52
          refine gl_pure 1 [4, 5, 40, 41] (K' := [(4, .float .f64 z49), (5, .int .i64 y44.2), (40, .bool true), (41, .slice A32 y27.1.length c33)]) (by kernel_rfl) ?_
          obtain ⟨x73, hx74, hj52⟩ := bind_some hj52
          refine gl_indexAddrW (d := kS38) (c := c33) (T' := 22) (e := 39) (xs := (.tmp 41)) (xi := (.const (.int .i64 0))) (kd := .i64) hx74 (hO35.mono (Imm.trans hJ41 hI48)) (Upd.selfC _ _) (by kernel_rfl) (by kernel_rfl) (by kernel_rfl) (by kernel_rfl) (by kernel_rfl) (fun p75 cs76 hR77 hA78 hp86 => ?_)
          obtain ⟨A81, n82, b84, hf83, hf85, rfl⟩ := kS38_open hR77
          refine gl_pure 1 [4, 5, 40, 43] (K' := [(4, .float .f64 z49), (5, .int .i64 y44.2), (40, .bool true), (43, .pointer (some (p75.add 0)))]) (by kernel_rfl) ?_
          refine gl_loadO (T' := 36) (xp := (.tmp 43)) (p := (p75.add 0)) (c := .slice A81 x73.f0.length n82) (n := 1) (by kernel_rfl) (by kernel_rfl) (by kernel_rfl) (by kernel_rfl) (hA78.drop 0) ?_
          refine gl_pure 4 [4, 5, 48] (K' := [(4, .float .f64 z49), (5, .int .i64 y44.2), (48, .bool ((x73.f0.length : Int) == 1))]) (by kernel_rfl) ?_
          refine gl_case 48 (b := ((x73.f0.length : Int) == 1)) (by kernel_rfl) (fun hc87 => ?_) (fun hc87 => ?_)
          · have hj52 := cond_t hc87 hj52
            refine gl_pure 4 [4, 52] (K' := [(4, .float .f64 z49), (52, .bool (y44.2 == 0))]) (by kernel_rfl) ?_
            refine gl_case 52 (b := (y44.2 == 0)) (by kernel_rfl) (fun hc88 => ?_) (fun hc88 => ?_)
            · have hj52 := cond_t hc88 hj52
              refine gl_pure 1 [52, 53] (K' := [(52, .bool true), (53, .float .f64 z49)]) (by kernel_rfl) ?_
              refine gl_fcmp (op := .eql) (t := 37) (t' := 37) (xx := (.tmp 53)) (yy := (.const (.float .f64 4613937818241073152))) hO50 (FRep.of 4613937818241073152) (by kernel_rfl) (by kernel_rfl) rfl (by kernel_rfl) (by kernel_rfl) ?_
              refine gl_pure 2 [0] (K' := [(0, .bool (fcmp .eql y44.1 (some 4613937818241073152 : Fl)))]) (by kernel_rfl) ?_
              refine gl_reord (D := L) (Reord.skipC (Reord.refl _)) ?_
              refine gl_atE (by kernel_rfl) ?_
              obtain rfl := some_inj hj52
              exact ge_mid fun t ht => ⟨(Imm.refl _), rfl, ht.pick (l := [0]) (by kernel_rfl)⟩
            · have hj52 := cond_f hc88 hj52
              refine gl_pure 4 [0] (K' := [(0, .bool false)]) (by kernel_rfl) ?_
              refine gl_reord (D := L) (Reord.skipC (Reord.refl _)) ?_
              refine gl_atE (by kernel_rfl) ?_
              obtain rfl := some_inj hj52
              exact ge_mid fun t ht => ⟨(Imm.refl _), rfl, ht.pick (l := [0]) (by kernel_rfl)⟩
          · have hj52 := cond_f hc87 hj52
            refine gl_pure 8 [0] (K' := [(0, .bool false)]) (by kernel_rfl) ?_
            refine gl_reord (D := L) (Reord.skipC (Reord.refl _)) ?_
            refine gl_atE (by kernel_rfl) ?_
            obtain rfl := some_inj hj52
            exact ge_mid fun t ht => ⟨(Imm.refl _), rfl, ht.pick (l := [0]) (by kernel_rfl)⟩
        · have hj52 := cond_f hc72 hj52
          refine gl_pure 16 [0] (K' := [(0, .bool false)]) (by kernel_rfl) ?_
          refine gl_reord (D := L) (Reord.skipC (Reord.refl _)) ?_
          refine gl_atE (by kernel_rfl) ?_
          obtain rfl := some_inj hj52
          exact ge_mid fun t ht => ⟨(Imm.refl _), rfl, ht.pick (l := [0]) (by kernel_rfl)⟩
      · have hj52 := cond_f hc57 hj52
        refine gl_pure 23 [0] (K' := [(0, .bool false)]) (by kernel_rfl) ?_
        refine gl_reord (D := L) (Reord.skipC (Reord.refl _)) ?_
        refine gl_atE (by kernel_rfl) ?_
        obtain rfl := some_inj hj52
        exact ge_mid fun t ht => ⟨(Imm.refl _), rfl, ht.pick (l := [0]) (by kernel_rfl)⟩
    · have hj52 := cond_f hc56 hj52
      refine gl_pure 28 [0] (K' := [(0, .bool false)]) (by kernel_rfl) ?_
      refine gl_reord (D := L) (Reord.skipC (Reord.refl _)) ?_
      refine gl_atE (by kernel_rfl) ?_
      obtain rfl := some_inj hj52
      exact ge_mid fun t ht => ⟨(Imm.refl _), rfl, ht.pick (l := [0]) (by kernel_rfl)⟩
  · rintro t I55 L' ⟨hI53, rfl, hK54⟩
    refine ge_at hK54 ?_
    refine ge_seq ?_
    refine gk_ret (by kernel_rfl) ?_
    obtain rfl := some_inj hr
    exact ge_result trivial (ResOk.tmp (by kernel_rfl) ResOk.nil) (Imm.trans (Imm.trans (Imm.trans (Imm.trans (Imm.trans hJ10 hJ23) hI31) hJ41) hI48) hI53) ⟨rfl, rfl⟩
end Go.Proofs.YtkjkkimnjpodiaaGreatDoor
