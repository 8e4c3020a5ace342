/- Parts: W3b. -/
import Derived.Test.YtkjkkimnjpodiaaGreatDoorW3at
set_option linter.unusedVariables false
set_option linter.unusedSimpArgs false
set_option maxRecDepth 100000
namespace Go.Proofs.YtkjkkimnjpodiaaGreatDoor
open Go.GB
/-! 174 slices_stableCmpFunc ('inp', 'imm', ('cfn', 145)) -/
noncomputable def slices_stableCmpFunc_l25 (a1 : Int) : ((List Fl) × Int × Int) → Option (((List Fl) × Int × Int) ⊕ ((List Fl) × Int)) := fun s10 =>
  bif (decide (s10.2.2 ≤ a1)) then
  (Option.bind (slices_insertionSortCmpFunc s10.1 s10.2.1 s10.2.2) fun (y28 : (List Fl)) =>
    some (Sum.inl (y28, s10.2.2, (IntKind.wrap .i64 (s10.2.2 + 20)))))
  else
  (some (Sum.inr (s10.1, s10.2.1)))
noncomputable def slices_stableCmpFunc_l95 (a1 : Int) (s53 : (List Fl) × Int) : ((List Fl) × Int × Int) → Option (((List Fl) × Int × Int) ⊕ ((List Fl) × Int)) := fun s80 =>
  bif (decide (s80.2.2 ≤ a1)) then
  (Option.bind (slices_symMergeCmpFunc s80.1 s80.2.1 (IntKind.wrap .i64 (s80.2.1 + s53.2)) s80.2.2) fun (y98 : (List Fl)) =>
    some (Sum.inl (y98, s80.2.2, (IntKind.wrap .i64 (s80.2.2 + (IntKind.wrap .i64 (2 * s53.2)))))))
  else
  (some (Sum.inr (s80.1, s80.2.1)))
noncomputable def slices_stableCmpFunc_l68 (a1 : Int) : ((List Fl) × Int) → Option (((List Fl) × Int) ⊕ ((List Fl))) := fun s53 =>
  bif (decide (s53.2 < a1)) then
  (Option.bind (loopO (slices_stableCmpFunc_l95 a1 s53) (s53.1, 0, (IntKind.wrap .i64 (2 * s53.2)))) fun (r78 : (List Fl) × Int) =>
    Option.bind (bif (decide ((IntKind.wrap .i64 (r78.2 + s53.2)) < a1)) then
      (Option.bind (slices_symMergeCmpFunc r78.1 r78.2 (IntKind.wrap .i64 (r78.2 + s53.2)) a1) fun (y115 : (List Fl)) =>
        some y115)
      else
      (some r78.1)) fun (j106 : (List Fl)) =>
    some (Sum.inl (j106, (IntKind.wrap .i64 (s53.2 * 2)))))
  else
  (some (Sum.inr s53.1))
noncomputable def slices_stableCmpFunc (a0 : List Fl) (a1 : Int) : Option (List Fl) :=
  Option.bind (loopO (slices_stableCmpFunc_l25 a1) (a0, 0, 20)) fun (r8 : (List Fl) × Int) =>
  Option.bind (slices_insertionSortCmpFunc r8.1 r8.2 a1) fun (y36 : (List Fl)) =>
  Option.bind (loopO (slices_stableCmpFunc_l68 a1) (y36, 20)) fun (r51 : (List Fl)) =>
  some r51
theorem slices_stableCmpFunc_walk {a0 : List Fl} {A0 : Option Addr} {c0 : Nat} {C0 : Own} {a1 : Int} {I : Imm} {r : (List Fl)} (hO0 : OwnS Kd.flt 37 I A0 c0 a0 C0) (hr : slices_stableCmpFunc a0 a1 = some r) (L : Own) :
    CallsTo Tryz.prog 174 #[.slice A0 a0.length c0, .int .i64 a1, .func (.func 145) #[] #[]] I (C0 ++ L) (fun v I' L' => ∃ C0, OwnS Kd.flt 37 I' A0 c0 r C0 ∧ r.length = a0.length ∧ v = .tuple #[] ∧ C0 ++ L = L') := by
  unfold slices_stableCmpFunc at hr
  refine callsTo_body (N := 63) Tryz.func174 (by kernel_rfl) (by kernel_rfl) (by kernel_rfl) ?_
  refine gk_pick [0, 1, 2] (K' := [(0, .slice A0 a0.length c0), (1, .int .i64 a1), (2, .func (.func 145) #[] #[])]) (by kernel_rfl) ?_
  refine gk_seq (by kernel_rfl) ?_
  refine gk_region (by kernel_rfl) ?_
  refine gl_pure 1 [0, 1, 2, 6] (K' := [(0, .slice A0 a0.length c0), (1, .int .i64 a1), (2, .func (.func 145) #[] #[]), (6, .int .i64 20)]) (by kernel_rfl) ?_
  refine gl_atE (by kernel_rfl) ?_
  refine ge_seq ?_
  refine gk_seq (by kernel_rfl) ?_
  refine gk_region (by kernel_rfl) ?_
  refine gl_pure 3 [0, 1, 2, 6, 7, 8] (K' := [(0, .slice A0 a0.length c0), (1, .int .i64 a1), (2, .func (.func 145) #[] #[]), (6, .int .i64 20), (7, .int .i64 0), (8, .int .i64 20)]) (by kernel_rfl) ?_
  refine gl_atE (by kernel_rfl) ?_
  refine ge_seq ?_
  refine gk_seq (by kernel_rfl) ?_
  obtain ⟨r8, hl9, hr⟩ := bind_some hr
  refine gk_join (fun t I' L' => ∃ C20, OwnS Kd.flt 37 I' A0 c0 r8.1 C20 ∧ (r8.1.length = a0.length) ∧ I ≤ I' ∧ C20 ++ L = L' ∧ Knows 63 [(0, .slice A0 r8.1.length c0), (1, .int .i64 a1), (2, .func (.func 145) #[] #[]), (6, .int .i64 20), (7, .int .i64 r8.2)] t) ?_ ?_
  · refine gk_block (by kernel_rfl) ?_
    refine gk_pick [0, 1, 2, 6, 7, 8] (K' := [(0, .slice A0 a0.length c0), (1, .int .i64 a1), (2, .func (.func 145) #[] #[]), (6, .int .i64 20), (7, .int .i64 0), (8, .int .i64 20)]) (by kernel_rfl) ?_
    intro t hK
    refine gc_loop (slices_stableCmpFunc_l25 a1) (fun s10 t I' L' => ∃ C14, OwnS Kd.flt 37 I' A0 c0 s10.1 C14 ∧ (s10.1.length = a0.length) ∧ I ≤ I' ∧ C14 ++ L = L' ∧ Knows 63 [(0, .slice A0 s10.1.length c0), (1, .int .i64 a1), (2, .func (.func 145) #[] #[]), (6, .int .i64 20), (7, .int .i64 s10.2.1), (8, .int .i64 s10.2.2)] t) (by kernel_rfl) ?_ hl9 ⟨C0, hO0, rfl, (Imm.refl _), rfl, hK⟩
    rintro s10 o11 t I18 L' hb12 ⟨C14, hO15, hL16, hI13, rfl, hK17⟩
    unfold slices_stableCmpFunc_l25 at hb12
    refine gk_at hK17 ?_
    refine gk_seq (by kernel_rfl) ?_
    refine gk_seq (by kernel_rfl) ?_
    refine gk_region (by kernel_rfl) ?_
    refine gl_pure 3 [0, 1, 2, 6, 7, 8, 13] (K' := [(0, .slice A0 s10.1.length c0), (1, .int .i64 a1), (2, .func (.func 145) #[] #[]), (6, .int .i64 20), (7, .int .i64 s10.2.1), (8, .int .i64 s10.2.2), (13, .bool (decide (s10.2.2 ≤ a1)))]) (by kernel_rfl) ?_
    refine gl_atE (by kernel_rfl) ?_
    refine ge_seq ?_
    refine gk_cond (b := (decide (s10.2.2 ≤ a1))) (by kernel_rfl) (by kernel_rfl) (fun hc27 => ?_) (fun hc27 => ?_)
    · have hb12 := cond_t hc27 hb12
      refine gk_skip (by kernel_rfl) ?_
      refine ge_seq ?_
      refine gk_block (by kernel_rfl) ?_
      refine gk_seq (by kernel_rfl) ?_
      refine gk_region (by kernel_rfl) ?_
      refine gl_pure 4 [0, 1, 2, 6, 8, 14, 15, 16, 17] (K' := [(0, .slice A0 s10.1.length c0), (1, .int .i64 a1), (2, .func (.func 145) #[] #[]), (6, .int .i64 20), (8, .int .i64 s10.2.2), (14, .slice A0 s10.1.length c0), (15, .int .i64 s10.2.1), (16, .int .i64 s10.2.2), (17, .func (.func 145) #[] #[])]) (by kernel_rfl) ?_
      obtain ⟨y28, hx29, hb12⟩ := bind_some hb12
      refine gl_call (by kernel_rfl) (slices_insertionSortCmpFunc_walk (r := y28) (A0 := A0) (c0 := c0) (C0 := C14) (a0 := s10.1) hO15 hx29 _) ?_
      rintro v I30 L31 hI32 ⟨C33, hO34, hO35, rfl, rfl⟩
      refine gl_pick [0, 1, 2, 6, 8, 14, 15, 16, 17, 18] (K' := [(0, .slice A0 s10.1.length c0), (1, .int .i64 a1), (2, .func (.func 145) #[] #[]), (6, .int .i64 20), (8, .int .i64 s10.2.2), (14, .slice A0 s10.1.length c0), (15, .int .i64 s10.2.1), (16, .int .i64 s10.2.2), (17, .func (.func 145) #[] #[]), (18, .tuple #[])]) (by kernel_rfl) ?_
      refine gl_kv (congrArg (fun (zz : Nat) => ([(0, .slice A0 zz c0), (1, .int .i64 a1), (2, .func (.func 145) #[] #[]), (6, .int .i64 20), (8, .int .i64 s10.2.2), (14, .slice A0 zz c0), (15, .int .i64 s10.2.1), (16, .int .i64 s10.2.2), (17, .func (.func 145) #[] #[]), (18, .tuple #[])] : KV)) hO35.symm) ?_
      refine gl_atE (by kernel_rfl) ?_
      refine ge_seq ?_
      refine gk_seq (by kernel_rfl) ?_
      refine gk_region (by kernel_rfl) ?_
      refine gl_pure 2 [0, 1, 2, 6, 7, 8] (K' := [(0, .slice A0 y28.length c0), (1, .int .i64 a1), (2, .func (.func 145) #[] #[]), (6, .int .i64 20), (7, .int .i64 s10.2.2), (8, .int .i64 s10.2.2)]) (by kernel_rfl) ?_
      refine gl_atE (by kernel_rfl) ?_
      refine ge_seq ?_
      refine gk_region (by kernel_rfl) ?_
      refine gl_pure 4 [0, 1, 2, 6, 7, 8] (K' := [(0, .slice A0 y28.length c0), (1, .int .i64 a1), (2, .func (.func 145) #[] #[]), (6, .int .i64 20), (7, .int .i64 s10.2.2), (8, .int .i64 (IntKind.wrap .i64 (s10.2.2 + 20)))]) (by kernel_rfl) ?_
      refine gl_atE (by kernel_rfl) ?_
      refine ge_block_normal ?_
      obtain rfl := some_inj hb12
      exact ge_round fun t ht => ⟨C33, hO34, (Eq.trans hO35 hL16), (Imm.trans hI13 hI32), rfl, ht.pick (l := [0, 1, 2, 6, 7, 8]) (by kernel_rfl)⟩
    · have hb12 := cond_f hc27 hb12
      refine gk_exit (by kernel_rfl) ?_
      refine ge_seq_exit ?_
      obtain rfl := some_inj hb12
      refine ge_round_out (fun hrr => ?_) (by intro h; cases h)
      obtain rfl := hrr
      refine ge_block_hit (by kernel_rfl) ?_
      exact ge_mid fun t ht => ⟨C14, hO15, hL16, hI13, rfl, ht.pick (l := [0, 1, 2, 6, 7]) (by kernel_rfl)⟩
  · rintro t I24 L' ⟨C20, hO21, hL22, hI19, rfl, hK23⟩
    refine ge_at hK23 ?_
    refine ge_seq ?_
    refine gk_seq (by kernel_rfl) ?_
    refine gk_region (by kernel_rfl) ?_
    refine gl_pure 4 [0, 1, 2, 6, 23, 24, 25, 26] (K' := [(0, .slice A0 r8.1.length c0), (1, .int .i64 a1), (2, .func (.func 145) #[] #[]), (6, .int .i64 20), (23, .slice A0 r8.1.length c0), (24, .int .i64 r8.2), (25, .int .i64 a1), (26, .func (.func 145) #[] #[])]) (by kernel_rfl) ?_
    obtain ⟨y36, hx37, hr⟩ := bind_some hr
    refine gl_call (by kernel_rfl) (slices_insertionSortCmpFunc_walk (r := y36) (A0 := A0) (c0 := c0) (C0 := C20) (a0 := r8.1) hO21 hx37 _) ?_
    rintro v I38 L39 hI40 ⟨C41, hO42, hO43, rfl, rfl⟩
    refine gl_pick [0, 1, 2, 6, 23, 24, 25, 26, 27] (K' := [(0, .slice A0 r8.1.length c0), (1, .int .i64 a1), (2, .func (.func 145) #[] #[]), (6, .int .i64 20), (23, .slice A0 r8.1.length c0), (24, .int .i64 r8.2), (25, .int .i64 a1), (26, .func (.func 145) #[] #[]), (27, .tuple #[])]) (by kernel_rfl) ?_
    refine gl_kv (congrArg (fun (zz : Nat) => ([(0, .slice A0 zz c0), (1, .int .i64 a1), (2, .func (.func 145) #[] #[]), (6, .int .i64 20), (23, .slice A0 zz c0), (24, .int .i64 r8.2), (25, .int .i64 a1), (26, .func (.func 145) #[] #[]), (27, .tuple #[])] : KV)) hO43.symm) ?_
    refine gl_atE (by kernel_rfl) ?_
    refine ge_seq ?_
    obtain ⟨r51, hl52, hr⟩ := bind_some hr
    refine gk_join (fun t I' L' => ∃ C63, OwnS Kd.flt 37 I' A0 c0 r51 C63 ∧ (r51.length = a0.length) ∧ I38 ≤ I' ∧ C63 ++ L = L' ∧ Knows 63 [(0, .slice A0 r51.length c0)] t) ?_ ?_
    · refine gk_block (by kernel_rfl) ?_
      refine gk_pick [0, 1, 2, 6] (K' := [(0, .slice A0 y36.length c0), (1, .int .i64 a1), (2, .func (.func 145) #[] #[]), (6, .int .i64 20)]) (by kernel_rfl) ?_
      intro t hK
      refine gc_loop (slices_stableCmpFunc_l68 a1) (fun s53 t I' L' => ∃ C57, OwnS Kd.flt 37 I' A0 c0 s53.1 C57 ∧ (s53.1.length = a0.length) ∧ I38 ≤ I' ∧ C57 ++ L = L' ∧ Knows 63 [(0, .slice A0 s53.1.length c0), (1, .int .i64 a1), (2, .func (.func 145) #[] #[]), (6, .int .i64 s53.2)] t) (by kernel_rfl) ?_ hl52 ⟨C41, hO42, (Eq.trans hO43 hL22), (Imm.refl _), rfl, hK⟩
      rintro s53 o54 t I61 L' hb55 ⟨C57, hO58, hL59, hI56, rfl, hK60⟩
      unfold slices_stableCmpFunc_l68 at hb55
      refine gk_at hK60 ?_
      refine gk_seq (by kernel_rfl) ?_
      refine gk_seq (by kernel_rfl) ?_
      refine gk_region (by kernel_rfl) ?_
      refine gl_pure 3 [0, 1, 2, 6, 30] (K' := [(0, .slice A0 s53.1.length c0), (1, .int .i64 a1), (2, .func (.func 145) #[] #[]), (6, .int .i64 s53.2), (30, .bool (decide (s53.2 < a1)))]) (by kernel_rfl) ?_
      refine gl_atE (by kernel_rfl) ?_
      refine ge_seq ?_
      refine gk_cond (b := (decide (s53.2 < a1))) (by kernel_rfl) (by kernel_rfl) (fun hc70 => ?_) (fun hc70 => ?_)
      · have hb55 := cond_t hc70 hb55
        refine gk_skip (by kernel_rfl) ?_
        refine ge_seq ?_
        refine gk_block (by kernel_rfl) ?_
        refine gk_seq (by kernel_rfl) ?_
        refine gk_region (by kernel_rfl) ?_
        refine gl_pure 4 [0, 1, 2, 6, 7, 8] (K' := [(0, .slice A0 s53.1.length c0), (1, .int .i64 a1), (2, .func (.func 145) #[] #[]), (6, .int .i64 s53.2), (7, .int .i64 0), (8, .int .i64 (IntKind.wrap .i64 (2 * s53.2)))]) (by kernel_rfl) ?_
        refine gl_atE (by kernel_rfl) ?_
        refine ge_seq ?_
        refine gk_seq (by kernel_rfl) ?_
        obtain ⟨r78, hl79, hb55⟩ := bind_some hb55
        refine gk_join (fun t I' L' => ∃ C90, OwnS Kd.flt 37 I' A0 c0 r78.1 C90 ∧ (r78.1.length = a0.length) ∧ I61 ≤ I' ∧ C90 ++ L = L' ∧ Knows 63 [(0, .slice A0 r78.1.length c0), (1, .int .i64 a1), (2, .func (.func 145) #[] #[]), (6, .int .i64 s53.2), (7, .int .i64 r78.2)] t) ?_ ?_
        · refine gk_block (by kernel_rfl) ?_
          refine gk_pick [0, 1, 2, 6, 7, 8] (K' := [(0, .slice A0 s53.1.length c0), (1, .int .i64 a1), (2, .func (.func 145) #[] #[]), (6, .int .i64 s53.2), (7, .int .i64 0), (8, .int .i64 (IntKind.wrap .i64 (2 * s53.2)))]) (by kernel_rfl) ?_
          intro t hK
          refine gc_loop (slices_stableCmpFunc_l95 a1 s53) (fun s80 t I' L' => ∃ C84, OwnS Kd.flt 37 I' A0 c0 s80.1 C84 ∧ (s80.1.length = a0.length) ∧ I61 ≤ I' ∧ C84 ++ L = L' ∧ Knows 63 [(0, .slice A0 s80.1.length c0), (1, .int .i64 a1), (2, .func (.func 145) #[] #[]), (6, .int .i64 s53.2), (7, .int .i64 s80.2.1), (8, .int .i64 s80.2.2)] t) (by kernel_rfl) ?_ hl79 ⟨C57, hO58, hL59, (Imm.refl _), rfl, hK⟩
          rintro s80 o81 t I88 L' hb82 ⟨C84, hO85, hL86, hI83, rfl, hK87⟩
          unfold slices_stableCmpFunc_l95 at hb82
          refine gk_at hK87 ?_
          refine gk_seq (by kernel_rfl) ?_
          refine gk_seq (by kernel_rfl) ?_
          refine gk_region (by kernel_rfl) ?_
          refine gl_pure 3 [0, 1, 2, 6, 7, 8, 35] (K' := [(0, .slice A0 s80.1.length c0), (1, .int .i64 a1), (2, .func (.func 145) #[] #[]), (6, .int .i64 s53.2), (7, .int .i64 s80.2.1), (8, .int .i64 s80.2.2), (35, .bool (decide (s80.2.2 ≤ a1)))]) (by kernel_rfl) ?_
          refine gl_atE (by kernel_rfl) ?_
          refine ge_seq ?_
          refine gk_cond (b := (decide (s80.2.2 ≤ a1))) (by kernel_rfl) (by kernel_rfl) (fun hc97 => ?_) (fun hc97 => ?_)
          · have hb82 := cond_t hc97 hb82
            refine gk_skip (by kernel_rfl) ?_
            refine ge_seq ?_
            refine gk_block (by kernel_rfl) ?_
            refine gk_seq (by kernel_rfl) ?_
            refine gk_region (by kernel_rfl) ?_
            refine gl_pure 7 [0, 1, 2, 6, 8, 36, 37, 40, 41, 42] (K' := [(0, .slice A0 s80.1.length c0), (1, .int .i64 a1), (2, .func (.func 145) #[] #[]), (6, .int .i64 s53.2), (8, .int .i64 s80.2.2), (36, .slice A0 s80.1.length c0), (37, .int .i64 s80.2.1), (40, .int .i64 (IntKind.wrap .i64 (s80.2.1 + s53.2))), (41, .int .i64 s80.2.2), (42, .func (.func 145) #[] #[])]) (by kernel_rfl) ?_
            obtain ⟨y98, hx99, hb82⟩ := bind_some hb82
            refine gl_call (by kernel_rfl) (slices_symMergeCmpFunc_walk (r := y98) (A0 := A0) (c0 := c0) (C0 := C84) (a0 := s80.1) hO85 hx99 _) ?_
            rintro v I100 L101 hI102 ⟨C103, hO104, hO105, rfl, rfl⟩
            refine gl_pick [0, 1, 2, 6, 8, 36, 37, 40, 41, 42, 43] (K' := [(0, .slice A0 s80.1.length c0), (1, .int .i64 a1), (2, .func (.func 145) #[] #[]), (6, .int .i64 s53.2), (8, .int .i64 s80.2.2), (36, .slice A0 s80.1.length c0), (37, .int .i64 s80.2.1), (40, .int .i64 (IntKind.wrap .i64 (s80.2.1 + s53.2))), (41, .int .i64 s80.2.2), (42, .func (.func 145) #[] #[]), (43, .tuple #[])]) (by kernel_rfl) ?_
            refine gl_kv (congrArg (fun (zz : Nat) => ([(0, .slice A0 zz c0), (1, .int .i64 a1), (2, .func (.func 145) #[] #[]), (6, .int .i64 s53.2), (8, .int .i64 s80.2.2), (36, .slice A0 zz c0), (37, .int .i64 s80.2.1), (40, .int .i64 (IntKind.wrap .i64 (s80.2.1 + s53.2))), (41, .int .i64 s80.2.2), (42, .func (.func 145) #[] #[]), (43, .tuple #[])] : KV)) hO105.symm) ?_
            refine gl_atE (by kernel_rfl) ?_
            refine ge_seq ?_
            refine gk_seq (by kernel_rfl) ?_
            refine gk_region (by kernel_rfl) ?_
            refine gl_pure 2 [0, 1, 2, 6, 7, 8] (K' := [(0, .slice A0 y98.length c0), (1, .int .i64 a1), (2, .func (.func 145) #[] #[]), (6, .int .i64 s53.2), (7, .int .i64 s80.2.2), (8, .int .i64 s80.2.2)]) (by kernel_rfl) ?_
            refine gl_atE (by kernel_rfl) ?_
            refine ge_seq ?_
            refine gk_region (by kernel_rfl) ?_
            refine gl_pure 5 [0, 1, 2, 6, 7, 8] (K' := [(0, .slice A0 y98.length c0), (1, .int .i64 a1), (2, .func (.func 145) #[] #[]), (6, .int .i64 s53.2), (7, .int .i64 s80.2.2), (8, .int .i64 (IntKind.wrap .i64 (s80.2.2 + (IntKind.wrap .i64 (2 * s53.2)))))]) (by kernel_rfl) ?_
            refine gl_atE (by kernel_rfl) ?_
            refine ge_block_normal ?_
            obtain rfl := some_inj hb82
            exact ge_round fun t ht => ⟨C103, hO104, (Eq.trans hO105 hL86), (Imm.trans hI83 hI102), rfl, ht.pick (l := [0, 1, 2, 6, 7, 8]) (by kernel_rfl)⟩
          · have hb82 := cond_f hc97 hb82
            refine gk_exit (by kernel_rfl) ?_
            refine ge_seq_exit ?_
            obtain rfl := some_inj hb82
            refine ge_round_out (fun hrr => ?_) (by intro h; cases h)
            obtain rfl := hrr
            refine ge_block_hit (by kernel_rfl) ?_
            exact ge_mid fun t ht => ⟨C84, hO85, hL86, hI83, rfl, ht.pick (l := [0, 1, 2, 6, 7]) (by kernel_rfl)⟩
        · rintro t I94 L' ⟨C90, hO91, hL92, hI89, rfl, hK93⟩
          refine ge_at hK93 ?_
          refine ge_seq ?_
          refine gk_seq (by kernel_rfl) ?_
          refine gk_seq (by kernel_rfl) ?_
          refine gk_region (by kernel_rfl) ?_
          refine gl_pure 4 [0, 1, 2, 6, 7, 9] (K' := [(0, .slice A0 r78.1.length c0), (1, .int .i64 a1), (2, .func (.func 145) #[] #[]), (6, .int .i64 s53.2), (7, .int .i64 r78.2), (9, .int .i64 (IntKind.wrap .i64 (r78.2 + s53.2)))]) (by kernel_rfl) ?_
          refine gl_atE (by kernel_rfl) ?_
          refine ge_seq ?_
          refine gk_seq (by kernel_rfl) ?_
          refine gk_region (by kernel_rfl) ?_
          refine gl_pure 3 [0, 1, 2, 6, 7, 9, 54] (K' := [(0, .slice A0 r78.1.length c0), (1, .int .i64 a1), (2, .func (.func 145) #[] #[]), (6, .int .i64 s53.2), (7, .int .i64 r78.2), (9, .int .i64 (IntKind.wrap .i64 (r78.2 + s53.2))), (54, .bool (decide ((IntKind.wrap .i64 (r78.2 + s53.2)) < a1)))]) (by kernel_rfl) ?_
          refine gl_atE (by kernel_rfl) ?_
          refine ge_seq ?_
          obtain ⟨j106, hj107, hb55⟩ := bind_some hb55
          refine gk_join (fun t I' L' => ∃ C109, OwnS Kd.flt 37 I' A0 c0 j106 C109 ∧ (j106.length = a0.length) ∧ I94 ≤ I' ∧ C109 ++ L = L' ∧ Knows 63 [(0, .slice A0 j106.length c0), (1, .int .i64 a1), (2, .func (.func 145) #[] #[]), (6, .int .i64 s53.2)] t) ?_ ?_
          · refine gk_cond (b := (decide ((IntKind.wrap .i64 (r78.2 + s53.2)) < a1))) (by kernel_rfl) (by kernel_rfl) (fun hc114 => ?_) (fun hc114 => ?_)
            · have hj107 := cond_t hc114 hj107
              refine gk_region (by kernel_rfl) ?_
              refine gl_pure 5 [0, 1, 2, 6, 55, 56, 57, 58, 59] (K' := [(0, .slice A0 r78.1.length c0), (1, .int .i64 a1), (2, .func (.func 145) #[] #[]), (6, .int .i64 s53.2), (55, .slice A0 r78.1.length c0), (56, .int .i64 r78.2), (57, .int .i64 (IntKind.wrap .i64 (r78.2 + s53.2))), (58, .int .i64 a1), (59, .func (.func 145) #[] #[])]) (by kernel_rfl) ?_
              obtain ⟨y115, hx116, hj107⟩ := bind_some hj107
              refine gl_call (by kernel_rfl) (slices_symMergeCmpFunc_walk (r := y115) (A0 := A0) (c0 := c0) (C0 := C90) (a0 := r78.1) hO91 hx116 _) ?_
              rintro v I117 L118 hI119 ⟨C120, hO121, hO122, rfl, rfl⟩
              refine gl_pick [0, 1, 2, 6, 55, 56, 57, 58, 59, 60] (K' := [(0, .slice A0 r78.1.length c0), (1, .int .i64 a1), (2, .func (.func 145) #[] #[]), (6, .int .i64 s53.2), (55, .slice A0 r78.1.length c0), (56, .int .i64 r78.2), (57, .int .i64 (IntKind.wrap .i64 (r78.2 + s53.2))), (58, .int .i64 a1), (59, .func (.func 145) #[] #[]), (60, .tuple #[])]) (by kernel_rfl) ?_
              refine gl_kv (congrArg (fun (zz : Nat) => ([(0, .slice A0 zz c0), (1, .int .i64 a1), (2, .func (.func 145) #[] #[]), (6, .int .i64 s53.2), (55, .slice A0 zz c0), (56, .int .i64 r78.2), (57, .int .i64 (IntKind.wrap .i64 (r78.2 + s53.2))), (58, .int .i64 a1), (59, .func (.func 145) #[] #[]), (60, .tuple #[])] : KV)) hO122.symm) ?_
              refine gl_atE (by kernel_rfl) ?_
              obtain rfl := some_inj hj107
              exact ge_mid fun t ht => ⟨C120, hO121, (Eq.trans hO122 hL92), hI119, rfl, ht.pick (l := [0, 1, 2, 6]) (by kernel_rfl)⟩
            · have hj107 := cond_f hc114 hj107
              refine gk_skip (by kernel_rfl) ?_
              obtain rfl := some_inj hj107
              exact ge_mid fun t ht => ⟨C90, hO91, hL92, (Imm.refl _), rfl, ht.pick (l := [0, 1, 2, 6]) (by kernel_rfl)⟩
          · rintro t I113 L' ⟨C109, hO110, hL111, hI108, rfl, hK112⟩
            refine ge_at hK112 ?_
            refine ge_seq ?_
            refine gk_region (by kernel_rfl) ?_
            refine gl_pure 3 [0, 1, 2, 6] (K' := [(0, .slice A0 j106.length c0), (1, .int .i64 a1), (2, .func (.func 145) #[] #[]), (6, .int .i64 (IntKind.wrap .i64 (s53.2 * 2)))]) (by kernel_rfl) ?_
            refine gl_atE (by kernel_rfl) ?_
            refine ge_block_normal ?_
            obtain rfl := some_inj hb55
            exact ge_round fun t ht => ⟨C109, hO110, hL111, (Imm.trans (Imm.trans hI56 hI89) hI108), rfl, ht.pick (l := [0, 1, 2, 6]) (by kernel_rfl)⟩
      · have hb55 := cond_f hc70 hb55
        refine gk_exit (by kernel_rfl) ?_
        refine ge_seq_exit ?_
        obtain rfl := some_inj hb55
        refine ge_round_out (fun hrr => ?_) (by intro h; cases h)
        obtain rfl := hrr
        refine ge_block_hit (by kernel_rfl) ?_
        exact ge_mid fun t ht => ⟨C57, hO58, hL59, hI56, rfl, ht.pick (l := [0]) (by kernel_rfl)⟩
    · rintro t I67 L' ⟨C63, hO64, hL65, hI62, rfl, hK66⟩
      refine ge_at hK66 ?_
      obtain rfl := some_inj hr
      exact ge_result trivial ResOk.nil (Imm.trans (Imm.trans hI19 hI40) hI62) ⟨C63, hO64, hL65, rfl, rfl⟩
/-! 144 slices_SortStableFunc ('inp', ('cfn', 145)) -/
noncomputable def slices_SortStableFunc (a0 : List Fl) : Option (List Fl) :=
  Option.bind (slices_stableCmpFunc a0 (a0.length : Int)) fun (y1 : (List Fl)) =>
  some y1
theorem slices_SortStableFunc_walk {a0 : List Fl} {A0 : Option Addr} {c0 : Nat} {C0 : Own} {I : Imm} {r : (List Fl)} (hO0 : OwnS Kd.flt 37 I A0 c0 a0 C0) (hr : slices_SortStableFunc a0 = some r) (L : Own) :
    CallsTo Tryz.prog 144 #[.slice A0 a0.length c0, .func (.func 145) #[] #[]] I (C0 ++ L) (fun v I' L' => ∃ C0, OwnS Kd.flt 37 I' A0 c0 r C0 ∧ r.length = a0.length ∧ v = .tuple #[] ∧ C0 ++ L = L') := by
  unfold slices_SortStableFunc at hr
  refine callsTo_body (N := 9) Tryz.func144 (by kernel_rfl) (by kernel_rfl) (by kernel_rfl) ?_
  refine gk_pick [0, 1] (K' := [(0, .slice A0 a0.length c0), (1, .func (.func 145) #[] #[])]) (by kernel_rfl) ?_
  refine gk_region (by kernel_rfl) ?_
  refine gl_pure 4 [0, 4, 6, 7] (K' := [(0, .slice A0 a0.length c0), (4, .slice A0 a0.length c0), (6, .int .i64 (a0.length : Int)), (7, .func (.func 145) #[] #[])]) (by kernel_rfl) ?_
  obtain ⟨y1, hx2, hr⟩ := bind_some hr
  refine gl_call (by kernel_rfl) (slices_stableCmpFunc_walk (r := y1) (A0 := A0) (c0 := c0) (C0 := C0) (a0 := a0) hO0 hx2 _) ?_
  rintro v I3 L4 hI5 ⟨C6, hO7, hO8, rfl, rfl⟩
  refine gl_pick [0, 4, 6, 7, 8] (K' := [(0, .slice A0 a0.length c0), (4, .slice A0 a0.length c0), (6, .int .i64 (a0.length : Int)), (7, .func (.func 145) #[] #[]), (8, .tuple #[])]) (by kernel_rfl) ?_
  refine gl_kv (congrArg (fun (zz : Nat) => ([(0, .slice A0 zz c0), (4, .slice A0 zz c0), (6, .int .i64 (a0.length : Int)), (7, .func (.func 145) #[] #[]), (8, .tuple #[])] : KV)) hO8.symm) ?_
  refine gl_atE (by kernel_rfl) ?_
  obtain rfl := some_inj hr
  exact ge_result trivial ResOk.nil hI5 ⟨C6, hO7, (Eq.trans hO8 rfl), rfl, rfl⟩
/-! 102 aggr_values_quantile  -/
noncomputable def aggr_values_quantile (a0 : List Fl) (a1 : Fl) : Option Fl :=
  bif (math_IsNaN a1) then
  (some a1)
  else
  (bif (fcmp .lss a1 (some 0 : Fl)) then
    (Option.bind (math_Inf (-1)) fun (y3 : Fl) =>
      some y3)
    else
    (bif (fcmp .gtr a1 (some 4607182418800017408 : Fl)) then
      (Option.bind (math_Inf 1) fun (y11 : Fl) =>
        some y11)
      else
      (Option.bind (slices_Clone a0) fun (y18 : (List Fl)) =>
        Option.bind (slices_SortStableFunc y18) fun (y27 : (List Fl)) =>
        Option.bind (ftoi .i64 (farith .mul a1 (some (FloatKind.nearest .f64 (IntKind.wrap .i64 ((y27.length : Int) - 1))) : Fl))) fun (q37 : Int) =>
        Option.bind (ix y27 q37) fun (x41 : Fl) =>
        Option.bind (ix y27 (if (IntKind.wrap .i64 ((y27.length : Int) - 1)) < (IntKind.wrap .i64 (q37 + 1)) then (IntKind.wrap .i64 ((y27.length : Int) - 1)) else (IntKind.wrap .i64 (q37 + 1)))) fun (x56 : Fl) =>
        some (farith .add (farith .mul x41 (farith .sub (some 4607182418800017408 : Fl) (farith .sub (farith .mul a1 (some (FloatKind.nearest .f64 (IntKind.wrap .i64 ((y27.length : Int) - 1))) : Fl)) (some (FloatKind.nearest .f64 q37) : Fl)))) (farith .mul x56 (farith .sub (farith .mul a1 (some (FloatKind.nearest .f64 (IntKind.wrap .i64 ((y27.length : Int) - 1))) : Fl)) (some (FloatKind.nearest .f64 q37) : Fl)))))))
theorem aggr_values_quantile_walk {a0 : List Fl} {A0_0 : Option Addr} {n0_0 : Nat} {a1 : Fl} {b1_0 : Nat} {I : Imm} {r : Fl}  (hf0_0 : RepS Kd.flt I A0_0 n0_0 a0)  (hf1_0 : FRep a1 b1_0) (hr : aggr_values_quantile a0 a1 = some r) (L : Own) :
    CallsTo Tryz.prog 102 #[.slice A0_0 a0.length n0_0, .float .f64 b1_0] I L (fun v I' L' => ∃ b0_0, FRep r b0_0 ∧ v = .float .f64 b0_0 ∧ L = L') := by
  unfold aggr_values_quantile at hr
  refine callsTo_body (N := 58) Tryz.func102 (by kernel_rfl) (by kernel_rfl) (by kernel_rfl) ?_
  refine gk_pick [0, 1] (K' := [(0, .slice A0_0 a0.length n0_0), (1, .float .f64 b1_0)]) (by kernel_rfl) ?_
  refine gk_seq (by kernel_rfl) ?_
  refine gk_region (by kernel_rfl) ?_
  refine gl_pure 1 [0, 1] (K' := [(0, .slice A0_0 a0.length n0_0), (1, .float .f64 b1_0)]) (by kernel_rfl) ?_
  refine gl_atE (by kernel_rfl) ?_
  refine ge_seq ?_
  refine gk_seq (by kernel_rfl) ?_
  refine gk_block (by kernel_rfl) ?_
  refine gk_seq (by kernel_rfl) ?_
  refine gk_region (by kernel_rfl) ?_
  refine gl_pure 1 [0, 1, 11] (K' := [(0, .slice A0_0 a0.length n0_0), (1, .float .f64 b1_0), (11, .float .f64 b1_0)]) (by kernel_rfl) ?_
  refine gl_callQ (by kernel_rfl) (math_IsNaN_walk (r := (math_IsNaN a1)) hf1_0 rfl _) ?_
  refine gl_pure 1 [0, 1, 10] (K' := [(0, .slice A0_0 a0.length n0_0), (1, .float .f64 b1_0), (10, .bool (math_IsNaN a1))]) (by kernel_rfl) ?_
  refine gl_atE (by kernel_rfl) ?_
  refine ge_seq ?_
  refine gk_cond (b := (math_IsNaN a1)) (by kernel_rfl) (by kernel_rfl) (fun hc1 => ?_) (fun hc1 => ?_)
  · have hr := cond_t hc1 hr
    refine gk_seq (by kernel_rfl) ?_
    refine gk_region (by kernel_rfl) ?_
    refine gl_pure 2 [4] (K' := [(4, .float .f64 b1_0)]) (by kernel_rfl) ?_
    refine gl_atE (by kernel_rfl) ?_
    refine ge_seq ?_
    refine gk_ret (by kernel_rfl) ?_
    refine ge_block_ret ?_
    refine ge_seq_ret ?_
    obtain rfl := some_inj hr
    exact ge_result trivial (ResOk.tmp (by kernel_rfl) ResOk.nil) (Imm.refl _) ⟨b1_0, hf1_0, rfl, rfl⟩
  · have hr := cond_f hc1 hr
    refine gk_seq (by kernel_rfl) ?_
    refine gk_region (by kernel_rfl) ?_
    refine gl_pure 1 [0, 1, 15] (K' := [(0, .slice A0_0 a0.length n0_0), (1, .float .f64 b1_0), (15, .float .f64 b1_0)]) (by kernel_rfl) ?_
    refine gl_fcmp (op := .lss) (t := 37) (t' := 37) (xx := (.tmp 15)) (yy := (.const (.float .f64 0))) hf1_0 (FRep.of 0) (by kernel_rfl) (by kernel_rfl) rfl (by kernel_rfl) (by kernel_rfl) ?_
    refine gl_pure 1 [0, 1, 14] (K' := [(0, .slice A0_0 a0.length n0_0), (1, .float .f64 b1_0), (14, .bool (fcmp .lss a1 (some 0 : Fl)))]) (by kernel_rfl) ?_
    refine gl_atE (by kernel_rfl) ?_
    refine ge_seq ?_
    refine gk_cond (b := (fcmp .lss a1 (some 0 : Fl))) (by kernel_rfl) (by kernel_rfl) (fun hc2 => ?_) (fun hc2 => ?_)
    · have hr := cond_t hc2 hr
      refine gk_seq (by kernel_rfl) ?_
      refine gk_region (by kernel_rfl) ?_
      obtain ⟨y3, hx4, hr⟩ := bind_some hr
      refine gl_call (by kernel_rfl) (math_Inf_walk (r := y3)  hx4 _) ?_
      rintro v I5 L6 hI7 ⟨z8, hO9, rfl, rfl⟩
      refine gl_pure 1 [4] (K' := [(4, .float .f64 z8)]) (by kernel_rfl) ?_
      refine gl_atE (by kernel_rfl) ?_
      refine ge_seq ?_
      refine gk_ret (by kernel_rfl) ?_
      refine ge_block_ret ?_
      refine ge_seq_ret ?_
      obtain rfl := some_inj hr
      exact ge_result trivial (ResOk.tmp (by kernel_rfl) ResOk.nil) hI7 ⟨z8, hO9, rfl, rfl⟩
    · have hr := cond_f hc2 hr
      refine gk_seq (by kernel_rfl) ?_
      refine gk_region (by kernel_rfl) ?_
      refine gl_pure 1 [0, 1, 19] (K' := [(0, .slice A0_0 a0.length n0_0), (1, .float .f64 b1_0), (19, .float .f64 b1_0)]) (by kernel_rfl) ?_
      refine gl_fcmp (op := .gtr) (t := 37) (t' := 37) (xx := (.tmp 19)) (yy := (.const (.float .f64 4607182418800017408))) hf1_0 (FRep.of 4607182418800017408) (by kernel_rfl) (by kernel_rfl) rfl (by kernel_rfl) (by kernel_rfl) ?_
      refine gl_pure 1 [0, 1, 18] (K' := [(0, .slice A0_0 a0.length n0_0), (1, .float .f64 b1_0), (18, .bool (fcmp .gtr a1 (some 4607182418800017408 : Fl)))]) (by kernel_rfl) ?_
      refine gl_atE (by kernel_rfl) ?_
      refine ge_seq ?_
      refine gk_cond (b := (fcmp .gtr a1 (some 4607182418800017408 : Fl))) (by kernel_rfl) (by kernel_rfl) (fun hc10 => ?_) (fun hc10 => ?_)
      · have hr := cond_t hc10 hr
        refine gk_seq (by kernel_rfl) ?_
        refine gk_region (by kernel_rfl) ?_
        obtain ⟨y11, hx12, hr⟩ := bind_some hr
        refine gl_call (by kernel_rfl) (math_Inf_walk (r := y11)  hx12 _) ?_
        rintro v I13 L14 hI15 ⟨z16, hO17, rfl, rfl⟩
        refine gl_pure 1 [4] (K' := [(4, .float .f64 z16)]) (by kernel_rfl) ?_
        refine gl_atE (by kernel_rfl) ?_
        refine ge_seq ?_
        refine gk_ret (by kernel_rfl) ?_
        refine ge_block_ret ?_
        refine ge_seq_ret ?_
        obtain rfl := some_inj hr
        exact ge_result trivial (ResOk.tmp (by kernel_rfl) ResOk.nil) hI15 ⟨z16, hO17, rfl, rfl⟩
      · have hr := cond_f hc10 hr
        refine gk_skip (by kernel_rfl) ?_
        refine ge_block_normal ?_
        refine ge_seq ?_
        refine gk_seq (by kernel_rfl) ?_
        refine gk_region (by kernel_rfl) ?_
        refine gl_pure 1 [1, 22] (K' := [(1, .float .f64 b1_0), (22, .slice A0_0 a0.length n0_0)]) (by kernel_rfl) ?_
        obtain ⟨y18, hx19, hr⟩ := bind_some hr
        refine gl_call (by kernel_rfl) (slices_Clone_walk (r := y18) hf0_0 hx19 _) ?_
        rintro v I20 L21 hI22 ⟨A23, c24, C25, hO26, rfl, rfl⟩
        refine gl_pure 1 [1, 5] (K' := [(1, .float .f64 b1_0), (5, .slice A23 y18.length c24)]) (by kernel_rfl) ?_
        refine gl_atE (by kernel_rfl) ?_
        refine ge_seq ?_
        refine gk_seq (by kernel_rfl) ?_
        refine gk_region (by kernel_rfl) ?_
        refine gl_pure 1 [1, 5, 24] (K' := [(1, .float .f64 b1_0), (5, .slice A23 y18.length c24), (24, .slice A23 y18.length c24)]) (by kernel_rfl) ?_
        obtain ⟨y27, hx28, hr⟩ := bind_some hr
        refine gl_call (by kernel_rfl) (slices_SortStableFunc_walk (r := y27) (A0 := A23) (c0 := c24) (C0 := C25) (a0 := y18) hO26 hx28 _) ?_
        rintro v I29 L30 hI31 ⟨C32, hO33, hO34, rfl, rfl⟩
        refine gl_pick [1, 5, 24, 25] (K' := [(1, .float .f64 b1_0), (5, .slice A23 y18.length c24), (24, .slice A23 y18.length c24), (25, .tuple #[])]) (by kernel_rfl) ?_
        refine gl_kv (congrArg (fun (zz : Nat) => ([(1, .float .f64 b1_0), (5, .slice A23 zz c24), (24, .slice A23 zz c24), (25, .tuple #[])] : KV)) hO34.symm) ?_
        refine gl_atE (by kernel_rfl) ?_
        refine ge_seq ?_
        refine gk_seq (by kernel_rfl) ?_
        refine gk_region (by kernel_rfl) ?_
        refine gl_pure 5 [5, 26, 30] (K' := [(5, .slice A23 y27.length c24), (26, .float .f64 b1_0), (30, .float .f64 (FloatKind.nearest .f64 (IntKind.wrap .i64 ((y27.length : Int) - 1))))]) (by kernel_rfl) ?_
        refine gl_farith (op := .mul) (t := 37) (t' := 37) (xx := (.tmp 26)) (yy := (.tmp 30)) hf1_0 (FRep.of (FloatKind.nearest .f64 (IntKind.wrap .i64 ((y27.length : Int) - 1)))) (by kernel_rfl) (by kernel_rfl) rfl (by kernel_rfl) (by kernel_rfl) (fun b35 hf36 => ?_)
        refine gl_pure 1 [5, 6] (K' := [(5, .slice A23 y27.length c24), (6, .float .f64 b35)]) (by kernel_rfl) ?_
        refine gl_atE (by kernel_rfl) ?_
        refine ge_seq ?_
        refine gk_seq (by kernel_rfl) ?_
        refine gk_region (by kernel_rfl) ?_
        refine gl_pure 1 [5, 6, 32] (K' := [(5, .slice A23 y27.length c24), (6, .float .f64 b35), (32, .float .f64 b35)]) (by kernel_rfl) ?_
        obtain ⟨q37, hx38, hr⟩ := bind_some hr
        refine gl_ftoi (src := 37) (dst := 3) (xx := (.tmp 32)) (kd := .i64) hx38 hf36 (by kernel_rfl) (by kernel_rfl) (by kernel_rfl) ⟨.float .f64, by kernel_rfl⟩ (by kernel_rfl) ?_
        refine gl_pure 1 [5, 6, 7] (K' := [(5, .slice A23 y27.length c24), (6, .float .f64 b35), (7, .int .i64 q37)]) (by kernel_rfl) ?_
        refine gl_atE (by kernel_rfl) ?_
        refine ge_seq ?_
        refine gk_seq (by kernel_rfl) ?_
        refine gk_region (by kernel_rfl) ?_
        refine gl_pure 7 [5, 6, 7, 8] (K' := [(5, .slice A23 y27.length c24), (6, .float .f64 b35), (7, .int .i64 q37), (8, .int .i64 (if (IntKind.wrap .i64 ((y27.length : Int) - 1)) < (IntKind.wrap .i64 (q37 + 1)) then (IntKind.wrap .i64 ((y27.length : Int) - 1)) else (IntKind.wrap .i64 (q37 + 1))))]) (by kernel_rfl) ?_
        refine gl_atE (by kernel_rfl) ?_
        refine ge_seq ?_
        refine gk_seq (by kernel_rfl) ?_
        refine gk_region (by kernel_rfl) ?_
        refine gl_pure 3 [5, 7, 8, 40, 42] (K' := [(5, .slice A23 y27.length c24), (7, .int .i64 q37), (8, .int .i64 (if (IntKind.wrap .i64 ((y27.length : Int) - 1)) < (IntKind.wrap .i64 (q37 + 1)) then (IntKind.wrap .i64 ((y27.length : Int) - 1)) else (IntKind.wrap .i64 (q37 + 1)))), (40, .float .f64 b35), (42, .float .f64 (FloatKind.nearest .f64 q37))]) (by kernel_rfl) ?_
        refine gl_farith (op := .sub) (t := 37) (t' := 37) (xx := (.tmp 40)) (yy := (.tmp 42)) hf36 (FRep.of (FloatKind.nearest .f64 q37)) (by kernel_rfl) (by kernel_rfl) rfl (by kernel_rfl) (by kernel_rfl) (fun b39 hf40 => ?_)
        refine gl_pure 1 [5, 7, 8, 9] (K' := [(5, .slice A23 y27.length c24), (7, .int .i64 q37), (8, .int .i64 (if (IntKind.wrap .i64 ((y27.length : Int) - 1)) < (IntKind.wrap .i64 (q37 + 1)) then (IntKind.wrap .i64 ((y27.length : Int) - 1)) else (IntKind.wrap .i64 (q37 + 1)))), (9, .float .f64 b39)]) (by kernel_rfl) ?_
        refine gl_atE (by kernel_rfl) ?_
        refine ge_seq ?_
        refine gk_seq (by kernel_rfl) ?_
        refine gk_draw 15 [(0, true), (1, true), (2, true), (3, true), (4, true), (5, true), (6, true), (7, true), (8, true), (9, true), (10, true), (11, true), (12, true), (13, true), (14, true)] [] (fun p hp => by cases hp) (by kernel_rfl) (by kernel_rfl) (by kernel_rfl) ?_ (by kernel_rfl)
        refine gd_ofQ (by kernel_rfl) (fun p hp => by cases hp) ?_
        refine gq_pure 2 [5, 8, 9, 44, 45] (K' := [(5, .slice A23 y27.length c24), (8, .int .i64 (if (IntKind.wrap .i64 ((y27.length : Int) - 1)) < (IntKind.wrap .i64 (q37 + 1)) then (IntKind.wrap .i64 ((y27.length : Int) - 1)) else (IntKind.wrap .i64 (q37 + 1)))), (9, .float .f64 b39), (44, .slice A23 y27.length c24), (45, .int .i64 q37)]) (s' := [(2, true), (3, true), (4, true), (5, true), (6, true), (7, true), (8, true), (9, true), (10, true), (11, true), (12, true), (13, true), (14, true)]) (by kernel_rfl) ?_
        refine gq_step (by kernel_rfl) (by kernel_rfl) ?_
        obtain ⟨x41, hx42, hr⟩ := bind_some hr
        refine gl_indexAddrW (d := Kd.flt) (c := c24) (T' := 92) (e := 37) (xs := (.tmp 44)) (xi := (.tmp 45)) (kd := .i64) hx42 hO33 (Upd.selfC _ _) (by kernel_rfl) (by kernel_rfl) (by kernel_rfl) (by kernel_rfl) (by kernel_rfl) (fun p43 cs44 hR45 hA46 hp51 => ?_)
        obtain ⟨b49, rfl, hf50⟩ := hR45
        refine gq_end (by kernel_rfl) ?_
        refine gq_step (by kernel_rfl) (by kernel_rfl) ?_
        refine gl_loadO (T' := 37) (xp := (.tmp 46)) (p := p43) (c := .float .f64 b49) (n := 1) (by kernel_rfl) (by kernel_rfl) (by kernel_rfl) (by kernel_rfl) hA46 ?_
        refine gq_end (by kernel_rfl) ?_
        refine gq_pure 1 [5, 8, 9, 47, 48] (K' := [(5, .slice A23 y27.length c24), (8, .int .i64 (if (IntKind.wrap .i64 ((y27.length : Int) - 1)) < (IntKind.wrap .i64 (q37 + 1)) then (IntKind.wrap .i64 ((y27.length : Int) - 1)) else (IntKind.wrap .i64 (q37 + 1)))), (9, .float .f64 b39), (47, .float .f64 b49), (48, .float .f64 b39)]) (s' := [(5, true), (6, true), (7, true), (8, true), (9, true), (10, true), (11, true), (12, true), (13, true), (14, true)]) (by kernel_rfl) ?_
        refine gq_step (by kernel_rfl) (by kernel_rfl) ?_
        refine gl_farith (op := .sub) (t := 37) (t' := 37) (xx := (.const (.float .f64 4607182418800017408))) (yy := (.tmp 48)) (FRep.of 4607182418800017408) hf40 (by kernel_rfl) (by kernel_rfl) rfl (by kernel_rfl) (by kernel_rfl) (fun b52 hf53 => ?_)
        refine gq_end (by kernel_rfl) ?_
        refine gq_step (by kernel_rfl) (by kernel_rfl) ?_
        refine gl_farith (op := .mul) (t := 37) (t' := 37) (xx := (.tmp 47)) (yy := (.tmp 49)) hf50 hf53 (by kernel_rfl) (by kernel_rfl) rfl (by kernel_rfl) (by kernel_rfl) (fun b54 hf55 => ?_)
        refine gq_end (by kernel_rfl) ?_
        refine gq_pure 2 [9, 50, 51, 52] (K' := [(9, .float .f64 b39), (50, .float .f64 b54), (51, .slice A23 y27.length c24), (52, .int .i64 (if (IntKind.wrap .i64 ((y27.length : Int) - 1)) < (IntKind.wrap .i64 (q37 + 1)) then (IntKind.wrap .i64 ((y27.length : Int) - 1)) else (IntKind.wrap .i64 (q37 + 1))))]) (s' := [(9, true), (10, true), (11, true), (12, true), (13, true), (14, true)]) (by kernel_rfl) ?_
        refine gq_step (by kernel_rfl) (by kernel_rfl) ?_
        obtain ⟨x56, hx57, hr⟩ := bind_some hr
        refine gl_indexAddrW (d := Kd.flt) (c := c24) (T' := 92) (e := 37) (xs := (.tmp 51)) (xi := (.tmp 52)) (kd := .i64) hx57 hO33 (Upd.selfC _ _) (by kernel_rfl) (by kernel_rfl) (by kernel_rfl) (by kernel_rfl) (by kernel_rfl) (fun p58 cs59 hR60 hA61 hp66 => ?_)
        obtain ⟨b64, rfl, hf65⟩ := hR60
        refine gq_end (by kernel_rfl) ?_
        refine gq_step (by kernel_rfl) (by kernel_rfl) ?_
        refine gl_loadO (T' := 37) (xp := (.tmp 53)) (p := p58) (c := .float .f64 b64) (n := 1) (by kernel_rfl) (by kernel_rfl) (by kernel_rfl) (by kernel_rfl) hA61 ?_
        refine gq_end (by kernel_rfl) ?_
        refine gq_pure 1 [50, 54, 55] (K' := [(50, .float .f64 b54), (54, .float .f64 b64), (55, .float .f64 b39)]) (s' := [(12, true), (13, true), (14, true)]) (by kernel_rfl) ?_
        refine gq_step (by kernel_rfl) (by kernel_rfl) ?_
        refine gl_farith (op := .mul) (t := 37) (t' := 37) (xx := (.tmp 54)) (yy := (.tmp 55)) hf65 hf40 (by kernel_rfl) (by kernel_rfl) rfl (by kernel_rfl) (by kernel_rfl) (fun b67 hf68 => ?_)
        refine gq_end (by kernel_rfl) ?_
        refine gq_step (by kernel_rfl) (by kernel_rfl) ?_
        refine gl_farith (op := .add) (t := 37) (t' := 37) (xx := (.tmp 50)) (yy := (.tmp 56)) hf55 hf68 (by kernel_rfl) (by kernel_rfl) rfl (by kernel_rfl) (by kernel_rfl) (fun b69 hf70 => ?_)
        refine gq_end (by kernel_rfl) ?_
        refine gq_pure 1 [4] (K' := [(4, .float .f64 b69)]) (s' := []) (by kernel_rfl) ?_
        refine gq_done ?_
        refine gl_atE (by kernel_rfl) ?_
        refine ge_seq ?_
        refine gk_reord (D := L) (Reord.skipC (Reord.refl _)) ?_
        refine gk_ret (by kernel_rfl) ?_
        obtain rfl := some_inj hr
        exact ge_result trivial (ResOk.tmp (by kernel_rfl) ResOk.nil) (Imm.trans hI22 hI31) ⟨b69, hf70, rfl, rfl⟩
theorem aggr_values_quantile_impl88  {I : Imm}  : Fn88 I (.func (.func 102) #[] #[]) aggr_values_quantile := ⟨fun I' hI x0 x1 r hr A0_0 c0_0 b1_0 h0_0 h1_0 L => ⟨102, #[], #[], rfl, ⟨_, Tryz.func102, by kernel_rfl, by kernel_rfl⟩, by
  simp only [List.append_toArray, List.nil_append, List.append_nil, Array.append_empty, Array.empty_append, List.push_append_toArray, List.cons_append]
  exact aggr_values_quantile_walk  h0_0 h1_0  hr L⟩⟩
noncomputable def tabf_48 : Nat → (List Fl) → Fl → Option Fl
  | 0, _, _ => none
  | 1, x0, x1 => aggr_values_sum x0 x1
  | 2, x0, x1 => aggr_values_avg x0 x1
  | 3, x0, x1 => aggr_values_min x0 x1
  | 4, x0, x1 => aggr_values_max x0 x1
  | 5, x0, x1 => (fun x0 x1 => some (aggr_values_count x0 x1)) x0 x1
  | 6, x0, x1 => (fun x0 x1 => some (aggr_values_group x0 x1)) x0 x1
  | 7, x0, x1 => aggr_values_stdvar x0 x1
  | 8, x0, x1 => aggr_values_stddev x0 x1
  | _ + 9, x0, x1 => aggr_values_quantile x0 x1
theorem tabf_48_fn {I : Imm} : ∀ k : Nat, Fn88 I (tabv_48 k) (tabf_48 k)
  | 0 => ⟨fun _ _ _ _ _ h => by cases h⟩
  | 1 => aggr_values_sum_impl88
  | 2 => aggr_values_avg_impl88
  | 3 => aggr_values_min_impl88
  | 4 => aggr_values_max_impl88
  | 5 => aggr_values_count_impl88
  | 6 => aggr_values_group_impl88
  | 7 => aggr_values_stdvar_impl88
  | 8 => aggr_values_stddev_impl88
  | _ + 9 => aggr_values_quantile_impl88
/-! 52 aggr_told  -/
noncomputable def aggr_told (a0 : Fl) : Fl :=
  bif (math_IsNaN a0) then
  ((some (9221120237041090561 : Int).toNat : Fl))
  else
  (a0)
theorem aggr_told_walk {a0 : Fl} {b0_0 : Nat} {I : Imm} {r : Fl}  (hf0_0 : FRep a0 b0_0) (hr : aggr_told a0 = r) (L : Own) :
    CallsTo Tryz.prog 52 #[.float .f64 b0_0] I L (fun v I' L' => ∃ b0_0, FRep r b0_0 ∧ v = .float .f64 b0_0 ∧ L = L') := by
  replace hr : some (aggr_told a0) = some r := congrArg some hr
  unfold aggr_told at hr
  refine callsTo_body (N := 7) Tryz.func52 (by kernel_rfl) (by kernel_rfl) (by kernel_rfl) ?_
  refine gk_pick [0] (K' := [(0, .float .f64 b0_0)]) (by kernel_rfl) ?_
  refine gk_seq (by kernel_rfl) ?_
  refine gk_region (by kernel_rfl) ?_
  refine gl_pure 1 [0] (K' := [(0, .float .f64 b0_0)]) (by kernel_rfl) ?_
  refine gl_atE (by kernel_rfl) ?_
  refine ge_seq ?_
  refine gk_seq (by kernel_rfl) ?_
  refine gk_seq (by kernel_rfl) ?_
  refine gk_region (by kernel_rfl) ?_
  refine gl_pure 1 [0, 3] (K' := [(0, .float .f64 b0_0), (3, .float .f64 b0_0)]) (by kernel_rfl) ?_
  refine gl_callQ (by kernel_rfl) (math_IsNaN_walk (r := (math_IsNaN a0)) hf0_0 rfl _) ?_
  refine gl_atE (by kernel_rfl) ?_
  refine ge_seq ?_
  refine gk_cond (b := (math_IsNaN a0)) (by kernel_rfl) (by kernel_rfl) (fun hc1 => ?_) (fun hc1 => ?_)
  · have hr := scond_t hc1 hr
    refine gk_seq (by kernel_rfl) ?_
    refine gk_region (by kernel_rfl) ?_
    refine gl_f64from (n := 9221120237041090561) Tryz.func105 (by kernel_rfl) (by kernel_rfl) (by kernel_rfl) (by kernel_rfl) (by kernel_rfl) (by kernel_rfl) ?_
    refine gl_pure 1 [2] (K' := [(2, .float .f64 ((9221120237041090561 : Int).toNat))]) (by kernel_rfl) ?_
    refine gl_atE (by kernel_rfl) ?_
    refine ge_seq ?_
    refine gk_ret (by kernel_rfl) ?_
    refine ge_seq_ret ?_
    obtain rfl := some_inj hr
    exact ge_result trivial (ResOk.tmp (by kernel_rfl) ResOk.nil) (Imm.refl _) ⟨(9221120237041090561 : Int).toNat, (FRep.of (9221120237041090561 : Int).toNat), rfl, rfl⟩
  · have hr := scond_f hc1 hr
    refine gk_skip (by kernel_rfl) ?_
    refine ge_seq ?_
    refine gk_seq (by kernel_rfl) ?_
    refine gk_region (by kernel_rfl) ?_
    refine gl_pure 2 [2] (K' := [(2, .float .f64 b0_0)]) (by kernel_rfl) ?_
    refine gl_atE (by kernel_rfl) ?_
    refine ge_seq ?_
    refine gk_ret (by kernel_rfl) ?_
    obtain rfl := some_inj hr
    exact ge_result trivial (ResOk.tmp (by kernel_rfl) ResOk.nil) (Imm.refl _) ⟨b0_0, hf0_0, rfl, rfl⟩
/-! 20 aggr_Fold  -/
noncomputable def aggr_Fold (a0 : ByteArray) (a1 : List Fl) (a2 : Fl) : Option (Fl × Int) :=
  bif ((aggr_fold a0) == 0) then
  (some ((some 0 : Fl), 60))
  else
  (bif ((a1.length : Int) == 0) then
    (some ((some 0 : Fl), 5))
    else
    (Option.bind (tabf_48 (aggr_fold a0) a1 a2) fun (y4 : Fl) =>
      some ((aggr_told y4), 0)))
theorem aggr_Fold_walk {a0 : ByteArray} {a1 : List Fl} {A1_0 : Option Addr} {n1_0 : Nat} {a2 : Fl} {b2_0 : Nat} {I : Imm} {r : Fl × Int}  (hf1_0 : RepS Kd.flt I A1_0 n1_0 a1)  (hf2_0 : FRep a2 b2_0) (hr : aggr_Fold a0 a1 a2 = some r) (L : Own) :
    CallsTo Tryz.prog 20 #[.string a0, .slice A1_0 a1.length n1_0, .float .f64 b2_0] I L (fun v I' L' => ∃ b0_0, FRep r.1 b0_0 ∧ v = .tuple #[.float .f64 b0_0, .int .i64 r.2] ∧ L = L') := by
  unfold aggr_Fold at hr
  refine callsTo_body (N := 23) Tryz.func20 (by kernel_rfl) (by kernel_rfl) (by kernel_rfl) ?_
  refine gk_pick [0, 1, 2] (K' := [(0, .string a0), (1, .slice A1_0 a1.length n1_0), (2, .float .f64 b2_0)]) (by kernel_rfl) ?_
  refine gk_seq (by kernel_rfl) ?_
  refine gk_region (by kernel_rfl) ?_
  refine gl_pure 2 [0, 1, 2] (K' := [(0, .string a0), (1, .slice A1_0 a1.length n1_0), (2, .float .f64 b2_0)]) (by kernel_rfl) ?_
  refine gl_atE (by kernel_rfl) ?_
  refine ge_seq ?_
  refine gk_seq (by kernel_rfl) ?_
  refine gk_region (by kernel_rfl) ?_
  refine gl_pure 1 [1, 2, 9] (K' := [(1, .slice A1_0 a1.length n1_0), (2, .float .f64 b2_0), (9, .string a0)]) (by kernel_rfl) ?_
  refine gl_callQ (by kernel_rfl) (aggr_fold_walk (r := (aggr_fold a0))  rfl _) ?_
  refine gl_pure 1 [1, 2, 8] (K' := [(1, .slice A1_0 a1.length n1_0), (2, .float .f64 b2_0), (8, (tabv_48 (aggr_fold a0)))]) (by kernel_rfl) ?_
  refine gl_atE (by kernel_rfl) ?_
  refine ge_seq ?_
  refine gk_seq (by kernel_rfl) ?_
  refine gk_block (by kernel_rfl) ?_
  refine gk_seq (by kernel_rfl) ?_
  refine gk_region (by kernel_rfl) ?_
  refine gl_pure 1 [1, 2, 8, 12] (K' := [(1, .slice A1_0 a1.length n1_0), (2, .float .f64 b2_0), (8, (tabv_48 (aggr_fold a0))), (12, (tabv_48 (aggr_fold a0)))]) (by kernel_rfl) ?_
  refine gl_eqNilTab (neg := false) (b := ((aggr_fold a0) == 0)) (t := 88) (t' := 88) (x := (.tmp 12)) (y := (.const (.nilFunc))) (tabv_48_cases (aggr_fold a0)) (by kernel_rfl) (by kernel_rfl) (by kernel_rfl) (by kernel_rfl) (by kernel_rfl) ?_
  refine gl_pure 1 [1, 2, 8, 11] (K' := [(1, .slice A1_0 a1.length n1_0), (2, .float .f64 b2_0), (8, (tabv_48 (aggr_fold a0))), (11, .bool ((aggr_fold a0) == 0))]) (by kernel_rfl) ?_
  refine gl_atE (by kernel_rfl) ?_
  refine ge_seq ?_
  refine gk_cond (b := ((aggr_fold a0) == 0)) (by kernel_rfl) (by kernel_rfl) (fun hc1 => ?_) (fun hc1 => ?_)
  · have hr := cond_t hc1 hr
    refine gk_seq (by kernel_rfl) ?_
    refine gk_region (by kernel_rfl) ?_
    refine gl_pure 2 [6, 7] (K' := [(6, .float .f64 0), (7, .int .i64 60)]) (by kernel_rfl) ?_
    refine gl_atE (by kernel_rfl) ?_
    refine ge_seq ?_
    refine gk_ret (by kernel_rfl) ?_
    refine ge_block_ret ?_
    refine ge_seq_ret ?_
    obtain rfl := some_inj hr
    exact ge_result trivial (ResOk.tmp (by kernel_rfl) (ResOk.tmp (by kernel_rfl) ResOk.nil)) (Imm.refl _) ⟨0, (FRep.of 0), rfl, rfl⟩
  · have hr := cond_f hc1 hr
    refine gk_seq (by kernel_rfl) ?_
    refine gk_region (by kernel_rfl) ?_
    refine gl_pure 4 [1, 2, 8, 14] (K' := [(1, .slice A1_0 a1.length n1_0), (2, .float .f64 b2_0), (8, (tabv_48 (aggr_fold a0))), (14, .bool ((a1.length : Int) == 0))]) (by kernel_rfl) ?_
    refine gl_atE (by kernel_rfl) ?_
    refine ge_seq ?_
    refine gk_cond (b := ((a1.length : Int) == 0)) (by kernel_rfl) (by kernel_rfl) (fun hc2 => ?_) (fun hc2 => ?_)
    · have hr := cond_t hc2 hr
      refine gk_seq (by kernel_rfl) ?_
      refine gk_region (by kernel_rfl) ?_
      refine gl_pure 2 [6, 7] (K' := [(6, .float .f64 0), (7, .int .i64 5)]) (by kernel_rfl) ?_
      refine gl_atE (by kernel_rfl) ?_
      refine ge_seq ?_
      refine gk_ret (by kernel_rfl) ?_
      refine ge_block_ret ?_
      refine ge_seq_ret ?_
      obtain rfl := some_inj hr
      exact ge_result trivial (ResOk.tmp (by kernel_rfl) (ResOk.tmp (by kernel_rfl) ResOk.nil)) (Imm.refl _) ⟨0, (FRep.of 0), rfl, rfl⟩
    · have hr := cond_f hc2 hr
      refine gk_skip (by kernel_rfl) ?_
      refine ge_block_normal ?_
      refine ge_seq ?_
      refine gk_seq (by kernel_rfl) ?_
      refine gk_region (by kernel_rfl) ?_
      refine gl_pure 3 [18, 19, 20] (K' := [(18, (tabv_48 (aggr_fold a0))), (19, .slice A1_0 a1.length n1_0), (20, .float .f64 b2_0)]) (by kernel_rfl) ?_
      obtain ⟨y4, hx3, hr⟩ := bind_some hr
      refine gl_callv (by kernel_rfl) ((tabf_48_fn (aggr_fold a0)).out _ (Imm.refl _) _ _ _ hx3 _ _ _ hf1_0 hf2_0 _) ?_
      rintro v I5 L6 hI7 ⟨z8, hO9, rfl, rfl⟩
      refine gl_call (by kernel_rfl) (aggr_told_walk (r := (aggr_told y4)) hO9 rfl _) ?_
      rintro v I10 L11 hI12 ⟨z13, hO14, rfl, rfl⟩
      refine gl_pure 2 [6, 7] (K' := [(6, .float .f64 z13), (7, .int .i64 0)]) (by kernel_rfl) ?_
      refine gl_atE (by kernel_rfl) ?_
      refine ge_seq ?_
      refine gk_ret (by kernel_rfl) ?_
      obtain rfl := some_inj hr
      exact ge_result trivial (ResOk.tmp (by kernel_rfl) (ResOk.tmp (by kernel_rfl) ResOk.nil)) (Imm.trans hI7 hI12) ⟨z13, hO14, rfl, rfl⟩
/-! 62 tocsinref16_sum  -/
noncomputable def tocsinref16_sum_l37 (l12 : List Fl) : (Fl × Int) → Option ((Fl × Int) ⊕ (Fl)) := fun s24 =>
  bif (decide (s24.2 < (l12.length : Int))) then
  (Option.bind (ix l12 s24.2) fun (x40 : Fl) =>
    some (Sum.inl ((farith .add s24.1 x40), (IntKind.wrap .i64 (s24.2 + 1)))))
  else
  (some (Sum.inr s24.1))
noncomputable def tocsinref16_sum (a0 : List Fl) : Option Fl :=
  Option.bind (ix a0 0) fun (x1 : Fl) =>
  Option.bind (lx a0 1 (a0.length : Int)) fun (l12 : List Fl) =>
  Option.bind (loopO (tocsinref16_sum_l37 l12) (x1, 0)) fun (r22 : Fl) =>
  some r22
theorem tocsinref16_sum_walk {a0 : List Fl} {A0_0 : Option Addr} {n0_0 : Nat} {I : Imm} {r : Fl}  (hf0_0 : RepS Kd.flt I A0_0 n0_0 a0) (hr : tocsinref16_sum a0 = some r) (L : Own) :
    CallsTo Tryz.prog 62 #[.slice A0_0 a0.length n0_0] I L (fun v I' L' => ∃ b0_0, FRep r b0_0 ∧ v = .float .f64 b0_0 ∧ L = L') := by
  unfold tocsinref16_sum at hr
  refine callsTo_body (N := 21) Tryz.func62 (by kernel_rfl) (by kernel_rfl) (by kernel_rfl) ?_
  refine gk_pick [0] (K' := [(0, .slice A0_0 a0.length n0_0)]) (by kernel_rfl) ?_
  refine gk_seq (by kernel_rfl) ?_
  refine gk_region (by kernel_rfl) ?_
  refine gl_pure 1 [0] (K' := [(0, .slice A0_0 a0.length n0_0)]) (by kernel_rfl) ?_
  refine gl_atE (by kernel_rfl) ?_
  refine ge_seq ?_
  refine gk_seq (by kernel_rfl) ?_
  refine gk_region (by kernel_rfl) ?_
  refine gl_pure 1 [0, 6] (K' := [(0, .slice A0_0 a0.length n0_0), (6, .slice A0_0 a0.length n0_0)]) (by kernel_rfl) ?_
  obtain ⟨x1, hx2, hr⟩ := bind_some hr
  obtain ⟨p3, cs4, hR5, hA6, ha7⟩ := RepS.ixAt hx2 hf0_0
  have hi8 := ix_some hx2
  obtain ⟨b9, rfl, hf10⟩ := hR5
  refine gl_indexAddrF (c := n0_0) (T' := 43) (e := 37) (xs := (.tmp 6)) (xi := (.const (.int .i64 0))) (kd := .i64) ha7 hi8.1 hi8.2.1 (by kernel_rfl) (by kernel_rfl) (by kernel_rfl) (by kernel_rfl) (by kernel_rfl) ?_
  refine gl_load (T' := 37) (xp := (.tmp 7)) (p := p3) (c := .float .f64 b9) (n := 1) (by kernel_rfl) (by kernel_rfl) (by kernel_rfl) (by kernel_rfl) hA6 ?_
  refine gl_pure 1 [0, 3] (K' := [(0, .slice A0_0 a0.length n0_0), (3, .float .f64 b9)]) (by kernel_rfl) ?_
  refine gl_atE (by kernel_rfl) ?_
  refine ge_seq ?_
  refine gk_seq (by kernel_rfl) ?_
  refine gk_seq (by kernel_rfl) ?_
  refine gk_region (by kernel_rfl) ?_
  refine gl_pure 1 [3, 9] (K' := [(3, .float .f64 b9), (9, .slice A0_0 a0.length n0_0)]) (by kernel_rfl) ?_
  obtain ⟨l12, hx11, hr⟩ := bind_some hr
  refine gl_sliceR (d := Kd.flt) (T' := 43) (e := 37) (xs := (.tmp 9)) (lo := (some (.const (.int .i64 1)))) (hi := none) hx11 hf0_0 (by kernel_rfl) (by kernel_rfl) (by kernel_rfl) (by kernel_rfl) (by kernel_rfl) (by kernel_rfl) (fun A13 n14 hf15 => ?_)
  refine gl_pure 2 [3, 10, 11, 12] (K' := [(3, .float .f64 b9), (10, .slice A13 l12.length n14), (11, .int .i64 (l12.length : Int)), (12, .int .i64 0)]) (by kernel_rfl) ?_
  refine gl_atE (by kernel_rfl) ?_
  refine ge_seq ?_
  obtain ⟨r22, hl23, hr⟩ := bind_some hr
  refine gk_join (fun t I' L' => ∃ b33, FRep r22 b33 ∧ I ≤ I' ∧ L = L' ∧ Knows 21 [(3, .float .f64 b33)] t) ?_ ?_
  · refine gk_block (by kernel_rfl) ?_
    refine gk_pick [3, 10, 11, 12] (K' := [(3, .float .f64 b9), (10, .slice A13 l12.length n14), (11, .int .i64 (l12.length : Int)), (12, .int .i64 0)]) (by kernel_rfl) ?_
    intro t hK
    refine gc_loop (tocsinref16_sum_l37 l12) (fun s24 t I' L' => ∃ b28, FRep s24.1 b28 ∧ I ≤ I' ∧ L = L' ∧ Knows 21 [(3, .float .f64 b28), (10, .slice A13 l12.length n14), (11, .int .i64 (l12.length : Int)), (12, .int .i64 s24.2)] t) (by kernel_rfl) ?_ hl23 ⟨b9, hf10, (Imm.refl _), rfl, hK⟩
    rintro s24 o25 t I31 L' hb26 ⟨b28, hb29, hI27, rfl, hK30⟩
    unfold tocsinref16_sum_l37 at hb26
    refine gk_at hK30 ?_
    refine gk_seq (by kernel_rfl) ?_
    refine gk_region (by kernel_rfl) ?_
    refine gl_pure 1 [3, 10, 11, 12, 13] (K' := [(3, .float .f64 b28), (10, .slice A13 l12.length n14), (11, .int .i64 (l12.length : Int)), (12, .int .i64 s24.2), (13, .bool (decide (s24.2 < (l12.length : Int))))]) (by kernel_rfl) ?_
    refine gl_atE (by kernel_rfl) ?_
    refine ge_seq ?_
    refine gk_seq (by kernel_rfl) ?_
    refine gk_cond (b := (decide (s24.2 < (l12.length : Int)))) (by kernel_rfl) (by kernel_rfl) (fun hc39 => ?_) (fun hc39 => ?_)
    · have hb26 := cond_t hc39 hb26
      refine gk_skip (by kernel_rfl) ?_
      refine ge_seq ?_
      refine gk_seq (by kernel_rfl) ?_
      refine gk_block (by kernel_rfl) ?_
      refine gk_seq (by kernel_rfl) ?_
      refine gk_region (by kernel_rfl) ?_
      obtain ⟨x40, hx41, hb26⟩ := bind_some hb26
      obtain ⟨p42, cs43, hR44, hA45, ha46⟩ := RepS.ixAt hx41 (hf15.mono hI27)
      have hi47 := ix_some hx41
      obtain ⟨b48, rfl, hf49⟩ := hR44
      refine gl_indexAddrF (c := n14) (T' := 43) (e := 37) (xs := (.tmp 10)) (xi := (.tmp 12)) (kd := .i64) ha46 hi47.1 hi47.2.1 (by kernel_rfl) (by kernel_rfl) (by kernel_rfl) (by kernel_rfl) (by kernel_rfl) ?_
      refine gl_load (T' := 37) (xp := (.tmp 14)) (p := p42) (c := .float .f64 b48) (n := 1) (by kernel_rfl) (by kernel_rfl) (by kernel_rfl) (by kernel_rfl) hA45 ?_
      refine gl_pure 1 [3, 5, 10, 11, 12] (K' := [(3, .float .f64 b28), (5, .float .f64 b48), (10, .slice A13 l12.length n14), (11, .int .i64 (l12.length : Int)), (12, .int .i64 s24.2)]) (by kernel_rfl) ?_
      refine gl_atE (by kernel_rfl) ?_
      refine ge_seq ?_
      refine gk_region (by kernel_rfl) ?_
      refine gl_pure 2 [10, 11, 12, 16, 17] (K' := [(10, .slice A13 l12.length n14), (11, .int .i64 (l12.length : Int)), (12, .int .i64 s24.2), (16, .float .f64 b28), (17, .float .f64 b48)]) (by kernel_rfl) ?_
      refine gl_farith (op := .add) (t := 37) (t' := 37) (xx := (.tmp 16)) (yy := (.tmp 17)) hb29 hf49 (by kernel_rfl) (by kernel_rfl) rfl (by kernel_rfl) (by kernel_rfl) (fun b50 hf51 => ?_)
      refine gl_pure 1 [3, 10, 11, 12] (K' := [(3, .float .f64 b50), (10, .slice A13 l12.length n14), (11, .int .i64 (l12.length : Int)), (12, .int .i64 s24.2)]) (by kernel_rfl) ?_
      refine gl_atE (by kernel_rfl) ?_
      refine ge_block_normal ?_
      refine ge_seq ?_
      refine gk_region (by kernel_rfl) ?_
      refine gl_pure 2 [3, 10, 11, 12] (K' := [(3, .float .f64 b50), (10, .slice A13 l12.length n14), (11, .int .i64 (l12.length : Int)), (12, .int .i64 (IntKind.wrap .i64 (s24.2 + 1)))]) (by kernel_rfl) ?_
      refine gl_atE (by kernel_rfl) ?_
      obtain rfl := some_inj hb26
      exact ge_round fun t ht => ⟨b50, hf51, hI27, rfl, ht.pick (l := [3, 10, 11, 12]) (by kernel_rfl)⟩
    · have hb26 := cond_f hc39 hb26
      refine gk_exit (by kernel_rfl) ?_
      refine ge_seq_exit ?_
      obtain rfl := some_inj hb26
      refine ge_round_out (fun hrr => ?_) (by intro h; cases h)
      obtain rfl := hrr
      refine ge_block_hit (by kernel_rfl) ?_
      exact ge_mid fun t ht => ⟨b28, hb29, hI27, rfl, ht.pick (l := [3]) (by kernel_rfl)⟩
  · rintro t I36 L' ⟨b33, hb34, hI32, rfl, hK35⟩
    refine ge_at hK35 ?_
    refine ge_seq ?_
    refine gk_seq (by kernel_rfl) ?_
    refine gk_region (by kernel_rfl) ?_
    refine gl_pure 2 [2] (K' := [(2, .float .f64 b33)]) (by kernel_rfl) ?_
    refine gl_atE (by kernel_rfl) ?_
    refine ge_seq ?_
    refine gk_ret (by kernel_rfl) ?_
    obtain rfl := some_inj hr
    exact ge_result trivial (ResOk.tmp (by kernel_rfl) ResOk.nil) hI32 ⟨b33, hb34, rfl, rfl⟩
/-! 63 tocsinref16_best  -/
noncomputable def tocsinref16_best_l37 (a1 : Bool) (l12 : List Fl) : (Fl × Int) → Option ((Fl × Int) ⊕ (Fl)) := fun s24 =>
  bif (decide (s24.2 < (l12.length : Int))) then
  (Option.bind (ix l12 s24.2) fun (x40 : Fl) =>
    Option.bind (bif (fcmp .neq s24.1 s24.1) then
      (some true)
      else
      (bif a1 then
        (bif (fcmp .lss x40 s24.1) then
          (some true)
          else
          (bif (!a1) then
            (some (fcmp .gtr x40 s24.1))
            else
            (some false)))
        else
        (bif (!a1) then
          (some (fcmp .gtr x40 s24.1))
          else
          (some false)))) fun (j50 : Bool) =>
    Option.bind (bif j50 then
      (some x40)
      else
      (some s24.1)) fun (j60 : Fl) =>
    some (Sum.inl (j60, (IntKind.wrap .i64 (s24.2 + 1)))))
  else
  (some (Sum.inr s24.1))
noncomputable def tocsinref16_best (a0 : List Fl) (a1 : Bool) : Option Fl :=
  Option.bind (ix a0 0) fun (x1 : Fl) =>
  Option.bind (lx a0 1 (a0.length : Int)) fun (l12 : List Fl) =>
  Option.bind (loopO (tocsinref16_best_l37 a1 l12) (x1, 0)) fun (r22 : Fl) =>
  some r22
theorem tocsinref16_best_walk {a0 : List Fl} {A0_0 : Option Addr} {n0_0 : Nat} {a1 : Bool} {I : Imm} {r : Fl}  (hf0_0 : RepS Kd.flt I A0_0 n0_0 a0) (hr : tocsinref16_best a0 a1 = some r) (L : Own) :
    CallsTo Tryz.prog 63 #[.slice A0_0 a0.length n0_0, .bool a1] I L (fun v I' L' => ∃ b0_0, FRep r b0_0 ∧ v = .float .f64 b0_0 ∧ L = L') := by
  unfold tocsinref16_best at hr
  refine callsTo_body (N := 41) Tryz.func63 (by kernel_rfl) (by kernel_rfl) (by kernel_rfl) ?_
  refine gk_pick [0, 1] (K' := [(0, .slice A0_0 a0.length n0_0), (1, .bool a1)]) (by kernel_rfl) ?_
  refine gk_seq (by kernel_rfl) ?_
  refine gk_region (by kernel_rfl) ?_
  refine gl_pure 1 [0, 1] (K' := [(0, .slice A0_0 a0.length n0_0), (1, .bool a1)]) (by kernel_rfl) ?_
  refine gl_atE (by kernel_rfl) ?_
  refine ge_seq ?_
  refine gk_seq (by kernel_rfl) ?_
  refine gk_region (by kernel_rfl) ?_
  refine gl_pure 1 [0, 1, 8] (K' := [(0, .slice A0_0 a0.length n0_0), (1, .bool a1), (8, .slice A0_0 a0.length n0_0)]) (by kernel_rfl) ?_
  obtain ⟨x1, hx2, hr⟩ := bind_some hr
  obtain ⟨p3, cs4, hR5, hA6, ha7⟩ := RepS.ixAt hx2 hf0_0
  have hi8 := ix_some hx2
  obtain ⟨b9, rfl, hf10⟩ := hR5
  refine gl_indexAddrF (c := n0_0) (T' := 43) (e := 37) (xs := (.tmp 8)) (xi := (.const (.int .i64 0))) (kd := .i64) ha7 hi8.1 hi8.2.1 (by kernel_rfl) (by kernel_rfl) (by kernel_rfl) (by kernel_rfl) (by kernel_rfl) ?_
  refine gl_load (T' := 37) (xp := (.tmp 9)) (p := p3) (c := .float .f64 b9) (n := 1) (by kernel_rfl) (by kernel_rfl) (by kernel_rfl) (by kernel_rfl) hA6 ?_
  refine gl_pure 1 [0, 1, 5] (K' := [(0, .slice A0_0 a0.length n0_0), (1, .bool a1), (5, .float .f64 b9)]) (by kernel_rfl) ?_
  refine gl_atE (by kernel_rfl) ?_
  refine ge_seq ?_
  refine gk_seq (by kernel_rfl) ?_
  refine gk_seq (by kernel_rfl) ?_
  refine gk_region (by kernel_rfl) ?_
  refine gl_pure 1 [1, 5, 11] (K' := [(1, .bool a1), (5, .float .f64 b9), (11, .slice A0_0 a0.length n0_0)]) (by kernel_rfl) ?_
  obtain ⟨l12, hx11, hr⟩ := bind_some hr
  refine gl_sliceR (d := Kd.flt) (T' := 43) (e := 37) (xs := (.tmp 11)) (lo := (some (.const (.int .i64 1)))) (hi := none) hx11 hf0_0 (by kernel_rfl) (by kernel_rfl) (by kernel_rfl) (by kernel_rfl) (by kernel_rfl) (by kernel_rfl) (fun A13 n14 hf15 => ?_)
  refine gl_pure 2 [1, 5, 12, 13, 14] (K' := [(1, .bool a1), (5, .float .f64 b9), (12, .slice A13 l12.length n14), (13, .int .i64 (l12.length : Int)), (14, .int .i64 0)]) (by kernel_rfl) ?_
  refine gl_atE (by kernel_rfl) ?_
  refine ge_seq ?_
  obtain ⟨r22, hl23, hr⟩ := bind_some hr
  refine gk_join (fun t I' L' => ∃ b33, FRep r22 b33 ∧ I ≤ I' ∧ L = L' ∧ Knows 41 [(5, .float .f64 b33)] t) ?_ ?_
  · refine gk_block (by kernel_rfl) ?_
    refine gk_pick [1, 5, 12, 13, 14] (K' := [(1, .bool a1), (5, .float .f64 b9), (12, .slice A13 l12.length n14), (13, .int .i64 (l12.length : Int)), (14, .int .i64 0)]) (by kernel_rfl) ?_
    intro t hK
    refine gc_loop (tocsinref16_best_l37 a1 l12) (fun s24 t I' L' => ∃ b28, FRep s24.1 b28 ∧ I ≤ I' ∧ L = L' ∧ Knows 41 [(1, .bool a1), (5, .float .f64 b28), (12, .slice A13 l12.length n14), (13, .int .i64 (l12.length : Int)), (14, .int .i64 s24.2)] t) (by kernel_rfl) ?_ hl23 ⟨b9, hf10, (Imm.refl _), rfl, hK⟩
    rintro s24 o25 t I31 L' hb26 ⟨b28, hb29, hI27, rfl, hK30⟩
    unfold tocsinref16_best_l37 at hb26
    refine gk_at hK30 ?_
    refine gk_seq (by kernel_rfl) ?_
    refine gk_region (by kernel_rfl) ?_
    refine gl_pure 1 [1, 5, 12, 13, 14, 15] (K' := [(1, .bool a1), (5, .float .f64 b28), (12, .slice A13 l12.length n14), (13, .int .i64 (l12.length : Int)), (14, .int .i64 s24.2), (15, .bool (decide (s24.2 < (l12.length : Int))))]) (by kernel_rfl) ?_
    refine gl_atE (by kernel_rfl) ?_
    refine ge_seq ?_
    refine gk_seq (by kernel_rfl) ?_
    refine gk_cond (b := (decide (s24.2 < (l12.length : Int)))) (by kernel_rfl) (by kernel_rfl) (fun hc39 => ?_) (fun hc39 => ?_)
    · have hb26 := cond_t hc39 hb26
      refine gk_skip (by kernel_rfl) ?_
      refine ge_seq ?_
      refine gk_seq (by kernel_rfl) ?_
      refine gk_block (by kernel_rfl) ?_
      refine gk_seq (by kernel_rfl) ?_
      refine gk_region (by kernel_rfl) ?_
      obtain ⟨x40, hx41, hb26⟩ := bind_some hb26
      obtain ⟨p42, cs43, hR44, hA45, ha46⟩ := RepS.ixAt hx41 (hf15.mono hI27)
      have hi47 := ix_some hx41
      obtain ⟨b48, rfl, hf49⟩ := hR44
      refine gl_indexAddrF (c := n14) (T' := 43) (e := 37) (xs := (.tmp 12)) (xi := (.tmp 14)) (kd := .i64) ha46 hi47.1 hi47.2.1 (by kernel_rfl) (by kernel_rfl) (by kernel_rfl) (by kernel_rfl) (by kernel_rfl) ?_
      refine gl_load (T' := 37) (xp := (.tmp 16)) (p := p42) (c := .float .f64 b48) (n := 1) (by kernel_rfl) (by kernel_rfl) (by kernel_rfl) (by kernel_rfl) hA45 ?_
      refine gl_pure 1 [1, 5, 7, 12, 13, 14] (K' := [(1, .bool a1), (5, .float .f64 b28), (7, .float .f64 b48), (12, .slice A13 l12.length n14), (13, .int .i64 (l12.length : Int)), (14, .int .i64 s24.2)]) (by kernel_rfl) ?_
      refine gl_atE (by kernel_rfl) ?_
      refine ge_seq ?_
      refine gk_seq (by kernel_rfl) ?_
      obtain ⟨j50, hj51, hb26⟩ := bind_some hb26
      refine gk_join (fun t I' L' => I31 ≤ I' ∧ L = L' ∧ Knows 41 [(1, .bool a1), (5, .float .f64 b28), (7, .float .f64 b48), (12, .slice A13 l12.length n14), (13, .int .i64 (l12.length : Int)), (14, .int .i64 s24.2), (37, .bool j50)] t) ?_ ?_
      · refine gk_region (by kernel_rfl) ?_
        refine gl_pure 2 [1, 5, 7, 12, 13, 14, 18, 19] (K' := [(1, .bool a1), (5, .float .f64 b28), (7, .float .f64 b48), (12, .slice A13 l12.length n14), (13, .int .i64 (l12.length : Int)), (14, .int .i64 s24.2), (18, .float .f64 b28), (19, .float .f64 b28)]) (by kernel_rfl) ?_
        refine gl_fcmp (op := .neq) (t := 37) (t' := 37) (xx := (.tmp 18)) (yy := (.tmp 19)) hb29 hb29 (by kernel_rfl) (by kernel_rfl) rfl (by kernel_rfl) (by kernel_rfl) ?_
        refine gl_pure 1 [1, 5, 7, 12, 13, 14, 21] (K' := [(1, .bool a1), (5, .float .f64 b28), (7, .float .f64 b48), (12, .slice A13 l12.length n14), (13, .int .i64 (l12.length : Int)), (14, .int .i64 s24.2), (21, .bool (fcmp .neq s24.1 s24.1))]) (by kernel_rfl) ?_
        refine gl_case 21 (b := (fcmp .neq s24.1 s24.1)) (by kernel_rfl) (fun hc55 => ?_) (fun hc55 => ?_)
        · have hj51 := cond_t hc55 hj51
          refine gl_pure 16 [1, 5, 7, 12, 13, 14, 37] (K' := [(1, .bool a1), (5, .float .f64 b28), (7, .float .f64 b48), (12, .slice A13 l12.length n14), (13, .int .i64 (l12.length : Int)), (14, .int .i64 s24.2), (37, .bool true)]) (by kernel_rfl) ?_
          refine gl_atE (by kernel_rfl) ?_
          obtain rfl := some_inj hj51
          exact ge_mid fun t ht => ⟨(Imm.refl _), rfl, ht.pick (l := [1, 5, 7, 12, 13, 14, 37]) (by kernel_rfl)⟩
        · have hj51 := cond_f hc55 hj51
          refine gl_pure 2 [1, 5, 7, 12, 13, 14, 21, 23] (K' := [(1, .bool a1), (5, .float .f64 b28), (7, .float .f64 b48), (12, .slice A13 l12.length n14), (13, .int .i64 (l12.length : Int)), (14, .int .i64 s24.2), (21, .bool false), (23, .bool a1)]) (by kernel_rfl) ?_
          refine gl_case 23 (b := a1) (by kernel_rfl) (fun hc56 => ?_) (fun hc56 => ?_)
          · have hj51 := cond_t hc56 hj51
            refine gl_pure 2 [1, 5, 7, 12, 13, 14, 21, 23, 24, 25] (K' := [(1, .bool a1), (5, .float .f64 b28), (7, .float .f64 b48), (12, .slice A13 l12.length n14), (13, .int .i64 (l12.length : Int)), (14, .int .i64 s24.2), (21, .bool false), (23, .bool true), (24, .float .f64 b48), (25, .float .f64 b28)]) (by kernel_rfl) ?_
            refine gl_fcmp (op := .lss) (t := 37) (t' := 37) (xx := (.tmp 24)) (yy := (.tmp 25)) hf49 hb29 (by kernel_rfl) (by kernel_rfl) rfl (by kernel_rfl) (by kernel_rfl) ?_
            refine gl_pure 3 [1, 5, 7, 12, 13, 14, 29] (K' := [(1, .bool a1), (5, .float .f64 b28), (7, .float .f64 b48), (12, .slice A13 l12.length n14), (13, .int .i64 (l12.length : Int)), (14, .int .i64 s24.2), (29, .bool (fcmp .lss x40 s24.1))]) (by kernel_rfl) ?_
            refine gl_case 29 (b := (fcmp .lss x40 s24.1)) (by kernel_rfl) (fun hc57 => ?_) (fun hc57 => ?_)
            · have hj51 := cond_t hc57 hj51
              refine gl_pure 8 [1, 5, 7, 12, 13, 14, 37] (K' := [(1, .bool a1), (5, .float .f64 b28), (7, .float .f64 b48), (12, .slice A13 l12.length n14), (13, .int .i64 (l12.length : Int)), (14, .int .i64 s24.2), (37, .bool true)]) (by kernel_rfl) ?_
              refine gl_atE (by kernel_rfl) ?_
              obtain rfl := some_inj hj51
              exact ge_mid fun t ht => ⟨(Imm.refl _), rfl, ht.pick (l := [1, 5, 7, 12, 13, 14, 37]) (by kernel_rfl)⟩
            · have hj51 := cond_f hc57 hj51
              refine gl_pure 3 [1, 5, 7, 12, 13, 14, 29, 32] (K' := [(1, .bool a1), (5, .float .f64 b28), (7, .float .f64 b48), (12, .slice A13 l12.length n14), (13, .int .i64 (l12.length : Int)), (14, .int .i64 s24.2), (29, .bool false), (32, .bool (!a1))]) (by kernel_rfl) ?_
              refine gl_case 32 (b := (!a1)) (by kernel_rfl) (fun hc58 => ?_) (fun hc58 => ?_)
              · have hj51 := cond_t hc58 hj51
                refine gl_pure 2 [1, 5, 7, 12, 13, 14, 29, 32, 33, 34] (K' := [(1, .bool a1), (5, .float .f64 b28), (7, .float .f64 b48), (12, .slice A13 l12.length n14), (13, .int .i64 (l12.length : Int)), (14, .int .i64 s24.2), (29, .bool false), (32, .bool true), (33, .float .f64 b48), (34, .float .f64 b28)]) (by kernel_rfl) ?_
                refine gl_fcmp (op := .gtr) (t := 37) (t' := 37) (xx := (.tmp 33)) (yy := (.tmp 34)) hf49 hb29 (by kernel_rfl) (by kernel_rfl) rfl (by kernel_rfl) (by kernel_rfl) ?_
                refine gl_pure 2 [1, 5, 7, 12, 13, 14, 37] (K' := [(1, .bool a1), (5, .float .f64 b28), (7, .float .f64 b48), (12, .slice A13 l12.length n14), (13, .int .i64 (l12.length : Int)), (14, .int .i64 s24.2), (37, .bool (fcmp .gtr x40 s24.1))]) (by kernel_rfl) ?_
                refine gl_atE (by kernel_rfl) ?_
                obtain rfl := some_inj hj51
                exact ge_mid fun t ht => ⟨(Imm.refl _), rfl, ht.pick (l := [1, 5, 7, 12, 13, 14, 37]) (by kernel_rfl)⟩
              · have hj51 := cond_f hc58 hj51
                refine gl_pure 5 [1, 5, 7, 12, 13, 14, 37] (K' := [(1, .bool a1), (5, .float .f64 b28), (7, .float .f64 b48), (12, .slice A13 l12.length n14), (13, .int .i64 (l12.length : Int)), (14, .int .i64 s24.2), (37, .bool false)]) (by kernel_rfl) ?_
                refine gl_atE (by kernel_rfl) ?_
                obtain rfl := some_inj hj51
                exact ge_mid fun t ht => ⟨(Imm.refl _), rfl, ht.pick (l := [1, 5, 7, 12, 13, 14, 37]) (by kernel_rfl)⟩
          · have hj51 := cond_f hc56 hj51
            refine gl_pure 9 [1, 5, 7, 12, 13, 14, 29, 32] (K' := [(1, .bool a1), (5, .float .f64 b28), (7, .float .f64 b48), (12, .slice A13 l12.length n14), (13, .int .i64 (l12.length : Int)), (14, .int .i64 s24.2), (29, .bool false), (32, .bool (!a1))]) (by kernel_rfl) ?_
            refine gl_case 32 (b := (!a1)) (by kernel_rfl) (fun hc59 => ?_) (fun hc59 => ?_)
            · have hj51 := cond_t hc59 hj51
              refine gl_pure 2 [1, 5, 7, 12, 13, 14, 29, 32, 33, 34] (K' := [(1, .bool a1), (5, .float .f64 b28), (7, .float .f64 b48), (12, .slice A13 l12.length n14), (13, .int .i64 (l12.length : Int)), (14, .int .i64 s24.2), (29, .bool false), (32, .bool true), (33, .float .f64 b48), (34, .float .f64 b28)]) (by kernel_rfl) ?_
              refine gl_fcmp (op := .gtr) (t := 37) (t' := 37) (xx := (.tmp 33)) (yy := (.tmp 34)) hf49 hb29 (by kernel_rfl) (by kernel_rfl) rfl (by kernel_rfl) (by kernel_rfl) ?_
              refine gl_pure 2 [1, 5, 7, 12, 13, 14, 37] (K' := [(1, .bool a1), (5, .float .f64 b28), (7, .float .f64 b48), (12, .slice A13 l12.length n14), (13, .int .i64 (l12.length : Int)), (14, .int .i64 s24.2), (37, .bool (fcmp .gtr x40 s24.1))]) (by kernel_rfl) ?_
              refine gl_atE (by kernel_rfl) ?_
              obtain rfl := some_inj hj51
              exact ge_mid fun t ht => ⟨(Imm.refl _), rfl, ht.pick (l := [1, 5, 7, 12, 13, 14, 37]) (by kernel_rfl)⟩
            · have hj51 := cond_f hc59 hj51
              refine gl_pure 5 [1, 5, 7, 12, 13, 14, 37] (K' := [(1, .bool a1), (5, .float .f64 b28), (7, .float .f64 b48), (12, .slice A13 l12.length n14), (13, .int .i64 (l12.length : Int)), (14, .int .i64 s24.2), (37, .bool false)]) (by kernel_rfl) ?_
              refine gl_atE (by kernel_rfl) ?_
              obtain rfl := some_inj hj51
              exact ge_mid fun t ht => ⟨(Imm.refl _), rfl, ht.pick (l := [1, 5, 7, 12, 13, 14, 37]) (by kernel_rfl)⟩
      · rintro t I54 L' ⟨hI52, rfl, hK53⟩
        refine ge_at hK53 ?_
        refine ge_seq ?_
        obtain ⟨j60, hj61, hb26⟩ := bind_some hb26
        refine gk_join (fun t I' L' => ∃ b63, FRep j60 b63 ∧ I54 ≤ I' ∧ L = L' ∧ Knows 41 [(1, .bool a1), (5, .float .f64 b63), (12, .slice A13 l12.length n14), (13, .int .i64 (l12.length : Int)), (14, .int .i64 s24.2)] t) ?_ ?_
        · refine gk_cond (b := j50) (by kernel_rfl) (by kernel_rfl) (fun hc67 => ?_) (fun hc67 => ?_)
          · have hj61 := cond_t hc67 hj61
            refine gk_region (by kernel_rfl) ?_
            refine gl_pure 2 [1, 5, 12, 13, 14] (K' := [(1, .bool a1), (5, .float .f64 b48), (12, .slice A13 l12.length n14), (13, .int .i64 (l12.length : Int)), (14, .int .i64 s24.2)]) (by kernel_rfl) ?_
            refine gl_atE (by kernel_rfl) ?_
            obtain rfl := some_inj hj61
            exact ge_mid fun t ht => ⟨b48, hf49, (Imm.refl _), rfl, ht.pick (l := [1, 5, 12, 13, 14]) (by kernel_rfl)⟩
          · have hj61 := cond_f hc67 hj61
            refine gk_skip (by kernel_rfl) ?_
            obtain rfl := some_inj hj61
            exact ge_mid fun t ht => ⟨b28, hb29, (Imm.refl _), rfl, ht.pick (l := [1, 5, 12, 13, 14]) (by kernel_rfl)⟩
        · rintro t I66 L' ⟨b63, hb64, hI62, rfl, hK65⟩
          refine ge_at hK65 ?_
          refine ge_block_normal ?_
          refine ge_seq ?_
          refine gk_region (by kernel_rfl) ?_
          refine gl_pure 2 [1, 5, 12, 13, 14] (K' := [(1, .bool a1), (5, .float .f64 b63), (12, .slice A13 l12.length n14), (13, .int .i64 (l12.length : Int)), (14, .int .i64 (IntKind.wrap .i64 (s24.2 + 1)))]) (by kernel_rfl) ?_
          refine gl_atE (by kernel_rfl) ?_
          obtain rfl := some_inj hb26
          exact ge_round fun t ht => ⟨b63, hb64, (Imm.trans (Imm.trans hI27 hI52) hI62), rfl, ht.pick (l := [1, 5, 12, 13, 14]) (by kernel_rfl)⟩
    · have hb26 := cond_f hc39 hb26
      refine gk_exit (by kernel_rfl) ?_
      refine ge_seq_exit ?_
      obtain rfl := some_inj hb26
      refine ge_round_out (fun hrr => ?_) (by intro h; cases h)
      obtain rfl := hrr
      refine ge_block_hit (by kernel_rfl) ?_
      exact ge_mid fun t ht => ⟨b28, hb29, hI27, rfl, ht.pick (l := [5]) (by kernel_rfl)⟩
  · rintro t I36 L' ⟨b33, hb34, hI32, rfl, hK35⟩
    refine ge_at hK35 ?_
    refine ge_seq ?_
    refine gk_seq (by kernel_rfl) ?_
    refine gk_region (by kernel_rfl) ?_
    refine gl_pure 2 [4] (K' := [(4, .float .f64 b33)]) (by kernel_rfl) ?_
    refine gl_atE (by kernel_rfl) ?_
    refine ge_seq ?_
    refine gk_ret (by kernel_rfl) ?_
    obtain rfl := some_inj hr
    exact ge_result trivial (ResOk.tmp (by kernel_rfl) ResOk.nil) hI32 ⟨b33, hb34, rfl, rfl⟩
/-! 64 tocsinref16_spread  -/
noncomputable def tocsinref16_spread_l37 (a0 : List Fl) (y1 : Fl) : ((List Fl) × Int) → Option (((List Fl) × Int) ⊕ ((List Fl))) := fun s20 =>
  bif (decide (s20.2 < (a0.length : Int))) then
  (Option.bind (ix a0 s20.2) fun (x40 : Fl) =>
    Option.bind (app s20.1 [(farith .mul (farith .sub x40 (farith .quo y1 (some (FloatKind.nearest .f64 (a0.length : Int)) : Fl))) (farith .sub x40 (farith .quo y1 (some (FloatKind.nearest .f64 (a0.length : Int)) : Fl))))]) fun (zs58 : List Fl) =>
    some (Sum.inl (zs58, (IntKind.wrap .i64 (s20.2 + 1)))))
  else
  (some (Sum.inr s20.1))
noncomputable def tocsinref16_spread (a0 : List Fl) : Option Fl :=
  Option.bind (tocsinref16_sum a0) fun (y1 : Fl) =>
  Option.bind (loopO (tocsinref16_spread_l37 a0 y1) ([], 0)) fun (r18 : (List Fl)) =>
  Option.bind (tocsinref16_sum r18) fun (y68 : Fl) =>
  some (farith .quo y68 (some (FloatKind.nearest .f64 (a0.length : Int)) : Fl))
theorem tocsinref16_spread_walk {a0 : List Fl} {A0_0 : Option Addr} {n0_0 : Nat} {I : Imm} {r : Fl}  (hf0_0 : RepS Kd.flt I A0_0 n0_0 a0) (hr : tocsinref16_spread a0 = some r) (L : Own) :
    CallsTo Tryz.prog 64 #[.slice A0_0 a0.length n0_0] I L (fun v I' L' => ∃ b0_0, FRep r b0_0 ∧ v = .float .f64 b0_0 ∧ L = L') := by
  unfold tocsinref16_spread at hr
  refine callsTo_body (N := 36) Tryz.func64 (by kernel_rfl) (by kernel_rfl) (by kernel_rfl) ?_
  refine gk_pick [0] (K' := [(0, .slice A0_0 a0.length n0_0)]) (by kernel_rfl) ?_
  refine gk_seq (by kernel_rfl) ?_
  refine gk_region (by kernel_rfl) ?_
  refine gl_pure 1 [0] (K' := [(0, .slice A0_0 a0.length n0_0)]) (by kernel_rfl) ?_
  refine gl_atE (by kernel_rfl) ?_
  refine ge_seq ?_
  refine gk_seq (by kernel_rfl) ?_
  refine gk_region (by kernel_rfl) ?_
  refine gl_pure 4 [0, 3] (K' := [(0, .slice A0_0 a0.length n0_0), (3, .float .f64 (FloatKind.nearest .f64 (a0.length : Int)))]) (by kernel_rfl) ?_
  refine gl_atE (by kernel_rfl) ?_
  refine ge_seq ?_
  refine gk_seq (by kernel_rfl) ?_
  refine gk_region (by kernel_rfl) ?_
  refine gl_pure 1 [0, 3, 12] (K' := [(0, .slice A0_0 a0.length n0_0), (3, .float .f64 (FloatKind.nearest .f64 (a0.length : Int))), (12, .slice A0_0 a0.length n0_0)]) (by kernel_rfl) ?_
  obtain ⟨y1, hx2, hr⟩ := bind_some hr
  refine gl_call (by kernel_rfl) (tocsinref16_sum_walk (r := y1) hf0_0 hx2 _) ?_
  rintro v I3 L4 hI5 ⟨z6, hO7, rfl, rfl⟩
  refine gl_pure 1 [0, 3, 13, 14] (K' := [(0, .slice A0_0 a0.length n0_0), (3, .float .f64 (FloatKind.nearest .f64 (a0.length : Int))), (13, .float .f64 z6), (14, .float .f64 (FloatKind.nearest .f64 (a0.length : Int)))]) (by kernel_rfl) ?_
  refine gl_farith (op := .quo) (t := 37) (t' := 37) (xx := (.tmp 13)) (yy := (.tmp 14)) hO7 (FRep.of (FloatKind.nearest .f64 (a0.length : Int))) (by kernel_rfl) (by kernel_rfl) rfl (by kernel_rfl) (by kernel_rfl) (fun b8 hf9 => ?_)
  refine gl_pure 1 [0, 3, 4] (K' := [(0, .slice A0_0 a0.length n0_0), (3, .float .f64 (FloatKind.nearest .f64 (a0.length : Int))), (4, .float .f64 b8)]) (by kernel_rfl) ?_
  refine gl_atE (by kernel_rfl) ?_
  refine ge_seq ?_
  refine gk_seq (by kernel_rfl) ?_
  refine gk_region (by kernel_rfl) ?_
  refine gl_pure 1 [0, 3, 4, 5] (K' := [(0, .slice A0_0 a0.length n0_0), (3, .float .f64 (FloatKind.nearest .f64 (a0.length : Int))), (4, .float .f64 b8), (5, .slice none 0 0)]) (by kernel_rfl) ?_
  refine gl_atE (by kernel_rfl) ?_
  refine ge_seq ?_
  refine gk_seq (by kernel_rfl) ?_
  refine gk_seq (by kernel_rfl) ?_
  refine gk_region (by kernel_rfl) ?_
  refine gl_pure 3 [3, 4, 5, 16, 17, 18] (K' := [(3, .float .f64 (FloatKind.nearest .f64 (a0.length : Int))), (4, .float .f64 b8), (5, .slice none 0 0), (16, .slice A0_0 a0.length n0_0), (17, .int .i64 (a0.length : Int)), (18, .int .i64 0)]) (by kernel_rfl) ?_
  refine gl_atE (by kernel_rfl) ?_
  refine ge_seq ?_
  obtain ⟨r18, hl19, hr⟩ := bind_some hr
  refine gk_join (fun t I' L' => ∃ A31 n32 C33, OwnS Kd.flt 37 I' A31 n32 r18 C33 ∧ I3 ≤ I' ∧ C33 ++ L = L' ∧ Knows 36 [(3, .float .f64 (FloatKind.nearest .f64 (a0.length : Int))), (5, .slice A31 r18.length n32)] t) ?_ ?_
  · refine gk_block (by kernel_rfl) ?_
    refine gk_pick [3, 4, 5, 16, 17, 18] (K' := [(3, .float .f64 (FloatKind.nearest .f64 (a0.length : Int))), (4, .float .f64 b8), (5, .slice none 0 0), (16, .slice A0_0 a0.length n0_0), (17, .int .i64 (a0.length : Int)), (18, .int .i64 0)]) (by kernel_rfl) ?_
    intro t hK
    refine gc_loop (tocsinref16_spread_l37 a0 y1) (fun s20 t I' L' => ∃ A24 n25 C26, OwnS Kd.flt 37 I' A24 n25 s20.1 C26 ∧ I3 ≤ I' ∧ C26 ++ L = L' ∧ Knows 36 [(3, .float .f64 (FloatKind.nearest .f64 (a0.length : Int))), (4, .float .f64 b8), (5, .slice A24 s20.1.length n25), (16, .slice A0_0 a0.length n0_0), (17, .int .i64 (a0.length : Int)), (18, .int .i64 s20.2)] t) (by kernel_rfl) ?_ hl19 ⟨none, 0, [], OwnS.nil _ _ _ _, (Imm.refl _), rfl, hK⟩
    rintro s20 o21 t I29 L' hb22 ⟨A24, n25, C26, hO27, hI23, rfl, hK28⟩
    unfold tocsinref16_spread_l37 at hb22
    refine gk_at hK28 ?_
    refine gk_seq (by kernel_rfl) ?_
    refine gk_region (by kernel_rfl) ?_
    refine gl_pure 1 [3, 4, 5, 16, 17, 18, 19] (K' := [(3, .float .f64 (FloatKind.nearest .f64 (a0.length : Int))), (4, .float .f64 b8), (5, .slice A24 s20.1.length n25), (16, .slice A0_0 a0.length n0_0), (17, .int .i64 (a0.length : Int)), (18, .int .i64 s20.2), (19, .bool (decide (s20.2 < (a0.length : Int))))]) (by kernel_rfl) ?_
    refine gl_atE (by kernel_rfl) ?_
    refine ge_seq ?_
    refine gk_seq (by kernel_rfl) ?_
    refine gk_cond (b := (decide (s20.2 < (a0.length : Int)))) (by kernel_rfl) (by kernel_rfl) (fun hc39 => ?_) (fun hc39 => ?_)
    · have hb22 := cond_t hc39 hb22
      refine gk_skip (by kernel_rfl) ?_
      refine ge_seq ?_
      refine gk_seq (by kernel_rfl) ?_
      refine gk_block (by kernel_rfl) ?_
      refine gk_seq (by kernel_rfl) ?_
      refine gk_region (by kernel_rfl) ?_
      obtain ⟨x40, hx41, hb22⟩ := bind_some hb22
      obtain ⟨p42, cs43, hR44, hA45, ha46⟩ := RepS.ixAt hx41 (hf0_0.mono (Imm.trans hI5 hI23))
      have hi47 := ix_some hx41
      obtain ⟨b48, rfl, hf49⟩ := hR44
      refine gl_indexAddrF (c := n0_0) (T' := 43) (e := 37) (xs := (.tmp 16)) (xi := (.tmp 18)) (kd := .i64) ha46 hi47.1 hi47.2.1 (by kernel_rfl) (by kernel_rfl) (by kernel_rfl) (by kernel_rfl) (by kernel_rfl) ?_
      refine gl_load (T' := 37) (xp := (.tmp 20)) (p := p42) (c := .float .f64 b48) (n := 1) (by kernel_rfl) (by kernel_rfl) (by kernel_rfl) (by kernel_rfl) hA45 ?_
      refine gl_pure 1 [3, 4, 5, 7, 16, 17, 18] (K' := [(3, .float .f64 (FloatKind.nearest .f64 (a0.length : Int))), (4, .float .f64 b8), (5, .slice A24 s20.1.length n25), (7, .float .f64 b48), (16, .slice A0_0 a0.length n0_0), (17, .int .i64 (a0.length : Int)), (18, .int .i64 s20.2)]) (by kernel_rfl) ?_
      refine gl_atE (by kernel_rfl) ?_
      refine ge_seq ?_
      refine gk_seq (by kernel_rfl) ?_
      refine gk_region (by kernel_rfl) ?_
      refine gl_pure 2 [3, 4, 5, 16, 17, 18, 22, 23] (K' := [(3, .float .f64 (FloatKind.nearest .f64 (a0.length : Int))), (4, .float .f64 b8), (5, .slice A24 s20.1.length n25), (16, .slice A0_0 a0.length n0_0), (17, .int .i64 (a0.length : Int)), (18, .int .i64 s20.2), (22, .float .f64 b48), (23, .float .f64 b8)]) (by kernel_rfl) ?_
      refine gl_farith (op := .sub) (t := 37) (t' := 37) (xx := (.tmp 22)) (yy := (.tmp 23)) hf49 hf9 (by kernel_rfl) (by kernel_rfl) rfl (by kernel_rfl) (by kernel_rfl) (fun b50 hf51 => ?_)
      refine gl_pure 1 [3, 4, 5, 8, 16, 17, 18] (K' := [(3, .float .f64 (FloatKind.nearest .f64 (a0.length : Int))), (4, .float .f64 b8), (5, .slice A24 s20.1.length n25), (8, .float .f64 b50), (16, .slice A0_0 a0.length n0_0), (17, .int .i64 (a0.length : Int)), (18, .int .i64 s20.2)]) (by kernel_rfl) ?_
      refine gl_atE (by kernel_rfl) ?_
      refine ge_seq ?_
      refine gk_region (by kernel_rfl) ?_
      refine gl_pure 3 [3, 4, 16, 17, 18, 25, 26, 27] (K' := [(3, .float .f64 (FloatKind.nearest .f64 (a0.length : Int))), (4, .float .f64 b8), (16, .slice A0_0 a0.length n0_0), (17, .int .i64 (a0.length : Int)), (18, .int .i64 s20.2), (25, .slice A24 s20.1.length n25), (26, .float .f64 b50), (27, .float .f64 b50)]) (by kernel_rfl) ?_
      refine gl_farith (op := .mul) (t := 37) (t' := 37) (xx := (.tmp 26)) (yy := (.tmp 27)) hf51 hf51 (by kernel_rfl) (by kernel_rfl) rfl (by kernel_rfl) (by kernel_rfl) (fun b52 hf53 => ?_)
      refine gl_buildSlice (T' := 43) (e := 37) (n := 1) (len := 1) (parts := #[(0, (.tmp 28))]) (l := [(0, .float .f64 b52)]) (cs := #[.float .f64 b52]) (by kernel_rfl) (by kernel_rfl) (by kernel_rfl) (by kernel_rfl) (by kernel_rfl) (fun g54 => ?_)
      have hO55 : OwnS Kd.flt 37 I29 (some ⟨g54, 0, none⟩) 1 [(farith .mul (farith .sub x40 (farith .quo y1 (some (FloatKind.nearest .f64 (a0.length : Int)) : Fl))) (farith .sub x40 (farith .quo y1 (some (FloatKind.nearest .f64 (a0.length : Int)) : Fl))))] [(g54, .cells #[.float .f64 b52] 37)] := OwnS.lit (row_cons (l := [.float .f64 b52]) ⟨_, rfl, hf53⟩ (row_nil _ _)) rfl rfl rfl
      refine gl_reord (D := [(g54, .cells #[.float .f64 b52] 37)] ++ (C26 ++ L)) (Reord.refl _) ?_
      obtain ⟨zs58, hz59, hb22⟩ := bind_some hb22
      refine gl_append (xv := .slice (some ⟨g54, 0, none⟩) [(farith .mul (farith .sub x40 (farith .quo y1 (some (FloatKind.nearest .f64 (a0.length : Int)) : Fl))) (farith .sub x40 (farith .quo y1 (some (FloatKind.nearest .f64 (a0.length : Int)) : Fl))))].length 1) (d := Kd.flt) (t := 43) (tx := 43) (e := 37) (s := (.tmp 25)) (x := (.tmp 29)) (xs := s20.1) (fun X => [(g54, .cells #[.float .f64 b52] 37)] ++ (X ++ L)) hz59 (by kernel_rfl) (by kernel_rfl) (by kernel_rfl) (by kernel_rfl) (by kernel_rfl) (by kernel_rfl) (fun X => (Upd.app _ (Upd.head _ X _))) hO27 (SrcOk.slice (c := 1) (e := 37) (n := 1) (OwnS.rd hO55 (Upd.selfC _ _)) (by kernel_rfl)) (fun A60 n61 C62 hO63 => ?_)
      refine gl_pure 1 [3, 4, 5, 16, 17, 18] (K' := [(3, .float .f64 (FloatKind.nearest .f64 (a0.length : Int))), (4, .float .f64 b8), (5, .slice A60 zs58.length n61), (16, .slice A0_0 a0.length n0_0), (17, .int .i64 (a0.length : Int)), (18, .int .i64 s20.2)]) (by kernel_rfl) ?_
      refine gl_atE (by kernel_rfl) ?_
      refine ge_block_normal ?_
      refine ge_seq ?_
      refine gk_region (by kernel_rfl) ?_
      refine gl_pure 2 [3, 4, 5, 16, 17, 18] (K' := [(3, .float .f64 (FloatKind.nearest .f64 (a0.length : Int))), (4, .float .f64 b8), (5, .slice A60 zs58.length n61), (16, .slice A0_0 a0.length n0_0), (17, .int .i64 (a0.length : Int)), (18, .int .i64 (IntKind.wrap .i64 (s20.2 + 1)))]) (by kernel_rfl) ?_
      refine gl_reord (D := C62 ++ L) (Reord.step (Upd.app _ (Upd.rmC _ _)) (Reord.skipC (Reord.refl _))) ?_
      refine gl_atE (by kernel_rfl) ?_
      obtain rfl := some_inj hb22
      exact ge_round fun t ht => ⟨A60, n61, C62, hO63, hI23, rfl, ht.pick (l := [3, 4, 5, 16, 17, 18]) (by kernel_rfl)⟩
    · have hb22 := cond_f hc39 hb22
      refine gk_exit (by kernel_rfl) ?_
      refine ge_seq_exit ?_
      obtain rfl := some_inj hb22
      refine ge_round_out (fun hrr => ?_) (by intro h; cases h)
      obtain rfl := hrr
      refine ge_block_hit (by kernel_rfl) ?_
      exact ge_mid fun t ht => ⟨A24, n25, C26, hO27, hI23, rfl, ht.pick (l := [3, 5]) (by kernel_rfl)⟩
  · rintro t I36 L' ⟨A31, n32, C33, hO34, hI30, rfl, hK35⟩
    refine ge_at hK35 ?_
    refine ge_seq ?_
    refine gk_seq (by kernel_rfl) ?_
    refine gk_region (by kernel_rfl) ?_
    refine gl_pure 1 [3, 32] (K' := [(3, .float .f64 (FloatKind.nearest .f64 (a0.length : Int))), (32, .slice A31 r18.length n32)]) (by kernel_rfl) ?_
    refine gl_rest (Tk.step (Upd.rmC _ _) (Tk.nil _)) (fun J64 hJ65 hC66 => ?_)
    have hf67 := (OwnS.rest hO34 hJ65 hC66.left)
    obtain ⟨y68, hx69, hr⟩ := bind_some hr
    refine gl_call (by kernel_rfl) (tocsinref16_sum_walk (r := y68) hf67 hx69 _) ?_
    rintro v I70 L71 hI72 ⟨z73, hO74, rfl, rfl⟩
    refine gl_pure 1 [33, 34] (K' := [(33, .float .f64 z73), (34, .float .f64 (FloatKind.nearest .f64 (a0.length : Int)))]) (by kernel_rfl) ?_
    refine gl_farith (op := .quo) (t := 37) (t' := 37) (xx := (.tmp 33)) (yy := (.tmp 34)) hO74 (FRep.of (FloatKind.nearest .f64 (a0.length : Int))) (by kernel_rfl) (by kernel_rfl) rfl (by kernel_rfl) (by kernel_rfl) (fun b75 hf76 => ?_)
    refine gl_pure 1 [2] (K' := [(2, .float .f64 b75)]) (by kernel_rfl) ?_
    refine gl_atE (by kernel_rfl) ?_
    refine ge_seq ?_
    refine gk_ret (by kernel_rfl) ?_
    obtain rfl := some_inj hr
    exact ge_result trivial (ResOk.tmp (by kernel_rfl) ResOk.nil) (Imm.trans (Imm.trans (Imm.trans hI5 hI30) hJ65) hI72) ⟨b75, hf76, rfl, rfl⟩
/-! 156 math_Signbit  -/
noncomputable def math_Signbit (a0 : Fl) : Option Bool :=
  Option.bind (fbits a0) fun (q1 : Int) =>
  some (decide ((IntKind.wrap .i64 q1) < 0))
theorem math_Signbit_walk {a0 : Fl} {b0_0 : Nat} {I : Imm} {r : Bool}  (hf0_0 : FRep a0 b0_0) (hr : math_Signbit a0 = some r) (L : Own) :
    CallsTo Tryz.prog 156 #[.float .f64 b0_0] I L (fun v I' L' => v = .bool r ∧ L = L') := by
  unfold math_Signbit at hr
  refine callsTo_body (N := 7) Tryz.func156 (by kernel_rfl) (by kernel_rfl) (by kernel_rfl) ?_
  refine gk_pick [0] (K' := [(0, .float .f64 b0_0)]) (by kernel_rfl) ?_
  refine gk_seq (by kernel_rfl) ?_
  refine gk_region (by kernel_rfl) ?_
  refine gl_pure 1 [0] (K' := [(0, .float .f64 b0_0)]) (by kernel_rfl) ?_
  refine gl_atE (by kernel_rfl) ?_
  refine ge_seq ?_
  refine gk_seq (by kernel_rfl) ?_
  refine gk_region (by kernel_rfl) ?_
  refine gl_pure 1 [3] (K' := [(3, .float .f64 b0_0)]) (by kernel_rfl) ?_
  obtain ⟨q1, hx2, hr⟩ := bind_some hr
  refine gl_f64bits hx2 hf0_0 Tryz.func46 (by kernel_rfl) (by kernel_rfl) (by kernel_rfl) (by kernel_rfl) (by kernel_rfl) (by kernel_rfl) ?_
  refine gl_pure 3 [2] (K' := [(2, .bool (decide ((IntKind.wrap .i64 q1) < 0)))]) (by kernel_rfl) ?_
  refine gl_atE (by kernel_rfl) ?_
  refine ge_seq ?_
  refine gk_ret (by kernel_rfl) ?_
  obtain rfl := some_inj hr
  exact ge_result trivial (ResOk.tmp (by kernel_rfl) ResOk.nil) (Imm.refl _) ⟨rfl, rfl⟩
/-! 115 tocsinref15_ahead  -/
noncomputable def tocsinref15_ahead (a0 : Fl) (a1 : Fl) : Option Bool :=
  Option.bind (bif (fcmp .neq a0 a0) then
    (some true)
    else
    (some (fcmp .neq a1 a1))) fun (j1 : Bool) =>
  bif j1 then
  (Option.bind (bif (fcmp .neq a0 a0) then
      (some (fcmp .eql a1 a1))
      else
      (some false)) fun (j8 : Bool) =>
    some j8)
  else
  (bif (fcmp .eql a0 a1) then
    (Option.bind (Option.bind (math_Signbit a0) fun (y20 : Bool) =>
        bif y20 then
        (Option.bind (math_Signbit a1) fun (y23 : Bool) =>
          some (!y23))
        else
        (some false)) fun (j15 : Bool) =>
      some j15)
    else
    (some (fcmp .lss a0 a1)))
theorem tocsinref15_ahead_walk {a0 : Fl} {b0_0 : Nat} {a1 : Fl} {b1_0 : Nat} {I : Imm} {r : Bool}  (hf0_0 : FRep a0 b0_0)  (hf1_0 : FRep a1 b1_0) (hr : tocsinref15_ahead a0 a1 = some r) (L : Own) :
    CallsTo Tryz.prog 115 #[.float .f64 b0_0, .float .f64 b1_0] I L (fun v I' L' => v = .bool r ∧ L = L') := by
  unfold tocsinref15_ahead at hr
  refine callsTo_body (N := 34) Tryz.func115 (by kernel_rfl) (by kernel_rfl) (by kernel_rfl) ?_
  refine gk_pick [0, 1] (K' := [(0, .float .f64 b0_0), (1, .float .f64 b1_0)]) (by kernel_rfl) ?_
  refine gk_seq (by kernel_rfl) ?_
  refine gk_region (by kernel_rfl) ?_
  refine gl_pure 1 [0, 1] (K' := [(0, .float .f64 b0_0), (1, .float .f64 b1_0)]) (by kernel_rfl) ?_
  refine gl_atE (by kernel_rfl) ?_
  refine ge_seq ?_
  refine gk_seq (by kernel_rfl) ?_
  refine gk_seq (by kernel_rfl) ?_
  obtain ⟨j1, hj2, hr⟩ := bind_some hr
  refine gk_join (fun t I' L' => I ≤ I' ∧ L = L' ∧ Knows 34 [(0, .float .f64 b0_0), (1, .float .f64 b1_0), (12, .bool j1)] t) ?_ ?_
  · refine gk_region (by kernel_rfl) ?_
    refine gl_pure 2 [0, 1, 5, 6] (K' := [(0, .float .f64 b0_0), (1, .float .f64 b1_0), (5, .float .f64 b0_0), (6, .float .f64 b0_0)]) (by kernel_rfl) ?_
    refine gl_fcmp (op := .neq) (t := 37) (t' := 37) (xx := (.tmp 5)) (yy := (.tmp 6)) hf0_0 hf0_0 (by kernel_rfl) (by kernel_rfl) rfl (by kernel_rfl) (by kernel_rfl) ?_
    refine gl_pure 1 [0, 1, 8] (K' := [(0, .float .f64 b0_0), (1, .float .f64 b1_0), (8, .bool (fcmp .neq a0 a0))]) (by kernel_rfl) ?_
    refine gl_case 8 (b := (fcmp .neq a0 a0)) (by kernel_rfl) (fun hc6 => ?_) (fun hc6 => ?_)
    · have hj2 := cond_t hc6 hj2
      refine gl_pure 4 [0, 1, 12] (K' := [(0, .float .f64 b0_0), (1, .float .f64 b1_0), (12, .bool true)]) (by kernel_rfl) ?_
      refine gl_atE (by kernel_rfl) ?_
      obtain rfl := some_inj hj2
      exact ge_mid fun t ht => ⟨(Imm.refl _), rfl, ht.pick (l := [0, 1, 12]) (by kernel_rfl)⟩
    · have hj2 := cond_f hc6 hj2
      refine gl_pure 2 [0, 1, 8, 9, 10] (K' := [(0, .float .f64 b0_0), (1, .float .f64 b1_0), (8, .bool false), (9, .float .f64 b1_0), (10, .float .f64 b1_0)]) (by kernel_rfl) ?_
      refine gl_fcmp (op := .neq) (t := 37) (t' := 37) (xx := (.tmp 9)) (yy := (.tmp 10)) hf1_0 hf1_0 (by kernel_rfl) (by kernel_rfl) rfl (by kernel_rfl) (by kernel_rfl) ?_
      refine gl_pure 1 [0, 1, 12] (K' := [(0, .float .f64 b0_0), (1, .float .f64 b1_0), (12, .bool (fcmp .neq a1 a1))]) (by kernel_rfl) ?_
      refine gl_atE (by kernel_rfl) ?_
      obtain rfl := some_inj hj2
      exact ge_mid fun t ht => ⟨(Imm.refl _), rfl, ht.pick (l := [0, 1, 12]) (by kernel_rfl)⟩
  · rintro t I5 L' ⟨hI3, rfl, hK4⟩
    refine ge_at hK4 ?_
    refine ge_seq ?_
    refine gk_cond (b := j1) (by kernel_rfl) (by kernel_rfl) (fun hc7 => ?_) (fun hc7 => ?_)
    · have hr := cond_t hc7 hr
      refine gk_seq (by kernel_rfl) ?_
      obtain ⟨j8, hj9, hr⟩ := bind_some hr
      refine gk_join (fun t I' L' => I5 ≤ I' ∧ L = L' ∧ Knows 34 [(4, .bool j8)] t) ?_ ?_
      · refine gk_region (by kernel_rfl) ?_
        refine gl_pure 2 [1, 13, 14] (K' := [(1, .float .f64 b1_0), (13, .float .f64 b0_0), (14, .float .f64 b0_0)]) (by kernel_rfl) ?_
        refine gl_fcmp (op := .neq) (t := 37) (t' := 37) (xx := (.tmp 13)) (yy := (.tmp 14)) hf0_0 hf0_0 (by kernel_rfl) (by kernel_rfl) rfl (by kernel_rfl) (by kernel_rfl) ?_
        refine gl_pure 1 [1, 16] (K' := [(1, .float .f64 b1_0), (16, .bool (fcmp .neq a0 a0))]) (by kernel_rfl) ?_
        refine gl_case 16 (b := (fcmp .neq a0 a0)) (by kernel_rfl) (fun hc13 => ?_) (fun hc13 => ?_)
        · have hj9 := cond_t hc13 hj9
          refine gl_pure 2 [16, 17, 18] (K' := [(16, .bool true), (17, .float .f64 b1_0), (18, .float .f64 b1_0)]) (by kernel_rfl) ?_
          refine gl_fcmp (op := .eql) (t := 37) (t' := 37) (xx := (.tmp 17)) (yy := (.tmp 18)) hf1_0 hf1_0 (by kernel_rfl) (by kernel_rfl) rfl (by kernel_rfl) (by kernel_rfl) ?_
          refine gl_pure 2 [4] (K' := [(4, .bool (fcmp .eql a1 a1))]) (by kernel_rfl) ?_
          refine gl_atE (by kernel_rfl) ?_
          obtain rfl := some_inj hj9
          exact ge_mid fun t ht => ⟨(Imm.refl _), rfl, ht.pick (l := [4]) (by kernel_rfl)⟩
        · have hj9 := cond_f hc13 hj9
          refine gl_pure 5 [4] (K' := [(4, .bool false)]) (by kernel_rfl) ?_
          refine gl_atE (by kernel_rfl) ?_
          obtain rfl := some_inj hj9
          exact ge_mid fun t ht => ⟨(Imm.refl _), rfl, ht.pick (l := [4]) (by kernel_rfl)⟩
      · rintro t I12 L' ⟨hI10, rfl, hK11⟩
        refine ge_at hK11 ?_
        refine ge_seq ?_
        refine gk_ret (by kernel_rfl) ?_
        refine ge_seq_ret ?_
        obtain rfl := some_inj hr
        exact ge_result trivial (ResOk.tmp (by kernel_rfl) ResOk.nil) (Imm.trans hI3 hI10) ⟨rfl, rfl⟩
    · have hr := cond_f hc7 hr
      refine gk_skip (by kernel_rfl) ?_
      refine ge_seq ?_
      refine gk_seq (by kernel_rfl) ?_
      refine gk_seq (by kernel_rfl) ?_
      refine gk_region (by kernel_rfl) ?_
      refine gl_pure 2 [0, 1, 21, 22] (K' := [(0, .float .f64 b0_0), (1, .float .f64 b1_0), (21, .float .f64 b0_0), (22, .float .f64 b1_0)]) (by kernel_rfl) ?_
      refine gl_fcmp (op := .eql) (t := 37) (t' := 37) (xx := (.tmp 21)) (yy := (.tmp 22)) hf0_0 hf1_0 (by kernel_rfl) (by kernel_rfl) rfl (by kernel_rfl) (by kernel_rfl) ?_
      refine gl_atE (by kernel_rfl) ?_
      refine ge_seq ?_
      refine gk_cond (b := (fcmp .eql a0 a1)) (by kernel_rfl) (by kernel_rfl) (fun hc14 => ?_) (fun hc14 => ?_)
      · have hr := cond_t hc14 hr
        refine gk_seq (by kernel_rfl) ?_
        obtain ⟨j15, hj16, hr⟩ := bind_some hr
        refine gk_join (fun t I' L' => I5 ≤ I' ∧ L = L' ∧ Knows 34 [(4, .bool j15)] t) ?_ ?_
        · refine gk_region (by kernel_rfl) ?_
          refine gl_pure 1 [1, 24] (K' := [(1, .float .f64 b1_0), (24, .float .f64 b0_0)]) (by kernel_rfl) ?_
          obtain ⟨y20, hx21, hj16⟩ := bind_some hj16
          refine gl_callQ (by kernel_rfl) (math_Signbit_walk (r := y20) hf0_0 hx21 _) ?_
          refine gl_pure 1 [1, 26] (K' := [(1, .float .f64 b1_0), (26, .bool y20)]) (by kernel_rfl) ?_
          refine gl_case 26 (b := y20) (by kernel_rfl) (fun hc22 => ?_) (fun hc22 => ?_)
          · have hj16 := cond_t hc22 hj16
            refine gl_pure 1 [26, 27] (K' := [(26, .bool true), (27, .float .f64 b1_0)]) (by kernel_rfl) ?_
            obtain ⟨y23, hx24, hj16⟩ := bind_some hj16
            refine gl_callQ (by kernel_rfl) (math_Signbit_walk (r := y23) hf1_0 hx24 _) ?_
            refine gl_pure 3 [4] (K' := [(4, .bool (!y23))]) (by kernel_rfl) ?_
            refine gl_atE (by kernel_rfl) ?_
            obtain rfl := some_inj hj16
            exact ge_mid fun t ht => ⟨(Imm.refl _), rfl, ht.pick (l := [4]) (by kernel_rfl)⟩
          · have hj16 := cond_f hc22 hj16
            refine gl_pure 5 [4] (K' := [(4, .bool false)]) (by kernel_rfl) ?_
            refine gl_atE (by kernel_rfl) ?_
            obtain rfl := some_inj hj16
            exact ge_mid fun t ht => ⟨(Imm.refl _), rfl, ht.pick (l := [4]) (by kernel_rfl)⟩
        · rintro t I19 L' ⟨hI17, rfl, hK18⟩
          refine ge_at hK18 ?_
          refine ge_seq ?_
          refine gk_ret (by kernel_rfl) ?_
          refine ge_seq_ret ?_
          obtain rfl := some_inj hr
          exact ge_result trivial (ResOk.tmp (by kernel_rfl) ResOk.nil) (Imm.trans hI3 hI17) ⟨rfl, rfl⟩
      · have hr := cond_f hc14 hr
        refine gk_skip (by kernel_rfl) ?_
        refine ge_seq ?_
        refine gk_seq (by kernel_rfl) ?_
        refine gk_region (by kernel_rfl) ?_
        refine gl_pure 2 [31, 32] (K' := [(31, .float .f64 b0_0), (32, .float .f64 b1_0)]) (by kernel_rfl) ?_
        refine gl_fcmp (op := .lss) (t := 37) (t' := 37) (xx := (.tmp 31)) (yy := (.tmp 32)) hf0_0 hf1_0 (by kernel_rfl) (by kernel_rfl) rfl (by kernel_rfl) (by kernel_rfl) ?_
        refine gl_pure 1 [4] (K' := [(4, .bool (fcmp .lss a0 a1))]) (by kernel_rfl) ?_
        refine gl_atE (by kernel_rfl) ?_
        refine ge_seq ?_
        refine gk_ret (by kernel_rfl) ?_
        obtain rfl := some_inj hr
        exact ge_result trivial (ResOk.tmp (by kernel_rfl) ResOk.nil) hI3 ⟨rfl, rfl⟩
/-! 67 tocsinref15_Told  -/
noncomputable def tocsinref15_Told (a0 : Fl) : Fl :=
  bif (fcmp .neq a0 a0) then
  ((some (9221120237041090561 : Int).toNat : Fl))
  else
  (a0)
theorem tocsinref15_Told_walk {a0 : Fl} {b0_0 : Nat} {I : Imm} {r : Fl}  (hf0_0 : FRep a0 b0_0) (hr : tocsinref15_Told a0 = r) (L : Own) :
    CallsTo Tryz.prog 67 #[.float .f64 b0_0] I L (fun v I' L' => ∃ b0_0, FRep r b0_0 ∧ v = .float .f64 b0_0 ∧ L = L') := by
  replace hr : some (tocsinref15_Told a0) = some r := congrArg some hr
  unfold tocsinref15_Told at hr
  refine callsTo_body (N := 8) Tryz.func67 (by kernel_rfl) (by kernel_rfl) (by kernel_rfl) ?_
  refine gk_pick [0] (K' := [(0, .float .f64 b0_0)]) (by kernel_rfl) ?_
  refine gk_seq (by kernel_rfl) ?_
  refine gk_region (by kernel_rfl) ?_
  refine gl_pure 1 [0] (K' := [(0, .float .f64 b0_0)]) (by kernel_rfl) ?_
  refine gl_atE (by kernel_rfl) ?_
  refine ge_seq ?_
  refine gk_seq (by kernel_rfl) ?_
  refine gk_seq (by kernel_rfl) ?_
  refine gk_region (by kernel_rfl) ?_
  refine gl_pure 2 [0, 3, 4] (K' := [(0, .float .f64 b0_0), (3, .float .f64 b0_0), (4, .float .f64 b0_0)]) (by kernel_rfl) ?_
  refine gl_fcmp (op := .neq) (t := 37) (t' := 37) (xx := (.tmp 3)) (yy := (.tmp 4)) hf0_0 hf0_0 (by kernel_rfl) (by kernel_rfl) rfl (by kernel_rfl) (by kernel_rfl) ?_
  refine gl_atE (by kernel_rfl) ?_
  refine ge_seq ?_
  refine gk_cond (b := (fcmp .neq a0 a0)) (by kernel_rfl) (by kernel_rfl) (fun hc1 => ?_) (fun hc1 => ?_)
  · have hr := scond_t hc1 hr
    refine gk_seq (by kernel_rfl) ?_
    refine gk_region (by kernel_rfl) ?_
    refine gl_f64from (n := 9221120237041090561) Tryz.func105 (by kernel_rfl) (by kernel_rfl) (by kernel_rfl) (by kernel_rfl) (by kernel_rfl) (by kernel_rfl) ?_
    refine gl_pure 1 [2] (K' := [(2, .float .f64 ((9221120237041090561 : Int).toNat))]) (by kernel_rfl) ?_
    refine gl_atE (by kernel_rfl) ?_
    refine ge_seq ?_
    refine gk_ret (by kernel_rfl) ?_
    refine ge_seq_ret ?_
    obtain rfl := some_inj hr
    exact ge_result trivial (ResOk.tmp (by kernel_rfl) ResOk.nil) (Imm.refl _) ⟨(9221120237041090561 : Int).toNat, (FRep.of (9221120237041090561 : Int).toNat), rfl, rfl⟩
  · have hr := scond_f hc1 hr
    refine gk_skip (by kernel_rfl) ?_
    refine ge_seq ?_
    refine gk_seq (by kernel_rfl) ?_
    refine gk_region (by kernel_rfl) ?_
    refine gl_pure 2 [2] (K' := [(2, .float .f64 b0_0)]) (by kernel_rfl) ?_
    refine gl_atE (by kernel_rfl) ?_
    refine ge_seq ?_
    refine gk_ret (by kernel_rfl) ?_
    obtain rfl := some_inj hr
    exact ge_result trivial (ResOk.tmp (by kernel_rfl) ResOk.nil) (Imm.refl _) ⟨b0_0, hf0_0, rfl, rfl⟩
/-! 66 tocsinref15_Quantile  -/
noncomputable def tocsinref15_Quantile_l69 (a1 : List Fl) (s34 : (List Fl) × Int) : Int → Option ((Int) ⊕ (Int)) := fun s60 =>
  Option.bind (bif (decide (s60 > 0)) then
    (Option.bind (ix a1 s34.2) fun (x77 : Fl) =>
      Option.bind (ix s34.1 (IntKind.wrap .i64 (s60 - 1))) fun (x87 : Fl) =>
      Option.bind (tocsinref15_ahead x77 x87) fun (y98 : Bool) =>
      some y98)
    else
    (some false)) fun (j71 : Bool) =>
  bif j71 then
  (some (Sum.inl (IntKind.wrap .i64 (s60 - 1))))
  else
  (some (Sum.inr s60))
noncomputable def tocsinref15_Quantile_l51 (a1 : List Fl) : ((List Fl) × Int) → Option (((List Fl) × Int) ⊕ ((List Fl))) := fun s34 =>
  bif (decide (s34.2 < (a1.length : Int))) then
  (Option.bind (loopO (tocsinref15_Quantile_l69 a1 s34) (s34.1.length : Int)) fun (r58 : Int) =>
    Option.bind (lx s34.1 0 r58) fun (l102 : List Fl) =>
    Option.bind (app ([] : List Fl) l102) fun (zs105 : List Fl) =>
    Option.bind (ix a1 s34.2) fun (x111 : Fl) =>
    Option.bind (app zs105 [x111]) fun (zs125 : List Fl) =>
    Option.bind (lx s34.1 r58 (s34.1.length : Int)) fun (l132 : List Fl) =>
    Option.bind (app zs125 l132) fun (zs135 : List Fl) =>
    some (Sum.inl (zs135, (IntKind.wrap .i64 (s34.2 + 1)))))
  else
  (some (Sum.inr s34.1))
noncomputable def tocsinref15_Quantile (a0 : Fl) (a1 : List Fl) : Option Fl :=
  Option.bind (bif ((a1.length : Int) == 0) then
    (some true)
    else
    (some (fcmp .neq a0 a0))) fun (j1 : Bool) =>
  bif j1 then
  (some (some (9221120237041090561 : Int).toNat : Fl))
  else
  (bif (fcmp .lss a0 (some 0 : Fl)) then
    (Option.bind (math_Inf (-1)) fun (y9 : Fl) =>
      some y9)
    else
    (bif (fcmp .gtr a0 (some 4607182418800017408 : Fl)) then
      (Option.bind (math_Inf 1) fun (y17 : Fl) =>
        some y17)
      else
      (Option.bind (loopO (tocsinref15_Quantile_l51 a1) ([], 0)) fun (r32 : (List Fl)) =>
        Option.bind (ftoi .i64 (farith .mul a0 (some (FloatKind.nearest .f64 (IntKind.wrap .i64 ((r32.length : Int) - 1))) : Fl))) fun (q143 : Int) =>
        Option.bind (bif (decide ((IntKind.wrap .i64 (q143 + 1)) > (IntKind.wrap .i64 ((r32.length : Int) - 1)))) then
          (some (IntKind.wrap .i64 ((r32.length : Int) - 1)))
          else
          (some (IntKind.wrap .i64 (q143 + 1)))) fun (j145 : Int) =>
        Option.bind (ix r32 q143) fun (x153 : Fl) =>
        Option.bind (ix r32 j145) fun (x168 : Fl) =>
        some (tocsinref15_Told (farith .add (farith .mul x153 (farith .sub (some 4607182418800017408 : Fl) (farith .sub (farith .mul a0 (some (FloatKind.nearest .f64 (IntKind.wrap .i64 ((r32.length : Int) - 1))) : Fl)) (some (FloatKind.nearest .f64 q143) : Fl)))) (farith .mul x168 (farith .sub (farith .mul a0 (some (FloatKind.nearest .f64 (IntKind.wrap .i64 ((r32.length : Int) - 1))) : Fl)) (some (FloatKind.nearest .f64 q143) : Fl))))))))
theorem tocsinref15_Quantile_walk {a0 : Fl} {b0_0 : Nat} {a1 : List Fl} {A1_0 : Option Addr} {n1_0 : Nat} {I : Imm} {r : Fl}  (hf0_0 : FRep a0 b0_0)  (hf1_0 : RepS Kd.flt I A1_0 n1_0 a1) (hr : tocsinref15_Quantile a0 a1 = some r) (L : Own) :
    CallsTo Tryz.prog 66 #[.float .f64 b0_0, .slice A1_0 a1.length n1_0] I L (fun v I' L' => ∃ b0_0, FRep r b0_0 ∧ v = .float .f64 b0_0 ∧ L = L') := by
  unfold tocsinref15_Quantile at hr
  refine callsTo_body (N := 107) Tryz.func66 (by kernel_rfl) (by kernel_rfl) (by kernel_rfl) ?_
  refine gk_pick [0, 1] (K' := [(0, .float .f64 b0_0), (1, .slice A1_0 a1.length n1_0)]) (by kernel_rfl) ?_
  refine gk_seq (by kernel_rfl) ?_
  refine gk_region (by kernel_rfl) ?_
  refine gl_pure 1 [0, 1] (K' := [(0, .float .f64 b0_0), (1, .slice A1_0 a1.length n1_0)]) (by kernel_rfl) ?_
  refine gl_atE (by kernel_rfl) ?_
  refine ge_seq ?_
  refine gk_seq (by kernel_rfl) ?_
  refine gk_seq (by kernel_rfl) ?_
  obtain ⟨j1, hj2, hr⟩ := bind_some hr
  refine gk_join (fun t I' L' => I ≤ I' ∧ L = L' ∧ Knows 107 [(0, .float .f64 b0_0), (1, .slice A1_0 a1.length n1_0), (20, .bool j1)] t) ?_ ?_
  · refine gk_region (by kernel_rfl) ?_
    refine gl_pure 4 [0, 1, 16] (K' := [(0, .float .f64 b0_0), (1, .slice A1_0 a1.length n1_0), (16, .bool ((a1.length : Int) == 0))]) (by kernel_rfl) ?_
    refine gl_case 16 (b := ((a1.length : Int) == 0)) (by kernel_rfl) (fun hc6 => ?_) (fun hc6 => ?_)
    · have hj2 := cond_t hc6 hj2
      refine gl_pure 4 [0, 1, 20] (K' := [(0, .float .f64 b0_0), (1, .slice A1_0 a1.length n1_0), (20, .bool true)]) (by kernel_rfl) ?_
      refine gl_atE (by kernel_rfl) ?_
      obtain rfl := some_inj hj2
      exact ge_mid fun t ht => ⟨(Imm.refl _), rfl, ht.pick (l := [0, 1, 20]) (by kernel_rfl)⟩
    · have hj2 := cond_f hc6 hj2
      refine gl_pure 2 [0, 1, 16, 17, 18] (K' := [(0, .float .f64 b0_0), (1, .slice A1_0 a1.length n1_0), (16, .bool false), (17, .float .f64 b0_0), (18, .float .f64 b0_0)]) (by kernel_rfl) ?_
      refine gl_fcmp (op := .neq) (t := 37) (t' := 37) (xx := (.tmp 17)) (yy := (.tmp 18)) hf0_0 hf0_0 (by kernel_rfl) (by kernel_rfl) rfl (by kernel_rfl) (by kernel_rfl) ?_
      refine gl_pure 1 [0, 1, 20] (K' := [(0, .float .f64 b0_0), (1, .slice A1_0 a1.length n1_0), (20, .bool (fcmp .neq a0 a0))]) (by kernel_rfl) ?_
      refine gl_atE (by kernel_rfl) ?_
      obtain rfl := some_inj hj2
      exact ge_mid fun t ht => ⟨(Imm.refl _), rfl, ht.pick (l := [0, 1, 20]) (by kernel_rfl)⟩
  · rintro t I5 L' ⟨hI3, rfl, hK4⟩
    refine ge_at hK4 ?_
    refine ge_seq ?_
    refine gk_cond (b := j1) (by kernel_rfl) (by kernel_rfl) (fun hc7 => ?_) (fun hc7 => ?_)
    · have hr := cond_t hc7 hr
      refine gk_seq (by kernel_rfl) ?_
      refine gk_region (by kernel_rfl) ?_
      refine gl_f64from (n := 9221120237041090561) Tryz.func105 (by kernel_rfl) (by kernel_rfl) (by kernel_rfl) (by kernel_rfl) (by kernel_rfl) (by kernel_rfl) ?_
      refine gl_pure 1 [4] (K' := [(4, .float .f64 ((9221120237041090561 : Int).toNat))]) (by kernel_rfl) ?_
      refine gl_atE (by kernel_rfl) ?_
      refine ge_seq ?_
      refine gk_ret (by kernel_rfl) ?_
      refine ge_seq_ret ?_
      obtain rfl := some_inj hr
      exact ge_result trivial (ResOk.tmp (by kernel_rfl) ResOk.nil) hI3 ⟨(9221120237041090561 : Int).toNat, (FRep.of (9221120237041090561 : Int).toNat), rfl, rfl⟩
    · have hr := cond_f hc7 hr
      refine gk_skip (by kernel_rfl) ?_
      refine ge_seq ?_
      refine gk_seq (by kernel_rfl) ?_
      refine gk_seq (by kernel_rfl) ?_
      refine gk_region (by kernel_rfl) ?_
      refine gl_pure 1 [0, 1, 22] (K' := [(0, .float .f64 b0_0), (1, .slice A1_0 a1.length n1_0), (22, .float .f64 b0_0)]) (by kernel_rfl) ?_
      refine gl_fcmp (op := .lss) (t := 37) (t' := 37) (xx := (.tmp 22)) (yy := (.const (.float .f64 0))) hf0_0 (FRep.of 0) (by kernel_rfl) (by kernel_rfl) rfl (by kernel_rfl) (by kernel_rfl) ?_
      refine gl_atE (by kernel_rfl) ?_
      refine ge_seq ?_
      refine gk_cond (b := (fcmp .lss a0 (some 0 : Fl))) (by kernel_rfl) (by kernel_rfl) (fun hc8 => ?_) (fun hc8 => ?_)
      · have hr := cond_t hc8 hr
        refine gk_seq (by kernel_rfl) ?_
        refine gk_region (by kernel_rfl) ?_
        obtain ⟨y9, hx10, hr⟩ := bind_some hr
        refine gl_call (by kernel_rfl) (math_Inf_walk (r := y9)  hx10 _) ?_
        rintro v I11 L12 hI13 ⟨z14, hO15, rfl, rfl⟩
        refine gl_pure 1 [4] (K' := [(4, .float .f64 z14)]) (by kernel_rfl) ?_
        refine gl_atE (by kernel_rfl) ?_
        refine ge_seq ?_
        refine gk_ret (by kernel_rfl) ?_
        refine ge_seq_ret ?_
        obtain rfl := some_inj hr
        exact ge_result trivial (ResOk.tmp (by kernel_rfl) ResOk.nil) (Imm.trans hI3 hI13) ⟨z14, hO15, rfl, rfl⟩
      · have hr := cond_f hc8 hr
        refine gk_skip (by kernel_rfl) ?_
        refine ge_seq ?_
        refine gk_seq (by kernel_rfl) ?_
        refine gk_seq (by kernel_rfl) ?_
        refine gk_region (by kernel_rfl) ?_
        refine gl_pure 1 [0, 1, 25] (K' := [(0, .float .f64 b0_0), (1, .slice A1_0 a1.length n1_0), (25, .float .f64 b0_0)]) (by kernel_rfl) ?_
        refine gl_fcmp (op := .gtr) (t := 37) (t' := 37) (xx := (.tmp 25)) (yy := (.const (.float .f64 4607182418800017408))) hf0_0 (FRep.of 4607182418800017408) (by kernel_rfl) (by kernel_rfl) rfl (by kernel_rfl) (by kernel_rfl) ?_
        refine gl_atE (by kernel_rfl) ?_
        refine ge_seq ?_
        refine gk_cond (b := (fcmp .gtr a0 (some 4607182418800017408 : Fl))) (by kernel_rfl) (by kernel_rfl) (fun hc16 => ?_) (fun hc16 => ?_)
        · have hr := cond_t hc16 hr
          refine gk_seq (by kernel_rfl) ?_
          refine gk_region (by kernel_rfl) ?_
          obtain ⟨y17, hx18, hr⟩ := bind_some hr
          refine gl_call (by kernel_rfl) (math_Inf_walk (r := y17)  hx18 _) ?_
          rintro v I19 L20 hI21 ⟨z22, hO23, rfl, rfl⟩
          refine gl_pure 1 [4] (K' := [(4, .float .f64 z22)]) (by kernel_rfl) ?_
          refine gl_atE (by kernel_rfl) ?_
          refine ge_seq ?_
          refine gk_ret (by kernel_rfl) ?_
          refine ge_seq_ret ?_
          obtain rfl := some_inj hr
          exact ge_result trivial (ResOk.tmp (by kernel_rfl) ResOk.nil) (Imm.trans hI3 hI21) ⟨z22, hO23, rfl, rfl⟩
        · have hr := cond_f hc16 hr
          refine gk_skip (by kernel_rfl) ?_
          refine ge_seq ?_
          refine gk_seq (by kernel_rfl) ?_
          refine gk_region (by kernel_rfl) ?_
          refine gl_pure 1 [0, 1, 5] (K' := [(0, .float .f64 b0_0), (1, .slice A1_0 a1.length n1_0), (5, .slice none 0 0)]) (by kernel_rfl) ?_
          refine gl_atE (by kernel_rfl) ?_
          refine ge_seq ?_
          refine gk_seq (by kernel_rfl) ?_
          refine gk_seq (by kernel_rfl) ?_
          refine gk_region (by kernel_rfl) ?_
          refine gl_pure 1 [0, 1, 5, 6] (K' := [(0, .float .f64 b0_0), (1, .slice A1_0 a1.length n1_0), (5, .slice none 0 0), (6, .int .i64 0)]) (by kernel_rfl) ?_
          refine gl_atE (by kernel_rfl) ?_
          refine ge_seq ?_
          obtain ⟨r32, hl33, hr⟩ := bind_some hr
          refine gk_join (fun t I' L' => ∃ A45 n46 C47, OwnS Kd.flt 37 I' A45 n46 r32 C47 ∧ I5 ≤ I' ∧ C47 ++ L = L' ∧ Knows 107 [(0, .float .f64 b0_0), (5, .slice A45 r32.length n46)] t) ?_ ?_
          · refine gk_block (by kernel_rfl) ?_
            refine gk_pick [0, 1, 5, 6] (K' := [(0, .float .f64 b0_0), (1, .slice A1_0 a1.length n1_0), (5, .slice none 0 0), (6, .int .i64 0)]) (by kernel_rfl) ?_
            intro t hK
            refine gc_loop (tocsinref15_Quantile_l51 a1) (fun s34 t I' L' => ∃ A38 n39 C40, OwnS Kd.flt 37 I' A38 n39 s34.1 C40 ∧ I5 ≤ I' ∧ C40 ++ L = L' ∧ Knows 107 [(0, .float .f64 b0_0), (1, .slice A1_0 a1.length n1_0), (5, .slice A38 s34.1.length n39), (6, .int .i64 s34.2)] t) (by kernel_rfl) ?_ hl33 ⟨none, 0, [], OwnS.nil _ _ _ _, (Imm.refl _), rfl, hK⟩
            rintro s34 o35 t I43 L' hb36 ⟨A38, n39, C40, hO41, hI37, rfl, hK42⟩
            unfold tocsinref15_Quantile_l51 at hb36
            refine gk_at hK42 ?_
            refine gk_seq (by kernel_rfl) ?_
            refine gk_seq (by kernel_rfl) ?_
            refine gk_region (by kernel_rfl) ?_
            refine gl_pure 4 [0, 1, 5, 6, 31] (K' := [(0, .float .f64 b0_0), (1, .slice A1_0 a1.length n1_0), (5, .slice A38 s34.1.length n39), (6, .int .i64 s34.2), (31, .bool (decide (s34.2 < (a1.length : Int))))]) (by kernel_rfl) ?_
            refine gl_atE (by kernel_rfl) ?_
            refine ge_seq ?_
            refine gk_cond (b := (decide (s34.2 < (a1.length : Int)))) (by kernel_rfl) (by kernel_rfl) (fun hc53 => ?_) (fun hc53 => ?_)
            · have hb36 := cond_t hc53 hb36
              refine gk_skip (by kernel_rfl) ?_
              refine ge_seq ?_
              refine gk_seq (by kernel_rfl) ?_
              refine gk_block (by kernel_rfl) ?_
              refine gk_seq (by kernel_rfl) ?_
              refine gk_region (by kernel_rfl) ?_
              refine gl_pure 3 [0, 1, 5, 6, 7] (K' := [(0, .float .f64 b0_0), (1, .slice A1_0 a1.length n1_0), (5, .slice A38 s34.1.length n39), (6, .int .i64 s34.2), (7, .int .i64 (s34.1.length : Int))]) (by kernel_rfl) ?_
              refine gl_atE (by kernel_rfl) ?_
              refine ge_seq ?_
              refine gk_seq (by kernel_rfl) ?_
              obtain ⟨r58, hl59, hb36⟩ := bind_some hb36
              refine gk_join (fun t I' L' => I43 ≤ I' ∧ C40 ++ L = L' ∧ Knows 107 [(0, .float .f64 b0_0), (1, .slice A1_0 a1.length n1_0), (5, .slice A38 s34.1.length n39), (6, .int .i64 s34.2), (7, .int .i64 r58)] t) ?_ ?_
              · refine gk_block (by kernel_rfl) ?_
                refine gk_pick [0, 1, 5, 6, 7] (K' := [(0, .float .f64 b0_0), (1, .slice A1_0 a1.length n1_0), (5, .slice A38 s34.1.length n39), (6, .int .i64 s34.2), (7, .int .i64 (s34.1.length : Int))]) (by kernel_rfl) ?_
                intro t hK
                refine gc_loop (tocsinref15_Quantile_l69 a1 s34) (fun s60 t I' L' => I43 ≤ I' ∧ C40 ++ L = L' ∧ Knows 107 [(0, .float .f64 b0_0), (1, .slice A1_0 a1.length n1_0), (5, .slice A38 s34.1.length n39), (6, .int .i64 s34.2), (7, .int .i64 s60)] t) (by kernel_rfl) ?_ hl59 ⟨(Imm.refl _), rfl, hK⟩
                rintro s60 o61 t I65 L' hb62 ⟨hI63, rfl, hK64⟩
                unfold tocsinref15_Quantile_l69 at hb62
                refine gk_at hK64 ?_
                refine gk_seq (by kernel_rfl) ?_
                refine gk_seq (by kernel_rfl) ?_
                obtain ⟨j71, hj72, hb62⟩ := bind_some hb62
                refine gk_join (fun t I' L' => I65 ≤ I' ∧ C40 ++ L = L' ∧ Knows 107 [(0, .float .f64 b0_0), (1, .slice A1_0 a1.length n1_0), (5, .slice A38 s34.1.length n39), (6, .int .i64 s34.2), (7, .int .i64 s60), (49, .bool j71)] t) ?_ ?_
                · refine gk_draw 12 [(0, true), (1, true), (2, true), (3, true), (4, true), (5, true), (6, true), (7, true), (8, true), (9, true), (10, true), (11, true)] (C40 ++ []) (List.forall_mem_append.2 ⟨fun q hq => (List.mem_append_left _ hq), (fun p hp => by cases hp)⟩) (by kernel_rfl) (by kernel_rfl) (by kernel_rfl) ?_ (by kernel_rfl)
                  refine gd_pure 3 [0, 1, 5, 6, 7, 38] (K' := [(0, .float .f64 b0_0), (1, .slice A1_0 a1.length n1_0), (5, .slice A38 s34.1.length n39), (6, .int .i64 s34.2), (7, .int .i64 s60), (38, .bool (decide (s60 > 0)))]) (s' := [(3, true), (4, true), (5, true), (6, true), (7, true), (8, true), (9, true), (10, true), (11, true)]) (CC.refl (List.forall_mem_append.2 ⟨fun q hq => (List.mem_append_left _ hq), (fun p hp => by cases hp)⟩)) (by kernel_rfl) ?_
                  refine gd_case 38 (b := (decide (s60 > 0))) (by kernel_rfl) (fun hc76 => ?_) (fun hc76 => ?_)
                  · have hj72 := cond_t hc76 hj72
                    refine gd_pure 2 [0, 1, 5, 6, 7, 38, 39, 40] (K' := [(0, .float .f64 b0_0), (1, .slice A1_0 a1.length n1_0), (5, .slice A38 s34.1.length n39), (6, .int .i64 s34.2), (7, .int .i64 s60), (38, .bool true), (39, .slice A1_0 a1.length n1_0), (40, .int .i64 s34.2)]) (s' := [(5, true), (6, true), (7, true), (8, true), (9, true), (10, true), (11, true)]) (CC.refl (List.forall_mem_append.2 ⟨fun q hq => (List.mem_append_left _ hq), (fun p hp => by cases hp)⟩)) (by kernel_rfl) ?_
                    obtain ⟨x77, hx78, hj72⟩ := bind_some hj72
                    obtain ⟨p79, cs80, hR81, hA82, ha83⟩ := RepS.ixAt hx78 (hf1_0.mono (Imm.trans (Imm.trans hI3 hI37) hI63))
                    have hi84 := ix_some hx78
                    obtain ⟨b85, rfl, hf86⟩ := hR81
                    refine gd_q (v := .pointer (some p79)) (by kernel_rfl) (by kernel_rfl) (CC.refl (List.forall_mem_append.2 ⟨fun q hq => (List.mem_append_left _ hq), (fun p hp => by cases hp)⟩)) (fun I' L' T hC kk => gl_indexAddrF (c := n1_0) (T' := 43) (e := 37) (xs := (.tmp 39)) (xi := (.tmp 40)) (kd := .i64) ha83 hi84.1 hi84.2.1 (by kernel_rfl) (by kernel_rfl) (by kernel_rfl) (by kernel_rfl) (by kernel_rfl) kk) ?_
                    refine gd_q (v := .float .f64 b85) (by kernel_rfl) (by kernel_rfl) (CC.refl (List.forall_mem_append.2 ⟨fun q hq => (List.mem_append_left _ hq), (fun p hp => by cases hp)⟩)) (fun I' L' T hC kk => gl_load (T' := 37) (xp := (.tmp 41)) (p := p79) (c := .float .f64 b85) (n := 1) (by kernel_rfl) (by kernel_rfl) (by kernel_rfl) (by kernel_rfl) (hA82.mono hC.le) kk) ?_
                    refine gd_pure 3 [0, 1, 5, 6, 7, 38, 42, 43, 45] (K' := [(0, .float .f64 b0_0), (1, .slice A1_0 a1.length n1_0), (5, .slice A38 s34.1.length n39), (6, .int .i64 s34.2), (7, .int .i64 s60), (38, .bool true), (42, .float .f64 b85), (43, .slice A38 s34.1.length n39), (45, .int .i64 (IntKind.wrap .i64 (s60 - 1)))]) (s' := [(10, true), (11, true)]) (CC.refl (List.forall_mem_append.2 ⟨fun q hq => (List.mem_append_left _ hq), (fun p hp => by cases hp)⟩)) (by kernel_rfl) ?_
                    obtain ⟨x87, hx88, hj72⟩ := bind_some hj72
                    obtain ⟨p89, cs90, hR91, hA92, ha93, hg97⟩ := OwnS.ixAtG hx88 (hO41.mono hI63)
                    have hi94 := ix_some hx88
                    obtain ⟨b95, rfl, hf96⟩ := hR91
                    refine gd_q (v := .pointer (some p89)) (by kernel_rfl) (by kernel_rfl) (CC.refl (List.forall_mem_append.2 ⟨fun q hq => (List.mem_append_left _ hq), (fun p hp => by cases hp)⟩)) (fun I' L' T hC kk => gl_indexAddrF (c := n39) (T' := 43) (e := 37) (xs := (.tmp 43)) (xi := (.tmp 45)) (kd := .i64) ha93 hi94.1 hi94.2.1 (by kernel_rfl) (by kernel_rfl) (by kernel_rfl) (by kernel_rfl) (by kernel_rfl) kk) ?_
                    refine gd_q (v := .float .f64 b95) (by kernel_rfl) (by kernel_rfl) (CC.refl (List.forall_mem_append.2 ⟨fun q hq => (List.mem_append_left _ hq), (fun p hp => by cases hp)⟩)) (fun I' L' T hC kk => gl_loadO (T' := 37) (xp := (.tmp 46)) (p := p89) (c := .float .f64 b95) (n := 1) (by kernel_rfl) (by kernel_rfl) (by kernel_rfl) (by kernel_rfl) (hA92 _ _ (fun q hq => hC.sub _ (List.mem_append_left _ hq))) kk) ?_
                    refine gd_done ?_
                    obtain ⟨y98, hx99, hj72⟩ := bind_some hj72
                    refine gl_callQ (by kernel_rfl) (tocsinref15_ahead_walk (r := y98) hf86 hf96 hx99 _) ?_
                    refine gl_pure 1 [0, 1, 5, 6, 7, 49] (K' := [(0, .float .f64 b0_0), (1, .slice A1_0 a1.length n1_0), (5, .slice A38 s34.1.length n39), (6, .int .i64 s34.2), (7, .int .i64 s60), (49, .bool y98)]) (by kernel_rfl) ?_
                    refine gl_atE (by kernel_rfl) ?_
                    obtain rfl := some_inj hj72
                    exact ge_mid fun t ht => ⟨(Imm.refl _), rfl, ht.pick (l := [0, 1, 5, 6, 7, 49]) (by kernel_rfl)⟩
                  · have hj72 := cond_f hc76 hj72
                    refine gd_pure 9 [0, 1, 5, 6, 7, 38, 42, 47] (K' := [(0, .float .f64 b0_0), (1, .slice A1_0 a1.length n1_0), (5, .slice A38 s34.1.length n39), (6, .int .i64 s34.2), (7, .int .i64 s60), (38, .bool false), (42, undef), (47, undef)]) (s' := []) (CC.refl (List.forall_mem_append.2 ⟨fun q hq => (List.mem_append_left _ hq), (fun p hp => by cases hp)⟩)) (by kernel_rfl) ?_
                    refine gd_done ?_
                    refine gl_pure 2 [0, 1, 5, 6, 7, 49] (K' := [(0, .float .f64 b0_0), (1, .slice A1_0 a1.length n1_0), (5, .slice A38 s34.1.length n39), (6, .int .i64 s34.2), (7, .int .i64 s60), (49, .bool false)]) (by kernel_rfl) ?_
                    refine gl_atE (by kernel_rfl) ?_
                    obtain rfl := some_inj hj72
                    exact ge_mid fun t ht => ⟨(Imm.refl _), rfl, ht.pick (l := [0, 1, 5, 6, 7, 49]) (by kernel_rfl)⟩
                · rintro t I75 L' ⟨hI73, rfl, hK74⟩
                  refine ge_at hK74 ?_
                  refine ge_seq ?_
                  refine gk_cond (b := j71) (by kernel_rfl) (by kernel_rfl) (fun hc100 => ?_) (fun hc100 => ?_)
                  · have hb62 := cond_t hc100 hb62
                    refine gk_skip (by kernel_rfl) ?_
                    refine ge_seq ?_
                    refine gk_block (by kernel_rfl) ?_
                    refine gk_region (by kernel_rfl) ?_
                    refine gl_pure 3 [0, 1, 5, 6, 7] (K' := [(0, .float .f64 b0_0), (1, .slice A1_0 a1.length n1_0), (5, .slice A38 s34.1.length n39), (6, .int .i64 s34.2), (7, .int .i64 (IntKind.wrap .i64 (s60 - 1)))]) (by kernel_rfl) ?_
                    refine gl_atE (by kernel_rfl) ?_
                    refine ge_block_normal ?_
                    obtain rfl := some_inj hb62
                    exact ge_round fun t ht => ⟨(Imm.trans hI63 hI73), rfl, ht.pick (l := [0, 1, 5, 6, 7]) (by kernel_rfl)⟩
                  · have hb62 := cond_f hc100 hb62
                    refine gk_exit (by kernel_rfl) ?_
                    refine ge_seq_exit ?_
                    obtain rfl := some_inj hb62
                    refine ge_round_out (fun hrr => ?_) (by intro h; cases h)
                    obtain rfl := hrr
                    refine ge_block_hit (by kernel_rfl) ?_
                    exact ge_mid fun t ht => ⟨(Imm.trans hI63 hI73), rfl, ht.pick (l := [0, 1, 5, 6, 7]) (by kernel_rfl)⟩
              · rintro t I68 L' ⟨hI66, rfl, hK67⟩
                refine ge_at hK67 ?_
                refine ge_seq ?_
                refine gk_seq (by kernel_rfl) ?_
                refine gk_region (by kernel_rfl) ?_
                refine gl_pure 1 [0, 1, 5, 6, 7, 8] (K' := [(0, .float .f64 b0_0), (1, .slice A1_0 a1.length n1_0), (5, .slice A38 s34.1.length n39), (6, .int .i64 s34.2), (7, .int .i64 r58), (8, .slice none 0 0)]) (by kernel_rfl) ?_
                refine gl_atE (by kernel_rfl) ?_
                refine ge_seq ?_
                refine gk_seq (by kernel_rfl) ?_
                refine gk_region (by kernel_rfl) ?_
                refine gl_pure 3 [0, 1, 5, 6, 7, 52, 53, 54] (K' := [(0, .float .f64 b0_0), (1, .slice A1_0 a1.length n1_0), (5, .slice A38 s34.1.length n39), (6, .int .i64 s34.2), (7, .int .i64 r58), (52, .slice none 0 0), (53, .slice A38 s34.1.length n39), (54, .int .i64 r58)]) (by kernel_rfl) ?_
                obtain ⟨l102, hx101, hb36⟩ := bind_some hb36
                have hlc103 := OwnS.lenc (hO41.mono hI66)
                have hd104 := lx_take hx101
                refine gl_sliceH (A := A38) (c := n39) (n := 1) (T' := 43) (e := 37) (xs := (.tmp 53)) (lo := none) (hi := (some (.tmp 54))) hx101 hlc103 (by kernel_rfl) (by kernel_rfl) (by kernel_rfl) (by kernel_rfl) (by kernel_rfl) (by kernel_rfl) ?_
                obtain ⟨zs105, hz106, hb36⟩ := bind_some hb36
                refine gl_append (xv := .slice A38 l102.length n39) (d := Kd.flt) (t := 43) (tx := 43) (e := 37) (s := (.tmp 52)) (x := (.tmp 55)) (xs := []) (A := none) (c := 0) (C := []) (fun X => X ++ (C40 ++ L)) hz106 (by kernel_rfl) (by kernel_rfl) (by kernel_rfl) (by kernel_rfl) (by kernel_rfl) (by kernel_rfl) (fun X => Upd.new X _) (OwnS.nil _ _ _ none) (SrcOk.slice (c := n39) (e := 37) (n := 1) (OwnS.rd (OwnS.head hd104 (hO41.mono hI66)) (Upd.selfC _ _)) (by kernel_rfl)) (fun A107 n108 C109 hO110 => ?_)
                refine gl_pure 1 [0, 1, 5, 6, 7, 8] (K' := [(0, .float .f64 b0_0), (1, .slice A1_0 a1.length n1_0), (5, .slice A38 s34.1.length n39), (6, .int .i64 s34.2), (7, .int .i64 r58), (8, .slice A107 zs105.length n108)]) (by kernel_rfl) ?_
                refine gl_atE (by kernel_rfl) ?_
                refine ge_seq ?_
                refine gk_seq (by kernel_rfl) ?_
                refine gk_region (by kernel_rfl) ?_
                refine gl_pure 3 [0, 1, 5, 6, 7, 57, 58, 59] (K' := [(0, .float .f64 b0_0), (1, .slice A1_0 a1.length n1_0), (5, .slice A38 s34.1.length n39), (6, .int .i64 s34.2), (7, .int .i64 r58), (57, .slice A107 zs105.length n108), (58, .slice A1_0 a1.length n1_0), (59, .int .i64 s34.2)]) (by kernel_rfl) ?_
                obtain ⟨x111, hx112, hb36⟩ := bind_some hb36
                obtain ⟨p113, cs114, hR115, hA116, ha117⟩ := RepS.ixAt hx112 (hf1_0.mono (Imm.trans (Imm.trans hI3 hI37) hI66))
                have hi118 := ix_some hx112
                obtain ⟨b119, rfl, hf120⟩ := hR115
                refine gl_indexAddrF (c := n1_0) (T' := 43) (e := 37) (xs := (.tmp 58)) (xi := (.tmp 59)) (kd := .i64) ha117 hi118.1 hi118.2.1 (by kernel_rfl) (by kernel_rfl) (by kernel_rfl) (by kernel_rfl) (by kernel_rfl) ?_
                refine gl_load (T' := 37) (xp := (.tmp 60)) (p := p113) (c := .float .f64 b119) (n := 1) (by kernel_rfl) (by kernel_rfl) (by kernel_rfl) (by kernel_rfl) hA116 ?_
                refine gl_buildSlice (T' := 43) (e := 37) (n := 1) (len := 1) (parts := #[(0, (.tmp 61))]) (l := [(0, .float .f64 b119)]) (cs := #[.float .f64 b119]) (by kernel_rfl) (by kernel_rfl) (by kernel_rfl) (by kernel_rfl) (by kernel_rfl) (fun g121 => ?_)
                have hO122 : OwnS Kd.flt 37 I68 (some ⟨g121, 0, none⟩) 1 [x111] [(g121, .cells #[.float .f64 b119] 37)] := OwnS.lit (row_cons (l := [.float .f64 b119]) ⟨_, rfl, hf120⟩ (row_nil _ _)) rfl rfl rfl
                refine gl_reord (D := [(g121, .cells #[.float .f64 b119] 37)] ++ (C109 ++ (C40 ++ L))) (Reord.refl _) ?_
                obtain ⟨zs125, hz126, hb36⟩ := bind_some hb36
                refine gl_append (xv := .slice (some ⟨g121, 0, none⟩) [x111].length 1) (d := Kd.flt) (t := 43) (tx := 43) (e := 37) (s := (.tmp 57)) (x := (.tmp 62)) (xs := zs105) (fun X => [(g121, .cells #[.float .f64 b119] 37)] ++ (X ++ (C40 ++ L))) hz126 (by kernel_rfl) (by kernel_rfl) (by kernel_rfl) (by kernel_rfl) (by kernel_rfl) (by kernel_rfl) (fun X => (Upd.app _ (Upd.head _ X _))) hO110 (SrcOk.slice (c := 1) (e := 37) (n := 1) (OwnS.rd hO122 (Upd.selfC _ _)) (by kernel_rfl)) (fun A127 n128 C129 hO130 => ?_)
                refine gl_pure 1 [0, 1, 5, 6, 7, 8] (K' := [(0, .float .f64 b0_0), (1, .slice A1_0 a1.length n1_0), (5, .slice A38 s34.1.length n39), (6, .int .i64 s34.2), (7, .int .i64 r58), (8, .slice A127 zs125.length n128)]) (by kernel_rfl) ?_
                refine gl_atE (by kernel_rfl) ?_
                refine ge_seq ?_
                refine gk_seq (by kernel_rfl) ?_
                refine gk_region (by kernel_rfl) ?_
                refine gl_pure 3 [0, 1, 6, 64, 65, 66] (K' := [(0, .float .f64 b0_0), (1, .slice A1_0 a1.length n1_0), (6, .int .i64 s34.2), (64, .slice A127 zs125.length n128), (65, .slice A38 s34.1.length n39), (66, .int .i64 r58)]) (by kernel_rfl) ?_
                obtain ⟨l132, hx131, hb36⟩ := bind_some hb36
                have hlc133 := OwnS.lenc (hO41.mono hI66)
                have hV134 := OwnS.view hx131 (hO41.mono hI66)
                refine gl_sliceT (A := A38) (c := n39) (n := 1) (T' := 43) (e := 37) (xs := (.tmp 65)) (lo := (some (.tmp 66))) hx131 hlc133 (by kernel_rfl) (by kernel_rfl) (by kernel_rfl) (by kernel_rfl) (by kernel_rfl) ?_
                obtain ⟨zs135, hz136, hb36⟩ := bind_some hb36
                refine gl_append (xv := .slice (viewA A38 r58 1 n39) l132.length (n39 - (r58).toNat)) (d := Kd.flt) (t := 43) (tx := 43) (e := 37) (s := (.tmp 64)) (x := (.tmp 67)) (xs := zs125) (fun X => [(g121, .cells #[.float .f64 b119] 37)] ++ (X ++ (C40 ++ L))) hz136 (by kernel_rfl) (by kernel_rfl) (by kernel_rfl) (by kernel_rfl) (by kernel_rfl) (by kernel_rfl) (fun X => (Upd.app _ (Upd.head _ X _))) hO130 (SrcOk.slice (c := (n39 - (r58).toNat)) (e := 37) (n := 1) (OwnS.rdT hx131 hV134 (hO41.mono hI66) (Upd.app _ (Upd.app _ (Upd.selfC _ _)))) (by kernel_rfl)) (fun A137 n138 C139 hO140 => ?_)
                refine gl_pure 1 [0, 1, 6, 8] (K' := [(0, .float .f64 b0_0), (1, .slice A1_0 a1.length n1_0), (6, .int .i64 s34.2), (8, .slice A137 zs135.length n138)]) (by kernel_rfl) ?_
                refine gl_atE (by kernel_rfl) ?_
                refine ge_seq ?_
                refine gk_region (by kernel_rfl) ?_
                refine gl_pure 2 [0, 1, 5, 6] (K' := [(0, .float .f64 b0_0), (1, .slice A1_0 a1.length n1_0), (5, .slice A137 zs135.length n138), (6, .int .i64 s34.2)]) (by kernel_rfl) ?_
                refine gl_atE (by kernel_rfl) ?_
                refine ge_block_normal ?_
                refine ge_seq ?_
                refine gk_region (by kernel_rfl) ?_
                refine gl_pure 3 [0, 1, 5, 6] (K' := [(0, .float .f64 b0_0), (1, .slice A1_0 a1.length n1_0), (5, .slice A137 zs135.length n138), (6, .int .i64 (IntKind.wrap .i64 (s34.2 + 1)))]) (by kernel_rfl) ?_
                refine gl_reord (D := C139 ++ L) (Reord.step (Upd.app _ (Upd.rmC _ _)) (Reord.skipC (Reord.skipC (Reord.refl _)))) ?_
                refine gl_atE (by kernel_rfl) ?_
                obtain rfl := some_inj hb36
                exact ge_round fun t ht => ⟨A137, n138, C139, hO140, (Imm.trans hI37 hI66), rfl, ht.pick (l := [0, 1, 5, 6]) (by kernel_rfl)⟩
            · have hb36 := cond_f hc53 hb36
              refine gk_exit (by kernel_rfl) ?_
              refine ge_seq_exit ?_
              obtain rfl := some_inj hb36
              refine ge_round_out (fun hrr => ?_) (by intro h; cases h)
              obtain rfl := hrr
              refine ge_block_hit (by kernel_rfl) ?_
              exact ge_mid fun t ht => ⟨A38, n39, C40, hO41, hI37, rfl, ht.pick (l := [0, 5]) (by kernel_rfl)⟩
          · rintro t I50 L' ⟨A45, n46, C47, hO48, hI44, rfl, hK49⟩
            refine ge_at hK49 ?_
            refine ge_seq ?_
            refine gk_seq (by kernel_rfl) ?_
            refine gk_region (by kernel_rfl) ?_
            refine gl_pure 5 [5, 70, 74] (K' := [(5, .slice A45 r32.length n46), (70, .float .f64 b0_0), (74, .float .f64 (FloatKind.nearest .f64 (IntKind.wrap .i64 ((r32.length : Int) - 1))))]) (by kernel_rfl) ?_
            refine gl_farith (op := .mul) (t := 37) (t' := 37) (xx := (.tmp 70)) (yy := (.tmp 74)) hf0_0 (FRep.of (FloatKind.nearest .f64 (IntKind.wrap .i64 ((r32.length : Int) - 1)))) (by kernel_rfl) (by kernel_rfl) rfl (by kernel_rfl) (by kernel_rfl) (fun b141 hf142 => ?_)
            refine gl_pure 1 [5, 9] (K' := [(5, .slice A45 r32.length n46), (9, .float .f64 b141)]) (by kernel_rfl) ?_
            refine gl_atE (by kernel_rfl) ?_
            refine ge_seq ?_
            refine gk_seq (by kernel_rfl) ?_
            refine gk_region (by kernel_rfl) ?_
            refine gl_pure 1 [5, 9, 76] (K' := [(5, .slice A45 r32.length n46), (9, .float .f64 b141), (76, .float .f64 b141)]) (by kernel_rfl) ?_
            obtain ⟨q143, hx144, hr⟩ := bind_some hr
            refine gl_ftoi (src := 37) (dst := 3) (xx := (.tmp 76)) (kd := .i64) hx144 hf142 (by kernel_rfl) (by kernel_rfl) (by kernel_rfl) ⟨.float .f64, by kernel_rfl⟩ (by kernel_rfl) ?_
            refine gl_pure 1 [5, 9, 10] (K' := [(5, .slice A45 r32.length n46), (9, .float .f64 b141), (10, .int .i64 q143)]) (by kernel_rfl) ?_
            refine gl_atE (by kernel_rfl) ?_
            refine ge_seq ?_
            refine gk_seq (by kernel_rfl) ?_
            refine gk_region (by kernel_rfl) ?_
            refine gl_pure 3 [5, 9, 10, 11] (K' := [(5, .slice A45 r32.length n46), (9, .float .f64 b141), (10, .int .i64 q143), (11, .int .i64 (IntKind.wrap .i64 (q143 + 1)))]) (by kernel_rfl) ?_
            refine gl_atE (by kernel_rfl) ?_
            refine ge_seq ?_
            refine gk_seq (by kernel_rfl) ?_
            refine gk_seq (by kernel_rfl) ?_
            refine gk_region (by kernel_rfl) ?_
            refine gl_pure 5 [5, 9, 10, 11, 84] (K' := [(5, .slice A45 r32.length n46), (9, .float .f64 b141), (10, .int .i64 q143), (11, .int .i64 (IntKind.wrap .i64 (q143 + 1))), (84, .bool (decide ((IntKind.wrap .i64 (q143 + 1)) > (IntKind.wrap .i64 ((r32.length : Int) - 1)))))]) (by kernel_rfl) ?_
            refine gl_atE (by kernel_rfl) ?_
            refine ge_seq ?_
            obtain ⟨j145, hj146, hr⟩ := bind_some hr
            refine gk_join (fun t I' L' => I50 ≤ I' ∧ C47 ++ L = L' ∧ Knows 107 [(5, .slice A45 r32.length n46), (9, .float .f64 b141), (10, .int .i64 q143), (11, .int .i64 j145)] t) ?_ ?_
            · refine gk_cond (b := (decide ((IntKind.wrap .i64 (q143 + 1)) > (IntKind.wrap .i64 ((r32.length : Int) - 1))))) (by kernel_rfl) (by kernel_rfl) (fun hc150 => ?_) (fun hc150 => ?_)
              · have hj146 := cond_t hc150 hj146
                refine gk_region (by kernel_rfl) ?_
                refine gl_pure 4 [5, 9, 10, 11] (K' := [(5, .slice A45 r32.length n46), (9, .float .f64 b141), (10, .int .i64 q143), (11, .int .i64 (IntKind.wrap .i64 ((r32.length : Int) - 1)))]) (by kernel_rfl) ?_
                refine gl_atE (by kernel_rfl) ?_
                obtain rfl := some_inj hj146
                exact ge_mid fun t ht => ⟨(Imm.refl _), rfl, ht.pick (l := [5, 9, 10, 11]) (by kernel_rfl)⟩
              · have hj146 := cond_f hc150 hj146
                refine gk_skip (by kernel_rfl) ?_
                obtain rfl := some_inj hj146
                exact ge_mid fun t ht => ⟨(Imm.refl _), rfl, ht.pick (l := [5, 9, 10, 11]) (by kernel_rfl)⟩
            · rintro t I149 L' ⟨hI147, rfl, hK148⟩
              refine ge_at hK148 ?_
              refine ge_seq ?_
              refine gk_seq (by kernel_rfl) ?_
              refine gk_region (by kernel_rfl) ?_
              refine gl_pure 3 [5, 10, 11, 88, 90] (K' := [(5, .slice A45 r32.length n46), (10, .int .i64 q143), (11, .int .i64 j145), (88, .float .f64 b141), (90, .float .f64 (FloatKind.nearest .f64 q143))]) (by kernel_rfl) ?_
              refine gl_farith (op := .sub) (t := 37) (t' := 37) (xx := (.tmp 88)) (yy := (.tmp 90)) hf142 (FRep.of (FloatKind.nearest .f64 q143)) (by kernel_rfl) (by kernel_rfl) rfl (by kernel_rfl) (by kernel_rfl) (fun b151 hf152 => ?_)
              refine gl_pure 1 [5, 10, 11, 12] (K' := [(5, .slice A45 r32.length n46), (10, .int .i64 q143), (11, .int .i64 j145), (12, .float .f64 b151)]) (by kernel_rfl) ?_
              refine gl_atE (by kernel_rfl) ?_
              refine ge_seq ?_
              refine gk_seq (by kernel_rfl) ?_
              refine gk_draw 14 [(0, true), (1, true), (2, true), (3, true), (4, true), (5, true), (6, true), (7, true), (8, true), (9, true), (10, true), (11, true), (12, true), (13, true)] [] (fun p hp => by cases hp) (by kernel_rfl) (by kernel_rfl) (by kernel_rfl) ?_ (by kernel_rfl)
              refine gd_ofQ (by kernel_rfl) (fun p hp => by cases hp) ?_
              refine gq_pure 2 [5, 11, 12, 92, 93] (K' := [(5, .slice A45 r32.length n46), (11, .int .i64 j145), (12, .float .f64 b151), (92, .slice A45 r32.length n46), (93, .int .i64 q143)]) (s' := [(2, true), (3, true), (4, true), (5, true), (6, true), (7, true), (8, true), (9, true), (10, true), (11, true), (12, true), (13, true)]) (by kernel_rfl) ?_
              refine gq_step (by kernel_rfl) (by kernel_rfl) ?_
              obtain ⟨x153, hx154, hr⟩ := bind_some hr
              refine gl_indexAddrW (d := Kd.flt) (c := n46) (T' := 43) (e := 37) (xs := (.tmp 92)) (xi := (.tmp 93)) (kd := .i64) hx154 (hO48.mono hI147) (Upd.selfC _ _) (by kernel_rfl) (by kernel_rfl) (by kernel_rfl) (by kernel_rfl) (by kernel_rfl) (fun p155 cs156 hR157 hA158 hp163 => ?_)
              obtain ⟨b161, rfl, hf162⟩ := hR157
              refine gq_end (by kernel_rfl) ?_
              refine gq_step (by kernel_rfl) (by kernel_rfl) ?_
              refine gl_loadO (T' := 37) (xp := (.tmp 94)) (p := p155) (c := .float .f64 b161) (n := 1) (by kernel_rfl) (by kernel_rfl) (by kernel_rfl) (by kernel_rfl) hA158 ?_
              refine gq_end (by kernel_rfl) ?_
              refine gq_pure 1 [5, 11, 12, 95, 96] (K' := [(5, .slice A45 r32.length n46), (11, .int .i64 j145), (12, .float .f64 b151), (95, .float .f64 b161), (96, .float .f64 b151)]) (s' := [(5, true), (6, true), (7, true), (8, true), (9, true), (10, true), (11, true), (12, true), (13, true)]) (by kernel_rfl) ?_
              refine gq_step (by kernel_rfl) (by kernel_rfl) ?_
              refine gl_farith (op := .sub) (t := 37) (t' := 37) (xx := (.const (.float .f64 4607182418800017408))) (yy := (.tmp 96)) (FRep.of 4607182418800017408) hf152 (by kernel_rfl) (by kernel_rfl) rfl (by kernel_rfl) (by kernel_rfl) (fun b164 hf165 => ?_)
              refine gq_end (by kernel_rfl) ?_
              refine gq_step (by kernel_rfl) (by kernel_rfl) ?_
              refine gl_farith (op := .mul) (t := 37) (t' := 37) (xx := (.tmp 95)) (yy := (.tmp 97)) hf162 hf165 (by kernel_rfl) (by kernel_rfl) rfl (by kernel_rfl) (by kernel_rfl) (fun b166 hf167 => ?_)
              refine gq_end (by kernel_rfl) ?_
              refine gq_pure 2 [12, 98, 99, 100] (K' := [(12, .float .f64 b151), (98, .float .f64 b166), (99, .slice A45 r32.length n46), (100, .int .i64 j145)]) (s' := [(9, true), (10, true), (11, true), (12, true), (13, true)]) (by kernel_rfl) ?_
              refine gq_step (by kernel_rfl) (by kernel_rfl) ?_
              obtain ⟨x168, hx169, hr⟩ := bind_some hr
              refine gl_indexAddrW (d := Kd.flt) (c := n46) (T' := 43) (e := 37) (xs := (.tmp 99)) (xi := (.tmp 100)) (kd := .i64) hx169 (hO48.mono hI147) (Upd.selfC _ _) (by kernel_rfl) (by kernel_rfl) (by kernel_rfl) (by kernel_rfl) (by kernel_rfl) (fun p170 cs171 hR172 hA173 hp178 => ?_)
              obtain ⟨b176, rfl, hf177⟩ := hR172
              refine gq_end (by kernel_rfl) ?_
              refine gq_step (by kernel_rfl) (by kernel_rfl) ?_
              refine gl_loadO (T' := 37) (xp := (.tmp 101)) (p := p170) (c := .float .f64 b176) (n := 1) (by kernel_rfl) (by kernel_rfl) (by kernel_rfl) (by kernel_rfl) hA173 ?_
              refine gq_end (by kernel_rfl) ?_
              refine gq_pure 1 [98, 102, 103] (K' := [(98, .float .f64 b166), (102, .float .f64 b176), (103, .float .f64 b151)]) (s' := [(12, true), (13, true)]) (by kernel_rfl) ?_
              refine gq_step (by kernel_rfl) (by kernel_rfl) ?_
              refine gl_farith (op := .mul) (t := 37) (t' := 37) (xx := (.tmp 102)) (yy := (.tmp 103)) hf177 hf152 (by kernel_rfl) (by kernel_rfl) rfl (by kernel_rfl) (by kernel_rfl) (fun b179 hf180 => ?_)
              refine gq_end (by kernel_rfl) ?_
              refine gq_step (by kernel_rfl) (by kernel_rfl) ?_
              refine gl_farith (op := .add) (t := 37) (t' := 37) (xx := (.tmp 98)) (yy := (.tmp 104)) hf167 hf180 (by kernel_rfl) (by kernel_rfl) rfl (by kernel_rfl) (by kernel_rfl) (fun b181 hf182 => ?_)
              refine gq_end (by kernel_rfl) ?_
              refine gq_done ?_
              refine gl_call (by kernel_rfl) (tocsinref15_Told_walk (r := (tocsinref15_Told (farith .add (farith .mul x153 (farith .sub (some 4607182418800017408 : Fl) (farith .sub (farith .mul a0 (some (FloatKind.nearest .f64 (IntKind.wrap .i64 ((r32.length : Int) - 1))) : Fl)) (some (FloatKind.nearest .f64 q143) : Fl)))) (farith .mul x168 (farith .sub (farith .mul a0 (some (FloatKind.nearest .f64 (IntKind.wrap .i64 ((r32.length : Int) - 1))) : Fl)) (some (FloatKind.nearest .f64 q143) : Fl)))))) hf182 rfl _) ?_
              rintro v I183 L184 hI185 ⟨z186, hO187, rfl, rfl⟩
              refine gl_pure 1 [4] (K' := [(4, .float .f64 z186)]) (by kernel_rfl) ?_
              refine gl_atE (by kernel_rfl) ?_
              refine ge_seq ?_
              refine gk_reord (D := L) (Reord.skipC (Reord.refl _)) ?_
              refine gk_ret (by kernel_rfl) ?_
              obtain rfl := some_inj hr
              exact ge_result trivial (ResOk.tmp (by kernel_rfl) ResOk.nil) (Imm.trans (Imm.trans (Imm.trans hI3 hI44) hI147) hI185) ⟨z186, hO187, rfl, rfl⟩
/-! 27 tocsinref16_Fold  -/
noncomputable def tocsinref16_Fold (a0 : ByteArray) (a1 : List Fl) (a2 : Fl) : Option (Fl × Int) :=
  bif (!(((((((((a0.toList == (⟨#[115, 117, 109]⟩ : ByteArray).toList) || (a0.toList == (⟨#[97, 118, 103]⟩ : ByteArray).toList)) || (a0.toList == (⟨#[109, 105, 110]⟩ : ByteArray).toList)) || (a0.toList == (⟨#[109, 97, 120]⟩ : ByteArray).toList)) || (a0.toList == (⟨#[99, 111, 117, 110, 116]⟩ : ByteArray).toList)) || (a0.toList == (⟨#[103, 114, 111, 117, 112]⟩ : ByteArray).toList)) || (a0.toList == (⟨#[115, 116, 100, 118, 97, 114]⟩ : ByteArray).toList)) || (a0.toList == (⟨#[115, 116, 100, 100, 101, 118]⟩ : ByteArray).toList)) || (a0.toList == (⟨#[113, 117, 97, 110, 116, 105, 108, 101]⟩ : ByteArray).toList))) then
  (some ((some 0 : Fl), 60))
  else
  (bif ((a1.length : Int) == 0) then
    (some ((some 0 : Fl), 5))
    else
    (Option.bind (bif (a0.toList == (⟨#[115, 117, 109]⟩ : ByteArray).toList) then
        (Option.bind (tocsinref16_sum a1) fun (y24 : Fl) =>
          some y24)
        else
        (Option.bind (bif (a0.toList == (⟨#[97, 118, 103]⟩ : ByteArray).toList) then
            (Option.bind (tocsinref16_sum a1) fun (y39 : Fl) =>
              some (farith .quo y39 (some (FloatKind.nearest .f64 (a1.length : Int)) : Fl)))
            else
            (Option.bind (bif (a0.toList == (⟨#[109, 105, 110]⟩ : ByteArray).toList) then
                (some (a0.toList == (⟨#[109, 105, 110]⟩ : ByteArray).toList))
                else
                (some (a0.toList == (⟨#[109, 97, 120]⟩ : ByteArray).toList))) fun (j48 : Bool) =>
              Option.bind (bif j48 then
                (Option.bind (tocsinref16_best a1 (a0.toList == (⟨#[109, 105, 110]⟩ : ByteArray).toList)) fun (y62 : Fl) =>
                  some y62)
                else
                (Option.bind (bif (a0.toList == (⟨#[103, 114, 111, 117, 112]⟩ : ByteArray).toList) then
                    (some (some 4607182418800017408 : Fl))
                    else
                    (Option.bind (bif (a0.toList == (⟨#[115, 116, 100, 118, 97, 114]⟩ : ByteArray).toList) then
                        (Option.bind (tocsinref16_spread a1) fun (y85 : Fl) =>
                          some y85)
                        else
                        (Option.bind (bif (a0.toList == (⟨#[115, 116, 100, 100, 101, 118]⟩ : ByteArray).toList) then
                            (Option.bind (tocsinref16_spread a1) fun (y100 : Fl) =>
                              some (math_Sqrt y100))
                            else
                            (Option.bind (bif (a0.toList == (⟨#[113, 117, 97, 110, 116, 105, 108, 101]⟩ : ByteArray).toList) then
                                (Option.bind (tocsinref15_Quantile a2 a1) fun (y120 : Fl) =>
                                  some y120)
                                else
                                (some (some (FloatKind.nearest .f64 (a1.length : Int)) : Fl))) fun (j112 : Fl) =>
                              some j112)) fun (j92 : Fl) =>
                          some j92)) fun (j77 : Fl) =>
                      some j77)) fun (j69 : Fl) =>
                  some j69)) fun (j54 : Fl) =>
              some j54)) fun (j31 : Fl) =>
          some j31)) fun (j16 : Fl) =>
      some ((tocsinref15_Told j16), 0)))
theorem tocsinref16_Fold_walk {a0 : ByteArray} {a1 : List Fl} {A1_0 : Option Addr} {n1_0 : Nat} {a2 : Fl} {b2_0 : Nat} {I : Imm} {r : Fl × Int}  (hf1_0 : RepS Kd.flt I A1_0 n1_0 a1)  (hf2_0 : FRep a2 b2_0) (hr : tocsinref16_Fold a0 a1 a2 = some r) (L : Own) :
    CallsTo Tryz.prog 27 #[.string a0, .slice A1_0 a1.length n1_0, .float .f64 b2_0] I L (fun v I' L' => ∃ b0_0, FRep r.1 b0_0 ∧ v = .tuple #[.float .f64 b0_0, .int .i64 r.2] ∧ L = L') := by
  unfold tocsinref16_Fold at hr
  refine callsTo_body (N := 90) Tryz.func27 (by kernel_rfl) (by kernel_rfl) (by kernel_rfl) ?_
  refine gk_pick [0, 1, 2] (K' := [(0, .string a0), (1, .slice A1_0 a1.length n1_0), (2, .float .f64 b2_0)]) (by kernel_rfl) ?_
  refine gk_seq (by kernel_rfl) ?_
  refine gk_region (by kernel_rfl) ?_
  refine gl_pure 2 [0, 1, 2] (K' := [(0, .string a0), (1, .slice A1_0 a1.length n1_0), (2, .float .f64 b2_0)]) (by kernel_rfl) ?_
  refine gl_atE (by kernel_rfl) ?_
  refine ge_seq ?_
  refine gk_seq (by kernel_rfl) ?_
  obtain ⟨b3, hb4⟩ : ∃ z, z = (((((((((a0.toList == (⟨#[115, 117, 109]⟩ : ByteArray).toList) || (a0.toList == (⟨#[97, 118, 103]⟩ : ByteArray).toList)) || (a0.toList == (⟨#[109, 105, 110]⟩ : ByteArray).toList)) || (a0.toList == (⟨#[109, 97, 120]⟩ : ByteArray).toList)) || (a0.toList == (⟨#[99, 111, 117, 110, 116]⟩ : ByteArray).toList)) || (a0.toList == (⟨#[103, 114, 111, 117, 112]⟩ : ByteArray).toList)) || (a0.toList == (⟨#[115, 116, 100, 118, 97, 114]⟩ : ByteArray).toList)) || (a0.toList == (⟨#[115, 116, 100, 100, 101, 118]⟩ : ByteArray).toList)) || (a0.toList == (⟨#[113, 117, 97, 110, 116, 105, 108, 101]⟩ : ByteArray).toList)) := ⟨_, rfl⟩
  refine gk_join (fun t I' L' => I ≤ I' ∧ L = L' ∧ Knows 90 [(0, .string a0), (1, .slice A1_0 a1.length n1_0), (2, .float .f64 b2_0), (8, .bool b3)] t) ?_ ?_
  · refine gk_region (by kernel_rfl) ?_
    refine gl_pure 3 [0, 1, 2, 13] (K' := [(0, .string a0), (1, .slice A1_0 a1.length n1_0), (2, .float .f64 b2_0), (13, .bool (a0.toList == (⟨#[115, 117, 109]⟩ : ByteArray).toList))]) (by kernel_rfl) ?_
    refine gl_case 13 (b := (a0.toList == (⟨#[115, 117, 109]⟩ : ByteArray).toList)) (by kernel_rfl) (fun hc6 => ?_) (fun hc6 => ?_)
    · refine gl_pure 32 [0, 1, 2, 8] (K' := [(0, .string a0), (1, .slice A1_0 a1.length n1_0), (2, .float .f64 b2_0), (8, .bool true)]) (by kernel_rfl) ?_
      refine gl_atE (by kernel_rfl) ?_
      exact ge_mid fun t ht => ⟨(Imm.refl _), rfl, by rw [(show b3 = true from hb4.trans (by first | (rw [hc6]; done) | (rw [hc6]; rfl) | (simp [hc6]; done) | (simp only [hc6]; rfl) | (simp at *; omega)))]; exact ht.pick (l := [0, 1, 2, 8]) (by kernel_rfl)⟩
    · refine gl_pure 4 [0, 1, 2, 17] (K' := [(0, .string a0), (1, .slice A1_0 a1.length n1_0), (2, .float .f64 b2_0), (17, .bool (a0.toList == (⟨#[97, 118, 103]⟩ : ByteArray).toList))]) (by kernel_rfl) ?_
      refine gl_case 17 (b := (a0.toList == (⟨#[97, 118, 103]⟩ : ByteArray).toList)) (by kernel_rfl) (fun hc7 => ?_) (fun hc7 => ?_)
      · refine gl_pure 28 [0, 1, 2, 8] (K' := [(0, .string a0), (1, .slice A1_0 a1.length n1_0), (2, .float .f64 b2_0), (8, .bool true)]) (by kernel_rfl) ?_
        refine gl_atE (by kernel_rfl) ?_
        exact ge_mid fun t ht => ⟨(Imm.refl _), rfl, by rw [(show b3 = true from hb4.trans (by first | (rw [hc6, hc7]; done) | (rw [hc6, hc7]; rfl) | (simp [hc6, hc7]; done) | (simp only [hc6, hc7]; rfl) | (simp at *; omega)))]; exact ht.pick (l := [0, 1, 2, 8]) (by kernel_rfl)⟩
      · refine gl_pure 4 [0, 1, 2, 21] (K' := [(0, .string a0), (1, .slice A1_0 a1.length n1_0), (2, .float .f64 b2_0), (21, .bool (a0.toList == (⟨#[109, 105, 110]⟩ : ByteArray).toList))]) (by kernel_rfl) ?_
        refine gl_case 21 (b := (a0.toList == (⟨#[109, 105, 110]⟩ : ByteArray).toList)) (by kernel_rfl) (fun hc8 => ?_) (fun hc8 => ?_)
        · refine gl_pure 24 [0, 1, 2, 8] (K' := [(0, .string a0), (1, .slice A1_0 a1.length n1_0), (2, .float .f64 b2_0), (8, .bool true)]) (by kernel_rfl) ?_
          refine gl_atE (by kernel_rfl) ?_
          exact ge_mid fun t ht => ⟨(Imm.refl _), rfl, by rw [(show b3 = true from hb4.trans (by first | (rw [hc6, hc7, hc8]; done) | (rw [hc6, hc7, hc8]; rfl) | (simp [hc6, hc7, hc8]; done) | (simp only [hc6, hc7, hc8]; rfl) | (simp at *; omega)))]; exact ht.pick (l := [0, 1, 2, 8]) (by kernel_rfl)⟩
        · refine gl_pure 4 [0, 1, 2, 25] (K' := [(0, .string a0), (1, .slice A1_0 a1.length n1_0), (2, .float .f64 b2_0), (25, .bool (a0.toList == (⟨#[109, 97, 120]⟩ : ByteArray).toList))]) (by kernel_rfl) ?_
          refine gl_case 25 (b := (a0.toList == (⟨#[109, 97, 120]⟩ : ByteArray).toList)) (by kernel_rfl) (fun hc9 => ?_) (fun hc9 => ?_)
          · refine gl_pure 20 [0, 1, 2, 8] (K' := [(0, .string a0), (1, .slice A1_0 a1.length n1_0), (2, .float .f64 b2_0), (8, .bool true)]) (by kernel_rfl) ?_
            refine gl_atE (by kernel_rfl) ?_
            exact ge_mid fun t ht => ⟨(Imm.refl _), rfl, by rw [(show b3 = true from hb4.trans (by first | (rw [hc6, hc7, hc8, hc9]; done) | (rw [hc6, hc7, hc8, hc9]; rfl) | (simp [hc6, hc7, hc8, hc9]; done) | (simp only [hc6, hc7, hc8, hc9]; rfl) | (simp at *; omega)))]; exact ht.pick (l := [0, 1, 2, 8]) (by kernel_rfl)⟩
          · refine gl_pure 4 [0, 1, 2, 29] (K' := [(0, .string a0), (1, .slice A1_0 a1.length n1_0), (2, .float .f64 b2_0), (29, .bool (a0.toList == (⟨#[99, 111, 117, 110, 116]⟩ : ByteArray).toList))]) (by kernel_rfl) ?_
            refine gl_case 29 (b := (a0.toList == (⟨#[99, 111, 117, 110, 116]⟩ : ByteArray).toList)) (by kernel_rfl) (fun hc10 => ?_) (fun hc10 => ?_)
            · refine gl_pure 16 [0, 1, 2, 8] (K' := [(0, .string a0), (1, .slice A1_0 a1.length n1_0), (2, .float .f64 b2_0), (8, .bool true)]) (by kernel_rfl) ?_
              refine gl_atE (by kernel_rfl) ?_
              exact ge_mid fun t ht => ⟨(Imm.refl _), rfl, by rw [(show b3 = true from hb4.trans (by first | (rw [hc6, hc7, hc8, hc9, hc10]; done) | (rw [hc6, hc7, hc8, hc9, hc10]; rfl) | (simp [hc6, hc7, hc8, hc9, hc10]; done) | (simp only [hc6, hc7, hc8, hc9, hc10]; rfl) | (simp at *; omega)))]; exact ht.pick (l := [0, 1, 2, 8]) (by kernel_rfl)⟩
            · refine gl_pure 4 [0, 1, 2, 33] (K' := [(0, .string a0), (1, .slice A1_0 a1.length n1_0), (2, .float .f64 b2_0), (33, .bool (a0.toList == (⟨#[103, 114, 111, 117, 112]⟩ : ByteArray).toList))]) (by kernel_rfl) ?_
              refine gl_case 33 (b := (a0.toList == (⟨#[103, 114, 111, 117, 112]⟩ : ByteArray).toList)) (by kernel_rfl) (fun hc11 => ?_) (fun hc11 => ?_)
              · refine gl_pure 12 [0, 1, 2, 8] (K' := [(0, .string a0), (1, .slice A1_0 a1.length n1_0), (2, .float .f64 b2_0), (8, .bool true)]) (by kernel_rfl) ?_
                refine gl_atE (by kernel_rfl) ?_
                exact ge_mid fun t ht => ⟨(Imm.refl _), rfl, by rw [(show b3 = true from hb4.trans (by first | (rw [hc6, hc7, hc8, hc9, hc10, hc11]; done) | (rw [hc6, hc7, hc8, hc9, hc10, hc11]; rfl) | (simp [hc6, hc7, hc8, hc9, hc10, hc11]; done) | (simp only [hc6, hc7, hc8, hc9, hc10, hc11]; rfl) | (simp at *; omega)))]; exact ht.pick (l := [0, 1, 2, 8]) (by kernel_rfl)⟩
              · refine gl_pure 4 [0, 1, 2, 37] (K' := [(0, .string a0), (1, .slice A1_0 a1.length n1_0), (2, .float .f64 b2_0), (37, .bool (a0.toList == (⟨#[115, 116, 100, 118, 97, 114]⟩ : ByteArray).toList))]) (by kernel_rfl) ?_
                refine gl_case 37 (b := (a0.toList == (⟨#[115, 116, 100, 118, 97, 114]⟩ : ByteArray).toList)) (by kernel_rfl) (fun hc12 => ?_) (fun hc12 => ?_)
                · refine gl_pure 8 [0, 1, 2, 8] (K' := [(0, .string a0), (1, .slice A1_0 a1.length n1_0), (2, .float .f64 b2_0), (8, .bool true)]) (by kernel_rfl) ?_
                  refine gl_atE (by kernel_rfl) ?_
                  exact ge_mid fun t ht => ⟨(Imm.refl _), rfl, by rw [(show b3 = true from hb4.trans (by first | (rw [hc6, hc7, hc8, hc9, hc10, hc11, hc12]; done) | (rw [hc6, hc7, hc8, hc9, hc10, hc11, hc12]; rfl) | (simp [hc6, hc7, hc8, hc9, hc10, hc11, hc12]; done) | (simp only [hc6, hc7, hc8, hc9, hc10, hc11, hc12]; rfl) | (simp at *; omega)))]; exact ht.pick (l := [0, 1, 2, 8]) (by kernel_rfl)⟩
                · refine gl_pure 4 [0, 1, 2, 41] (K' := [(0, .string a0), (1, .slice A1_0 a1.length n1_0), (2, .float .f64 b2_0), (41, .bool (a0.toList == (⟨#[115, 116, 100, 100, 101, 118]⟩ : ByteArray).toList))]) (by kernel_rfl) ?_
                  refine gl_case 41 (b := (a0.toList == (⟨#[115, 116, 100, 100, 101, 118]⟩ : ByteArray).toList)) (by kernel_rfl) (fun hc13 => ?_) (fun hc13 => ?_)
                  · refine gl_pure 4 [0, 1, 2, 8] (K' := [(0, .string a0), (1, .slice A1_0 a1.length n1_0), (2, .float .f64 b2_0), (8, .bool true)]) (by kernel_rfl) ?_
                    refine gl_atE (by kernel_rfl) ?_
                    exact ge_mid fun t ht => ⟨(Imm.refl _), rfl, by rw [(show b3 = true from hb4.trans (by first | (rw [hc6, hc7, hc8, hc9, hc10, hc11, hc12, hc13]; done) | (rw [hc6, hc7, hc8, hc9, hc10, hc11, hc12, hc13]; rfl) | (simp [hc6, hc7, hc8, hc9, hc10, hc11, hc12, hc13]; done) | (simp only [hc6, hc7, hc8, hc9, hc10, hc11, hc12, hc13]; rfl) | (simp at *; omega)))]; exact ht.pick (l := [0, 1, 2, 8]) (by kernel_rfl)⟩
                  · refine gl_pure 4 [0, 1, 2, 8] (K' := [(0, .string a0), (1, .slice A1_0 a1.length n1_0), (2, .float .f64 b2_0), (8, .bool (a0.toList == (⟨#[113, 117, 97, 110, 116, 105, 108, 101]⟩ : ByteArray).toList))]) (by kernel_rfl) ?_
                    refine gl_atE (by kernel_rfl) ?_
                    exact ge_mid fun t ht => ⟨(Imm.refl _), rfl, by rw [(show b3 = (a0.toList == (⟨#[113, 117, 97, 110, 116, 105, 108, 101]⟩ : ByteArray).toList) from hb4.trans (by first | (rw [hc6, hc7, hc8, hc9, hc10, hc11, hc12, hc13]; done) | (rw [hc6, hc7, hc8, hc9, hc10, hc11, hc12, hc13]; rfl) | (simp [hc6, hc7, hc8, hc9, hc10, hc11, hc12, hc13]; done) | (simp only [hc6, hc7, hc8, hc9, hc10, hc11, hc12, hc13]; rfl) | (simp at *; omega)))]; exact ht.pick (l := [0, 1, 2, 8]) (by kernel_rfl)⟩
  · rintro t I5 L' ⟨hI1, rfl, hK2⟩
    subst hb4
    refine ge_at hK2 ?_
    refine ge_seq ?_
    refine gk_seq (by kernel_rfl) ?_
    refine gk_seq (by kernel_rfl) ?_
    refine gk_region (by kernel_rfl) ?_
    refine gl_pure 2 [0, 1, 2, 46] (K' := [(0, .string a0), (1, .slice A1_0 a1.length n1_0), (2, .float .f64 b2_0), (46, .bool (!(((((((((a0.toList == (⟨#[115, 117, 109]⟩ : ByteArray).toList) || (a0.toList == (⟨#[97, 118, 103]⟩ : ByteArray).toList)) || (a0.toList == (⟨#[109, 105, 110]⟩ : ByteArray).toList)) || (a0.toList == (⟨#[109, 97, 120]⟩ : ByteArray).toList)) || (a0.toList == (⟨#[99, 111, 117, 110, 116]⟩ : ByteArray).toList)) || (a0.toList == (⟨#[103, 114, 111, 117, 112]⟩ : ByteArray).toList)) || (a0.toList == (⟨#[115, 116, 100, 118, 97, 114]⟩ : ByteArray).toList)) || (a0.toList == (⟨#[115, 116, 100, 100, 101, 118]⟩ : ByteArray).toList)) || (a0.toList == (⟨#[113, 117, 97, 110, 116, 105, 108, 101]⟩ : ByteArray).toList))))]) (by kernel_rfl) ?_
    refine gl_atE (by kernel_rfl) ?_
    refine ge_seq ?_
    refine gk_cond (b := (!(((((((((a0.toList == (⟨#[115, 117, 109]⟩ : ByteArray).toList) || (a0.toList == (⟨#[97, 118, 103]⟩ : ByteArray).toList)) || (a0.toList == (⟨#[109, 105, 110]⟩ : ByteArray).toList)) || (a0.toList == (⟨#[109, 97, 120]⟩ : ByteArray).toList)) || (a0.toList == (⟨#[99, 111, 117, 110, 116]⟩ : ByteArray).toList)) || (a0.toList == (⟨#[103, 114, 111, 117, 112]⟩ : ByteArray).toList)) || (a0.toList == (⟨#[115, 116, 100, 118, 97, 114]⟩ : ByteArray).toList)) || (a0.toList == (⟨#[115, 116, 100, 100, 101, 118]⟩ : ByteArray).toList)) || (a0.toList == (⟨#[113, 117, 97, 110, 116, 105, 108, 101]⟩ : ByteArray).toList)))) (by kernel_rfl) (by kernel_rfl) (fun hc14 => ?_) (fun hc14 => ?_)
    · have hr := cond_t hc14 hr
      refine gk_seq (by kernel_rfl) ?_
      refine gk_region (by kernel_rfl) ?_
      refine gl_pure 2 [6, 7] (K' := [(6, .float .f64 0), (7, .int .i64 60)]) (by kernel_rfl) ?_
      refine gl_atE (by kernel_rfl) ?_
      refine ge_seq ?_
      refine gk_ret (by kernel_rfl) ?_
      refine ge_seq_ret ?_
      obtain rfl := some_inj hr
      exact ge_result trivial (ResOk.tmp (by kernel_rfl) (ResOk.tmp (by kernel_rfl) ResOk.nil)) hI1 ⟨0, (FRep.of 0), rfl, rfl⟩
    · have hr := cond_f hc14 hr
      refine gk_skip (by kernel_rfl) ?_
      refine ge_seq ?_
      refine gk_seq (by kernel_rfl) ?_
      refine gk_seq (by kernel_rfl) ?_
      refine gk_region (by kernel_rfl) ?_
      refine gl_pure 3 [0, 1, 2, 49] (K' := [(0, .string a0), (1, .slice A1_0 a1.length n1_0), (2, .float .f64 b2_0), (49, .bool ((a1.length : Int) == 0))]) (by kernel_rfl) ?_
      refine gl_atE (by kernel_rfl) ?_
      refine ge_seq ?_
      refine gk_cond (b := ((a1.length : Int) == 0)) (by kernel_rfl) (by kernel_rfl) (fun hc15 => ?_) (fun hc15 => ?_)
      · have hr := cond_t hc15 hr
        refine gk_seq (by kernel_rfl) ?_
        refine gk_region (by kernel_rfl) ?_
        refine gl_pure 2 [6, 7] (K' := [(6, .float .f64 0), (7, .int .i64 5)]) (by kernel_rfl) ?_
        refine gl_atE (by kernel_rfl) ?_
        refine ge_seq ?_
        refine gk_ret (by kernel_rfl) ?_
        refine ge_seq_ret ?_
        obtain rfl := some_inj hr
        exact ge_result trivial (ResOk.tmp (by kernel_rfl) (ResOk.tmp (by kernel_rfl) ResOk.nil)) hI1 ⟨0, (FRep.of 0), rfl, rfl⟩
      · have hr := cond_f hc15 hr
        refine gk_skip (by kernel_rfl) ?_
        refine ge_seq ?_
        refine gk_seq (by kernel_rfl) ?_
        refine gk_region (by kernel_rfl) ?_
        refine gl_pure 4 [0, 1, 2, 9] (K' := [(0, .string a0), (1, .slice A1_0 a1.length n1_0), (2, .float .f64 b2_0), (9, .float .f64 (FloatKind.nearest .f64 (a1.length : Int)))]) (by kernel_rfl) ?_
        refine gl_atE (by kernel_rfl) ?_
        refine ge_seq ?_
        refine gk_seq (by kernel_rfl) ?_
        refine gk_region (by kernel_rfl) ?_
        refine gl_pure 2 [0, 1, 2, 9, 10] (K' := [(0, .string a0), (1, .slice A1_0 a1.length n1_0), (2, .float .f64 b2_0), (9, .float .f64 (FloatKind.nearest .f64 (a1.length : Int))), (10, .float .f64 (FloatKind.nearest .f64 (a1.length : Int)))]) (by kernel_rfl) ?_
        refine gl_atE (by kernel_rfl) ?_
        refine ge_seq ?_
        refine gk_seq (by kernel_rfl) ?_
        refine gk_seq (by kernel_rfl) ?_
        refine gk_region (by kernel_rfl) ?_
        refine gl_pure 1 [0, 1, 2, 9, 10, 54] (K' := [(0, .string a0), (1, .slice A1_0 a1.length n1_0), (2, .float .f64 b2_0), (9, .float .f64 (FloatKind.nearest .f64 (a1.length : Int))), (10, .float .f64 (FloatKind.nearest .f64 (a1.length : Int))), (54, .string a0)]) (by kernel_rfl) ?_
        refine gl_atE (by kernel_rfl) ?_
        refine ge_seq ?_
        refine gk_block (by kernel_rfl) ?_
        refine gk_seq (by kernel_rfl) ?_
        refine gk_region (by kernel_rfl) ?_
        refine gl_pure 2 [0, 1, 2, 9, 10, 54, 55] (K' := [(0, .string a0), (1, .slice A1_0 a1.length n1_0), (2, .float .f64 b2_0), (9, .float .f64 (FloatKind.nearest .f64 (a1.length : Int))), (10, .float .f64 (FloatKind.nearest .f64 (a1.length : Int))), (54, .string a0), (55, .bool (a0.toList == (⟨#[115, 117, 109]⟩ : ByteArray).toList))]) (by kernel_rfl) ?_
        refine gl_atE (by kernel_rfl) ?_
        refine ge_seq ?_
        obtain ⟨j16, hj17, hr⟩ := bind_some hr
        refine gk_join (fun t I' L' => ∃ b19, FRep j16 b19 ∧ I5 ≤ I' ∧ L = L' ∧ Knows 90 [(10, .float .f64 b19)] t) ?_ ?_
        · refine gk_cond (b := (a0.toList == (⟨#[115, 117, 109]⟩ : ByteArray).toList)) (by kernel_rfl) (by kernel_rfl) (fun hc23 => ?_) (fun hc23 => ?_)
          · have hj17 := cond_t hc23 hj17
            refine gk_region (by kernel_rfl) ?_
            refine gl_pure 1 [57] (K' := [(57, .slice A1_0 a1.length n1_0)]) (by kernel_rfl) ?_
            obtain ⟨y24, hx25, hj17⟩ := bind_some hj17
            refine gl_call (by kernel_rfl) (tocsinref16_sum_walk (r := y24) (hf1_0.mono hI1) hx25 _) ?_
            rintro v I26 L27 hI28 ⟨z29, hO30, rfl, rfl⟩
            refine gl_pure 1 [10] (K' := [(10, .float .f64 z29)]) (by kernel_rfl) ?_
            refine gl_atE (by kernel_rfl) ?_
            obtain rfl := some_inj hj17
            exact ge_mid fun t ht => ⟨z29, hO30, hI28, rfl, ht.pick (l := [10]) (by kernel_rfl)⟩
          · have hj17 := cond_f hc23 hj17
            refine gk_seq (by kernel_rfl) ?_
            refine gk_region (by kernel_rfl) ?_
            refine gl_pure 2 [0, 1, 2, 9, 10, 54, 59] (K' := [(0, .string a0), (1, .slice A1_0 a1.length n1_0), (2, .float .f64 b2_0), (9, .float .f64 (FloatKind.nearest .f64 (a1.length : Int))), (10, .float .f64 (FloatKind.nearest .f64 (a1.length : Int))), (54, .string a0), (59, .bool (a0.toList == (⟨#[97, 118, 103]⟩ : ByteArray).toList))]) (by kernel_rfl) ?_
            refine gl_atE (by kernel_rfl) ?_
            refine ge_seq ?_
            obtain ⟨j31, hj32, hj17⟩ := bind_some hj17
            refine gk_join (fun t I' L' => ∃ b34, FRep j31 b34 ∧ I5 ≤ I' ∧ L = L' ∧ Knows 90 [(10, .float .f64 b34)] t) ?_ ?_
            · refine gk_cond (b := (a0.toList == (⟨#[97, 118, 103]⟩ : ByteArray).toList)) (by kernel_rfl) (by kernel_rfl) (fun hc38 => ?_) (fun hc38 => ?_)
              · have hj32 := cond_t hc38 hj32
                refine gk_region (by kernel_rfl) ?_
                refine gl_pure 1 [9, 61] (K' := [(9, .float .f64 (FloatKind.nearest .f64 (a1.length : Int))), (61, .slice A1_0 a1.length n1_0)]) (by kernel_rfl) ?_
                obtain ⟨y39, hx40, hj32⟩ := bind_some hj32
                refine gl_call (by kernel_rfl) (tocsinref16_sum_walk (r := y39) (hf1_0.mono hI1) hx40 _) ?_
                rintro v I41 L42 hI43 ⟨z44, hO45, rfl, rfl⟩
                refine gl_pure 1 [62, 63] (K' := [(62, .float .f64 z44), (63, .float .f64 (FloatKind.nearest .f64 (a1.length : Int)))]) (by kernel_rfl) ?_
                refine gl_farith (op := .quo) (t := 37) (t' := 37) (xx := (.tmp 62)) (yy := (.tmp 63)) hO45 (FRep.of (FloatKind.nearest .f64 (a1.length : Int))) (by kernel_rfl) (by kernel_rfl) rfl (by kernel_rfl) (by kernel_rfl) (fun b46 hf47 => ?_)
                refine gl_pure 1 [10] (K' := [(10, .float .f64 b46)]) (by kernel_rfl) ?_
                refine gl_atE (by kernel_rfl) ?_
                obtain rfl := some_inj hj32
                exact ge_mid fun t ht => ⟨b46, hf47, hI43, rfl, ht.pick (l := [10]) (by kernel_rfl)⟩
              · have hj32 := cond_f hc38 hj32
                refine gk_seq (by kernel_rfl) ?_
                refine gk_seq (by kernel_rfl) ?_
                refine gk_region (by kernel_rfl) ?_
                refine gl_pure 2 [0, 1, 2, 10, 54, 65] (K' := [(0, .string a0), (1, .slice A1_0 a1.length n1_0), (2, .float .f64 b2_0), (10, .float .f64 (FloatKind.nearest .f64 (a1.length : Int))), (54, .string a0), (65, .bool (a0.toList == (⟨#[109, 105, 110]⟩ : ByteArray).toList))]) (by kernel_rfl) ?_
                refine gl_atE (by kernel_rfl) ?_
                refine ge_seq ?_
                obtain ⟨j48, hj49, hj32⟩ := bind_some hj32
                refine gk_join (fun t I' L' => I5 ≤ I' ∧ L = L' ∧ Knows 90 [(0, .string a0), (1, .slice A1_0 a1.length n1_0), (2, .float .f64 b2_0), (10, .float .f64 (FloatKind.nearest .f64 (a1.length : Int))), (54, .string a0), (65, .bool j48)] t) ?_ ?_
                · refine gk_cond (b := (a0.toList == (⟨#[109, 105, 110]⟩ : ByteArray).toList)) (by kernel_rfl) (by kernel_rfl) (fun hc53 => ?_) (fun hc53 => ?_)
                  · have hj49 := cond_t hc53 hj49
                    refine gk_skip (by kernel_rfl) ?_
                    obtain rfl := some_inj hj49
                    exact ge_mid fun t ht => ⟨(Imm.refl _), rfl, ht.pick (l := [0, 1, 2, 10, 54, 65]) (by kernel_rfl)⟩
                  · have hj49 := cond_f hc53 hj49
                    refine gk_region (by kernel_rfl) ?_
                    refine gl_pure 2 [0, 1, 2, 10, 54, 65] (K' := [(0, .string a0), (1, .slice A1_0 a1.length n1_0), (2, .float .f64 b2_0), (10, .float .f64 (FloatKind.nearest .f64 (a1.length : Int))), (54, .string a0), (65, .bool (a0.toList == (⟨#[109, 97, 120]⟩ : ByteArray).toList))]) (by kernel_rfl) ?_
                    refine gl_atE (by kernel_rfl) ?_
                    obtain rfl := some_inj hj49
                    exact ge_mid fun t ht => ⟨(Imm.refl _), rfl, ht.pick (l := [0, 1, 2, 10, 54, 65]) (by kernel_rfl)⟩
                · rintro t I52 L' ⟨hI50, rfl, hK51⟩
                  refine ge_at hK51 ?_
                  refine ge_seq ?_
                  obtain ⟨j54, hj55, hj32⟩ := bind_some hj32
                  refine gk_join (fun t I' L' => ∃ b57, FRep j54 b57 ∧ I52 ≤ I' ∧ L = L' ∧ Knows 90 [(10, .float .f64 b57)] t) ?_ ?_
                  · refine gk_cond (b := j48) (by kernel_rfl) (by kernel_rfl) (fun hc61 => ?_) (fun hc61 => ?_)
                    · have hj55 := cond_t hc61 hj55
                      refine gk_region (by kernel_rfl) ?_
                      refine gl_pure 3 [68, 70] (K' := [(68, .slice A1_0 a1.length n1_0), (70, .bool (a0.toList == (⟨#[109, 105, 110]⟩ : ByteArray).toList))]) (by kernel_rfl) ?_
                      obtain ⟨y62, hx63, hj55⟩ := bind_some hj55
                      refine gl_call (by kernel_rfl) (tocsinref16_best_walk (r := y62) (hf1_0.mono (Imm.trans hI1 hI50)) hx63 _) ?_
                      rintro v I64 L65 hI66 ⟨z67, hO68, rfl, rfl⟩
                      refine gl_pure 1 [10] (K' := [(10, .float .f64 z67)]) (by kernel_rfl) ?_
                      refine gl_atE (by kernel_rfl) ?_
                      obtain rfl := some_inj hj55
                      exact ge_mid fun t ht => ⟨z67, hO68, hI66, rfl, ht.pick (l := [10]) (by kernel_rfl)⟩
                    · have hj55 := cond_f hc61 hj55
                      refine gk_seq (by kernel_rfl) ?_
                      refine gk_region (by kernel_rfl) ?_
                      refine gl_pure 2 [1, 2, 10, 54, 72] (K' := [(1, .slice A1_0 a1.length n1_0), (2, .float .f64 b2_0), (10, .float .f64 (FloatKind.nearest .f64 (a1.length : Int))), (54, .string a0), (72, .bool (a0.toList == (⟨#[103, 114, 111, 117, 112]⟩ : ByteArray).toList))]) (by kernel_rfl) ?_
                      refine gl_atE (by kernel_rfl) ?_
                      refine ge_seq ?_
                      obtain ⟨j69, hj70, hj55⟩ := bind_some hj55
                      refine gk_join (fun t I' L' => ∃ b72, FRep j69 b72 ∧ I52 ≤ I' ∧ L = L' ∧ Knows 90 [(10, .float .f64 b72)] t) ?_ ?_
                      · refine gk_cond (b := (a0.toList == (⟨#[103, 114, 111, 117, 112]⟩ : ByteArray).toList)) (by kernel_rfl) (by kernel_rfl) (fun hc76 => ?_) (fun hc76 => ?_)
                        · have hj70 := cond_t hc76 hj70
                          refine gk_region (by kernel_rfl) ?_
                          refine gl_pure 1 [10] (K' := [(10, .float .f64 4607182418800017408)]) (by kernel_rfl) ?_
                          refine gl_atE (by kernel_rfl) ?_
                          obtain rfl := some_inj hj70
                          exact ge_mid fun t ht => ⟨4607182418800017408, (FRep.of 4607182418800017408), (Imm.refl _), rfl, ht.pick (l := [10]) (by kernel_rfl)⟩
                        · have hj70 := cond_f hc76 hj70
                          refine gk_seq (by kernel_rfl) ?_
                          refine gk_region (by kernel_rfl) ?_
                          refine gl_pure 2 [1, 2, 10, 54, 74] (K' := [(1, .slice A1_0 a1.length n1_0), (2, .float .f64 b2_0), (10, .float .f64 (FloatKind.nearest .f64 (a1.length : Int))), (54, .string a0), (74, .bool (a0.toList == (⟨#[115, 116, 100, 118, 97, 114]⟩ : ByteArray).toList))]) (by kernel_rfl) ?_
                          refine gl_atE (by kernel_rfl) ?_
                          refine ge_seq ?_
                          obtain ⟨j77, hj78, hj70⟩ := bind_some hj70
                          refine gk_join (fun t I' L' => ∃ b80, FRep j77 b80 ∧ I52 ≤ I' ∧ L = L' ∧ Knows 90 [(10, .float .f64 b80)] t) ?_ ?_
                          · refine gk_cond (b := (a0.toList == (⟨#[115, 116, 100, 118, 97, 114]⟩ : ByteArray).toList)) (by kernel_rfl) (by kernel_rfl) (fun hc84 => ?_) (fun hc84 => ?_)
                            · have hj78 := cond_t hc84 hj78
                              refine gk_region (by kernel_rfl) ?_
                              refine gl_pure 1 [76] (K' := [(76, .slice A1_0 a1.length n1_0)]) (by kernel_rfl) ?_
                              obtain ⟨y85, hx86, hj78⟩ := bind_some hj78
                              refine gl_call (by kernel_rfl) (tocsinref16_spread_walk (r := y85) (hf1_0.mono (Imm.trans hI1 hI50)) hx86 _) ?_
                              rintro v I87 L88 hI89 ⟨z90, hO91, rfl, rfl⟩
                              refine gl_pure 1 [10] (K' := [(10, .float .f64 z90)]) (by kernel_rfl) ?_
                              refine gl_atE (by kernel_rfl) ?_
                              obtain rfl := some_inj hj78
                              exact ge_mid fun t ht => ⟨z90, hO91, hI89, rfl, ht.pick (l := [10]) (by kernel_rfl)⟩
                            · have hj78 := cond_f hc84 hj78
                              refine gk_seq (by kernel_rfl) ?_
                              refine gk_region (by kernel_rfl) ?_
                              refine gl_pure 2 [1, 2, 10, 54, 78] (K' := [(1, .slice A1_0 a1.length n1_0), (2, .float .f64 b2_0), (10, .float .f64 (FloatKind.nearest .f64 (a1.length : Int))), (54, .string a0), (78, .bool (a0.toList == (⟨#[115, 116, 100, 100, 101, 118]⟩ : ByteArray).toList))]) (by kernel_rfl) ?_
                              refine gl_atE (by kernel_rfl) ?_
                              refine ge_seq ?_
                              obtain ⟨j92, hj93, hj78⟩ := bind_some hj78
                              refine gk_join (fun t I' L' => ∃ b95, FRep j92 b95 ∧ I52 ≤ I' ∧ L = L' ∧ Knows 90 [(10, .float .f64 b95)] t) ?_ ?_
                              · refine gk_cond (b := (a0.toList == (⟨#[115, 116, 100, 100, 101, 118]⟩ : ByteArray).toList)) (by kernel_rfl) (by kernel_rfl) (fun hc99 => ?_) (fun hc99 => ?_)
                                · have hj93 := cond_t hc99 hj93
                                  refine gk_region (by kernel_rfl) ?_
                                  refine gl_pure 1 [80] (K' := [(80, .slice A1_0 a1.length n1_0)]) (by kernel_rfl) ?_
                                  obtain ⟨y100, hx101, hj93⟩ := bind_some hj93
                                  refine gl_call (by kernel_rfl) (tocsinref16_spread_walk (r := y100) (hf1_0.mono (Imm.trans hI1 hI50)) hx101 _) ?_
                                  rintro v I102 L103 hI104 ⟨z105, hO106, rfl, rfl⟩
                                  refine gl_call (by kernel_rfl) (math_Sqrt_walk (r := (math_Sqrt y100)) hO106 rfl _) ?_
                                  rintro v I107 L108 hI109 ⟨z110, hO111, rfl, rfl⟩
                                  refine gl_pure 1 [10] (K' := [(10, .float .f64 z110)]) (by kernel_rfl) ?_
                                  refine gl_atE (by kernel_rfl) ?_
                                  obtain rfl := some_inj hj93
                                  exact ge_mid fun t ht => ⟨z110, hO111, (Imm.trans hI104 hI109), rfl, ht.pick (l := [10]) (by kernel_rfl)⟩
                                · have hj93 := cond_f hc99 hj93
                                  refine gk_seq (by kernel_rfl) ?_
                                  refine gk_region (by kernel_rfl) ?_
                                  refine gl_pure 2 [1, 2, 10, 83] (K' := [(1, .slice A1_0 a1.length n1_0), (2, .float .f64 b2_0), (10, .float .f64 (FloatKind.nearest .f64 (a1.length : Int))), (83, .bool (a0.toList == (⟨#[113, 117, 97, 110, 116, 105, 108, 101]⟩ : ByteArray).toList))]) (by kernel_rfl) ?_
                                  refine gl_atE (by kernel_rfl) ?_
                                  refine ge_seq ?_
                                  obtain ⟨j112, hj113, hj93⟩ := bind_some hj93
                                  refine gk_join (fun t I' L' => ∃ b115, FRep j112 b115 ∧ I52 ≤ I' ∧ L = L' ∧ Knows 90 [(10, .float .f64 b115)] t) ?_ ?_
                                  · refine gk_cond (b := (a0.toList == (⟨#[113, 117, 97, 110, 116, 105, 108, 101]⟩ : ByteArray).toList)) (by kernel_rfl) (by kernel_rfl) (fun hc119 => ?_) (fun hc119 => ?_)
                                    · have hj113 := cond_t hc119 hj113
                                      refine gk_region (by kernel_rfl) ?_
                                      refine gl_pure 2 [85, 86] (K' := [(85, .float .f64 b2_0), (86, .slice A1_0 a1.length n1_0)]) (by kernel_rfl) ?_
                                      obtain ⟨y120, hx121, hj113⟩ := bind_some hj113
                                      refine gl_call (by kernel_rfl) (tocsinref15_Quantile_walk (r := y120) hf2_0 (hf1_0.mono (Imm.trans hI1 hI50)) hx121 _) ?_
                                      rintro v I122 L123 hI124 ⟨z125, hO126, rfl, rfl⟩
                                      refine gl_pure 1 [10] (K' := [(10, .float .f64 z125)]) (by kernel_rfl) ?_
                                      refine gl_atE (by kernel_rfl) ?_
                                      obtain rfl := some_inj hj113
                                      exact ge_mid fun t ht => ⟨z125, hO126, hI124, rfl, ht.pick (l := [10]) (by kernel_rfl)⟩
                                    · have hj113 := cond_f hc119 hj113
                                      refine gk_skip (by kernel_rfl) ?_
                                      obtain rfl := some_inj hj113
                                      exact ge_mid fun t ht => ⟨(FloatKind.nearest .f64 (a1.length : Int)), (FRep.of (FloatKind.nearest .f64 (a1.length : Int))), (Imm.refl _), rfl, ht.pick (l := [10]) (by kernel_rfl)⟩
                                  · rintro t I118 L' ⟨b115, hb116, hI114, rfl, hK117⟩
                                    refine ge_at hK117 ?_
                                    obtain rfl := some_inj hj93
                                    exact ge_mid fun t ht => ⟨b115, hb116, hI114, rfl, ht.pick (l := [10]) (by kernel_rfl)⟩
                              · rintro t I98 L' ⟨b95, hb96, hI94, rfl, hK97⟩
                                refine ge_at hK97 ?_
                                obtain rfl := some_inj hj78
                                exact ge_mid fun t ht => ⟨b95, hb96, hI94, rfl, ht.pick (l := [10]) (by kernel_rfl)⟩
                          · rintro t I83 L' ⟨b80, hb81, hI79, rfl, hK82⟩
                            refine ge_at hK82 ?_
                            obtain rfl := some_inj hj70
                            exact ge_mid fun t ht => ⟨b80, hb81, hI79, rfl, ht.pick (l := [10]) (by kernel_rfl)⟩
                      · rintro t I75 L' ⟨b72, hb73, hI71, rfl, hK74⟩
                        refine ge_at hK74 ?_
                        obtain rfl := some_inj hj55
                        exact ge_mid fun t ht => ⟨b72, hb73, hI71, rfl, ht.pick (l := [10]) (by kernel_rfl)⟩
                  · rintro t I60 L' ⟨b57, hb58, hI56, rfl, hK59⟩
                    refine ge_at hK59 ?_
                    obtain rfl := some_inj hj32
                    exact ge_mid fun t ht => ⟨b57, hb58, (Imm.trans hI50 hI56), rfl, ht.pick (l := [10]) (by kernel_rfl)⟩
            · rintro t I37 L' ⟨b34, hb35, hI33, rfl, hK36⟩
              refine ge_at hK36 ?_
              obtain rfl := some_inj hj17
              exact ge_mid fun t ht => ⟨b34, hb35, hI33, rfl, ht.pick (l := [10]) (by kernel_rfl)⟩
        · rintro t I22 L' ⟨b19, hb20, hI18, rfl, hK21⟩
          refine ge_at hK21 ?_
          refine ge_block_normal ?_
          refine ge_seq ?_
          refine gk_seq (by kernel_rfl) ?_
          refine gk_region (by kernel_rfl) ?_
          refine gl_pure 1 [88] (K' := [(88, .float .f64 b19)]) (by kernel_rfl) ?_
          refine gl_call (by kernel_rfl) (tocsinref15_Told_walk (r := (tocsinref15_Told j16)) hb20 rfl _) ?_
          rintro v I127 L128 hI129 ⟨z130, hO131, rfl, rfl⟩
          refine gl_pure 2 [6, 7] (K' := [(6, .float .f64 z130), (7, .int .i64 0)]) (by kernel_rfl) ?_
          refine gl_atE (by kernel_rfl) ?_
          refine ge_seq ?_
          refine gk_ret (by kernel_rfl) ?_
          obtain rfl := some_inj hr
          exact ge_result trivial (ResOk.tmp (by kernel_rfl) (ResOk.tmp (by kernel_rfl) ResOk.nil)) (Imm.trans (Imm.trans hI1 hI18) hI129) ⟨z130, hO131, rfl, rfl⟩
/-! 28 tocsinlaw16_alike  -/
noncomputable def tocsinlaw16_alike (a0 : Fl) (a1 : Fl) : Option Bool :=
  Option.bind (fbits a0) fun (q1 : Int) =>
  Option.bind (fbits a1) fun (q3 : Int) =>
  some (q1 == q3)
theorem tocsinlaw16_alike_walk {a0 : Fl} {b0_0 : Nat} {a1 : Fl} {b1_0 : Nat} {I : Imm} {r : Bool}  (hf0_0 : FRep a0 b0_0)  (hf1_0 : FRep a1 b1_0) (hr : tocsinlaw16_alike a0 a1 = some r) (L : Own) :
    CallsTo Tryz.prog 28 #[.float .f64 b0_0, .float .f64 b1_0] I L (fun v I' L' => v = .bool r ∧ L = L') := by
  unfold tocsinlaw16_alike at hr
  refine callsTo_body (N := 10) Tryz.func28 (by kernel_rfl) (by kernel_rfl) (by kernel_rfl) ?_
  refine gk_pick [0, 1] (K' := [(0, .float .f64 b0_0), (1, .float .f64 b1_0)]) (by kernel_rfl) ?_
  refine gk_seq (by kernel_rfl) ?_
  refine gk_region (by kernel_rfl) ?_
  refine gl_pure 1 [0, 1] (K' := [(0, .float .f64 b0_0), (1, .float .f64 b1_0)]) (by kernel_rfl) ?_
  refine gl_atE (by kernel_rfl) ?_
  refine ge_seq ?_
  refine gk_seq (by kernel_rfl) ?_
  refine gk_region (by kernel_rfl) ?_
  refine gl_pure 1 [1, 5] (K' := [(1, .float .f64 b1_0), (5, .float .f64 b0_0)]) (by kernel_rfl) ?_
  obtain ⟨q1, hx2, hr⟩ := bind_some hr
  refine gl_f64bits hx2 hf0_0 Tryz.func46 (by kernel_rfl) (by kernel_rfl) (by kernel_rfl) (by kernel_rfl) (by kernel_rfl) (by kernel_rfl) ?_
  refine gl_pure 1 [6, 7] (K' := [(6, .int .u64 q1), (7, .float .f64 b1_0)]) (by kernel_rfl) ?_
  obtain ⟨q3, hx4, hr⟩ := bind_some hr
  refine gl_f64bits hx4 hf1_0 Tryz.func46 (by kernel_rfl) (by kernel_rfl) (by kernel_rfl) (by kernel_rfl) (by kernel_rfl) (by kernel_rfl) ?_
  refine gl_pure 2 [4] (K' := [(4, .bool (q1 == q3))]) (by kernel_rfl) ?_
  refine gl_atE (by kernel_rfl) ?_
  refine ge_seq ?_
  refine gk_ret (by kernel_rfl) ?_
  obtain rfl := some_inj hr
  exact ge_result trivial (ResOk.tmp (by kernel_rfl) ResOk.nil) (Imm.refl _) ⟨rfl, rfl⟩
/-! 29 aggr_Words  -/
noncomputable def aggr_Words : (List ByteArray) :=
  [(⟨#[97, 118, 103]⟩ : ByteArray), (⟨#[98, 111, 116, 116, 111, 109, 107]⟩ : ByteArray), (⟨#[99, 111, 117, 110, 116]⟩ : ByteArray), (⟨#[103, 114, 111, 117, 112]⟩ : ByteArray), (⟨#[109, 97, 120]⟩ : ByteArray), (⟨#[109, 105, 110]⟩ : ByteArray), (⟨#[113, 117, 97, 110, 116, 105, 108, 101]⟩ : ByteArray), (⟨#[115, 116, 100, 100, 101, 118]⟩ : ByteArray), (⟨#[115, 116, 100, 118, 97, 114]⟩ : ByteArray), (⟨#[115, 117, 109]⟩ : ByteArray), (⟨#[116, 111, 112, 107]⟩ : ByteArray)]
theorem aggr_Words_walk  {I : Imm} {r : (List ByteArray)}  (hr : aggr_Words = r) (L : Own) :
    CallsTo Tryz.prog 29 #[] I L (fun v I' L' => ∃ A0 c0 C0, OwnS Kd.str 9 I' A0 c0 r C0 ∧ v = .slice A0 r.length c0 ∧ C0 ++ L = L') := by
  replace hr : some (aggr_Words) = some r := congrArg some hr
  unfold aggr_Words at hr
  refine callsTo_body (N := 2) Tryz.func29 (by kernel_rfl) (by kernel_rfl) (by kernel_rfl) ?_
  refine gk_pick [] (K' := []) (by kernel_rfl) ?_
  refine gk_seq (by kernel_rfl) ?_
  refine gk_region (by kernel_rfl) ?_
  refine gl_pure 1 [] (K' := []) (by kernel_rfl) ?_
  refine gl_atE (by kernel_rfl) ?_
  refine ge_seq ?_
  refine gk_seq (by kernel_rfl) ?_
  refine gk_region (by kernel_rfl) ?_
  refine gl_buildSlice (T' := 23) (e := 9) (n := 1) (len := 11) (parts := #[(0, (.const (.string (⟨#[97, 118, 103]⟩ : ByteArray)))), (1, (.const (.string (⟨#[98, 111, 116, 116, 111, 109, 107]⟩ : ByteArray)))), (2, (.const (.string (⟨#[99, 111, 117, 110, 116]⟩ : ByteArray)))), (3, (.const (.string (⟨#[103, 114, 111, 117, 112]⟩ : ByteArray)))), (4, (.const (.string (⟨#[109, 97, 120]⟩ : ByteArray)))), (5, (.const (.string (⟨#[109, 105, 110]⟩ : ByteArray)))), (6, (.const (.string (⟨#[113, 117, 97, 110, 116, 105, 108, 101]⟩ : ByteArray)))), (7, (.const (.string (⟨#[115, 116, 100, 100, 101, 118]⟩ : ByteArray)))), (8, (.const (.string (⟨#[115, 116, 100, 118, 97, 114]⟩ : ByteArray)))), (9, (.const (.string (⟨#[115, 117, 109]⟩ : ByteArray)))), (10, (.const (.string (⟨#[116, 111, 112, 107]⟩ : ByteArray))))]) (l := [(0, .string (⟨#[97, 118, 103]⟩ : ByteArray)), (1, .string (⟨#[98, 111, 116, 116, 111, 109, 107]⟩ : ByteArray)), (2, .string (⟨#[99, 111, 117, 110, 116]⟩ : ByteArray)), (3, .string (⟨#[103, 114, 111, 117, 112]⟩ : ByteArray)), (4, .string (⟨#[109, 97, 120]⟩ : ByteArray)), (5, .string (⟨#[109, 105, 110]⟩ : ByteArray)), (6, .string (⟨#[113, 117, 97, 110, 116, 105, 108, 101]⟩ : ByteArray)), (7, .string (⟨#[115, 116, 100, 100, 101, 118]⟩ : ByteArray)), (8, .string (⟨#[115, 116, 100, 118, 97, 114]⟩ : ByteArray)), (9, .string (⟨#[115, 117, 109]⟩ : ByteArray)), (10, .string (⟨#[116, 111, 112, 107]⟩ : ByteArray))]) (cs := #[.string (⟨#[97, 118, 103]⟩ : ByteArray), .string (⟨#[98, 111, 116, 116, 111, 109, 107]⟩ : ByteArray), .string (⟨#[99, 111, 117, 110, 116]⟩ : ByteArray), .string (⟨#[103, 114, 111, 117, 112]⟩ : ByteArray), .string (⟨#[109, 97, 120]⟩ : ByteArray), .string (⟨#[109, 105, 110]⟩ : ByteArray), .string (⟨#[113, 117, 97, 110, 116, 105, 108, 101]⟩ : ByteArray), .string (⟨#[115, 116, 100, 100, 101, 118]⟩ : ByteArray), .string (⟨#[115, 116, 100, 118, 97, 114]⟩ : ByteArray), .string (⟨#[115, 117, 109]⟩ : ByteArray), .string (⟨#[116, 111, 112, 107]⟩ : ByteArray)]) (by kernel_rfl) (by kernel_rfl) (by kernel_rfl) (by kernel_rfl) (by kernel_rfl) (fun g1 => ?_)
  have hO2 : OwnS Kd.str 9 I (some ⟨g1, 0, none⟩) 11 [(⟨#[97, 118, 103]⟩ : ByteArray), (⟨#[98, 111, 116, 116, 111, 109, 107]⟩ : ByteArray), (⟨#[99, 111, 117, 110, 116]⟩ : ByteArray), (⟨#[103, 114, 111, 117, 112]⟩ : ByteArray), (⟨#[109, 97, 120]⟩ : ByteArray), (⟨#[109, 105, 110]⟩ : ByteArray), (⟨#[113, 117, 97, 110, 116, 105, 108, 101]⟩ : ByteArray), (⟨#[115, 116, 100, 100, 101, 118]⟩ : ByteArray), (⟨#[115, 116, 100, 118, 97, 114]⟩ : ByteArray), (⟨#[115, 117, 109]⟩ : ByteArray), (⟨#[116, 111, 112, 107]⟩ : ByteArray)] [(g1, .cells #[.string (⟨#[97, 118, 103]⟩ : ByteArray), .string (⟨#[98, 111, 116, 116, 111, 109, 107]⟩ : ByteArray), .string (⟨#[99, 111, 117, 110, 116]⟩ : ByteArray), .string (⟨#[103, 114, 111, 117, 112]⟩ : ByteArray), .string (⟨#[109, 97, 120]⟩ : ByteArray), .string (⟨#[109, 105, 110]⟩ : ByteArray), .string (⟨#[113, 117, 97, 110, 116, 105, 108, 101]⟩ : ByteArray), .string (⟨#[115, 116, 100, 100, 101, 118]⟩ : ByteArray), .string (⟨#[115, 116, 100, 118, 97, 114]⟩ : ByteArray), .string (⟨#[115, 117, 109]⟩ : ByteArray), .string (⟨#[116, 111, 112, 107]⟩ : ByteArray)] 9)] := OwnS.lit (row_cons (l := [.string (⟨#[97, 118, 103]⟩ : ByteArray)]) rfl (row_cons (l := [.string (⟨#[98, 111, 116, 116, 111, 109, 107]⟩ : ByteArray)]) rfl (row_cons (l := [.string (⟨#[99, 111, 117, 110, 116]⟩ : ByteArray)]) rfl (row_cons (l := [.string (⟨#[103, 114, 111, 117, 112]⟩ : ByteArray)]) rfl (row_cons (l := [.string (⟨#[109, 97, 120]⟩ : ByteArray)]) rfl (row_cons (l := [.string (⟨#[109, 105, 110]⟩ : ByteArray)]) rfl (row_cons (l := [.string (⟨#[113, 117, 97, 110, 116, 105, 108, 101]⟩ : ByteArray)]) rfl (row_cons (l := [.string (⟨#[115, 116, 100, 100, 101, 118]⟩ : ByteArray)]) rfl (row_cons (l := [.string (⟨#[115, 116, 100, 118, 97, 114]⟩ : ByteArray)]) rfl (row_cons (l := [.string (⟨#[115, 117, 109]⟩ : ByteArray)]) rfl (row_cons (l := [.string (⟨#[116, 111, 112, 107]⟩ : ByteArray)]) rfl (row_nil _ _)))))))))))) rfl rfl rfl
  refine gl_reord (D := [(g1, .cells #[.string (⟨#[97, 118, 103]⟩ : ByteArray), .string (⟨#[98, 111, 116, 116, 111, 109, 107]⟩ : ByteArray), .string (⟨#[99, 111, 117, 110, 116]⟩ : ByteArray), .string (⟨#[103, 114, 111, 117, 112]⟩ : ByteArray), .string (⟨#[109, 97, 120]⟩ : ByteArray), .string (⟨#[109, 105, 110]⟩ : ByteArray), .string (⟨#[113, 117, 97, 110, 116, 105, 108, 101]⟩ : ByteArray), .string (⟨#[115, 116, 100, 100, 101, 118]⟩ : ByteArray), .string (⟨#[115, 116, 100, 118, 97, 114]⟩ : ByteArray), .string (⟨#[115, 117, 109]⟩ : ByteArray), .string (⟨#[116, 111, 112, 107]⟩ : ByteArray)] 9)] ++ L) (Reord.refl _) ?_
  refine gl_pure 1 [0] (K' := [(0, .slice (some ⟨g1, 0, none⟩) [(⟨#[97, 118, 103]⟩ : ByteArray), (⟨#[98, 111, 116, 116, 111, 109, 107]⟩ : ByteArray), (⟨#[99, 111, 117, 110, 116]⟩ : ByteArray), (⟨#[103, 114, 111, 117, 112]⟩ : ByteArray), (⟨#[109, 97, 120]⟩ : ByteArray), (⟨#[109, 105, 110]⟩ : ByteArray), (⟨#[113, 117, 97, 110, 116, 105, 108, 101]⟩ : ByteArray), (⟨#[115, 116, 100, 100, 101, 118]⟩ : ByteArray), (⟨#[115, 116, 100, 118, 97, 114]⟩ : ByteArray), (⟨#[115, 117, 109]⟩ : ByteArray), (⟨#[116, 111, 112, 107]⟩ : ByteArray)].length 11)]) (by kernel_rfl) ?_
  refine gl_atE (by kernel_rfl) ?_
  refine ge_seq ?_
  refine gk_ret (by kernel_rfl) ?_
  obtain rfl := some_inj hr
  exact ge_result trivial (ResOk.tmp (by kernel_rfl) ResOk.nil) (Imm.refl _) ⟨(some ⟨g1, 0, none⟩), 11, [(g1, .cells #[.string (⟨#[97, 118, 103]⟩ : ByteArray), .string (⟨#[98, 111, 116, 116, 111, 109, 107]⟩ : ByteArray), .string (⟨#[99, 111, 117, 110, 116]⟩ : ByteArray), .string (⟨#[103, 114, 111, 117, 112]⟩ : ByteArray), .string (⟨#[109, 97, 120]⟩ : ByteArray), .string (⟨#[109, 105, 110]⟩ : ByteArray), .string (⟨#[113, 117, 97, 110, 116, 105, 108, 101]⟩ : ByteArray), .string (⟨#[115, 116, 100, 100, 101, 118]⟩ : ByteArray), .string (⟨#[115, 116, 100, 118, 97, 114]⟩ : ByteArray), .string (⟨#[115, 117, 109]⟩ : ByteArray), .string (⟨#[116, 111, 112, 107]⟩ : ByteArray)] 9)], hO2, rfl, rfl⟩
/-! 30 tocsinref16_Words  -/
noncomputable def tocsinref16_Words : (List ByteArray) :=
  [(⟨#[97, 118, 103]⟩ : ByteArray), (⟨#[98, 111, 116, 116, 111, 109, 107]⟩ : ByteArray), (⟨#[99, 111, 117, 110, 116]⟩ : ByteArray), (⟨#[103, 114, 111, 117, 112]⟩ : ByteArray), (⟨#[109, 97, 120]⟩ : ByteArray), (⟨#[109, 105, 110]⟩ : ByteArray), (⟨#[113, 117, 97, 110, 116, 105, 108, 101]⟩ : ByteArray), (⟨#[115, 116, 100, 100, 101, 118]⟩ : ByteArray), (⟨#[115, 116, 100, 118, 97, 114]⟩ : ByteArray), (⟨#[115, 117, 109]⟩ : ByteArray), (⟨#[116, 111, 112, 107]⟩ : ByteArray)]
theorem tocsinref16_Words_walk  {I : Imm} {r : (List ByteArray)}  (hr : tocsinref16_Words = r) (L : Own) :
    CallsTo Tryz.prog 30 #[] I L (fun v I' L' => ∃ A0 c0 C0, OwnS Kd.str 9 I' A0 c0 r C0 ∧ v = .slice A0 r.length c0 ∧ C0 ++ L = L') := by
  replace hr : some (tocsinref16_Words) = some r := congrArg some hr
  unfold tocsinref16_Words at hr
  refine callsTo_body (N := 2) Tryz.func30 (by kernel_rfl) (by kernel_rfl) (by kernel_rfl) ?_
  refine gk_pick [] (K' := []) (by kernel_rfl) ?_
  refine gk_seq (by kernel_rfl) ?_
  refine gk_region (by kernel_rfl) ?_
  refine gl_pure 1 [] (K' := []) (by kernel_rfl) ?_
  refine gl_atE (by kernel_rfl) ?_
  refine ge_seq ?_
  refine gk_seq (by kernel_rfl) ?_
  refine gk_region (by kernel_rfl) ?_
  refine gl_buildSlice (T' := 23) (e := 9) (n := 1) (len := 11) (parts := #[(0, (.const (.string (⟨#[97, 118, 103]⟩ : ByteArray)))), (1, (.const (.string (⟨#[98, 111, 116, 116, 111, 109, 107]⟩ : ByteArray)))), (2, (.const (.string (⟨#[99, 111, 117, 110, 116]⟩ : ByteArray)))), (3, (.const (.string (⟨#[103, 114, 111, 117, 112]⟩ : ByteArray)))), (4, (.const (.string (⟨#[109, 97, 120]⟩ : ByteArray)))), (5, (.const (.string (⟨#[109, 105, 110]⟩ : ByteArray)))), (6, (.const (.string (⟨#[113, 117, 97, 110, 116, 105, 108, 101]⟩ : ByteArray)))), (7, (.const (.string (⟨#[115, 116, 100, 100, 101, 118]⟩ : ByteArray)))), (8, (.const (.string (⟨#[115, 116, 100, 118, 97, 114]⟩ : ByteArray)))), (9, (.const (.string (⟨#[115, 117, 109]⟩ : ByteArray)))), (10, (.const (.string (⟨#[116, 111, 112, 107]⟩ : ByteArray))))]) (l := [(0, .string (⟨#[97, 118, 103]⟩ : ByteArray)), (1, .string (⟨#[98, 111, 116, 116, 111, 109, 107]⟩ : ByteArray)), (2, .string (⟨#[99, 111, 117, 110, 116]⟩ : ByteArray)), (3, .string (⟨#[103, 114, 111, 117, 112]⟩ : ByteArray)), (4, .string (⟨#[109, 97, 120]⟩ : ByteArray)), (5, .string (⟨#[109, 105, 110]⟩ : ByteArray)), (6, .string (⟨#[113, 117, 97, 110, 116, 105, 108, 101]⟩ : ByteArray)), (7, .string (⟨#[115, 116, 100, 100, 101, 118]⟩ : ByteArray)), (8, .string (⟨#[115, 116, 100, 118, 97, 114]⟩ : ByteArray)), (9, .string (⟨#[115, 117, 109]⟩ : ByteArray)), (10, .string (⟨#[116, 111, 112, 107]⟩ : ByteArray))]) (cs := #[.string (⟨#[97, 118, 103]⟩ : ByteArray), .string (⟨#[98, 111, 116, 116, 111, 109, 107]⟩ : ByteArray), .string (⟨#[99, 111, 117, 110, 116]⟩ : ByteArray), .string (⟨#[103, 114, 111, 117, 112]⟩ : ByteArray), .string (⟨#[109, 97, 120]⟩ : ByteArray), .string (⟨#[109, 105, 110]⟩ : ByteArray), .string (⟨#[113, 117, 97, 110, 116, 105, 108, 101]⟩ : ByteArray), .string (⟨#[115, 116, 100, 100, 101, 118]⟩ : ByteArray), .string (⟨#[115, 116, 100, 118, 97, 114]⟩ : ByteArray), .string (⟨#[115, 117, 109]⟩ : ByteArray), .string (⟨#[116, 111, 112, 107]⟩ : ByteArray)]) (by kernel_rfl) (by kernel_rfl) (by kernel_rfl) (by kernel_rfl) (by kernel_rfl) (fun g1 => ?_)
  have hO2 : OwnS Kd.str 9 I (some ⟨g1, 0, none⟩) 11 [(⟨#[97, 118, 103]⟩ : ByteArray), (⟨#[98, 111, 116, 116, 111, 109, 107]⟩ : ByteArray), (⟨#[99, 111, 117, 110, 116]⟩ : ByteArray), (⟨#[103, 114, 111, 117, 112]⟩ : ByteArray), (⟨#[109, 97, 120]⟩ : ByteArray), (⟨#[109, 105, 110]⟩ : ByteArray), (⟨#[113, 117, 97, 110, 116, 105, 108, 101]⟩ : ByteArray), (⟨#[115, 116, 100, 100, 101, 118]⟩ : ByteArray), (⟨#[115, 116, 100, 118, 97, 114]⟩ : ByteArray), (⟨#[115, 117, 109]⟩ : ByteArray), (⟨#[116, 111, 112, 107]⟩ : ByteArray)] [(g1, .cells #[.string (⟨#[97, 118, 103]⟩ : ByteArray), .string (⟨#[98, 111, 116, 116, 111, 109, 107]⟩ : ByteArray), .string (⟨#[99, 111, 117, 110, 116]⟩ : ByteArray), .string (⟨#[103, 114, 111, 117, 112]⟩ : ByteArray), .string (⟨#[109, 97, 120]⟩ : ByteArray), .string (⟨#[109, 105, 110]⟩ : ByteArray), .string (⟨#[113, 117, 97, 110, 116, 105, 108, 101]⟩ : ByteArray), .string (⟨#[115, 116, 100, 100, 101, 118]⟩ : ByteArray), .string (⟨#[115, 116, 100, 118, 97, 114]⟩ : ByteArray), .string (⟨#[115, 117, 109]⟩ : ByteArray), .string (⟨#[116, 111, 112, 107]⟩ : ByteArray)] 9)] := OwnS.lit (row_cons (l := [.string (⟨#[97, 118, 103]⟩ : ByteArray)]) rfl (row_cons (l := [.string (⟨#[98, 111, 116, 116, 111, 109, 107]⟩ : ByteArray)]) rfl (row_cons (l := [.string (⟨#[99, 111, 117, 110, 116]⟩ : ByteArray)]) rfl (row_cons (l := [.string (⟨#[103, 114, 111, 117, 112]⟩ : ByteArray)]) rfl (row_cons (l := [.string (⟨#[109, 97, 120]⟩ : ByteArray)]) rfl (row_cons (l := [.string (⟨#[109, 105, 110]⟩ : ByteArray)]) rfl (row_cons (l := [.string (⟨#[113, 117, 97, 110, 116, 105, 108, 101]⟩ : ByteArray)]) rfl (row_cons (l := [.string (⟨#[115, 116, 100, 100, 101, 118]⟩ : ByteArray)]) rfl (row_cons (l := [.string (⟨#[115, 116, 100, 118, 97, 114]⟩ : ByteArray)]) rfl (row_cons (l := [.string (⟨#[115, 117, 109]⟩ : ByteArray)]) rfl (row_cons (l := [.string (⟨#[116, 111, 112, 107]⟩ : ByteArray)]) rfl (row_nil _ _)))))))))))) rfl rfl rfl
  refine gl_reord (D := [(g1, .cells #[.string (⟨#[97, 118, 103]⟩ : ByteArray), .string (⟨#[98, 111, 116, 116, 111, 109, 107]⟩ : ByteArray), .string (⟨#[99, 111, 117, 110, 116]⟩ : ByteArray), .string (⟨#[103, 114, 111, 117, 112]⟩ : ByteArray), .string (⟨#[109, 97, 120]⟩ : ByteArray), .string (⟨#[109, 105, 110]⟩ : ByteArray), .string (⟨#[113, 117, 97, 110, 116, 105, 108, 101]⟩ : ByteArray), .string (⟨#[115, 116, 100, 100, 101, 118]⟩ : ByteArray), .string (⟨#[115, 116, 100, 118, 97, 114]⟩ : ByteArray), .string (⟨#[115, 117, 109]⟩ : ByteArray), .string (⟨#[116, 111, 112, 107]⟩ : ByteArray)] 9)] ++ L) (Reord.refl _) ?_
  refine gl_pure 1 [0] (K' := [(0, .slice (some ⟨g1, 0, none⟩) [(⟨#[97, 118, 103]⟩ : ByteArray), (⟨#[98, 111, 116, 116, 111, 109, 107]⟩ : ByteArray), (⟨#[99, 111, 117, 110, 116]⟩ : ByteArray), (⟨#[103, 114, 111, 117, 112]⟩ : ByteArray), (⟨#[109, 97, 120]⟩ : ByteArray), (⟨#[109, 105, 110]⟩ : ByteArray), (⟨#[113, 117, 97, 110, 116, 105, 108, 101]⟩ : ByteArray), (⟨#[115, 116, 100, 100, 101, 118]⟩ : ByteArray), (⟨#[115, 116, 100, 118, 97, 114]⟩ : ByteArray), (⟨#[115, 117, 109]⟩ : ByteArray), (⟨#[116, 111, 112, 107]⟩ : ByteArray)].length 11)]) (by kernel_rfl) ?_
  refine gl_atE (by kernel_rfl) ?_
  refine ge_seq ?_
  refine gk_ret (by kernel_rfl) ?_
  obtain rfl := some_inj hr
  exact ge_result trivial (ResOk.tmp (by kernel_rfl) ResOk.nil) (Imm.refl _) ⟨(some ⟨g1, 0, none⟩), 11, [(g1, .cells #[.string (⟨#[97, 118, 103]⟩ : ByteArray), .string (⟨#[98, 111, 116, 116, 111, 109, 107]⟩ : ByteArray), .string (⟨#[99, 111, 117, 110, 116]⟩ : ByteArray), .string (⟨#[103, 114, 111, 117, 112]⟩ : ByteArray), .string (⟨#[109, 97, 120]⟩ : ByteArray), .string (⟨#[109, 105, 110]⟩ : ByteArray), .string (⟨#[113, 117, 97, 110, 116, 105, 108, 101]⟩ : ByteArray), .string (⟨#[115, 116, 100, 100, 101, 118]⟩ : ByteArray), .string (⟨#[115, 116, 100, 118, 97, 114]⟩ : ByteArray), .string (⟨#[115, 117, 109]⟩ : ByteArray), .string (⟨#[116, 111, 112, 107]⟩ : ByteArray)] 9)], hO2, rfl, rfl⟩
structure S76 where
  f0 : ByteArray
  f1 : ByteArray
def kS76 : Kd S76 := Kd.iso (Kd.pair Kd.str Kd.str) (fun x => (x.f0, x.f1))
theorem kS76_open {I : Imm} {x : S76} {cs : List Value} (h : kS76.R I x cs) : cs = [.string x.f0, .string x.f1] := by
  obtain ⟨_, _, rfl, h_0, h_1⟩ := h
  obtain rfl := h_0
  obtain rfl := h_1
  exact rfl
theorem kS76_mk {I : Imm} {x : S76}   : kS76.R I x [.string x.f0, .string x.f1] :=
  ⟨[.string x.f0], [.string x.f1], rfl, rfl, rfl⟩
structure S38 where
  f0 : List S76
  f1 : Fl
def kS38 : Kd S38 := Kd.iso (Kd.pair (Kd.sl kS76) Kd.flt) (fun x => (x.f0, x.f1))
theorem kS38_open {I : Imm} {x : S38} {cs : List Value} (h : kS38.R I x cs) : ∃ A0 c0 b1, RepS kS76 I A0 c0 x.f0 ∧ FRep x.f1 b1 ∧ cs = [.slice A0 x.f0.length c0, .float .f64 b1] := by
  obtain ⟨_, _, rfl, ⟨A_0, c_0, rfl, h_0⟩, ⟨b_1, rfl, h_1⟩⟩ := h
  exact ⟨A_0, c_0, b_1, h_0, h_1, rfl⟩
theorem kS38_mk {I : Imm} {x : S38} {A0 : Option Addr} {c0 : Nat} {b1 : Nat} (h0 : RepS kS76 I A0 c0 x.f0) (h1 : FRep x.f1 b1) : kS38.R I x [.slice A0 x.f0.length c0, .float .f64 b1] :=
  ⟨[.slice A0 x.f0.length c0], [.float .f64 b1], rfl, ⟨_, _, rfl, h0⟩, ⟨_, rfl, h1⟩⟩
/-! 93 slices_Index  -/
noncomputable def slices_Index_l17 (a0 : List ByteArray) (a1 : ByteArray) : Int → Option ((Int) ⊕ ((Unit) ⊕ (Int))) := fun s7 =>
  bif (decide (s7 < (a0.length : Int))) then
  (Option.bind (ix a0 s7) fun (x20 : ByteArray) =>
    bif (a1.toList == x20.toList) then
    (some (Sum.inr (Sum.inr s7)))
    else
    (some (Sum.inl (IntKind.wrap .i64 (s7 + 1)))))
  else
  (some (Sum.inr (Sum.inl ())))
noncomputable def slices_Index (a0 : List ByteArray) (a1 : ByteArray) : Option Int :=
  Option.bind (loopO (slices_Index_l17 a0 a1) 0) fun (r5 : (Unit) ⊕ (Int)) =>
  match r5 with
  | Sum.inl r13 => some (-1)
  | Sum.inr v29 => some v29
theorem slices_Index_walk {a0 : List ByteArray} {A0_0 : Option Addr} {n0_0 : Nat} {a1 : ByteArray} {I : Imm} {r : Int}  (hf0_0 : RepS Kd.str I A0_0 n0_0 a0) (hr : slices_Index a0 a1 = some r) (L : Own) :
    CallsTo Tryz.prog 93 #[.slice A0_0 a0.length n0_0, .string a1] I L (fun v I' L' => v = .int .i64 r ∧ L = L') := by
  unfold slices_Index at hr
  refine callsTo_body (N := 19) Tryz.func93 (by kernel_rfl) (by kernel_rfl) (by kernel_rfl) ?_
  refine gk_pick [0, 1] (K' := [(0, .slice A0_0 a0.length n0_0), (1, .string a1)]) (by kernel_rfl) ?_
  refine gk_seq (by kernel_rfl) ?_
  refine gk_region (by kernel_rfl) ?_
  refine gl_pure 1 [0, 1] (K' := [(0, .slice A0_0 a0.length n0_0), (1, .string a1)]) (by kernel_rfl) ?_
  refine gl_atE (by kernel_rfl) ?_
  refine ge_seq ?_
  refine gk_seq (by kernel_rfl) ?_
  refine gk_seq (by kernel_rfl) ?_
  refine gk_region (by kernel_rfl) ?_
  refine gl_pure 3 [0, 1, 7, 8] (K' := [(0, .slice A0_0 a0.length n0_0), (1, .string a1), (7, .int .i64 (a0.length : Int)), (8, .int .i64 0)]) (by kernel_rfl) ?_
  refine gl_atE (by kernel_rfl) ?_
  refine ge_seq ?_
  obtain ⟨r5, hl6, hr⟩ := bind_some hr
  refine gk_join (fun t I' L' => ∃ r13, r5 = Sum.inl r13 ∧ I ≤ I' ∧ L = L' ∧ Knows 19 [] t) ?_ ?_
  · refine gk_block (by kernel_rfl) ?_
    refine gk_pick [0, 1, 7, 8] (K' := [(0, .slice A0_0 a0.length n0_0), (1, .string a1), (7, .int .i64 (a0.length : Int)), (8, .int .i64 0)]) (by kernel_rfl) ?_
    intro t hK
    refine gc_loop (slices_Index_l17 a0 a1) (fun s7 t I' L' => I ≤ I' ∧ L = L' ∧ Knows 19 [(0, .slice A0_0 a0.length n0_0), (1, .string a1), (7, .int .i64 (a0.length : Int)), (8, .int .i64 s7)] t) (by kernel_rfl) ?_ hl6 ⟨(Imm.refl _), rfl, hK⟩
    rintro s7 o8 t I12 L' hb9 ⟨hI10, rfl, hK11⟩
    unfold slices_Index_l17 at hb9
    refine gk_at hK11 ?_
    refine gk_seq (by kernel_rfl) ?_
    refine gk_region (by kernel_rfl) ?_
    refine gl_pure 1 [0, 1, 7, 8, 9] (K' := [(0, .slice A0_0 a0.length n0_0), (1, .string a1), (7, .int .i64 (a0.length : Int)), (8, .int .i64 s7), (9, .bool (decide (s7 < (a0.length : Int))))]) (by kernel_rfl) ?_
    refine gl_atE (by kernel_rfl) ?_
    refine ge_seq ?_
    refine gk_seq (by kernel_rfl) ?_
    refine gk_cond (b := (decide (s7 < (a0.length : Int)))) (by kernel_rfl) (by kernel_rfl) (fun hc19 => ?_) (fun hc19 => ?_)
    · have hb9 := cond_t hc19 hb9
      refine gk_skip (by kernel_rfl) ?_
      refine ge_seq ?_
      refine gk_seq (by kernel_rfl) ?_
      refine gk_block (by kernel_rfl) ?_
      refine gk_seq (by kernel_rfl) ?_
      refine gk_region (by kernel_rfl) ?_
      refine gl_pure 2 [0, 1, 5, 7, 8] (K' := [(0, .slice A0_0 a0.length n0_0), (1, .string a1), (5, .int .i64 s7), (7, .int .i64 (a0.length : Int)), (8, .int .i64 s7)]) (by kernel_rfl) ?_
      refine gl_atE (by kernel_rfl) ?_
      refine ge_seq ?_
      refine gk_seq (by kernel_rfl) ?_
      refine gk_region (by kernel_rfl) ?_
      refine gl_pure 3 [0, 1, 5, 7, 8, 11, 12, 13] (K' := [(0, .slice A0_0 a0.length n0_0), (1, .string a1), (5, .int .i64 s7), (7, .int .i64 (a0.length : Int)), (8, .int .i64 s7), (11, .string a1), (12, .slice A0_0 a0.length n0_0), (13, .int .i64 s7)]) (by kernel_rfl) ?_
      obtain ⟨x20, hx21, hb9⟩ := bind_some hb9
      obtain ⟨p22, cs23, hR24, hA25, ha26⟩ := RepS.ixAt hx21 (hf0_0.mono hI10)
      have hi27 := ix_some hx21
      obtain rfl := hR24
      refine gl_indexAddrF (c := n0_0) (T' := 23) (e := 9) (xs := (.tmp 12)) (xi := (.tmp 13)) (kd := .i64) ha26 hi27.1 hi27.2.1 (by kernel_rfl) (by kernel_rfl) (by kernel_rfl) (by kernel_rfl) (by kernel_rfl) ?_
      refine gl_load (T' := 9) (xp := (.tmp 14)) (p := p22) (c := .string x20) (n := 1) (by kernel_rfl) (by kernel_rfl) (by kernel_rfl) (by kernel_rfl) hA25 ?_
      refine gl_pure 1 [0, 1, 5, 7, 8, 16] (K' := [(0, .slice A0_0 a0.length n0_0), (1, .string a1), (5, .int .i64 s7), (7, .int .i64 (a0.length : Int)), (8, .int .i64 s7), (16, .bool (a1.toList == x20.toList))]) (by kernel_rfl) ?_
      refine gl_atE (by kernel_rfl) ?_
      refine ge_seq ?_
      refine gk_cond (b := (a1.toList == x20.toList)) (by kernel_rfl) (by kernel_rfl) (fun hc28 => ?_) (fun hc28 => ?_)
      · have hb9 := cond_t hc28 hb9
        refine gk_seq (by kernel_rfl) ?_
        refine gk_region (by kernel_rfl) ?_
        refine gl_pure 2 [4] (K' := [(4, .int .i64 s7)]) (by kernel_rfl) ?_
        refine gl_atE (by kernel_rfl) ?_
        refine ge_seq ?_
        refine gk_ret (by kernel_rfl) ?_
        refine ge_block_ret ?_
        refine ge_seq_ret ?_
        obtain rfl := some_inj hb9
        refine ge_round_out (fun hrr => ?_) (by intro h; cases h)
        obtain rfl := hrr
        refine ge_block_ret ?_
        refine ge_seq_ret ?_
        refine ge_seq_ret ?_
        obtain rfl := some_inj hr
        exact ge_result trivial (ResOk.tmp (by kernel_rfl) ResOk.nil) hI10 ⟨rfl, rfl⟩
      · have hb9 := cond_f hc28 hb9
        refine gk_skip (by kernel_rfl) ?_
        refine ge_block_normal ?_
        refine ge_seq ?_
        refine gk_region (by kernel_rfl) ?_
        refine gl_pure 2 [0, 1, 7, 8] (K' := [(0, .slice A0_0 a0.length n0_0), (1, .string a1), (7, .int .i64 (a0.length : Int)), (8, .int .i64 (IntKind.wrap .i64 (s7 + 1)))]) (by kernel_rfl) ?_
        refine gl_atE (by kernel_rfl) ?_
        obtain rfl := some_inj hb9
        exact ge_round fun t ht => ⟨hI10, rfl, ht.pick (l := [0, 1, 7, 8]) (by kernel_rfl)⟩
    · have hb9 := cond_f hc19 hb9
      refine gk_exit (by kernel_rfl) ?_
      refine ge_seq_exit ?_
      obtain rfl := some_inj hb9
      refine ge_round_out (fun hrr => ?_) (by intro h; cases h)
      obtain rfl := hrr
      refine ge_block_hit (by kernel_rfl) ?_
      exact ge_mid fun t ht => ⟨_, rfl, hI10, rfl, ht.pick (l := []) (by kernel_rfl)⟩
  · rintro t I16 L' ⟨r13, rfl, hI14, rfl, hK15⟩
    refine ge_at hK15 ?_
    refine ge_seq ?_
    refine gk_seq (by kernel_rfl) ?_
    refine gk_region (by kernel_rfl) ?_
    refine gl_pure 1 [4] (K' := [(4, .int .i64 (-1))]) (by kernel_rfl) ?_
    refine gl_atE (by kernel_rfl) ?_
    refine ge_seq ?_
    refine gk_ret (by kernel_rfl) ?_
    obtain rfl := some_inj hr
    exact ge_result trivial (ResOk.tmp (by kernel_rfl) ResOk.nil) hI14 ⟨rfl, rfl⟩
/-! 47 slices_Contains  -/
noncomputable def slices_Contains (a0 : List ByteArray) (a1 : ByteArray) : Option Bool :=
  Option.bind (slices_Index a0 a1) fun (y1 : Int) =>
  some (decide (y1 ≥ 0))
theorem slices_Contains_walk {a0 : List ByteArray} {A0_0 : Option Addr} {n0_0 : Nat} {a1 : ByteArray} {I : Imm} {r : Bool}  (hf0_0 : RepS Kd.str I A0_0 n0_0 a0) (hr : slices_Contains a0 a1 = some r) (L : Own) :
    CallsTo Tryz.prog 47 #[.slice A0_0 a0.length n0_0, .string a1] I L (fun v I' L' => v = .bool r ∧ L = L') := by
  unfold slices_Contains at hr
  refine callsTo_body (N := 9) Tryz.func47 (by kernel_rfl) (by kernel_rfl) (by kernel_rfl) ?_
  refine gk_pick [0, 1] (K' := [(0, .slice A0_0 a0.length n0_0), (1, .string a1)]) (by kernel_rfl) ?_
  refine gk_seq (by kernel_rfl) ?_
  refine gk_region (by kernel_rfl) ?_
  refine gl_pure 1 [0, 1] (K' := [(0, .slice A0_0 a0.length n0_0), (1, .string a1)]) (by kernel_rfl) ?_
  refine gl_atE (by kernel_rfl) ?_
  refine ge_seq ?_
  refine gk_seq (by kernel_rfl) ?_
  refine gk_region (by kernel_rfl) ?_
  refine gl_pure 2 [5, 6] (K' := [(5, .slice A0_0 a0.length n0_0), (6, .string a1)]) (by kernel_rfl) ?_
  obtain ⟨y1, hx2, hr⟩ := bind_some hr
  refine gl_callQ (by kernel_rfl) (slices_Index_walk (r := y1) hf0_0 hx2 _) ?_
  refine gl_pure 2 [4] (K' := [(4, .bool (decide (y1 ≥ 0)))]) (by kernel_rfl) ?_
  refine gl_atE (by kernel_rfl) ?_
  refine ge_seq ?_
  refine gk_ret (by kernel_rfl) ?_
  obtain rfl := some_inj hr
  exact ge_result trivial (ResOk.tmp (by kernel_rfl) ResOk.nil) (Imm.refl _) ⟨rfl, rfl⟩
/-! 160 labels_digit  -/
noncomputable def labels_digit (a0 : Int) : Bool :=
  ((decide (a0 ≥ 48)) && (decide (a0 ≤ 57)))
theorem labels_digit_walk {a0 : Int} {I : Imm} {r : Bool}  (hr : labels_digit a0 = r) (L : Own) :
    CallsTo Tryz.prog 160 #[.int .u8 a0] I L (fun v I' L' => v = .bool r ∧ L = L') := by
  replace hr : some (labels_digit a0) = some r := congrArg some hr
  unfold labels_digit at hr
  refine callsTo_body (N := 9) Tryz.func160 (by kernel_rfl) (by kernel_rfl) (by kernel_rfl) ?_
  refine gk_pick [0] (K' := [(0, .int .u8 a0)]) (by kernel_rfl) ?_
  refine gk_seq (by kernel_rfl) ?_
  refine gk_region (by kernel_rfl) ?_
  refine gl_pure 1 [0] (K' := [(0, .int .u8 a0)]) (by kernel_rfl) ?_
  refine gl_atE (by kernel_rfl) ?_
  refine ge_seq ?_
  refine gk_seq (by kernel_rfl) ?_
  obtain ⟨b3, hb4⟩ : ∃ z, z = ((decide (a0 ≥ 48)) && (decide (a0 ≤ 57))) := ⟨_, rfl⟩
  refine gk_join (fun t I' L' => I ≤ I' ∧ L = L' ∧ Knows 9 [(2, .bool b3)] t) ?_ ?_
  · refine gk_region (by kernel_rfl) ?_
    refine gl_pure 3 [0, 5] (K' := [(0, .int .u8 a0), (5, .bool (decide (a0 ≥ 48)))]) (by kernel_rfl) ?_
    refine gl_case 5 (b := (decide (a0 ≥ 48))) (by kernel_rfl) (fun hc6 => ?_) (fun hc6 => ?_)
    · refine gl_pure 4 [2] (K' := [(2, .bool (decide (a0 ≤ 57)))]) (by kernel_rfl) ?_
      refine gl_atE (by kernel_rfl) ?_
      exact ge_mid fun t ht => ⟨(Imm.refl _), rfl, by rw [(show b3 = (decide (a0 ≤ 57)) from hb4.trans (by first | (rw [hc6]; done) | (rw [hc6]; rfl) | (simp [hc6]; done) | (simp only [hc6]; rfl) | (simp at *; omega)))]; exact ht.pick (l := [2]) (by kernel_rfl)⟩
    · refine gl_pure 4 [2] (K' := [(2, .bool false)]) (by kernel_rfl) ?_
      refine gl_atE (by kernel_rfl) ?_
      exact ge_mid fun t ht => ⟨(Imm.refl _), rfl, by rw [(show b3 = false from hb4.trans (by first | (rw [hc6]; done) | (rw [hc6]; rfl) | (simp [hc6]; done) | (simp only [hc6]; rfl) | (simp at *; omega)))]; exact ht.pick (l := [2]) (by kernel_rfl)⟩
  · rintro t I5 L' ⟨hI1, rfl, hK2⟩
    subst hb4
    refine ge_at hK2 ?_
    refine ge_seq ?_
    refine gk_ret (by kernel_rfl) ?_
    obtain rfl := some_inj hr
    exact ge_result trivial (ResOk.tmp (by kernel_rfl) ResOk.nil) hI1 ⟨rfl, rfl⟩
/-! 161 labels_letter  -/
noncomputable def labels_letter (a0 : Int) : Bool :=
  ((((decide (a0 ≥ 97)) && (decide (a0 ≤ 122))) || ((decide (a0 ≥ 65)) && (decide (a0 ≤ 90)))) || (a0 == 95))
theorem labels_letter_walk {a0 : Int} {I : Imm} {r : Bool}  (hr : labels_letter a0 = r) (L : Own) :
    CallsTo Tryz.prog 161 #[.int .u8 a0] I L (fun v I' L' => v = .bool r ∧ L = L') := by
  replace hr : some (labels_letter a0) = some r := congrArg some hr
  unfold labels_letter at hr
  refine callsTo_body (N := 21) Tryz.func161 (by kernel_rfl) (by kernel_rfl) (by kernel_rfl) ?_
  refine gk_pick [0] (K' := [(0, .int .u8 a0)]) (by kernel_rfl) ?_
  refine gk_seq (by kernel_rfl) ?_
  refine gk_region (by kernel_rfl) ?_
  refine gl_pure 1 [0] (K' := [(0, .int .u8 a0)]) (by kernel_rfl) ?_
  refine gl_atE (by kernel_rfl) ?_
  refine ge_seq ?_
  refine gk_seq (by kernel_rfl) ?_
  obtain ⟨b3, hb4⟩ : ∃ z, z = ((((decide (a0 ≥ 97)) && (decide (a0 ≤ 122))) || ((decide (a0 ≥ 65)) && (decide (a0 ≤ 90)))) || (a0 == 95)) := ⟨_, rfl⟩
  refine gk_join (fun t I' L' => I ≤ I' ∧ L = L' ∧ Knows 21 [(2, .bool b3)] t) ?_ ?_
  · refine gk_region (by kernel_rfl) ?_
    refine gl_pure 3 [0, 5] (K' := [(0, .int .u8 a0), (5, .bool (decide (a0 ≥ 97)))]) (by kernel_rfl) ?_
    refine gl_case 5 (b := (decide (a0 ≥ 97))) (by kernel_rfl) (fun hc6 => ?_) (fun hc6 => ?_)
    · refine gl_pure 4 [0, 9] (K' := [(0, .int .u8 a0), (9, .bool (decide (a0 ≤ 122)))]) (by kernel_rfl) ?_
      refine gl_case 9 (b := (decide (a0 ≤ 122))) (by kernel_rfl) (fun hc7 => ?_) (fun hc7 => ?_)
      · refine gl_pure 12 [2] (K' := [(2, .bool true)]) (by kernel_rfl) ?_
        refine gl_atE (by kernel_rfl) ?_
        exact ge_mid fun t ht => ⟨(Imm.refl _), rfl, by rw [(show b3 = true from hb4.trans (by first | (rw [hc6, hc7]; done) | (rw [hc6, hc7]; rfl) | (simp [hc6, hc7]; done) | (simp only [hc6, hc7]; rfl) | (simp at *; omega)))]; exact ht.pick (l := [2]) (by kernel_rfl)⟩
      · refine gl_pure 3 [0, 9, 12] (K' := [(0, .int .u8 a0), (9, .bool false), (12, .bool (decide (a0 ≥ 65)))]) (by kernel_rfl) ?_
        refine gl_case 12 (b := (decide (a0 ≥ 65))) (by kernel_rfl) (fun hc8 => ?_) (fun hc8 => ?_)
        · refine gl_pure 5 [0, 17] (K' := [(0, .int .u8 a0), (17, .bool (decide (a0 ≤ 90)))]) (by kernel_rfl) ?_
          refine gl_case 17 (b := (decide (a0 ≤ 90))) (by kernel_rfl) (fun hc9 => ?_) (fun hc9 => ?_)
          · refine gl_pure 4 [2] (K' := [(2, .bool true)]) (by kernel_rfl) ?_
            refine gl_atE (by kernel_rfl) ?_
            exact ge_mid fun t ht => ⟨(Imm.refl _), rfl, by rw [(show b3 = true from hb4.trans (by first | (rw [hc6, hc7, hc8, hc9]; done) | (rw [hc6, hc7, hc8, hc9]; rfl) | (simp [hc6, hc7, hc8, hc9]; done) | (simp only [hc6, hc7, hc8, hc9]; rfl) | (simp at *; omega)))]; exact ht.pick (l := [2]) (by kernel_rfl)⟩
          · refine gl_pure 4 [2] (K' := [(2, .bool (a0 == 95))]) (by kernel_rfl) ?_
            refine gl_atE (by kernel_rfl) ?_
            exact ge_mid fun t ht => ⟨(Imm.refl _), rfl, by rw [(show b3 = (a0 == 95) from hb4.trans (by first | (rw [hc6, hc7, hc8, hc9]; done) | (rw [hc6, hc7, hc8, hc9]; rfl) | (simp [hc6, hc7, hc8, hc9]; done) | (simp only [hc6, hc7, hc8, hc9]; rfl) | (simp at *; omega)))]; exact ht.pick (l := [2]) (by kernel_rfl)⟩
        · refine gl_pure 9 [2] (K' := [(2, .bool (a0 == 95))]) (by kernel_rfl) ?_
          refine gl_atE (by kernel_rfl) ?_
          exact ge_mid fun t ht => ⟨(Imm.refl _), rfl, by rw [(show b3 = (a0 == 95) from hb4.trans (by first | (rw [hc6, hc7, hc8]; done) | (rw [hc6, hc7, hc8]; rfl) | (simp [hc6, hc7, hc8]; done) | (simp only [hc6, hc7, hc8]; rfl) | (simp at *; omega)))]; exact ht.pick (l := [2]) (by kernel_rfl)⟩
    · refine gl_pure 7 [0, 9, 12] (K' := [(0, .int .u8 a0), (9, .bool false), (12, .bool (decide (a0 ≥ 65)))]) (by kernel_rfl) ?_
      refine gl_case 12 (b := (decide (a0 ≥ 65))) (by kernel_rfl) (fun hc10 => ?_) (fun hc10 => ?_)
      · refine gl_pure 5 [0, 17] (K' := [(0, .int .u8 a0), (17, .bool (decide (a0 ≤ 90)))]) (by kernel_rfl) ?_
        refine gl_case 17 (b := (decide (a0 ≤ 90))) (by kernel_rfl) (fun hc11 => ?_) (fun hc11 => ?_)
        · refine gl_pure 4 [2] (K' := [(2, .bool true)]) (by kernel_rfl) ?_
          refine gl_atE (by kernel_rfl) ?_
          exact ge_mid fun t ht => ⟨(Imm.refl _), rfl, by rw [(show b3 = true from hb4.trans (by first | (rw [hc6, hc10, hc11]; done) | (rw [hc6, hc10, hc11]; rfl) | (simp [hc6, hc10, hc11]; done) | (simp only [hc6, hc10, hc11]; rfl) | (simp at *; omega)))]; exact ht.pick (l := [2]) (by kernel_rfl)⟩
        · refine gl_pure 4 [2] (K' := [(2, .bool (a0 == 95))]) (by kernel_rfl) ?_
          refine gl_atE (by kernel_rfl) ?_
          exact ge_mid fun t ht => ⟨(Imm.refl _), rfl, by rw [(show b3 = (a0 == 95) from hb4.trans (by first | (rw [hc6, hc10, hc11]; done) | (rw [hc6, hc10, hc11]; rfl) | (simp [hc6, hc10, hc11]; done) | (simp only [hc6, hc10, hc11]; rfl) | (simp at *; omega)))]; exact ht.pick (l := [2]) (by kernel_rfl)⟩
      · refine gl_pure 9 [2] (K' := [(2, .bool (a0 == 95))]) (by kernel_rfl) ?_
        refine gl_atE (by kernel_rfl) ?_
        exact ge_mid fun t ht => ⟨(Imm.refl _), rfl, by rw [(show b3 = (a0 == 95) from hb4.trans (by first | (rw [hc6, hc10]; done) | (rw [hc6, hc10]; rfl) | (simp [hc6, hc10]; done) | (simp only [hc6, hc10]; rfl) | (simp at *; omega)))]; exact ht.pick (l := [2]) (by kernel_rfl)⟩
  · rintro t I5 L' ⟨hI1, rfl, hK2⟩
    subst hb4
    refine ge_at hK2 ?_
    refine ge_seq ?_
    refine gk_ret (by kernel_rfl) ?_
    obtain rfl := some_inj hr
    exact ge_result trivial (ResOk.tmp (by kernel_rfl) ResOk.nil) hI1 ⟨rfl, rfl⟩
/-! 119 labels_named  -/
noncomputable def labels_named_l33 (a2 : Bool) (l11 : List Int) : Int → Option ((Int) ⊕ ((Unit) ⊕ (Bool))) := fun s23 =>
  bif (decide (s23 < (l11.length : Int))) then
  (Option.bind (ix l11 s23) fun (x36 : Int) =>
    bif (((!(labels_letter x36)) && (!(labels_digit x36))) && (!(a2 && (x36 == 58)))) then
    (some (Sum.inr (Sum.inr false)))
    else
    (some (Sum.inl (IntKind.wrap .i64 (s23 + 1)))))
  else
  (some (Sum.inr (Sum.inl ())))
noncomputable def labels_named (a0 : ByteArray) (a1 : Int) (a2 : Bool) : Option Bool :=
  Option.bind (bif (a0.toList == (⟨#[]⟩ : ByteArray).toList) then
    (some true)
    else
    (bif (decide ((a0.size : Int) > a1)) then
      (some true)
      else
      (Option.bind (bx a0 0) fun (c8 : Int) =>
        some (labels_digit c8)))) fun (j1 : Bool) =>
  bif j1 then
  (some false)
  else
  (Option.bind (sb a0) fun (l11 : List Int) =>
    Option.bind (loopO (labels_named_l33 a2 l11) 0) fun (r21 : (Unit) ⊕ (Bool)) =>
    match r21 with
    | Sum.inl r29 => some true
    | Sum.inr v54 => some v54)
theorem labels_named_walk {a0 : ByteArray} {a1 : Int} {a2 : Bool} {I : Imm} {r : Bool}  (hr : labels_named a0 a1 a2 = some r) (L : Own) :
    CallsTo Tryz.prog 119 #[.string a0, .int .i64 a1, .bool a2] I L (fun v I' L' => v = .bool r ∧ L = L') := by
  unfold labels_named at hr
  refine callsTo_body (N := 46) Tryz.func119 (by kernel_rfl) (by kernel_rfl) (by kernel_rfl) ?_
  refine gk_pick [0, 1, 2] (K' := [(0, .string a0), (1, .int .i64 a1), (2, .bool a2)]) (by kernel_rfl) ?_
  refine gk_seq (by kernel_rfl) ?_
  refine gk_region (by kernel_rfl) ?_
  refine gl_pure 1 [0, 1, 2] (K' := [(0, .string a0), (1, .int .i64 a1), (2, .bool a2)]) (by kernel_rfl) ?_
  refine gl_atE (by kernel_rfl) ?_
  refine ge_seq ?_
  refine gk_seq (by kernel_rfl) ?_
  refine gk_seq (by kernel_rfl) ?_
  obtain ⟨j1, hj2, hr⟩ := bind_some hr
  refine gk_join (fun t I' L' => I ≤ I' ∧ L = L' ∧ Knows 46 [(0, .string a0), (2, .bool a2), (21, .bool j1)] t) ?_ ?_
  · refine gk_region (by kernel_rfl) ?_
    refine gl_pure 3 [0, 1, 2, 11] (K' := [(0, .string a0), (1, .int .i64 a1), (2, .bool a2), (11, .bool (a0.toList == (⟨#[]⟩ : ByteArray).toList))]) (by kernel_rfl) ?_
    refine gl_case 11 (b := (a0.toList == (⟨#[]⟩ : ByteArray).toList)) (by kernel_rfl) (fun hc6 => ?_) (fun hc6 => ?_)
    · have hj2 := cond_t hc6 hj2
      refine gl_pure 10 [0, 2, 21] (K' := [(0, .string a0), (2, .bool a2), (21, .bool true)]) (by kernel_rfl) ?_
      refine gl_atE (by kernel_rfl) ?_
      obtain rfl := some_inj hj2
      exact ge_mid fun t ht => ⟨(Imm.refl _), rfl, ht.pick (l := [0, 2, 21]) (by kernel_rfl)⟩
    · have hj2 := cond_f hc6 hj2
      refine gl_pure 6 [0, 2, 17] (K' := [(0, .string a0), (2, .bool a2), (17, .bool (decide ((a0.size : Int) > a1)))]) (by kernel_rfl) ?_
      refine gl_case 17 (b := (decide ((a0.size : Int) > a1))) (by kernel_rfl) (fun hc7 => ?_) (fun hc7 => ?_)
      · have hj2 := cond_t hc7 hj2
        refine gl_pure 4 [0, 2, 21] (K' := [(0, .string a0), (2, .bool a2), (21, .bool true)]) (by kernel_rfl) ?_
        refine gl_atE (by kernel_rfl) ?_
        obtain rfl := some_inj hj2
        exact ge_mid fun t ht => ⟨(Imm.refl _), rfl, ht.pick (l := [0, 2, 21]) (by kernel_rfl)⟩
      · have hj2 := cond_f hc7 hj2
        refine gl_pure 1 [0, 2, 17, 18] (K' := [(0, .string a0), (2, .bool a2), (17, .bool false), (18, .string a0)]) (by kernel_rfl) ?_
        obtain ⟨c8, hx9, hj2⟩ := bind_some hj2
        refine gl_index' (T' := 9) (xs := (.tmp 18)) (xi := (.const (.int .i64 0))) (kd := .i64) hx9 (by kernel_rfl) (by kernel_rfl) (by kernel_rfl) (by kernel_rfl) (by kernel_rfl) ?_
        refine gl_callQ (by kernel_rfl) (labels_digit_walk (r := (labels_digit c8))  rfl _) ?_
        refine gl_pure 1 [0, 2, 21] (K' := [(0, .string a0), (2, .bool a2), (21, .bool (labels_digit c8))]) (by kernel_rfl) ?_
        refine gl_atE (by kernel_rfl) ?_
        obtain rfl := some_inj hj2
        exact ge_mid fun t ht => ⟨(Imm.refl _), rfl, ht.pick (l := [0, 2, 21]) (by kernel_rfl)⟩
  · rintro t I5 L' ⟨hI3, rfl, hK4⟩
    refine ge_at hK4 ?_
    refine ge_seq ?_
    refine gk_cond (b := j1) (by kernel_rfl) (by kernel_rfl) (fun hc10 => ?_) (fun hc10 => ?_)
    · have hr := cond_t hc10 hr
      refine gk_seq (by kernel_rfl) ?_
      refine gk_region (by kernel_rfl) ?_
      refine gl_pure 1 [6] (K' := [(6, .bool false)]) (by kernel_rfl) ?_
      refine gl_atE (by kernel_rfl) ?_
      refine ge_seq ?_
      refine gk_ret (by kernel_rfl) ?_
      refine ge_seq_ret ?_
      obtain rfl := some_inj hr
      exact ge_result trivial (ResOk.tmp (by kernel_rfl) ResOk.nil) hI3 ⟨rfl, rfl⟩
    · have hr := cond_f hc10 hr
      refine gk_skip (by kernel_rfl) ?_
      refine ge_seq ?_
      refine gk_seq (by kernel_rfl) ?_
      refine gk_seq (by kernel_rfl) ?_
      refine gk_region (by kernel_rfl) ?_
      refine gl_pure 1 [2, 22] (K' := [(2, .bool a2), (22, .string a0)]) (by kernel_rfl) ?_
      obtain ⟨l11, hx12, hr⟩ := bind_some hr
      refine gl_strBytes (src := 9) (dst := 98) (e := 5) (n := 1) (x := (.tmp 22)) hx12 (by kernel_rfl) (by kernel_rfl) (by kernel_rfl) (by kernel_rfl) (by kernel_rfl) (by kernel_rfl) (fun A13 n14 C15 hO16 => ?_)
      refine gl_pure 2 [2, 23, 24, 25] (K' := [(2, .bool a2), (23, .slice A13 l11.length n14), (24, .int .i64 (l11.length : Int)), (25, .int .i64 0)]) (by kernel_rfl) ?_
      refine gl_atE (by kernel_rfl) ?_
      refine ge_seq ?_
      obtain ⟨r21, hl22, hr⟩ := bind_some hr
      refine gk_join (fun t I' L' => ∃ r29, r21 = Sum.inl r29 ∧ I5 ≤ I' ∧ L = L' ∧ Knows 46 [] t) ?_ ?_
      · refine gk_block (by kernel_rfl) ?_
        refine gk_pick [2, 23, 24, 25] (K' := [(2, .bool a2), (23, .slice A13 l11.length n14), (24, .int .i64 (l11.length : Int)), (25, .int .i64 0)]) (by kernel_rfl) ?_
        intro t hK
        refine gc_loop (labels_named_l33 a2 l11) (fun s23 t I' L' => I5 ≤ I' ∧ C15 ++ L = L' ∧ Knows 46 [(2, .bool a2), (23, .slice A13 l11.length n14), (24, .int .i64 (l11.length : Int)), (25, .int .i64 s23)] t) (by kernel_rfl) ?_ hl22 ⟨(Imm.refl _), rfl, hK⟩
        rintro s23 o24 t I28 L' hb25 ⟨hI26, rfl, hK27⟩
        unfold labels_named_l33 at hb25
        refine gk_at hK27 ?_
        refine gk_seq (by kernel_rfl) ?_
        refine gk_region (by kernel_rfl) ?_
        refine gl_pure 1 [2, 23, 24, 25, 26] (K' := [(2, .bool a2), (23, .slice A13 l11.length n14), (24, .int .i64 (l11.length : Int)), (25, .int .i64 s23), (26, .bool (decide (s23 < (l11.length : Int))))]) (by kernel_rfl) ?_
        refine gl_atE (by kernel_rfl) ?_
        refine ge_seq ?_
        refine gk_seq (by kernel_rfl) ?_
        refine gk_cond (b := (decide (s23 < (l11.length : Int)))) (by kernel_rfl) (by kernel_rfl) (fun hc35 => ?_) (fun hc35 => ?_)
        · have hb25 := cond_t hc35 hb25
          refine gk_skip (by kernel_rfl) ?_
          refine ge_seq ?_
          refine gk_seq (by kernel_rfl) ?_
          refine gk_block (by kernel_rfl) ?_
          refine gk_seq (by kernel_rfl) ?_
          refine gk_region (by kernel_rfl) ?_
          obtain ⟨x36, hx37, hb25⟩ := bind_some hb25
          refine gl_indexAddrW (d := (Kd.int .u8)) (c := n14) (T' := 98) (e := 5) (xs := (.tmp 23)) (xi := (.tmp 25)) (kd := .i64) hx37 (hO16.mono hI26) (Upd.selfC _ _) (by kernel_rfl) (by kernel_rfl) (by kernel_rfl) (by kernel_rfl) (by kernel_rfl) (fun p38 cs39 hR40 hA41 hp44 => ?_)
          obtain rfl := hR40
          refine gl_loadO (T' := 5) (xp := (.tmp 27)) (p := p38) (c := .int .u8 x36) (n := 1) (by kernel_rfl) (by kernel_rfl) (by kernel_rfl) (by kernel_rfl) hA41 ?_
          refine gl_pure 1 [2, 8, 23, 24, 25] (K' := [(2, .bool a2), (8, .int .u8 x36), (23, .slice A13 l11.length n14), (24, .int .i64 (l11.length : Int)), (25, .int .i64 s23)]) (by kernel_rfl) ?_
          refine gl_atE (by kernel_rfl) ?_
          refine ge_seq ?_
          refine gk_seq (by kernel_rfl) ?_
          obtain ⟨b47, hb48⟩ : ∃ z, z = (((!(labels_letter x36)) && (!(labels_digit x36))) && (!(a2 && (x36 == 58)))) := ⟨_, rfl⟩
          refine gk_join (fun t I' L' => I28 ≤ I' ∧ C15 ++ L = L' ∧ Knows 46 [(2, .bool a2), (23, .slice A13 l11.length n14), (24, .int .i64 (l11.length : Int)), (25, .int .i64 s23), (44, .bool b47)] t) ?_ ?_
          · refine gk_region (by kernel_rfl) ?_
            refine gl_pure 1 [2, 8, 23, 24, 25, 29] (K' := [(2, .bool a2), (8, .int .u8 x36), (23, .slice A13 l11.length n14), (24, .int .i64 (l11.length : Int)), (25, .int .i64 s23), (29, .int .u8 x36)]) (by kernel_rfl) ?_
            refine gl_callQ (by kernel_rfl) (labels_letter_walk (r := (labels_letter x36))  rfl _) ?_
            refine gl_pure 2 [2, 8, 23, 24, 25, 32] (K' := [(2, .bool a2), (8, .int .u8 x36), (23, .slice A13 l11.length n14), (24, .int .i64 (l11.length : Int)), (25, .int .i64 s23), (32, .bool (!(labels_letter x36)))]) (by kernel_rfl) ?_
            refine gl_case 32 (b := (!(labels_letter x36))) (by kernel_rfl) (fun hc50 => ?_) (fun hc50 => ?_)
            · refine gl_pure 1 [2, 8, 23, 24, 25, 32, 33] (K' := [(2, .bool a2), (8, .int .u8 x36), (23, .slice A13 l11.length n14), (24, .int .i64 (l11.length : Int)), (25, .int .i64 s23), (32, .bool true), (33, .int .u8 x36)]) (by kernel_rfl) ?_
              refine gl_callQ (by kernel_rfl) (labels_digit_walk (r := (labels_digit x36))  rfl _) ?_
              refine gl_pure 3 [2, 8, 23, 24, 25, 37] (K' := [(2, .bool a2), (8, .int .u8 x36), (23, .slice A13 l11.length n14), (24, .int .i64 (l11.length : Int)), (25, .int .i64 s23), (37, .bool (!(labels_digit x36)))]) (by kernel_rfl) ?_
              refine gl_case 37 (b := (!(labels_digit x36))) (by kernel_rfl) (fun hc51 => ?_) (fun hc51 => ?_)
              · refine gl_pure 2 [2, 8, 23, 24, 25, 37, 39] (K' := [(2, .bool a2), (8, .int .u8 x36), (23, .slice A13 l11.length n14), (24, .int .i64 (l11.length : Int)), (25, .int .i64 s23), (37, .bool true), (39, .bool a2)]) (by kernel_rfl) ?_
                refine gl_case 39 (b := a2) (by kernel_rfl) (fun hc52 => ?_) (fun hc52 => ?_)
                · refine gl_pure 5 [2, 23, 24, 25, 44] (K' := [(2, .bool a2), (23, .slice A13 l11.length n14), (24, .int .i64 (l11.length : Int)), (25, .int .i64 s23), (44, .bool (!(x36 == 58)))]) (by kernel_rfl) ?_
                  refine gl_atE (by kernel_rfl) ?_
                  exact ge_mid fun t ht => ⟨(Imm.refl _), rfl, by rw [(show b47 = (!(x36 == 58)) from hb48.trans (by first | (rw [hc50, hc51, hc52]; done) | (rw [hc50, hc51, hc52]; rfl) | (simp [hc50, hc51, hc52]; done) | (simp only [hc50, hc51, hc52]; rfl) | (simp at *; omega)))]; exact ht.pick (l := [2, 23, 24, 25, 44]) (by kernel_rfl)⟩
                · refine gl_pure 5 [2, 23, 24, 25, 44] (K' := [(2, .bool a2), (23, .slice A13 l11.length n14), (24, .int .i64 (l11.length : Int)), (25, .int .i64 s23), (44, .bool true)]) (by kernel_rfl) ?_
                  refine gl_atE (by kernel_rfl) ?_
                  exact ge_mid fun t ht => ⟨(Imm.refl _), rfl, by rw [(show b47 = true from hb48.trans (by first | (rw [hc50, hc51, hc52]; done) | (rw [hc50, hc51, hc52]; rfl) | (simp [hc50, hc51, hc52]; done) | (simp only [hc50, hc51, hc52]; rfl) | (simp at *; omega)))]; exact ht.pick (l := [2, 23, 24, 25, 44]) (by kernel_rfl)⟩
              · refine gl_pure 7 [2, 23, 24, 25, 44] (K' := [(2, .bool a2), (23, .slice A13 l11.length n14), (24, .int .i64 (l11.length : Int)), (25, .int .i64 s23), (44, .bool false)]) (by kernel_rfl) ?_
                refine gl_atE (by kernel_rfl) ?_
                exact ge_mid fun t ht => ⟨(Imm.refl _), rfl, by rw [(show b47 = false from hb48.trans (by first | (rw [hc50, hc51]; done) | (rw [hc50, hc51]; rfl) | (simp [hc50, hc51]; done) | (simp only [hc50, hc51]; rfl) | (simp at *; omega)))]; exact ht.pick (l := [2, 23, 24, 25, 44]) (by kernel_rfl)⟩
            · refine gl_pure 12 [2, 23, 24, 25, 44] (K' := [(2, .bool a2), (23, .slice A13 l11.length n14), (24, .int .i64 (l11.length : Int)), (25, .int .i64 s23), (44, .bool false)]) (by kernel_rfl) ?_
              refine gl_atE (by kernel_rfl) ?_
              exact ge_mid fun t ht => ⟨(Imm.refl _), rfl, by rw [(show b47 = false from hb48.trans (by first | (rw [hc50]; done) | (rw [hc50]; rfl) | (simp [hc50]; done) | (simp only [hc50]; rfl) | (simp at *; omega)))]; exact ht.pick (l := [2, 23, 24, 25, 44]) (by kernel_rfl)⟩
          · rintro t I49 L' ⟨hI45, rfl, hK46⟩
            subst hb48
            refine ge_at hK46 ?_
            refine ge_seq ?_
            refine gk_cond (b := (((!(labels_letter x36)) && (!(labels_digit x36))) && (!(a2 && (x36 == 58))))) (by kernel_rfl) (by kernel_rfl) (fun hc53 => ?_) (fun hc53 => ?_)
            · have hb25 := cond_t hc53 hb25
              refine gk_seq (by kernel_rfl) ?_
              refine gk_region (by kernel_rfl) ?_
              refine gl_pure 1 [6] (K' := [(6, .bool false)]) (by kernel_rfl) ?_
              refine gl_atE (by kernel_rfl) ?_
              refine ge_seq ?_
              refine gk_reord (D := L) (Reord.skipC (Reord.refl _)) ?_
              refine gk_ret (by kernel_rfl) ?_
              refine ge_block_ret ?_
              refine ge_seq_ret ?_
              obtain rfl := some_inj hb25
              refine ge_round_out (fun hrr => ?_) (by intro h; cases h)
              obtain rfl := hrr
              refine ge_block_ret ?_
              refine ge_seq_ret ?_
              refine ge_seq_ret ?_
              obtain rfl := some_inj hr
              exact ge_result trivial (ResOk.tmp (by kernel_rfl) ResOk.nil) (Imm.trans (Imm.trans hI3 hI26) hI45) ⟨rfl, rfl⟩
            · have hb25 := cond_f hc53 hb25
              refine gk_skip (by kernel_rfl) ?_
              refine ge_block_normal ?_
              refine ge_seq ?_
              refine gk_region (by kernel_rfl) ?_
              refine gl_pure 2 [2, 23, 24, 25] (K' := [(2, .bool a2), (23, .slice A13 l11.length n14), (24, .int .i64 (l11.length : Int)), (25, .int .i64 (IntKind.wrap .i64 (s23 + 1)))]) (by kernel_rfl) ?_
              refine gl_atE (by kernel_rfl) ?_
              obtain rfl := some_inj hb25
              exact ge_round fun t ht => ⟨(Imm.trans hI26 hI45), rfl, ht.pick (l := [2, 23, 24, 25]) (by kernel_rfl)⟩
        · have hb25 := cond_f hc35 hb25
          refine gk_reord (D := L) (Reord.skipC (Reord.refl _)) ?_
          refine gk_exit (by kernel_rfl) ?_
          refine ge_seq_exit ?_
          obtain rfl := some_inj hb25
          refine ge_round_out (fun hrr => ?_) (by intro h; cases h)
          obtain rfl := hrr
          refine ge_block_hit (by kernel_rfl) ?_
          exact ge_mid fun t ht => ⟨_, rfl, hI26, rfl, ht.pick (l := []) (by kernel_rfl)⟩
      · rintro t I32 L' ⟨r29, rfl, hI30, rfl, hK31⟩
        refine ge_at hK31 ?_
        refine ge_seq ?_
        refine gk_seq (by kernel_rfl) ?_
        refine gk_region (by kernel_rfl) ?_
        refine gl_pure 1 [6] (K' := [(6, .bool true)]) (by kernel_rfl) ?_
        refine gl_atE (by kernel_rfl) ?_
        refine ge_seq ?_
        refine gk_ret (by kernel_rfl) ?_
        obtain rfl := some_inj hr
        exact ge_result trivial (ResOk.tmp (by kernel_rfl) ResOk.nil) (Imm.trans hI3 hI30) ⟨rfl, rfl⟩
/-! 72 labels_Name  -/
noncomputable def labels_Name (a0 : ByteArray) : Option Bool :=
  Option.bind (labels_named a0 64 false) fun (y1 : Bool) =>
  some y1
theorem labels_Name_walk {a0 : ByteArray} {I : Imm} {r : Bool}  (hr : labels_Name a0 = some r) (L : Own) :
    CallsTo Tryz.prog 72 #[.string a0] I L (fun v I' L' => v = .bool r ∧ L = L') := by
  unfold labels_Name at hr
  refine callsTo_body (N := 5) Tryz.func72 (by kernel_rfl) (by kernel_rfl) (by kernel_rfl) ?_
  refine gk_pick [0] (K' := [(0, .string a0)]) (by kernel_rfl) ?_
  refine gk_seq (by kernel_rfl) ?_
  refine gk_region (by kernel_rfl) ?_
  refine gl_pure 1 [0] (K' := [(0, .string a0)]) (by kernel_rfl) ?_
  refine gl_atE (by kernel_rfl) ?_
  refine ge_seq ?_
  refine gk_seq (by kernel_rfl) ?_
  refine gk_region (by kernel_rfl) ?_
  refine gl_pure 1 [3] (K' := [(3, .string a0)]) (by kernel_rfl) ?_
  obtain ⟨y1, hx2, hr⟩ := bind_some hr
  refine gl_callQ (by kernel_rfl) (labels_named_walk (r := y1)  hx2 _) ?_
  refine gl_pure 1 [2] (K' := [(2, .bool y1)]) (by kernel_rfl) ?_
  refine gl_atE (by kernel_rfl) ?_
  refine ge_seq ?_
  refine gk_ret (by kernel_rfl) ?_
  obtain rfl := some_inj hr
  exact ge_result trivial (ResOk.tmp (by kernel_rfl) ResOk.nil) (Imm.refl _) ⟨rfl, rfl⟩
theorem gl_tabs {I : Imm} {L : Own} {W : World} (hG : Gl I) (hW : Holds I L W) : Go.Lib.Utf8Tabs 1 2 W := by
  refine ⟨fun c hc => ?_, fun i hi => ?_⟩
  · obtain ⟨a, cs, ha, hR, hr⟩ := hG.g1.at_ c (Go.Lib.firstT c : Int) (by simp [tab1, List.getElem?_range hc])
    cases ha
    obtain rfl : cs = [.int .u8 (Go.Lib.firstT c : Int)] := hR
    have := hW.cell (hr 0 _ rfl)
    rw [addr_add, show c * (Kd.int .u8).n + 0 = c from by show c * 1 + 0 = c; omega] at this
    exact this
  · obtain ⟨a, cs, ha, hR, hr⟩ := hG.g2.at_ i ⟨(Go.Lib.accLo i : Int), (Go.Lib.accHi i : Int)⟩ (by simp [tab2, List.getElem?_range hi])
    cases ha
    obtain rfl := kS172_open hR
    have h0 := hW.cell (hr 0 _ rfl)
    have h1 := hW.cell (hr 1 _ rfl)
    rw [addr_add] at h0 h1
    rw [show i * kS172.n + 0 = 2 * i from by show i * 2 + 0 = 2 * i; omega] at h0
    rw [show i * kS172.n + 1 = 2 * i + 1 from by show i * 2 + 1 = 2 * i + 1; omega] at h1
    exact ⟨h0, h1⟩

def lays196_ren : Go.Shelf.Ren := ⟨fun x => if x = 196 then 131 else if x = 259 then 167 else x, fun x => if x = 119 then 171 else if x = 46 then 127 else if x = 139 then 174 else if x = 138 then 173 else if x = 53 then 85 else x, fun x => if x = 3 then 1 else if x = 4 then 2 else x⟩
theorem lays196 : Go.Proofs.Lays.n196 Tryz.prog lays196_ren := {
  mixed := by kernel_rfl,
  f196 := Tryz.func131.trans (congrArg some (by kernel_rfl)),
  f259 := Tryz.func167.trans (congrArg some (by kernel_rfl)),
  t0 := Tryz.underlying0,
  a0 := Tryz.isAgg0,
  z0 := Tryz.sizeOf0,
  v0 := Tryz.zeroValue0,
  t3 := Tryz.underlying3,
  a3 := Tryz.isAgg3,
  z3 := Tryz.sizeOf3,
  v3 := Tryz.zeroValue3,
  t4 := Tryz.underlying4,
  a4 := Tryz.isAgg4,
  z4 := Tryz.sizeOf4,
  v4 := Tryz.zeroValue4,
  t5 := Tryz.underlying5,
  a5 := Tryz.isAgg5,
  z5 := Tryz.sizeOf5,
  v5 := Tryz.zeroValue5,
  t9 := Tryz.underlying9,
  a9 := Tryz.isAgg9,
  z9 := Tryz.sizeOf9,
  v9 := Tryz.zeroValue9,
  t12 := Tryz.underlying12,
  a12 := Tryz.isAgg12,
  z12 := Tryz.sizeOf12,
  v12 := Tryz.zeroValue12,
  t46 := Tryz.underlying127,
  a46 := Tryz.isAgg127,
  z46 := Tryz.sizeOf127,
  v46 := Tryz.zeroValue127,
  t53 := Tryz.underlying85,
  a53 := Tryz.isAgg85,
  z53 := Tryz.sizeOf85,
  v53 := Tryz.zeroValue85,
  t119 := Tryz.underlying171,
  a119 := Tryz.isAgg171,
  z119 := Tryz.sizeOf171,
  t138 := Tryz.underlying173,
  a138 := Tryz.isAgg173,
  z138 := Tryz.sizeOf173,
  v138 := Tryz.zeroValue173,
  t139 := Tryz.underlying174,
  a139 := Tryz.isAgg174,
  z139 := Tryz.sizeOf174,
  v139 := Tryz.zeroValue174,
  g3 := by kernel_rfl,
  g4 := by kernel_rfl }

def utf8_ValidString (a0 : ByteArray) : Option Bool := if a0.size ≤ 9223372036854775807 then some (Go.Lib.validD a0.data.toList) else none
theorem utf8_ValidString_walk {a0 : ByteArray} {I : Imm} {r : Bool} (hG : Gl I) (hr : utf8_ValidString a0 = some r) (L : Own) :
    CallsTo Tryz.prog 131 #[.string a0] I L (fun v I' L' => v = .bool r ∧ L = L') := by
  unfold utf8_ValidString at hr
  split at hr <;> cases hr
  rename_i hs
  exact callsTo_below hG.dr (fun W hW => Go.Proofs.Any.utf8_ValidString lays196 a0 W hs (gl_tabs hG hW))

/-! 87 labels_value  -/
noncomputable def labels_value (a0 : ByteArray) : Option Int :=
  bif (a0.toList == (⟨#[]⟩ : ByteArray).toList) then
  (some 41)
  else
  (bif (decide ((a0.size : Int) > 256)) then
    (some 4)
    else
    (Option.bind (utf8_ValidString a0) fun (y3 : Bool) =>
      bif (!y3) then
      (some 12)
      else
      (some 0)))
theorem labels_value_walk {a0 : ByteArray} {I : Imm} {r : Int} (hG : Gl I) (hr : labels_value a0 = some r) (L : Own) :
    CallsTo Tryz.prog 87 #[.string a0] I L (fun v I' L' => v = .int .i64 r ∧ L = L') := by
  unfold labels_value at hr
  refine callsTo_body (N := 14) Tryz.func87 (by kernel_rfl) (by kernel_rfl) (by kernel_rfl) ?_
  refine gk_pick [0] (K' := [(0, .string a0)]) (by kernel_rfl) ?_
  refine gk_seq (by kernel_rfl) ?_
  refine gk_region (by kernel_rfl) ?_
  refine gl_pure 1 [0] (K' := [(0, .string a0)]) (by kernel_rfl) ?_
  refine gl_atE (by kernel_rfl) ?_
  refine ge_seq ?_
  refine gk_seq (by kernel_rfl) ?_
  refine gk_block (by kernel_rfl) ?_
  refine gk_seq (by kernel_rfl) ?_
  refine gk_region (by kernel_rfl) ?_
  refine gl_pure 3 [0, 3] (K' := [(0, .string a0), (3, .bool (a0.toList == (⟨#[]⟩ : ByteArray).toList))]) (by kernel_rfl) ?_
  refine gl_atE (by kernel_rfl) ?_
  refine ge_seq ?_
  refine gk_cond (b := (a0.toList == (⟨#[]⟩ : ByteArray).toList)) (by kernel_rfl) (by kernel_rfl) (fun hc1 => ?_) (fun hc1 => ?_)
  · have hr := cond_t hc1 hr
    refine gk_seq (by kernel_rfl) ?_
    refine gk_region (by kernel_rfl) ?_
    refine gl_pure 1 [2] (K' := [(2, .int .i64 41)]) (by kernel_rfl) ?_
    refine gl_atE (by kernel_rfl) ?_
    refine ge_seq ?_
    refine gk_ret (by kernel_rfl) ?_
    refine ge_block_ret ?_
    refine ge_seq_ret ?_
    obtain rfl := some_inj hr
    exact ge_result trivial (ResOk.tmp (by kernel_rfl) ResOk.nil) (Imm.refl _) ⟨rfl, rfl⟩
  · have hr := cond_f hc1 hr
    refine gk_seq (by kernel_rfl) ?_
    refine gk_region (by kernel_rfl) ?_
    refine gl_pure 4 [0, 6] (K' := [(0, .string a0), (6, .bool (decide ((a0.size : Int) > 256)))]) (by kernel_rfl) ?_
    refine gl_atE (by kernel_rfl) ?_
    refine ge_seq ?_
    refine gk_cond (b := (decide ((a0.size : Int) > 256))) (by kernel_rfl) (by kernel_rfl) (fun hc2 => ?_) (fun hc2 => ?_)
    · have hr := cond_t hc2 hr
      refine gk_seq (by kernel_rfl) ?_
      refine gk_region (by kernel_rfl) ?_
      refine gl_pure 1 [2] (K' := [(2, .int .i64 4)]) (by kernel_rfl) ?_
      refine gl_atE (by kernel_rfl) ?_
      refine ge_seq ?_
      refine gk_ret (by kernel_rfl) ?_
      refine ge_block_ret ?_
      refine ge_seq_ret ?_
      obtain rfl := some_inj hr
      exact ge_result trivial (ResOk.tmp (by kernel_rfl) ResOk.nil) (Imm.refl _) ⟨rfl, rfl⟩
    · have hr := cond_f hc2 hr
      refine gk_seq (by kernel_rfl) ?_
      refine gk_region (by kernel_rfl) ?_
      refine gl_pure 1 [11] (K' := [(11, .string a0)]) (by kernel_rfl) ?_
      obtain ⟨y3, hx4, hr⟩ := bind_some hr
      refine gl_callQ (by kernel_rfl) (utf8_ValidString_walk (r := y3) hG hx4 _) ?_
      refine gl_pure 2 [10] (K' := [(10, .bool (!y3))]) (by kernel_rfl) ?_
      refine gl_atE (by kernel_rfl) ?_
      refine ge_seq ?_
      refine gk_cond (b := (!y3)) (by kernel_rfl) (by kernel_rfl) (fun hc5 => ?_) (fun hc5 => ?_)
      · have hr := cond_t hc5 hr
        refine gk_seq (by kernel_rfl) ?_
        refine gk_region (by kernel_rfl) ?_
        refine gl_pure 1 [2] (K' := [(2, .int .i64 12)]) (by kernel_rfl) ?_
        refine gl_atE (by kernel_rfl) ?_
        refine ge_seq ?_
        refine gk_ret (by kernel_rfl) ?_
        refine ge_block_ret ?_
        refine ge_seq_ret ?_
        obtain rfl := some_inj hr
        exact ge_result trivial (ResOk.tmp (by kernel_rfl) ResOk.nil) (Imm.refl _) ⟨rfl, rfl⟩
      · have hr := cond_f hc5 hr
        refine gk_skip (by kernel_rfl) ?_
        refine ge_block_normal ?_
        refine ge_seq ?_
        refine gk_seq (by kernel_rfl) ?_
        refine gk_region (by kernel_rfl) ?_
        refine gl_pure 1 [2] (K' := [(2, .int .i64 0)]) (by kernel_rfl) ?_
        refine gl_atE (by kernel_rfl) ?_
        refine ge_seq ?_
        refine gk_ret (by kernel_rfl) ?_
        obtain rfl := some_inj hr
        exact ge_result trivial (ResOk.tmp (by kernel_rfl) ResOk.nil) (Imm.refl _) ⟨rfl, rfl⟩
end Go.Proofs.YtkjkkimnjpodiaaGreatDoor
