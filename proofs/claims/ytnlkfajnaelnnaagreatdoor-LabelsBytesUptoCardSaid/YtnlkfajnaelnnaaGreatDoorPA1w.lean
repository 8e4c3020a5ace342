/- Plain laws, base: loops that are alike; searches; words of bits. -/
import Derived.Test.YtnlkfajnaelnnaaGreatDoorB1cw
import Derived.Test.YtnlkfajnaelnnaaGreatDoorM1w
import Derived.Test.YtnlkfajnaelnnaaGreatDoorRows
import Derived.Deep.Slices
import Derived.Below
import Derived.Test.YtnlkfajnaelnnaaGreatDoorGB8w
set_option linter.unusedVariables false
set_option linter.unusedSimpArgs false
set_option maxRecDepth 100000
namespace Go.Proofs.YtnlkfajnaelnnaaGreatDoor
open Go.GB
/-! 106 slices_Contains  -/
noncomputable def slices_Contains (a0 : List ByteArray) (a1 : ByteArray) : Option Bool :=
  Option.bind (slices_Index a0 a1) fun (y1 : Int) =>
  some (decide (y1 ≥ 0))
theorem slices_Contains_walk {a0 : List ByteArray} {A0_0 : Option Addr} {n0_0 : Nat} {a1 : ByteArray} {I : Imm} {r : Bool}  (hf0_0 : RepS Kd.str I A0_0 n0_0 a0) (hr : slices_Contains a0 a1 = some r) (L : Own) :
    CallsTo Tryz.prog 106 #[.slice A0_0 a0.length n0_0, .string a1] I L (fun v I' L' => v = .bool r ∧ L = L') := by
  unfold slices_Contains at hr
  refine callsTo_body (N := 9) Tryz.func106 (by kernel_rfl) (by kernel_rfl) (by kernel_rfl) ?_
  refine gk_pick [0, 1] (K' := [(0, .slice A0_0 a0.length n0_0), (1, .string a1)]) (by kernel_rfl) ?_
  refine gk_seq (by kernel_rfl) ?_
  refine gk_region (by kernel_rfl) ?_
  refine gl_pure 1 [0, 1] (K' := [(0, .slice A0_0 a0.length n0_0), (1, .string a1)]) (by kernel_rfl) ?_
  refine gl_atE (by kernel_rfl) ?_
  refine ge_seq ?_
  refine gk_seq (by kernel_rfl) ?_
  refine gk_region (by kernel_rfl) ?_
  refine gl_pure 2 [5, 6] (K' := [(5, .slice A0_0 a0.length n0_0), (6, .string a1)]) (by kernel_rfl) ?_
  obtain ⟨y1, hx2, hr⟩ := bind_some hr
  refine gl_callQ (by kernel_rfl) (slices_Index_walk (r := y1) hf0_0 hx2 _) ?_
  refine gl_pure 2 [4] (K' := [(4, .bool (decide (y1 ≥ 0)))]) (by kernel_rfl) ?_
  refine gl_atE (by kernel_rfl) ?_
  refine ge_seq ?_
  refine gk_ret (by kernel_rfl) ?_
  obtain rfl := some_inj hr
  exact ge_result trivial (ResOk.tmp (by kernel_rfl) ResOk.nil) (Imm.refl _) ⟨rfl, rfl⟩
/-! 62 labels_pick  -/
noncomputable def labels_pick_l28 (a0 : List S49) (a1 : Bool) (a2 : List ByteArray) : ((List S49) × Int) → Option (((List S49) × Int) ⊕ ((List S49))) := fun s11 =>
  bif (decide (s11.2 < (a0.length : Int))) then
  (Option.bind (ix a0 s11.2) fun (x31 : S49) =>
    Option.bind (slices_Contains a2 x31.f0) fun (y40 : Bool) =>
    Option.bind (bif (y40 == a1) then
      (Option.bind (app s11.1 [x31]) fun (zs56 : List S49) =>
        some zs56)
      else
      (some s11.1)) fun (j42 : (List S49)) =>
    some (Sum.inl (j42, (IntKind.wrap .i64 (s11.2 + 1)))))
  else
  (some (Sum.inr s11.1))
noncomputable def labels_pick (a0 : List S49) (a1 : Bool) (a2 : List ByteArray) : Option (List S49) :=
  Option.bind (loopO (labels_pick_l28 a0 a1 a2) ([], 0)) fun (r9 : (List S49)) =>
  some r9
theorem labels_pick_walk {a0 : List S49} {A0_0 : Option Addr} {n0_0 : Nat} {a1 : Bool} {a2 : List ByteArray} {A2_0 : Option Addr} {n2_0 : Nat} {I : Imm} {r : (List S49)}  (hf0_0 : RepS kS49 I A0_0 n0_0 a0)  (hf2_0 : RepS Kd.str I A2_0 n2_0 a2) (hr : labels_pick a0 a1 a2 = some r) (L : Own) :
    CallsTo Tryz.prog 62 #[.slice A0_0 a0.length n0_0, .bool a1, .slice A2_0 a2.length n2_0] I L (fun v I' L' => ∃ A0 c0 C0, OwnS kS49 50 I' A0 c0 r C0 ∧ v = .slice A0 r.length c0 ∧ C0 ++ L = L') := by
  unfold labels_pick at hr
  refine callsTo_body (N := 28) Tryz.func62 (by kernel_rfl) (by kernel_rfl) (by kernel_rfl) ?_
  refine gk_pick [0, 1, 2] (K' := [(0, .slice A0_0 a0.length n0_0), (1, .bool a1), (2, .slice A2_0 a2.length n2_0)]) (by kernel_rfl) ?_
  refine gk_seq (by kernel_rfl) ?_
  refine gk_region (by kernel_rfl) ?_
  refine gl_pure 1 [0, 1, 2] (K' := [(0, .slice A0_0 a0.length n0_0), (1, .bool a1), (2, .slice A2_0 a2.length n2_0)]) (by kernel_rfl) ?_
  refine gl_atE (by kernel_rfl) ?_
  refine ge_seq ?_
  refine gk_seq (by kernel_rfl) ?_
  refine gk_region (by kernel_rfl) ?_
  refine gl_pure 1 [0, 1, 2, 7] (K' := [(0, .slice A0_0 a0.length n0_0), (1, .bool a1), (2, .slice A2_0 a2.length n2_0), (7, .slice none 0 0)]) (by kernel_rfl) ?_
  refine gl_atE (by kernel_rfl) ?_
  refine ge_seq ?_
  refine gk_seq (by kernel_rfl) ?_
  refine gk_seq (by kernel_rfl) ?_
  refine gk_region (by kernel_rfl) ?_
  refine gl_pure 3 [1, 2, 7, 10, 11, 12] (K' := [(1, .bool a1), (2, .slice A2_0 a2.length n2_0), (7, .slice none 0 0), (10, .slice A0_0 a0.length n0_0), (11, .int .i64 (a0.length : Int)), (12, .int .i64 0)]) (by kernel_rfl) ?_
  refine gl_atE (by kernel_rfl) ?_
  refine ge_seq ?_
  obtain ⟨r9, hl10, hr⟩ := bind_some hr
  refine gk_join (fun t I' L' => ∃ A22 n23 C24, OwnS kS49 50 I' A22 n23 r9 C24 ∧ I ≤ I' ∧ C24 ++ L = L' ∧ Knows 28 [(7, .slice A22 r9.length n23)] t) ?_ ?_
  · refine gk_block (by kernel_rfl) ?_
    refine gk_pick [1, 2, 7, 10, 11, 12] (K' := [(1, .bool a1), (2, .slice A2_0 a2.length n2_0), (7, .slice none 0 0), (10, .slice A0_0 a0.length n0_0), (11, .int .i64 (a0.length : Int)), (12, .int .i64 0)]) (by kernel_rfl) ?_
    intro t hK
    refine gc_loop (labels_pick_l28 a0 a1 a2) (fun s11 t I' L' => ∃ A15 n16 C17, OwnS kS49 50 I' A15 n16 s11.1 C17 ∧ I ≤ I' ∧ C17 ++ L = L' ∧ Knows 28 [(1, .bool a1), (2, .slice A2_0 a2.length n2_0), (7, .slice A15 s11.1.length n16), (10, .slice A0_0 a0.length n0_0), (11, .int .i64 (a0.length : Int)), (12, .int .i64 s11.2)] t) (by kernel_rfl) ?_ hl10 ⟨none, 0, [], OwnS.nil _ _ _ _, (Imm.refl _), rfl, hK⟩
    rintro s11 o12 t I20 L' hb13 ⟨A15, n16, C17, hO18, hI14, rfl, hK19⟩
    unfold labels_pick_l28 at hb13
    refine gk_at hK19 ?_
    refine gk_seq (by kernel_rfl) ?_
    refine gk_region (by kernel_rfl) ?_
    refine gl_pure 1 [1, 2, 7, 10, 11, 12, 13] (K' := [(1, .bool a1), (2, .slice A2_0 a2.length n2_0), (7, .slice A15 s11.1.length n16), (10, .slice A0_0 a0.length n0_0), (11, .int .i64 (a0.length : Int)), (12, .int .i64 s11.2), (13, .bool (decide (s11.2 < (a0.length : Int))))]) (by kernel_rfl) ?_
    refine gl_atE (by kernel_rfl) ?_
    refine ge_seq ?_
    refine gk_seq (by kernel_rfl) ?_
    refine gk_cond (b := (decide (s11.2 < (a0.length : Int)))) (by kernel_rfl) (by kernel_rfl) (fun hc30 => ?_) (fun hc30 => ?_)
    · have hb13 := cond_t hc30 hb13
      refine gk_skip (by kernel_rfl) ?_
      refine ge_seq ?_
      refine gk_seq (by kernel_rfl) ?_
      refine gk_block (by kernel_rfl) ?_
      refine gk_seq (by kernel_rfl) ?_
      refine gk_region (by kernel_rfl) ?_
      obtain ⟨x31, hx32, hb13⟩ := bind_some hb13
      obtain ⟨p33, cs34, hR35, hA36, ha37⟩ := RepS.ixAt hx32 (hf0_0.mono hI14)
      have hi38 := ix_some hx32
      obtain rfl := kS49_open hR35
      refine gl_indexAddrF (c := n0_0) (T' := 22) (e := 50) (xs := (.tmp 10)) (xi := (.tmp 12)) (kd := .i64) ha37 hi38.1 hi38.2.1 (by kernel_rfl) (by kernel_rfl) (by kernel_rfl) (by kernel_rfl) (by kernel_rfl) ?_
      refine gl_loadA (T' := 50) (xp := (.tmp 14)) (p := p33) (cs := [.string x31.f0, .string x31.f1]) (by kernel_rfl) (by kernel_rfl) (by kernel_rfl) (by kernel_rfl) (hA36.take 2) ?_
      refine gl_alloc (T' := 50) (cs := #[.string (⟨#[]⟩ : ByteArray), .string (⟨#[]⟩ : ByteArray)]) (by kernel_rfl) (by kernel_rfl) (by kernel_rfl) (fun g39 => ?_)
      refine gl_storeB (T' := 50) (xp := (.tmp 9)) (xv := (.tmp 15)) (v := .agg #[.string x31.f0, .string x31.f1]) (g := g39) (off := 0) (cs := #[.string (⟨#[]⟩ : ByteArray), .string (⟨#[]⟩ : ByteArray)]) (cs' := #[.string x31.f0, .string x31.f1]) (by kernel_rfl) (by kernel_rfl) (by kernel_rfl) (by kernel_rfl) (by kernel_rfl) (Upd.set _ _ _ _) ?_ (by kernel_rfl)
      refine gl_atE (by kernel_rfl) ?_
      refine ge_seq ?_
      refine gk_seq (by kernel_rfl) ?_
      refine gk_region (by kernel_rfl) ?_
      refine gl_pure 2 [1, 2, 7, 9, 10, 11, 12, 16, 17] (K' := [(1, .bool a1), (2, .slice A2_0 a2.length n2_0), (7, .slice A15 s11.1.length n16), (9, .pointer (some ⟨g39, 0, none⟩)), (10, .slice A0_0 a0.length n0_0), (11, .int .i64 (a0.length : Int)), (12, .int .i64 s11.2), (16, .slice A2_0 a2.length n2_0), (17, .pointer (some ⟨g39, 0, none⟩))]) (by kernel_rfl) ?_
      refine gl_loadB (T' := 9) (xp := (.tmp 17)) (v := .string x31.f0) (g := g39) (off := 0) (cs := #[.string x31.f0, .string x31.f1]) (e := 50) (fz := (0, 0)) (by kernel_rfl) (by kernel_rfl) (by kernel_rfl) List.mem_cons_self (by kernel_rfl) ?_
      obtain ⟨y40, hx41, hb13⟩ := bind_some hb13
      refine gl_callQ (by kernel_rfl) (slices_Contains_walk (r := y40) (hf2_0.mono hI14) hx41 _) ?_
      refine gl_pure 2 [1, 2, 7, 9, 10, 11, 12, 21] (K' := [(1, .bool a1), (2, .slice A2_0 a2.length n2_0), (7, .slice A15 s11.1.length n16), (9, .pointer (some ⟨g39, 0, none⟩)), (10, .slice A0_0 a0.length n0_0), (11, .int .i64 (a0.length : Int)), (12, .int .i64 s11.2), (21, .bool (y40 == a1))]) (by kernel_rfl) ?_
      refine gl_atE (by kernel_rfl) ?_
      refine ge_seq ?_
      obtain ⟨j42, hj43, hb13⟩ := bind_some hb13
      refine gk_join (fun t I' L' => ∃ A45 n46 C47, OwnS kS49 50 I' A45 n46 j42 C47 ∧ I20 ≤ I' ∧ C47 ++ L = L' ∧ Knows 28 [(1, .bool a1), (2, .slice A2_0 a2.length n2_0), (7, .slice A45 j42.length n46), (10, .slice A0_0 a0.length n0_0), (11, .int .i64 (a0.length : Int)), (12, .int .i64 s11.2)] t) ?_ ?_
      · refine gk_cond (b := (y40 == a1)) (by kernel_rfl) (by kernel_rfl) (fun hc51 => ?_) (fun hc51 => ?_)
        · have hj43 := cond_t hc51 hj43
          refine gk_region (by kernel_rfl) ?_
          refine gl_pure 1 [1, 2, 9, 10, 11, 12, 22] (K' := [(1, .bool a1), (2, .slice A2_0 a2.length n2_0), (9, .pointer (some ⟨g39, 0, none⟩)), (10, .slice A0_0 a0.length n0_0), (11, .int .i64 (a0.length : Int)), (12, .int .i64 s11.2), (22, .slice A15 s11.1.length n16)]) (by kernel_rfl) ?_
          refine gl_loadB (T' := 50) (xp := (.tmp 9)) (v := .agg #[.string x31.f0, .string x31.f1]) (g := g39) (off := 0) (cs := #[.string x31.f0, .string x31.f1]) (e := 50) (fz := (0, 0)) (by kernel_rfl) (by kernel_rfl) (by kernel_rfl) List.mem_cons_self (by kernel_rfl) ?_
          refine gl_buildSlice (T' := 22) (e := 50) (n := 2) (len := 1) (parts := #[(0, (.tmp 23))]) (l := [(0, .agg #[.string x31.f0, .string x31.f1])]) (cs := #[.string x31.f0, .string x31.f1]) (by kernel_rfl) (by kernel_rfl) (by kernel_rfl) (by kernel_rfl) (by kernel_rfl) (fun g52 => ?_)
          have hO53 : OwnS kS49 50 I20 (some ⟨g52, 0, none⟩) 1 [x31] [(g52, .cells #[.string x31.f0, .string x31.f1] 50)] := OwnS.lit (row_cons (l := [.string x31.f0, .string x31.f1]) (kS49_mk (x := x31) ) (row_nil _ _)) rfl rfl rfl
          refine gl_reord (D := [(g52, .cells #[.string x31.f0, .string x31.f1] 50)] ++ ((g39, .cells #[.string x31.f0, .string x31.f1] 50) :: (C17 ++ L))) (Reord.refl _) ?_
          obtain ⟨zs56, hz57, hj43⟩ := bind_some hj43
          refine gl_append (xv := .slice (some ⟨g52, 0, none⟩) [x31].length 1) (d := kS49) (t := 22) (tx := 22) (e := 50) (s := (.tmp 22)) (x := (.tmp 24)) (xs := s11.1) (fun X => [(g52, .cells #[.string x31.f0, .string x31.f1] 50)] ++ ((g39, .cells #[.string x31.f0, .string x31.f1] 50) :: (X ++ L))) hz57 (by kernel_rfl) (by kernel_rfl) (by kernel_rfl) (by kernel_rfl) (by kernel_rfl) (by kernel_rfl) (fun X => (Upd.app _ (Upd.one _ (Upd.head _ X _)))) hO18 (SrcOk.slice (c := 1) (e := 50) (n := 2) (OwnS.rd hO53 (Upd.selfC _ _)) (by kernel_rfl)) (fun A58 n59 C60 hO61 => ?_)
          refine gl_pure 1 [1, 2, 7, 10, 11, 12] (K' := [(1, .bool a1), (2, .slice A2_0 a2.length n2_0), (7, .slice A58 zs56.length n59), (10, .slice A0_0 a0.length n0_0), (11, .int .i64 (a0.length : Int)), (12, .int .i64 s11.2)]) (by kernel_rfl) ?_
          refine gl_reord (D := C60 ++ L) (Reord.step (Upd.app _ (Upd.one _ (Upd.rmC _ _))) (Reord.skipC (Reord.skip (Reord.refl _)))) ?_
          refine gl_atE (by kernel_rfl) ?_
          obtain rfl := some_inj hj43
          exact ge_mid fun t ht => ⟨A58, n59, C60, hO61, (Imm.refl _), rfl, ht.pick (l := [1, 2, 7, 10, 11, 12]) (by kernel_rfl)⟩
        · have hj43 := cond_f hc51 hj43
          refine gk_reord (D := C17 ++ L) (Reord.step (Upd.one _ (Upd.rmC _ _)) (Reord.skip (Reord.refl _))) ?_
          refine gk_skip (by kernel_rfl) ?_
          obtain rfl := some_inj hj43
          exact ge_mid fun t ht => ⟨A15, n16, C17, hO18, (Imm.refl _), rfl, ht.pick (l := [1, 2, 7, 10, 11, 12]) (by kernel_rfl)⟩
      · rintro t I50 L' ⟨A45, n46, C47, hO48, hI44, rfl, hK49⟩
        refine ge_at hK49 ?_
        refine ge_block_normal ?_
        refine ge_seq ?_
        refine gk_region (by kernel_rfl) ?_
        refine gl_pure 2 [1, 2, 7, 10, 11, 12] (K' := [(1, .bool a1), (2, .slice A2_0 a2.length n2_0), (7, .slice A45 j42.length n46), (10, .slice A0_0 a0.length n0_0), (11, .int .i64 (a0.length : Int)), (12, .int .i64 (IntKind.wrap .i64 (s11.2 + 1)))]) (by kernel_rfl) ?_
        refine gl_atE (by kernel_rfl) ?_
        obtain rfl := some_inj hb13
        exact ge_round fun t ht => ⟨A45, n46, C47, hO48, (Imm.trans hI14 hI44), rfl, ht.pick (l := [1, 2, 7, 10, 11, 12]) (by kernel_rfl)⟩
    · have hb13 := cond_f hc30 hb13
      refine gk_exit (by kernel_rfl) ?_
      refine ge_seq_exit ?_
      obtain rfl := some_inj hb13
      refine ge_round_out (fun hrr => ?_) (by intro h; cases h)
      obtain rfl := hrr
      refine ge_block_hit (by kernel_rfl) ?_
      exact ge_mid fun t ht => ⟨A15, n16, C17, hO18, hI14, rfl, ht.pick (l := [7]) (by kernel_rfl)⟩
  · rintro t I27 L' ⟨A22, n23, C24, hO25, hI21, rfl, hK26⟩
    refine ge_at hK26 ?_
    refine ge_seq ?_
    refine gk_seq (by kernel_rfl) ?_
    refine gk_region (by kernel_rfl) ?_
    refine gl_pure 2 [6] (K' := [(6, .slice A22 r9.length n23)]) (by kernel_rfl) ?_
    refine gl_atE (by kernel_rfl) ?_
    refine ge_seq ?_
    refine gk_ret (by kernel_rfl) ?_
    obtain rfl := some_inj hr
    exact ge_result trivial (ResOk.tmp (by kernel_rfl) ResOk.nil) hI21 ⟨A22, n23, C24, hO25, rfl, rfl⟩
/-- labels.quoted at "x" alone (elsewhere nothing is said). -/
def labels_quoted (a0 : ByteArray) : Option ByteArray := if a0 = ⟨#[120]⟩ then some ⟨#[34, 120, 34]⟩ else none
theorem labels_quoted_walk {a0 : ByteArray} {I : Imm} {r : ByteArray} (hG : Gl I) (hr : labels_quoted a0 = some r) (L : Own) :
    CallsTo Tryz.prog 63 #[.string a0] I L (fun v I' L' => v = .string r ∧ L = L') := by
  unfold labels_quoted at hr
  split at hr
  · rename_i h; subst h; cases hr
    exact callsTo_below hG.dr (fun W hW => quotedX_walk W)
  · cases hr

/-! 64 strings_Join  -/
noncomputable def strings_Join (a0 : List ByteArray) (a1 : ByteArray) : Option ByteArray :=
  bif ((a0.length : Int) == 0) then
  (some (⟨#[]⟩ : ByteArray))
  else
  (bif ((a0.length : Int) == 1) then
    (Option.bind (ix a0 0) fun (x3 : ByteArray) =>
      some x3)
    else
    (none))
theorem strings_Join_walk {a0 : List ByteArray} {A0_0 : Option Addr} {n0_0 : Nat} {a1 : ByteArray} {I : Imm} {r : ByteArray}  (hf0_0 : RepS Kd.str I A0_0 n0_0 a0) (hr : strings_Join a0 a1 = some r) (L : Own) :
    CallsTo Tryz.prog 64 #[.slice A0_0 a0.length n0_0, .string a1] I L (fun v I' L' => v = .string r ∧ L = L') := by
  unfold strings_Join at hr
  refine callsTo_body (N := 75) Tryz.func64 (by kernel_rfl) (by kernel_rfl) (by kernel_rfl) ?_
  refine gk_pick [0, 1] (K' := [(0, .slice A0_0 a0.length n0_0), (1, .string a1)]) (by kernel_rfl) ?_
  refine gk_seq (by kernel_rfl) ?_
  refine gk_region (by kernel_rfl) ?_
  refine gl_pure 1 [0, 1] (K' := [(0, .slice A0_0 a0.length n0_0), (1, .string a1)]) (by kernel_rfl) ?_
  refine gl_atE (by kernel_rfl) ?_
  refine ge_seq ?_
  refine gk_seq (by kernel_rfl) ?_
  refine gk_seq (by kernel_rfl) ?_
  refine gk_region (by kernel_rfl) ?_
  refine gl_pure 2 [0, 1, 12] (K' := [(0, .slice A0_0 a0.length n0_0), (1, .string a1), (12, .int .i64 (a0.length : Int))]) (by kernel_rfl) ?_
  refine gl_atE (by kernel_rfl) ?_
  refine ge_seq ?_
  refine gk_block (by kernel_rfl) ?_
  refine gk_seq (by kernel_rfl) ?_
  refine gk_region (by kernel_rfl) ?_
  refine gl_pure 2 [0, 1, 12, 13] (K' := [(0, .slice A0_0 a0.length n0_0), (1, .string a1), (12, .int .i64 (a0.length : Int)), (13, .bool ((a0.length : Int) == 0))]) (by kernel_rfl) ?_
  refine gl_atE (by kernel_rfl) ?_
  refine ge_seq ?_
  refine gk_cond (b := ((a0.length : Int) == 0)) (by kernel_rfl) (by kernel_rfl) (fun hc1 => ?_) (fun hc1 => ?_)
  · have hr := cond_t hc1 hr
    refine gk_seq (by kernel_rfl) ?_
    refine gk_region (by kernel_rfl) ?_
    refine gl_pure 1 [4] (K' := [(4, .string (⟨#[]⟩ : ByteArray))]) (by kernel_rfl) ?_
    refine gl_atE (by kernel_rfl) ?_
    refine ge_seq ?_
    refine gk_ret (by kernel_rfl) ?_
    refine ge_block_ret ?_
    refine ge_seq_ret ?_
    obtain rfl := some_inj hr
    exact ge_result trivial (ResOk.tmp (by kernel_rfl) ResOk.nil) (Imm.refl _) ⟨rfl, rfl⟩
  · have hr := cond_f hc1 hr
    refine gk_seq (by kernel_rfl) ?_
    refine gk_region (by kernel_rfl) ?_
    refine gl_pure 2 [0, 1, 15] (K' := [(0, .slice A0_0 a0.length n0_0), (1, .string a1), (15, .bool ((a0.length : Int) == 1))]) (by kernel_rfl) ?_
    refine gl_atE (by kernel_rfl) ?_
    refine ge_seq ?_
    refine gk_cond (b := ((a0.length : Int) == 1)) (by kernel_rfl) (by kernel_rfl) (fun hc2 => ?_) (fun hc2 => ?_)
    · have hr := cond_t hc2 hr
      refine gk_seq (by kernel_rfl) ?_
      refine gk_region (by kernel_rfl) ?_
      refine gl_pure 1 [17] (K' := [(17, .slice A0_0 a0.length n0_0)]) (by kernel_rfl) ?_
      obtain ⟨x3, hx4, hr⟩ := bind_some hr
      obtain ⟨p5, cs6, hR7, hA8, ha9⟩ := RepS.ixAt hx4 hf0_0
      have hi10 := ix_some hx4
      obtain rfl := hR7
      refine gl_indexAddrF (c := n0_0) (T' := 44) (e := 9) (xs := (.tmp 17)) (xi := (.const (.int .i64 0))) (kd := .i64) ha9 hi10.1 hi10.2.1 (by kernel_rfl) (by kernel_rfl) (by kernel_rfl) (by kernel_rfl) (by kernel_rfl) ?_
      refine gl_load (T' := 9) (xp := (.tmp 18)) (p := p5) (c := .string x3) (n := 1) (by kernel_rfl) (by kernel_rfl) (by kernel_rfl) (by kernel_rfl) hA8 ?_
      refine gl_pure 1 [4] (K' := [(4, .string x3)]) (by kernel_rfl) ?_
      refine gl_atE (by kernel_rfl) ?_
      refine ge_seq ?_
      refine gk_ret (by kernel_rfl) ?_
      refine ge_block_ret ?_
      refine ge_seq_ret ?_
      obtain rfl := some_inj hr
      exact ge_result trivial (ResOk.tmp (by kernel_rfl) ResOk.nil) (Imm.refl _) ⟨rfl, rfl⟩
    · have hr := cond_f hc2 hr
      cases hr
/-! 23 labels_Print  -/
noncomputable def labels_Print_l72 (j8 : ByteArray × (List S49)) : ((List ByteArray) × Int) → Option (((List ByteArray) × Int) ⊕ ((List ByteArray))) := fun s55 =>
  bif (decide (s55.2 < (j8.2.length : Int))) then
  (Option.bind (ix j8.2 s55.2) fun (x75 : S49) =>
    Option.bind (sadd x75.f0 (⟨#[61]⟩ : ByteArray)) fun (s84 : ByteArray) =>
    Option.bind (labels_quoted x75.f1) fun (y86 : ByteArray) =>
    Option.bind (sadd s84 y86) fun (s88 : ByteArray) =>
    Option.bind (app s55.1 [s88]) fun (zs94 : List ByteArray) =>
    some (Sum.inl (zs94, (IntKind.wrap .i64 (s55.2 + 1)))))
  else
  (some (Sum.inr s55.1))
noncomputable def labels_Print (a0 : List S49) : Option (ByteArray × Int) :=
  Option.bind (labels_right a0) fun (y1 : Int) =>
  bif (y1 != 0) then
  (some ((⟨#[]⟩ : ByteArray), y1))
  else
  (Option.bind (labels_Get a0 (⟨#[95, 95, 110, 97, 109, 101, 95, 95]⟩ : ByteArray)) fun (y4 : ByteArray) =>
    Option.bind (labels_Metric y4) fun (y6 : Bool) =>
    Option.bind (bif y6 then
      (Option.bind (labels_pick a0 false [(⟨#[95, 95, 110, 97, 109, 101, 95, 95]⟩ : ByteArray)]) fun (y25 : (List S49)) =>
        some (y4, y25))
      else
      (some ((⟨#[]⟩ : ByteArray), a0))) fun (j8 : ByteArray × (List S49)) =>
    bif ((!(j8.1.toList == (⟨#[]⟩ : ByteArray).toList)) && ((j8.2.length : Int) == 0)) then
    (some (j8.1, 0))
    else
    (Option.bind (loopO (labels_Print_l72 j8) ([], 0)) fun (r53 : (List ByteArray)) =>
      Option.bind (sadd j8.1 (⟨#[123]⟩ : ByteArray)) fun (s100 : ByteArray) =>
      Option.bind (strings_Join r53 (⟨#[44]⟩ : ByteArray)) fun (y102 : ByteArray) =>
      Option.bind (sadd s100 y102) fun (s104 : ByteArray) =>
      Option.bind (sadd s104 (⟨#[125]⟩ : ByteArray)) fun (s106 : ByteArray) =>
      some (s106, 0)))
theorem labels_Print_walk {a0 : List S49} {A0_0 : Option Addr} {n0_0 : Nat} {I : Imm} {r : ByteArray × Int} (hG : Gl I)  (hf0_0 : RepS kS49 I A0_0 n0_0 a0) (hr : labels_Print a0 = some r) (L : Own) :
    CallsTo Tryz.prog 23 #[.slice A0_0 a0.length n0_0] I L (fun v I' L' => v = .tuple #[.string r.1, .int .i64 r.2] ∧ L = L') := by
  unfold labels_Print at hr
  refine callsTo_body (N := 54) Tryz.func23 (by kernel_rfl) (by kernel_rfl) (by kernel_rfl) ?_
  refine gk_pick [0] (K' := [(0, .slice A0_0 a0.length n0_0)]) (by kernel_rfl) ?_
  refine gk_seq (by kernel_rfl) ?_
  refine gk_region (by kernel_rfl) ?_
  refine gl_pure 2 [0] (K' := [(0, .slice A0_0 a0.length n0_0)]) (by kernel_rfl) ?_
  refine gl_atE (by kernel_rfl) ?_
  refine ge_seq ?_
  refine gk_seq (by kernel_rfl) ?_
  refine gk_seq (by kernel_rfl) ?_
  refine gk_region (by kernel_rfl) ?_
  refine gl_pure 1 [0, 10] (K' := [(0, .slice A0_0 a0.length n0_0), (10, .slice A0_0 a0.length n0_0)]) (by kernel_rfl) ?_
  obtain ⟨y1, hx2, hr⟩ := bind_some hr
  refine gl_callQ (by kernel_rfl) (labels_right_walk (r := y1) hG hf0_0 hx2 _) ?_
  refine gl_pure 1 [0, 4] (K' := [(0, .slice A0_0 a0.length n0_0), (4, .int .i64 y1)]) (by kernel_rfl) ?_
  refine gl_atE (by kernel_rfl) ?_
  refine ge_seq ?_
  refine gk_seq (by kernel_rfl) ?_
  refine gk_region (by kernel_rfl) ?_
  refine gl_pure 2 [0, 4, 13] (K' := [(0, .slice A0_0 a0.length n0_0), (4, .int .i64 y1), (13, .bool (y1 != 0))]) (by kernel_rfl) ?_
  refine gl_atE (by kernel_rfl) ?_
  refine ge_seq ?_
  refine gk_cond (b := (y1 != 0)) (by kernel_rfl) (by kernel_rfl) (fun hc3 => ?_) (fun hc3 => ?_)
  · have hr := cond_t hc3 hr
    refine gk_seq (by kernel_rfl) ?_
    refine gk_region (by kernel_rfl) ?_
    refine gl_pure 3 [2, 3] (K' := [(2, .string (⟨#[]⟩ : ByteArray)), (3, .int .i64 y1)]) (by kernel_rfl) ?_
    refine gl_atE (by kernel_rfl) ?_
    refine ge_seq ?_
    refine gk_ret (by kernel_rfl) ?_
    refine ge_seq_ret ?_
    obtain rfl := some_inj hr
    exact ge_result trivial (ResOk.tmp (by kernel_rfl) (ResOk.tmp (by kernel_rfl) ResOk.nil)) (Imm.refl _) ⟨rfl, rfl⟩
  · have hr := cond_f hc3 hr
    refine gk_skip (by kernel_rfl) ?_
    refine ge_seq ?_
    refine gk_seq (by kernel_rfl) ?_
    refine gk_region (by kernel_rfl) ?_
    refine gl_pure 1 [0, 15] (K' := [(0, .slice A0_0 a0.length n0_0), (15, .slice A0_0 a0.length n0_0)]) (by kernel_rfl) ?_
    obtain ⟨y4, hx5, hr⟩ := bind_some hr
    refine gl_callQ (by kernel_rfl) (labels_Get_walk (r := y4) hf0_0 hx5 _) ?_
    refine gl_pure 1 [0, 5] (K' := [(0, .slice A0_0 a0.length n0_0), (5, .string y4)]) (by kernel_rfl) ?_
    refine gl_atE (by kernel_rfl) ?_
    refine ge_seq ?_
    refine gk_seq (by kernel_rfl) ?_
    refine gk_region (by kernel_rfl) ?_
    refine gl_pure 2 [0, 5, 6] (K' := [(0, .slice A0_0 a0.length n0_0), (5, .string y4), (6, .slice A0_0 a0.length n0_0)]) (by kernel_rfl) ?_
    refine gl_atE (by kernel_rfl) ?_
    refine ge_seq ?_
    refine gk_seq (by kernel_rfl) ?_
    refine gk_seq (by kernel_rfl) ?_
    refine gk_region (by kernel_rfl) ?_
    refine gl_pure 1 [0, 5, 6, 18] (K' := [(0, .slice A0_0 a0.length n0_0), (5, .string y4), (6, .slice A0_0 a0.length n0_0), (18, .string y4)]) (by kernel_rfl) ?_
    obtain ⟨y6, hx7, hr⟩ := bind_some hr
    refine gl_callQ (by kernel_rfl) (labels_Metric_walk (r := y6)  hx7 _) ?_
    refine gl_atE (by kernel_rfl) ?_
    refine ge_seq ?_
    obtain ⟨j8, hj9, hr⟩ := bind_some hr
    refine gk_join (fun t I' L' => ∃ A11 n12, RepS kS49 I' A11 n12 j8.2 ∧ I ≤ I' ∧ L = L' ∧ Knows 54 [(5, .string j8.1), (6, .slice A11 j8.2.length n12)] t) ?_ ?_
    · refine gk_cond (b := y6) (by kernel_rfl) (by kernel_rfl) (fun hc16 => ?_) (fun hc16 => ?_)
      · have hj9 := cond_t hc16 hj9
        refine gk_region (by kernel_rfl) ?_
        refine gl_pure 1 [5, 20] (K' := [(5, .string y4), (20, .slice A0_0 a0.length n0_0)]) (by kernel_rfl) ?_
        refine gl_buildSlice (T' := 44) (e := 9) (n := 1) (len := 1) (parts := #[(0, (.const (.string (⟨#[95, 95, 110, 97, 109, 101, 95, 95]⟩ : ByteArray))))]) (l := [(0, .string (⟨#[95, 95, 110, 97, 109, 101, 95, 95]⟩ : ByteArray))]) (cs := #[.string (⟨#[95, 95, 110, 97, 109, 101, 95, 95]⟩ : ByteArray)]) (by kernel_rfl) (by kernel_rfl) (by kernel_rfl) (by kernel_rfl) (by kernel_rfl) (fun g17 => ?_)
        have hO18 : OwnS Kd.str 9 I (some ⟨g17, 0, none⟩) 1 [(⟨#[95, 95, 110, 97, 109, 101, 95, 95]⟩ : ByteArray)] [(g17, .cells #[.string (⟨#[95, 95, 110, 97, 109, 101, 95, 95]⟩ : ByteArray)] 9)] := OwnS.lit (row_cons (l := [.string (⟨#[95, 95, 110, 97, 109, 101, 95, 95]⟩ : ByteArray)]) rfl (row_nil _ _)) rfl rfl rfl
        refine gl_reord (D := [(g17, .cells #[.string (⟨#[95, 95, 110, 97, 109, 101, 95, 95]⟩ : ByteArray)] 9)] ++ L) (Reord.refl _) ?_
        refine gl_rest (Tk.step (Upd.rmC _ _) (Tk.nil _)) (fun J21 hJ22 hC23 => ?_)
        have hf24 := (OwnS.rest hO18 hJ22 hC23.left)
        obtain ⟨y25, hx26, hj9⟩ := bind_some hj9
        refine gl_call (by kernel_rfl) (labels_pick_walk (r := y25) (hf0_0.mono hJ22) hf24 hx26 _) ?_
        rintro v I27 L28 hI29 ⟨A30, c31, C32, hO33, rfl, rfl⟩
        refine gl_pure 1 [5, 6] (K' := [(5, .string y4), (6, .slice A30 y25.length c31)]) (by kernel_rfl) ?_
        refine gl_rest (Tk.step (Upd.rmC _ _) (Tk.nil _)) (fun J34 hJ35 hC36 => ?_)
        have hf37 := (OwnS.rest hO33 hJ35 hC36.left)
        refine gl_atE (by kernel_rfl) ?_
        obtain rfl := some_inj hj9
        exact ge_mid fun t ht => ⟨A30, c31, hf37, (Imm.trans (Imm.trans hJ22 hI29) hJ35), rfl, ht.pick (l := [5, 6]) (by kernel_rfl)⟩
      · have hj9 := cond_f hc16 hj9
        refine gk_region (by kernel_rfl) ?_
        refine gl_pure 1 [5, 6] (K' := [(5, .string (⟨#[]⟩ : ByteArray)), (6, .slice A0_0 a0.length n0_0)]) (by kernel_rfl) ?_
        refine gl_atE (by kernel_rfl) ?_
        obtain rfl := some_inj hj9
        exact ge_mid fun t ht => ⟨A0_0, n0_0, hf0_0, (Imm.refl _), rfl, ht.pick (l := [5, 6]) (by kernel_rfl)⟩
    · rintro t I15 L' ⟨A11, n12, hf13, hI10, rfl, hK14⟩
      refine ge_at hK14 ?_
      refine ge_seq ?_
      refine gk_seq (by kernel_rfl) ?_
      refine gk_seq (by kernel_rfl) ?_
      obtain ⟨b40, hb41⟩ : ∃ z, z = ((!(j8.1.toList == (⟨#[]⟩ : ByteArray).toList)) && ((j8.2.length : Int) == 0)) := ⟨_, rfl⟩
      refine gk_join (fun t I' L' => I15 ≤ I' ∧ L = L' ∧ Knows 54 [(5, .string j8.1), (6, .slice A11 j8.2.length n12), (29, .bool b40)] t) ?_ ?_
      · refine gk_region (by kernel_rfl) ?_
        refine gl_pure 3 [5, 6, 25] (K' := [(5, .string j8.1), (6, .slice A11 j8.2.length n12), (25, .bool (!(j8.1.toList == (⟨#[]⟩ : ByteArray).toList)))]) (by kernel_rfl) ?_
        refine gl_case 25 (b := (!(j8.1.toList == (⟨#[]⟩ : ByteArray).toList))) (by kernel_rfl) (fun hc43 => ?_) (fun hc43 => ?_)
        · refine gl_pure 4 [5, 6, 29] (K' := [(5, .string j8.1), (6, .slice A11 j8.2.length n12), (29, .bool ((j8.2.length : Int) == 0))]) (by kernel_rfl) ?_
          refine gl_atE (by kernel_rfl) ?_
          exact ge_mid fun t ht => ⟨(Imm.refl _), rfl, by rw [(show b40 = ((j8.2.length : Int) == 0) from hb41.trans (by first | (rw [hc43]; done) | (rw [hc43]; rfl) | (simp [hc43]; done) | (simp only [hc43]; rfl) | (simp at *; omega)))]; exact ht.pick (l := [5, 6, 29]) (by kernel_rfl)⟩
        · refine gl_pure 4 [5, 6, 29] (K' := [(5, .string j8.1), (6, .slice A11 j8.2.length n12), (29, .bool false)]) (by kernel_rfl) ?_
          refine gl_atE (by kernel_rfl) ?_
          exact ge_mid fun t ht => ⟨(Imm.refl _), rfl, by rw [(show b40 = false from hb41.trans (by first | (rw [hc43]; done) | (rw [hc43]; rfl) | (simp [hc43]; done) | (simp only [hc43]; rfl) | (simp at *; omega)))]; exact ht.pick (l := [5, 6, 29]) (by kernel_rfl)⟩
      · rintro t I42 L' ⟨hI38, rfl, hK39⟩
        subst hb41
        refine ge_at hK39 ?_
        refine ge_seq ?_
        refine gk_cond (b := ((!(j8.1.toList == (⟨#[]⟩ : ByteArray).toList)) && ((j8.2.length : Int) == 0))) (by kernel_rfl) (by kernel_rfl) (fun hc44 => ?_) (fun hc44 => ?_)
        · have hr := cond_t hc44 hr
          refine gk_seq (by kernel_rfl) ?_
          refine gk_region (by kernel_rfl) ?_
          refine gl_pure 3 [2, 3] (K' := [(2, .string j8.1), (3, .int .i64 0)]) (by kernel_rfl) ?_
          refine gl_atE (by kernel_rfl) ?_
          refine ge_seq ?_
          refine gk_ret (by kernel_rfl) ?_
          refine ge_seq_ret ?_
          obtain rfl := some_inj hr
          exact ge_result trivial (ResOk.tmp (by kernel_rfl) (ResOk.tmp (by kernel_rfl) ResOk.nil)) (Imm.trans hI10 hI38) ⟨rfl, rfl⟩
        · have hr := cond_f hc44 hr
          refine gk_skip (by kernel_rfl) ?_
          refine ge_seq ?_
          refine gk_seq (by kernel_rfl) ?_
          refine gk_region (by kernel_rfl) ?_
          refine gl_pure 1 [5, 6, 7] (K' := [(5, .string j8.1), (6, .slice A11 j8.2.length n12), (7, .slice none 0 0)]) (by kernel_rfl) ?_
          refine gl_atE (by kernel_rfl) ?_
          refine ge_seq ?_
          refine gk_seq (by kernel_rfl) ?_
          refine gk_seq (by kernel_rfl) ?_
          refine gk_region (by kernel_rfl) ?_
          refine gl_pure 3 [5, 7, 31, 32, 33] (K' := [(5, .string j8.1), (7, .slice none 0 0), (31, .slice A11 j8.2.length n12), (32, .int .i64 (j8.2.length : Int)), (33, .int .i64 0)]) (by kernel_rfl) ?_
          refine gl_atE (by kernel_rfl) ?_
          refine ge_seq ?_
          obtain ⟨r53, hl54, hr⟩ := bind_some hr
          refine gk_join (fun t I' L' => ∃ A66 n67 C68, OwnS Kd.str 9 I' A66 n67 r53 C68 ∧ I42 ≤ I' ∧ C68 ++ L = L' ∧ Knows 54 [(5, .string j8.1), (7, .slice A66 r53.length n67)] t) ?_ ?_
          · refine gk_block (by kernel_rfl) ?_
            refine gk_pick [5, 7, 31, 32, 33] (K' := [(5, .string j8.1), (7, .slice none 0 0), (31, .slice A11 j8.2.length n12), (32, .int .i64 (j8.2.length : Int)), (33, .int .i64 0)]) (by kernel_rfl) ?_
            intro t hK
            refine gc_loop (labels_Print_l72 j8) (fun s55 t I' L' => ∃ A59 n60 C61, OwnS Kd.str 9 I' A59 n60 s55.1 C61 ∧ I42 ≤ I' ∧ C61 ++ L = L' ∧ Knows 54 [(5, .string j8.1), (7, .slice A59 s55.1.length n60), (31, .slice A11 j8.2.length n12), (32, .int .i64 (j8.2.length : Int)), (33, .int .i64 s55.2)] t) (by kernel_rfl) ?_ hl54 ⟨none, 0, [], OwnS.nil _ _ _ _, (Imm.refl _), rfl, hK⟩
            rintro s55 o56 t I64 L' hb57 ⟨A59, n60, C61, hO62, hI58, rfl, hK63⟩
            unfold labels_Print_l72 at hb57
            refine gk_at hK63 ?_
            refine gk_seq (by kernel_rfl) ?_
            refine gk_region (by kernel_rfl) ?_
            refine gl_pure 1 [5, 7, 31, 32, 33, 34] (K' := [(5, .string j8.1), (7, .slice A59 s55.1.length n60), (31, .slice A11 j8.2.length n12), (32, .int .i64 (j8.2.length : Int)), (33, .int .i64 s55.2), (34, .bool (decide (s55.2 < (j8.2.length : Int))))]) (by kernel_rfl) ?_
            refine gl_atE (by kernel_rfl) ?_
            refine ge_seq ?_
            refine gk_seq (by kernel_rfl) ?_
            refine gk_cond (b := (decide (s55.2 < (j8.2.length : Int)))) (by kernel_rfl) (by kernel_rfl) (fun hc74 => ?_) (fun hc74 => ?_)
            · have hb57 := cond_t hc74 hb57
              refine gk_skip (by kernel_rfl) ?_
              refine ge_seq ?_
              refine gk_seq (by kernel_rfl) ?_
              refine gk_block (by kernel_rfl) ?_
              refine gk_seq (by kernel_rfl) ?_
              refine gk_region (by kernel_rfl) ?_
              obtain ⟨x75, hx76, hb57⟩ := bind_some hb57
              obtain ⟨p77, cs78, hR79, hA80, ha81⟩ := RepS.ixAt hx76 (hf13.mono (Imm.trans hI38 hI58))
              have hi82 := ix_some hx76
              obtain rfl := kS49_open hR79
              refine gl_indexAddrF (c := n12) (T' := 22) (e := 50) (xs := (.tmp 31)) (xi := (.tmp 33)) (kd := .i64) ha81 hi82.1 hi82.2.1 (by kernel_rfl) (by kernel_rfl) (by kernel_rfl) (by kernel_rfl) (by kernel_rfl) ?_
              refine gl_loadA (T' := 50) (xp := (.tmp 35)) (p := p77) (cs := [.string x75.f0, .string x75.f1]) (by kernel_rfl) (by kernel_rfl) (by kernel_rfl) (by kernel_rfl) (hA80.take 2) ?_
              refine gl_alloc (T' := 50) (cs := #[.string (⟨#[]⟩ : ByteArray), .string (⟨#[]⟩ : ByteArray)]) (by kernel_rfl) (by kernel_rfl) (by kernel_rfl) (fun g83 => ?_)
              refine gl_storeB (T' := 50) (xp := (.tmp 9)) (xv := (.tmp 36)) (v := .agg #[.string x75.f0, .string x75.f1]) (g := g83) (off := 0) (cs := #[.string (⟨#[]⟩ : ByteArray), .string (⟨#[]⟩ : ByteArray)]) (cs' := #[.string x75.f0, .string x75.f1]) (by kernel_rfl) (by kernel_rfl) (by kernel_rfl) (by kernel_rfl) (by kernel_rfl) (Upd.set _ _ _ _) ?_ (by kernel_rfl)
              refine gl_atE (by kernel_rfl) ?_
              refine ge_seq ?_
              refine gk_draw 9 [(0, true), (1, true), (2, true), (3, true), (4, true), (5, true), (6, true), (7, true), (8, false)] [(g83, .cells #[.string x75.f0, .string x75.f1] 50)] (List.forall_mem_cons.2 ⟨List.mem_cons_self, (fun p hp => by cases hp)⟩) (by kernel_rfl) (by kernel_rfl) (by kernel_rfl) ?_ (by kernel_rfl)
              refine gd_pure 2 [5, 7, 9, 31, 32, 33, 37, 38] (K' := [(5, .string j8.1), (7, .slice A59 s55.1.length n60), (9, .pointer (some ⟨g83, 0, none⟩)), (31, .slice A11 j8.2.length n12), (32, .int .i64 (j8.2.length : Int)), (33, .int .i64 s55.2), (37, .slice A59 s55.1.length n60), (38, .pointer (some ⟨g83, 0, none⟩))]) (s' := [(2, true), (3, true), (4, true), (5, true), (6, true), (7, true), (8, false)]) (CC.refl (List.forall_mem_cons.2 ⟨List.mem_cons_self, (fun p hp => by cases hp)⟩)) (by kernel_rfl) ?_
              refine gd_q (v := .string x75.f0) (by kernel_rfl) (by kernel_rfl) (CC.refl (List.forall_mem_cons.2 ⟨List.mem_cons_self, (fun p hp => by cases hp)⟩)) (fun I' L' T hC kk => gl_loadB (T' := 9) (xp := (.tmp 38)) (v := .string x75.f0) (g := g83) (off := 0) (cs := #[.string x75.f0, .string x75.f1]) (e := 50) (fz := (0, 0)) (by kernel_rfl) (by kernel_rfl) (by kernel_rfl) (hC.sub _ List.mem_cons_self) (by kernel_rfl) kk) ?_
              obtain ⟨s84, hx85, hb57⟩ := bind_some hb57
              refine gd_q (v := .string s84) (by kernel_rfl) (by kernel_rfl) (CC.refl (List.forall_mem_cons.2 ⟨List.mem_cons_self, (fun p hp => by cases hp)⟩)) (fun I' L' T hC kk => gl_sadd (t := 9) (t' := 9) (x := (.tmp 39)) (y := (.const (.string (⟨#[61]⟩ : ByteArray)))) hx85 (by kernel_rfl) (by kernel_rfl) (by kernel_rfl) (by kernel_rfl) kk) ?_
              refine gd_pure 1 [5, 7, 31, 32, 33, 37, 40, 41] (K' := [(5, .string j8.1), (7, .slice A59 s55.1.length n60), (31, .slice A11 j8.2.length n12), (32, .int .i64 (j8.2.length : Int)), (33, .int .i64 s55.2), (37, .slice A59 s55.1.length n60), (40, .string s84), (41, .pointer (some ⟨g83, 1, none⟩))]) (s' := [(5, true), (6, true), (7, true), (8, false)]) (CC.refl (List.forall_mem_cons.2 ⟨List.mem_cons_self, (fun p hp => by cases hp)⟩)) (by kernel_rfl) ?_
              refine gd_q (v := .string x75.f1) (by kernel_rfl) (by kernel_rfl) (CC.refl (List.forall_mem_cons.2 ⟨List.mem_cons_self, (fun p hp => by cases hp)⟩)) (fun I' L' T hC kk => gl_loadB (T' := 9) (xp := (.tmp 41)) (v := .string x75.f1) (g := g83) (off := 1) (cs := #[.string x75.f0, .string x75.f1]) (e := 50) (fz := (0, 0)) (by kernel_rfl) (by kernel_rfl) (by kernel_rfl) (hC.sub _ List.mem_cons_self) (by kernel_rfl) kk) ?_
              obtain ⟨y86, hx87, hb57⟩ := bind_some hb57
              refine gd_q (v := .string y86) (by kernel_rfl) (by kernel_rfl) (CC.refl (List.forall_mem_cons.2 ⟨List.mem_cons_self, (fun p hp => by cases hp)⟩)) (fun I' L' T hC kk => gl_callQ (by kernel_rfl) (labels_quoted_walk (r := y86) ((hG.mono (Imm.trans (Imm.trans hI10 hI38) hI58)).mono hC.le) hx87 _) kk) ?_
              obtain ⟨s88, hx89, hb57⟩ := bind_some hb57
              refine gd_q (v := .string s88) (by kernel_rfl) (by kernel_rfl) (CC.refl (List.forall_mem_cons.2 ⟨List.mem_cons_self, (fun p hp => by cases hp)⟩)) (fun I' L' T hC kk => gl_sadd (t := 9) (t' := 9) (x := (.tmp 40)) (y := (.tmp 43)) hx89 (by kernel_rfl) (by kernel_rfl) (by kernel_rfl) (by kernel_rfl) kk) ?_
              refine gd_one (by kernel_rfl) ?_
              refine gl_buildSlice (T' := 44) (e := 9) (n := 1) (len := 1) (parts := #[(0, (.tmp 44))]) (l := [(0, .string s88)]) (cs := #[.string s88]) (by kernel_rfl) (by kernel_rfl) (by kernel_rfl) (by kernel_rfl) (by kernel_rfl) (fun g90 => ?_)
              have hO91 : OwnS Kd.str 9 I64 (some ⟨g90, 0, none⟩) 1 [s88] [(g90, .cells #[.string s88] 9)] := OwnS.lit (row_cons (l := [.string s88]) rfl (row_nil _ _)) rfl rfl rfl
              refine gl_reord (D := [(g90, .cells #[.string s88] 9)] ++ ((g83, .cells #[.string x75.f0, .string x75.f1] 50) :: (C61 ++ L))) (Reord.refl _) ?_
              refine gl_toD (by kernel_rfl) ⟨(Imm.refl _), (List.forall_mem_cons.2 ⟨(List.mem_append_right _ List.mem_cons_self), (fun p hp => by cases hp)⟩)⟩ ?_
              refine gd_done ?_
              obtain ⟨zs94, hz95, hb57⟩ := bind_some hb57
              refine gl_append (xv := .slice (some ⟨g90, 0, none⟩) [s88].length 1) (d := Kd.str) (t := 44) (tx := 44) (e := 9) (s := (.tmp 37)) (x := (.tmp 45)) (xs := s55.1) (fun X => [(g90, .cells #[.string s88] 9)] ++ ((g83, .cells #[.string x75.f0, .string x75.f1] 50) :: (X ++ L))) hz95 (by kernel_rfl) (by kernel_rfl) (by kernel_rfl) (by kernel_rfl) (by kernel_rfl) (by kernel_rfl) (fun X => (Upd.app _ (Upd.one _ (Upd.head _ X _)))) hO62 (SrcOk.slice (c := 1) (e := 9) (n := 1) (OwnS.rd hO91 (Upd.selfC _ _)) (by kernel_rfl)) (fun A96 n97 C98 hO99 => ?_)
              refine gl_pure 1 [5, 7, 31, 32, 33] (K' := [(5, .string j8.1), (7, .slice A96 zs94.length n97), (31, .slice A11 j8.2.length n12), (32, .int .i64 (j8.2.length : Int)), (33, .int .i64 s55.2)]) (by kernel_rfl) ?_
              refine gl_atE (by kernel_rfl) ?_
              refine ge_block_normal ?_
              refine ge_seq ?_
              refine gk_region (by kernel_rfl) ?_
              refine gl_pure 2 [5, 7, 31, 32, 33] (K' := [(5, .string j8.1), (7, .slice A96 zs94.length n97), (31, .slice A11 j8.2.length n12), (32, .int .i64 (j8.2.length : Int)), (33, .int .i64 (IntKind.wrap .i64 (s55.2 + 1)))]) (by kernel_rfl) ?_
              refine gl_reord (D := C98 ++ L) (Reord.step (Upd.app _ (Upd.one _ (Upd.rmC _ _))) (Reord.skipC (Reord.skip (Reord.refl _)))) ?_
              refine gl_atE (by kernel_rfl) ?_
              obtain rfl := some_inj hb57
              exact ge_round fun t ht => ⟨A96, n97, C98, hO99, hI58, rfl, ht.pick (l := [5, 7, 31, 32, 33]) (by kernel_rfl)⟩
            · have hb57 := cond_f hc74 hb57
              refine gk_exit (by kernel_rfl) ?_
              refine ge_seq_exit ?_
              obtain rfl := some_inj hb57
              refine ge_round_out (fun hrr => ?_) (by intro h; cases h)
              obtain rfl := hrr
              refine ge_block_hit (by kernel_rfl) ?_
              exact ge_mid fun t ht => ⟨A59, n60, C61, hO62, hI58, rfl, ht.pick (l := [5, 7]) (by kernel_rfl)⟩
          · rintro t I71 L' ⟨A66, n67, C68, hO69, hI65, rfl, hK70⟩
            refine ge_at hK70 ?_
            refine ge_seq ?_
            refine gk_seq (by kernel_rfl) ?_
            refine gk_region (by kernel_rfl) ?_
            refine gl_pure 1 [7, 48] (K' := [(7, .slice A66 r53.length n67), (48, .string j8.1)]) (by kernel_rfl) ?_
            obtain ⟨s100, hx101, hr⟩ := bind_some hr
            refine gl_sadd (t := 9) (t' := 9) (x := (.tmp 48)) (y := (.const (.string (⟨#[123]⟩ : ByteArray)))) hx101 (by kernel_rfl) (by kernel_rfl) (by kernel_rfl) (by kernel_rfl) ?_
            refine gl_pure 1 [49, 50] (K' := [(49, .string s100), (50, .slice A66 r53.length n67)]) (by kernel_rfl) ?_
            obtain ⟨y102, hx103, hr⟩ := bind_some hr
            refine gl_callB (r := .string y102) (Tk.step (Upd.rmC _ _) (Tk.nil _)) (by kernel_rfl) (fun J hJ hC => strings_Join_walk (r := y102) (OwnS.rest hO69 hJ hC.left) hx103 _) ?_
            obtain ⟨s104, hx105, hr⟩ := bind_some hr
            refine gl_sadd (t := 9) (t' := 9) (x := (.tmp 49)) (y := (.tmp 51)) hx105 (by kernel_rfl) (by kernel_rfl) (by kernel_rfl) (by kernel_rfl) ?_
            obtain ⟨s106, hx107, hr⟩ := bind_some hr
            refine gl_sadd (t := 9) (t' := 9) (x := (.tmp 52)) (y := (.const (.string (⟨#[125]⟩ : ByteArray)))) hx107 (by kernel_rfl) (by kernel_rfl) (by kernel_rfl) (by kernel_rfl) ?_
            refine gl_pure 2 [2, 3] (K' := [(2, .string s106), (3, .int .i64 0)]) (by kernel_rfl) ?_
            refine gl_atE (by kernel_rfl) ?_
            refine ge_seq ?_
            refine gk_reord (D := L) (Reord.skipC (Reord.refl _)) ?_
            refine gk_ret (by kernel_rfl) ?_
            obtain rfl := some_inj hr
            exact ge_result trivial (ResOk.tmp (by kernel_rfl) (ResOk.tmp (by kernel_rfl) ResOk.nil)) (Imm.trans (Imm.trans hI10 hI38) hI65) ⟨rfl, rfl⟩
/-! 85 labels_Hash_1 ('imm', 'obj') -/
noncomputable def labels_Hash_1_l16 (a0 : ByteArray) : (Int × Int) → Option ((Int × Int) ⊕ (Int)) := fun s7 =>
  bif (decide (s7.2 < (a0.size : Int))) then
  (Option.bind (bx a0 s7.2) fun (c19 : Int) =>
    some (Sum.inl ((IntKind.wrap .u64 ((bitXor .u64 s7.1 (IntKind.wrap .u64 c19)) * 1099511628211)), (IntKind.wrap .i64 (s7.2 + 1)))))
  else
  (some (Sum.inr s7.1))
noncomputable def labels_Hash_1 (a0 : ByteArray) (a1 : Int) : Option Int :=
  Option.bind (loopO (labels_Hash_1_l16 a0) (a1, 0)) fun (r5 : Int) =>
  some (IntKind.wrap .u64 ((bitXor .u64 r5 255) * 1099511628211))
theorem labels_Hash_1_walk {a0 : ByteArray} {a1 : Int} {g1 : Nat} {T1 : TypeId} {I : Imm} {r : Int}  (hr : labels_Hash_1 a0 a1 = some r) (L : Own) :
    CallsTo Tryz.prog 85 #[.string a0, .pointer (some ⟨g1, 0, none⟩)] I ((g1, .cells #[.int .u64 a1] T1) :: L) (fun v I' L' => v = .tuple #[] ∧ (g1, .cells #[.int .u64 r] T1) :: L = L') := by
  unfold labels_Hash_1 at hr
  refine callsTo_body (N := 20) Tryz.func85 (by kernel_rfl) (by kernel_rfl) (by kernel_rfl) ?_
  refine gk_pick [0, 1] (K' := [(0, .string a0), (1, .pointer (some ⟨g1, 0, none⟩))]) (by kernel_rfl) ?_
  refine gk_seq (by kernel_rfl) ?_
  refine gk_seq (by kernel_rfl) ?_
  refine gk_region (by kernel_rfl) ?_
  refine gl_pure 3 [0, 1, 5, 6] (K' := [(0, .string a0), (1, .pointer (some ⟨g1, 0, none⟩)), (5, .int .i64 (a0.size : Int)), (6, .int .i64 0)]) (by kernel_rfl) ?_
  refine gl_atE (by kernel_rfl) ?_
  refine ge_seq ?_
  obtain ⟨r5, hl6, hr⟩ := bind_some hr
  refine gk_join (fun t I' L' => I ≤ I' ∧ (g1, .cells #[.int .u64 r5] T1) :: L = L' ∧ Knows 20 [(1, .pointer (some ⟨g1, 0, none⟩))] t) ?_ ?_
  · refine gk_block (by kernel_rfl) ?_
    refine gk_pick [0, 1, 5, 6] (K' := [(0, .string a0), (1, .pointer (some ⟨g1, 0, none⟩)), (5, .int .i64 (a0.size : Int)), (6, .int .i64 0)]) (by kernel_rfl) ?_
    intro t hK
    refine gc_loop (labels_Hash_1_l16 a0) (fun s7 t I' L' => I ≤ I' ∧ (g1, .cells #[.int .u64 s7.1] T1) :: L = L' ∧ Knows 20 [(0, .string a0), (1, .pointer (some ⟨g1, 0, none⟩)), (5, .int .i64 (a0.size : Int)), (6, .int .i64 s7.2)] t) (by kernel_rfl) ?_ hl6 ⟨(Imm.refl _), rfl, hK⟩
    rintro s7 o8 t I12 L' hb9 ⟨hI10, rfl, hK11⟩
    unfold labels_Hash_1_l16 at hb9
    refine gk_at hK11 ?_
    refine gk_seq (by kernel_rfl) ?_
    refine gk_region (by kernel_rfl) ?_
    refine gl_pure 1 [0, 1, 5, 6, 7] (K' := [(0, .string a0), (1, .pointer (some ⟨g1, 0, none⟩)), (5, .int .i64 (a0.size : Int)), (6, .int .i64 s7.2), (7, .bool (decide (s7.2 < (a0.size : Int))))]) (by kernel_rfl) ?_
    refine gl_atE (by kernel_rfl) ?_
    refine ge_seq ?_
    refine gk_seq (by kernel_rfl) ?_
    refine gk_cond (b := (decide (s7.2 < (a0.size : Int)))) (by kernel_rfl) (by kernel_rfl) (fun hc18 => ?_) (fun hc18 => ?_)
    · have hb9 := cond_t hc18 hb9
      refine gk_skip (by kernel_rfl) ?_
      refine ge_seq ?_
      refine gk_seq (by kernel_rfl) ?_
      refine gk_block (by kernel_rfl) ?_
      refine gk_seq (by kernel_rfl) ?_
      refine gk_region (by kernel_rfl) ?_
      refine gl_pure 2 [0, 1, 3, 5, 6] (K' := [(0, .string a0), (1, .pointer (some ⟨g1, 0, none⟩)), (3, .int .i64 s7.2), (5, .int .i64 (a0.size : Int)), (6, .int .i64 s7.2)]) (by kernel_rfl) ?_
      refine gl_atE (by kernel_rfl) ?_
      refine ge_seq ?_
      refine gk_draw 7 [(0, true), (1, true), (2, true), (3, true), (4, true), (5, true), (6, true)] [(g1, .cells #[.int .u64 s7.1] T1)] (List.forall_mem_cons.2 ⟨List.mem_cons_self, (fun p hp => by cases hp)⟩) (by kernel_rfl) (by kernel_rfl) (by kernel_rfl) ?_ (by kernel_rfl)
      refine gd_q (v := .int .u64 s7.1) (by kernel_rfl) (by kernel_rfl) (CC.refl (List.forall_mem_cons.2 ⟨List.mem_cons_self, (fun p hp => by cases hp)⟩)) (fun I' L' T hC kk => gl_loadB (T' := 41) (xp := (.tmp 1)) (v := .int .u64 s7.1) (g := g1) (off := 0) (cs := #[.int .u64 s7.1]) (e := T1) (fz := (0, 0)) (by kernel_rfl) (by kernel_rfl) (by kernel_rfl) (hC.sub _ List.mem_cons_self) (by kernel_rfl) kk) ?_
      refine gd_pure 2 [0, 1, 5, 6, 9, 10, 11] (K' := [(0, .string a0), (1, .pointer (some ⟨g1, 0, none⟩)), (5, .int .i64 (a0.size : Int)), (6, .int .i64 s7.2), (9, .int .u64 s7.1), (10, .string a0), (11, .int .i64 s7.2)]) (s' := [(3, true), (4, true), (5, true), (6, true)]) (CC.refl (List.forall_mem_cons.2 ⟨List.mem_cons_self, (fun p hp => by cases hp)⟩)) (by kernel_rfl) ?_
      obtain ⟨c19, hx20, hb9⟩ := bind_some hb9
      refine gd_q (v := .int .u8 c19) (by kernel_rfl) (by kernel_rfl) (CC.refl (List.forall_mem_cons.2 ⟨List.mem_cons_self, (fun p hp => by cases hp)⟩)) (fun I' L' T hC kk => gl_index' (T' := 9) (xs := (.tmp 10)) (xi := (.tmp 11)) (kd := .i64) hx20 (by kernel_rfl) (by kernel_rfl) (by kernel_rfl) (by kernel_rfl) (by kernel_rfl) kk) ?_
      refine gd_pure 3 [0, 1, 5, 6, 15] (K' := [(0, .string a0), (1, .pointer (some ⟨g1, 0, none⟩)), (5, .int .i64 (a0.size : Int)), (6, .int .i64 s7.2), (15, .int .u64 (IntKind.wrap .u64 ((bitXor .u64 s7.1 (IntKind.wrap .u64 c19)) * 1099511628211)))]) (s' := []) (CC.refl (List.forall_mem_cons.2 ⟨List.mem_cons_self, (fun p hp => by cases hp)⟩)) (by kernel_rfl) ?_
      refine gd_done ?_
      refine gl_storeB (T' := 41) (xp := (.tmp 1)) (xv := (.tmp 15)) (v := .int .u64 (IntKind.wrap .u64 ((bitXor .u64 s7.1 (IntKind.wrap .u64 c19)) * 1099511628211))) (g := g1) (off := 0) (cs := #[.int .u64 s7.1]) (cs' := #[.int .u64 (IntKind.wrap .u64 ((bitXor .u64 s7.1 (IntKind.wrap .u64 c19)) * 1099511628211))]) (by kernel_rfl) (by kernel_rfl) (by kernel_rfl) (by kernel_rfl) (by kernel_rfl) (Upd.set _ _ _ _) ?_ (by kernel_rfl)
      refine gl_atE (by kernel_rfl) ?_
      refine ge_block_normal ?_
      refine ge_seq ?_
      refine gk_region (by kernel_rfl) ?_
      refine gl_pure 2 [0, 1, 5, 6] (K' := [(0, .string a0), (1, .pointer (some ⟨g1, 0, none⟩)), (5, .int .i64 (a0.size : Int)), (6, .int .i64 (IntKind.wrap .i64 (s7.2 + 1)))]) (by kernel_rfl) ?_
      refine gl_atE (by kernel_rfl) ?_
      obtain rfl := some_inj hb9
      exact ge_round fun t ht => ⟨hI10, rfl, ht.pick (l := [0, 1, 5, 6]) (by kernel_rfl)⟩
    · have hb9 := cond_f hc18 hb9
      refine gk_exit (by kernel_rfl) ?_
      refine ge_seq_exit ?_
      obtain rfl := some_inj hb9
      refine ge_round_out (fun hrr => ?_) (by intro h; cases h)
      obtain rfl := hrr
      refine ge_block_hit (by kernel_rfl) ?_
      exact ge_mid fun t ht => ⟨hI10, rfl, ht.pick (l := [1]) (by kernel_rfl)⟩
  · rintro t I15 L' ⟨hI13, rfl, hK14⟩
    refine ge_at hK14 ?_
    refine ge_seq ?_
    refine gk_region (by kernel_rfl) ?_
    refine gl_loadB (T' := 41) (xp := (.tmp 1)) (v := .int .u64 r5) (g := g1) (off := 0) (cs := #[.int .u64 r5]) (e := T1) (fz := (0, 0)) (by kernel_rfl) (by kernel_rfl) (by kernel_rfl) List.mem_cons_self (by kernel_rfl) ?_
    refine gl_pure 2 [1, 19] (K' := [(1, .pointer (some ⟨g1, 0, none⟩)), (19, .int .u64 (IntKind.wrap .u64 ((bitXor .u64 r5 255) * 1099511628211)))]) (by kernel_rfl) ?_
    refine gl_storeB (T' := 41) (xp := (.tmp 1)) (xv := (.tmp 19)) (v := .int .u64 (IntKind.wrap .u64 ((bitXor .u64 r5 255) * 1099511628211))) (g := g1) (off := 0) (cs := #[.int .u64 r5]) (cs' := #[.int .u64 (IntKind.wrap .u64 ((bitXor .u64 r5 255) * 1099511628211))]) (by kernel_rfl) (by kernel_rfl) (by kernel_rfl) (by kernel_rfl) (by kernel_rfl) (Upd.set _ _ _ _) ?_ (by kernel_rfl)
    refine gl_atE (by kernel_rfl) ?_
    obtain rfl := some_inj hr
    exact ge_result trivial ResOk.nil hI13 ⟨rfl, rfl⟩
/-! 35 labels_Hash  -/
noncomputable def labels_Hash_l17 (a0 : List S49) : (Int × Int) → Option ((Int × Int) ⊕ (Int)) := fun s8 =>
  bif (decide (s8.2 < (a0.length : Int))) then
  (Option.bind (ix a0 s8.2) fun (x20 : S49) =>
    Option.bind (labels_Hash_1 x20.f0 s8.1) fun (y29 : Int) =>
    Option.bind (labels_Hash_1 x20.f1 y29) fun (y34 : Int) =>
    some (Sum.inl (y34, (IntKind.wrap .i64 (s8.2 + 1)))))
  else
  (some (Sum.inr s8.1))
noncomputable def labels_Hash (a0 : List S49) : Option Int :=
  Option.bind (loopO (labels_Hash_l17 a0) (14695981039346656037, 0)) fun (r6 : Int) =>
  some r6
theorem labels_Hash_walk {a0 : List S49} {A0_0 : Option Addr} {n0_0 : Nat} {I : Imm} {r : Int}  (hf0_0 : RepS kS49 I A0_0 n0_0 a0) (hr : labels_Hash a0 = some r) (L : Own) :
    CallsTo Tryz.prog 35 #[.slice A0_0 a0.length n0_0] I L (fun v I' L' => v = .int .u64 r ∧ L = L') := by
  unfold labels_Hash at hr
  refine callsTo_body (N := 24) Tryz.func35 (by kernel_rfl) (by kernel_rfl) (by kernel_rfl) ?_
  refine gk_pick [0] (K' := [(0, .slice A0_0 a0.length n0_0)]) (by kernel_rfl) ?_
  refine gk_seq (by kernel_rfl) ?_
  refine gk_region (by kernel_rfl) ?_
  refine gl_pure 1 [0] (K' := [(0, .slice A0_0 a0.length n0_0)]) (by kernel_rfl) ?_
  refine gl_atE (by kernel_rfl) ?_
  refine ge_seq ?_
  refine gk_seq (by kernel_rfl) ?_
  refine gk_region (by kernel_rfl) ?_
  refine gl_alloc (T' := 41) (cs := #[.int .u64 0]) (by kernel_rfl) (by kernel_rfl) (by kernel_rfl) (fun g1 => ?_)
  refine gl_storeB (T' := 41) (xp := (.tmp 3)) (xv := (.const (.int .u64 14695981039346656037))) (v := .int .u64 14695981039346656037) (g := g1) (off := 0) (cs := #[.int .u64 0]) (cs' := #[.int .u64 14695981039346656037]) (by kernel_rfl) (by kernel_rfl) (by kernel_rfl) (by kernel_rfl) (by kernel_rfl) (Upd.set _ _ _ _) ?_ (by kernel_rfl)
  refine gl_atE (by kernel_rfl) ?_
  refine ge_seq ?_
  refine gk_seq (by kernel_rfl) ?_
  refine gk_region (by kernel_rfl) ?_
  refine gl_pure 2 [0, 3, 4] (K' := [(0, .slice A0_0 a0.length n0_0), (3, .pointer (some ⟨g1, 0, none⟩)), (4, .func (.func 85) #[] #[.pointer (some ⟨g1, 0, none⟩)])]) (by kernel_rfl) ?_
  refine gl_atE (by kernel_rfl) ?_
  refine ge_seq ?_
  refine gk_seq (by kernel_rfl) ?_
  refine gk_seq (by kernel_rfl) ?_
  refine gk_region (by kernel_rfl) ?_
  refine gl_pure 3 [3, 4, 8, 9, 10] (K' := [(3, .pointer (some ⟨g1, 0, none⟩)), (4, .func (.func 85) #[] #[.pointer (some ⟨g1, 0, none⟩)]), (8, .slice A0_0 a0.length n0_0), (9, .int .i64 (a0.length : Int)), (10, .int .i64 0)]) (by kernel_rfl) ?_
  refine gl_atE (by kernel_rfl) ?_
  refine ge_seq ?_
  obtain ⟨r6, hl7, hr⟩ := bind_some hr
  refine gk_join (fun t I' L' => I ≤ I' ∧ (g1, .cells #[.int .u64 r6] 41) :: L = L' ∧ Knows 24 [(3, .pointer (some ⟨g1, 0, none⟩))] t) ?_ ?_
  · refine gk_block (by kernel_rfl) ?_
    refine gk_pick [3, 4, 8, 9, 10] (K' := [(3, .pointer (some ⟨g1, 0, none⟩)), (4, .func (.func 85) #[] #[.pointer (some ⟨g1, 0, none⟩)]), (8, .slice A0_0 a0.length n0_0), (9, .int .i64 (a0.length : Int)), (10, .int .i64 0)]) (by kernel_rfl) ?_
    intro t hK
    refine gc_loop (labels_Hash_l17 a0) (fun s8 t I' L' => I ≤ I' ∧ (g1, .cells #[.int .u64 s8.1] 41) :: L = L' ∧ Knows 24 [(3, .pointer (some ⟨g1, 0, none⟩)), (4, .func (.func 85) #[] #[.pointer (some ⟨g1, 0, none⟩)]), (8, .slice A0_0 a0.length n0_0), (9, .int .i64 (a0.length : Int)), (10, .int .i64 s8.2)] t) (by kernel_rfl) ?_ hl7 ⟨(Imm.refl _), rfl, hK⟩
    rintro s8 o9 t I13 L' hb10 ⟨hI11, rfl, hK12⟩
    unfold labels_Hash_l17 at hb10
    refine gk_at hK12 ?_
    refine gk_seq (by kernel_rfl) ?_
    refine gk_region (by kernel_rfl) ?_
    refine gl_pure 1 [3, 4, 8, 9, 10, 11] (K' := [(3, .pointer (some ⟨g1, 0, none⟩)), (4, .func (.func 85) #[] #[.pointer (some ⟨g1, 0, none⟩)]), (8, .slice A0_0 a0.length n0_0), (9, .int .i64 (a0.length : Int)), (10, .int .i64 s8.2), (11, .bool (decide (s8.2 < (a0.length : Int))))]) (by kernel_rfl) ?_
    refine gl_atE (by kernel_rfl) ?_
    refine ge_seq ?_
    refine gk_seq (by kernel_rfl) ?_
    refine gk_cond (b := (decide (s8.2 < (a0.length : Int)))) (by kernel_rfl) (by kernel_rfl) (fun hc19 => ?_) (fun hc19 => ?_)
    · have hb10 := cond_t hc19 hb10
      refine gk_skip (by kernel_rfl) ?_
      refine ge_seq ?_
      refine gk_seq (by kernel_rfl) ?_
      refine gk_block (by kernel_rfl) ?_
      refine gk_seq (by kernel_rfl) ?_
      refine gk_region (by kernel_rfl) ?_
      obtain ⟨x20, hx21, hb10⟩ := bind_some hb10
      obtain ⟨p22, cs23, hR24, hA25, ha26⟩ := RepS.ixAt hx21 (hf0_0.mono hI11)
      have hi27 := ix_some hx21
      obtain rfl := kS49_open hR24
      refine gl_indexAddrF (c := n0_0) (T' := 22) (e := 50) (xs := (.tmp 8)) (xi := (.tmp 10)) (kd := .i64) ha26 hi27.1 hi27.2.1 (by kernel_rfl) (by kernel_rfl) (by kernel_rfl) (by kernel_rfl) (by kernel_rfl) ?_
      refine gl_loadA (T' := 50) (xp := (.tmp 12)) (p := p22) (cs := [.string x20.f0, .string x20.f1]) (by kernel_rfl) (by kernel_rfl) (by kernel_rfl) (by kernel_rfl) (hA25.take 2) ?_
      refine gl_alloc (T' := 50) (cs := #[.string (⟨#[]⟩ : ByteArray), .string (⟨#[]⟩ : ByteArray)]) (by kernel_rfl) (by kernel_rfl) (by kernel_rfl) (fun g28 => ?_)
      refine gl_storeB (T' := 50) (xp := (.tmp 6)) (xv := (.tmp 13)) (v := .agg #[.string x20.f0, .string x20.f1]) (g := g28) (off := 0) (cs := #[.string (⟨#[]⟩ : ByteArray), .string (⟨#[]⟩ : ByteArray)]) (cs' := #[.string x20.f0, .string x20.f1]) (by kernel_rfl) (by kernel_rfl) (by kernel_rfl) (by kernel_rfl) (by kernel_rfl) (Upd.set _ _ _ _) ?_ (by kernel_rfl)
      refine gl_atE (by kernel_rfl) ?_
      refine ge_seq ?_
      refine gk_seq (by kernel_rfl) ?_
      refine gk_region (by kernel_rfl) ?_
      refine gl_pure 2 [3, 4, 6, 8, 9, 10, 14, 15] (K' := [(3, .pointer (some ⟨g1, 0, none⟩)), (4, .func (.func 85) #[] #[.pointer (some ⟨g1, 0, none⟩)]), (6, .pointer (some ⟨g28, 0, none⟩)), (8, .slice A0_0 a0.length n0_0), (9, .int .i64 (a0.length : Int)), (10, .int .i64 s8.2), (14, .func (.func 85) #[] #[.pointer (some ⟨g1, 0, none⟩)]), (15, .pointer (some ⟨g28, 0, none⟩))]) (by kernel_rfl) ?_
      refine gl_loadB (T' := 9) (xp := (.tmp 15)) (v := .string x20.f0) (g := g28) (off := 0) (cs := #[.string x20.f0, .string x20.f1]) (e := 50) (fz := (0, 0)) (by kernel_rfl) (by kernel_rfl) (by kernel_rfl) List.mem_cons_self (by kernel_rfl) ?_
      obtain ⟨y29, hx30, hb10⟩ := bind_some hb10
      refine gl_reord (D := (g1, .cells #[.int .u64 s8.1] 41) :: ((g28, .cells #[.string x20.f0, .string x20.f1] 50) :: L)) (Reord.step1 (Upd.one _ (Upd.rm1 _ _)) (Reord.step1 (Upd.rm1 _ _) (Reord.refl _))) ?_
      refine gl_call (by kernel_rfl) (labels_Hash_1_walk (r := y29) (g1 := g1) (T1 := 41) (a1 := s8.1) hx30 _) ?_
      rintro v I31 L32 hI33 ⟨rfl, rfl⟩
      refine gl_atE (by kernel_rfl) ?_
      refine ge_seq ?_
      refine gk_region (by kernel_rfl) ?_
      refine gl_pure 2 [3, 4, 8, 9, 10, 18, 19] (K' := [(3, .pointer (some ⟨g1, 0, none⟩)), (4, .func (.func 85) #[] #[.pointer (some ⟨g1, 0, none⟩)]), (8, .slice A0_0 a0.length n0_0), (9, .int .i64 (a0.length : Int)), (10, .int .i64 s8.2), (18, .func (.func 85) #[] #[.pointer (some ⟨g1, 0, none⟩)]), (19, .pointer (some ⟨g28, 1, none⟩))]) (by kernel_rfl) ?_
      refine gl_loadB (T' := 9) (xp := (.tmp 19)) (v := .string x20.f1) (g := g28) (off := 1) (cs := #[.string x20.f0, .string x20.f1]) (e := 50) (fz := (0, 0)) (by kernel_rfl) (by kernel_rfl) (by kernel_rfl) (List.mem_cons_of_mem _ List.mem_cons_self) (by kernel_rfl) ?_
      obtain ⟨y34, hx35, hb10⟩ := bind_some hb10
      refine gl_call (by kernel_rfl) (labels_Hash_1_walk (r := y34) (g1 := g1) (T1 := 41) (a1 := y29) hx35 _) ?_
      rintro v I36 L37 hI38 ⟨rfl, rfl⟩
      refine gl_atE (by kernel_rfl) ?_
      refine ge_block_normal ?_
      refine ge_seq ?_
      refine gk_region (by kernel_rfl) ?_
      refine gl_pure 2 [3, 4, 8, 9, 10] (K' := [(3, .pointer (some ⟨g1, 0, none⟩)), (4, .func (.func 85) #[] #[.pointer (some ⟨g1, 0, none⟩)]), (8, .slice A0_0 a0.length n0_0), (9, .int .i64 (a0.length : Int)), (10, .int .i64 (IntKind.wrap .i64 (s8.2 + 1)))]) (by kernel_rfl) ?_
      refine gl_reord (D := (g1, .cells #[.int .u64 y34] 41) :: L) (Reord.step1 (Upd.rm1 _ _) (Reord.skip (Reord.refl _))) ?_
      refine gl_atE (by kernel_rfl) ?_
      obtain rfl := some_inj hb10
      exact ge_round fun t ht => ⟨(Imm.trans (Imm.trans hI11 hI33) hI38), rfl, ht.pick (l := [3, 4, 8, 9, 10]) (by kernel_rfl)⟩
    · have hb10 := cond_f hc19 hb10
      refine gk_exit (by kernel_rfl) ?_
      refine ge_seq_exit ?_
      obtain rfl := some_inj hb10
      refine ge_round_out (fun hrr => ?_) (by intro h; cases h)
      obtain rfl := hrr
      refine ge_block_hit (by kernel_rfl) ?_
      exact ge_mid fun t ht => ⟨hI11, rfl, ht.pick (l := [3]) (by kernel_rfl)⟩
  · rintro t I16 L' ⟨hI14, rfl, hK15⟩
    refine ge_at hK15 ?_
    refine ge_seq ?_
    refine gk_seq (by kernel_rfl) ?_
    refine gk_region (by kernel_rfl) ?_
    refine gl_loadB (T' := 41) (xp := (.tmp 3)) (v := .int .u64 r6) (g := g1) (off := 0) (cs := #[.int .u64 r6]) (e := 41) (fz := (0, 0)) (by kernel_rfl) (by kernel_rfl) (by kernel_rfl) List.mem_cons_self (by kernel_rfl) ?_
    refine gl_pure 1 [2] (K' := [(2, .int .u64 r6)]) (by kernel_rfl) ?_
    refine gl_atE (by kernel_rfl) ?_
    refine ge_seq ?_
    refine gk_reord (D := L) (Reord.skip (Reord.refl _)) ?_
    refine gk_ret (by kernel_rfl) ?_
    obtain rfl := some_inj hr
    exact ge_result trivial (ResOk.tmp (by kernel_rfl) ResOk.nil) hI14 ⟨rfl, rfl⟩
/-! 22 tocsinlaw04_awake  -/
noncomputable def tocsinlaw04_awake : Option Bool :=
  Option.bind (labels_Parse (⟨#[117, 112, 32, 123, 32, 106, 111, 98, 32, 61, 32, 34, 120, 34, 32, 44, 32, 125]⟩ : ByteArray)) fun (y1 : (List S49) × Int × Int) =>
  Option.bind (labels_Print y1.1) fun (y10 : ByteArray × Int) =>
  Option.bind (bif (y1.2.1 == 0) then
    (bif (y10.2 == 0) then
      (bif (y10.1.toList == (⟨#[117, 112, 123, 106, 111, 98, 61, 34, 120, 34, 125]⟩ : ByteArray).toList) then
        (Option.bind (labels_Get y1.1 (⟨#[106, 111, 98]⟩ : ByteArray)) fun (y20 : ByteArray) =>
          bif (y20.toList == (⟨#[120]⟩ : ByteArray).toList) then
          (Option.bind (labels_Hash []) fun (y23 : Int) =>
            some (y23 == 14695981039346656037))
          else
          (some false))
        else
        (some false))
      else
      (some false))
    else
    (some false)) fun (j12 : Bool) =>
  some j12
theorem tocsinlaw04_awake_walk  {I : Imm} {r : Bool} (hG : Gl I) (hr : tocsinlaw04_awake = some r) (L : Own) :
    CallsTo Tryz.prog 22 #[] I L (fun v I' L' => v = .bool r ∧ L = L') := by
  unfold tocsinlaw04_awake at hr
  refine callsTo_body (N := 35) Tryz.func22 (by kernel_rfl) (by kernel_rfl) (by kernel_rfl) ?_
  refine gk_pick [] (K' := []) (by kernel_rfl) ?_
  refine gk_seq (by kernel_rfl) ?_
  refine gk_region (by kernel_rfl) ?_
  refine gl_pure 1 [] (K' := []) (by kernel_rfl) ?_
  refine gl_atE (by kernel_rfl) ?_
  refine ge_seq ?_
  refine gk_seq (by kernel_rfl) ?_
  refine gk_region (by kernel_rfl) ?_
  obtain ⟨y1, hx2, hr⟩ := bind_some hr
  refine gl_call (by kernel_rfl) (labels_Parse_walk (r := y1) hG hx2 _) ?_
  rintro v I3 L4 hI5 ⟨A6, c7, C8, hO9, rfl, rfl⟩
  refine gl_pure 7 [1, 2] (K' := [(1, .slice A6 y1.1.length c7), (2, .int .i64 y1.2.1)]) (by kernel_rfl) ?_
  refine gl_atE (by kernel_rfl) ?_
  refine ge_seq ?_
  refine gk_seq (by kernel_rfl) ?_
  refine gk_region (by kernel_rfl) ?_
  refine gl_pure 1 [1, 2, 12] (K' := [(1, .slice A6 y1.1.length c7), (2, .int .i64 y1.2.1), (12, .slice A6 y1.1.length c7)]) (by kernel_rfl) ?_
  obtain ⟨y10, hx11, hr⟩ := bind_some hr
  refine gl_callB (r := .tuple #[.string y10.1, .int .i64 y10.2]) (Tk.step (Upd.rmC _ _) (Tk.nil _)) (by kernel_rfl) (fun J hJ hC => labels_Print_walk (r := y10) (hG.mono (Imm.trans hI5 hJ)) (OwnS.rest hO9 hJ hC.left) hx11 _) ?_
  refine gl_pure 5 [1, 2, 4, 5] (K' := [(1, .slice A6 y1.1.length c7), (2, .int .i64 y1.2.1), (4, .string y10.1), (5, .int .i64 y10.2)]) (by kernel_rfl) ?_
  refine gl_atE (by kernel_rfl) ?_
  refine ge_seq ?_
  refine gk_seq (by kernel_rfl) ?_
  obtain ⟨j12, hj13, hr⟩ := bind_some hr
  refine gk_join (fun t I' L' => I3 ≤ I' ∧ L = L' ∧ Knows 35 [(0, .bool j12)] t) ?_ ?_
  · refine gk_region (by kernel_rfl) ?_
    refine gl_pure 3 [1, 4, 5, 18] (K' := [(1, .slice A6 y1.1.length c7), (4, .string y10.1), (5, .int .i64 y10.2), (18, .bool (y1.2.1 == 0))]) (by kernel_rfl) ?_
    refine gl_case 18 (b := (y1.2.1 == 0)) (by kernel_rfl) (fun hc17 => ?_) (fun hc17 => ?_)
    · have hj13 := cond_t hc17 hj13
      refine gl_pure 4 [1, 4, 22] (K' := [(1, .slice A6 y1.1.length c7), (4, .string y10.1), (22, .bool (y10.2 == 0))]) (by kernel_rfl) ?_
      refine gl_case 22 (b := (y10.2 == 0)) (by kernel_rfl) (fun hc18 => ?_) (fun hc18 => ?_)
      · have hj13 := cond_t hc18 hj13
        refine gl_pure 4 [1, 26] (K' := [(1, .slice A6 y1.1.length c7), (26, .bool (y10.1.toList == (⟨#[117, 112, 123, 106, 111, 98, 61, 34, 120, 34, 125]⟩ : ByteArray).toList))]) (by kernel_rfl) ?_
        refine gl_case 26 (b := (y10.1.toList == (⟨#[117, 112, 123, 106, 111, 98, 61, 34, 120, 34, 125]⟩ : ByteArray).toList)) (by kernel_rfl) (fun hc19 => ?_) (fun hc19 => ?_)
        · have hj13 := cond_t hc19 hj13
          refine gl_pure 1 [26, 27] (K' := [(26, .bool true), (27, .slice A6 y1.1.length c7)]) (by kernel_rfl) ?_
          obtain ⟨y20, hx21, hj13⟩ := bind_some hj13
          refine gl_callB (r := .string y20) (Tk.step (Upd.rmC _ _) (Tk.nil _)) (by kernel_rfl) (fun J hJ hC => labels_Get_walk (r := y20) (OwnS.rest hO9 hJ hC.left) hx21 _) ?_
          refine gl_pure 3 [31] (K' := [(31, .bool (y20.toList == (⟨#[120]⟩ : ByteArray).toList))]) (by kernel_rfl) ?_
          refine gl_case 31 (b := (y20.toList == (⟨#[120]⟩ : ByteArray).toList)) (by kernel_rfl) (fun hc22 => ?_) (fun hc22 => ?_)
          · have hj13 := cond_t hc22 hj13
            obtain ⟨y23, hx24, hj13⟩ := bind_some hj13
            refine gl_callQ (by kernel_rfl) (labels_Hash_walk (r := y23) (RepS.nil _ _) hx24 _) ?_
            refine gl_pure 3 [0] (K' := [(0, .bool (y23 == 14695981039346656037))]) (by kernel_rfl) ?_
            refine gl_reord (D := L) (Reord.skipC (Reord.refl _)) ?_
            refine gl_atE (by kernel_rfl) ?_
            obtain rfl := some_inj hj13
            exact ge_mid fun t ht => ⟨(Imm.refl _), rfl, ht.pick (l := [0]) (by kernel_rfl)⟩
          · have hj13 := cond_f hc22 hj13
            refine gl_pure 4 [0] (K' := [(0, .bool false)]) (by kernel_rfl) ?_
            refine gl_reord (D := L) (Reord.skipC (Reord.refl _)) ?_
            refine gl_atE (by kernel_rfl) ?_
            obtain rfl := some_inj hj13
            exact ge_mid fun t ht => ⟨(Imm.refl _), rfl, ht.pick (l := [0]) (by kernel_rfl)⟩
        · have hj13 := cond_f hc19 hj13
          refine gl_pure 9 [0] (K' := [(0, .bool false)]) (by kernel_rfl) ?_
          refine gl_reord (D := L) (Reord.skipC (Reord.refl _)) ?_
          refine gl_atE (by kernel_rfl) ?_
          obtain rfl := some_inj hj13
          exact ge_mid fun t ht => ⟨(Imm.refl _), rfl, ht.pick (l := [0]) (by kernel_rfl)⟩
      · have hj13 := cond_f hc18 hj13
        refine gl_pure 13 [0] (K' := [(0, .bool false)]) (by kernel_rfl) ?_
        refine gl_reord (D := L) (Reord.skipC (Reord.refl _)) ?_
        refine gl_atE (by kernel_rfl) ?_
        obtain rfl := some_inj hj13
        exact ge_mid fun t ht => ⟨(Imm.refl _), rfl, ht.pick (l := [0]) (by kernel_rfl)⟩
    · have hj13 := cond_f hc17 hj13
      refine gl_pure 17 [0] (K' := [(0, .bool false)]) (by kernel_rfl) ?_
      refine gl_reord (D := L) (Reord.skipC (Reord.refl _)) ?_
      refine gl_atE (by kernel_rfl) ?_
      obtain rfl := some_inj hj13
      exact ge_mid fun t ht => ⟨(Imm.refl _), rfl, ht.pick (l := [0]) (by kernel_rfl)⟩
  · rintro t I16 L' ⟨hI14, rfl, hK15⟩
    refine ge_at hK15 ?_
    refine ge_seq ?_
    refine gk_ret (by kernel_rfl) ?_
    obtain rfl := some_inj hr
    exact ge_result trivial (ResOk.tmp (by kernel_rfl) ResOk.nil) (Imm.trans hI5 hI14) ⟨rfl, rfl⟩
/-! 9 tocsinlaw04_LabelsBytes  -/
noncomputable def tocsinlaw04_LabelsBytes_l131 (y36 : (List Int) × Int) : ((List Int) × Int) → Option (((List Int) × Int) ⊕ (Unit)) := fun s119 =>
  bif (decide (s119.2 < (y36.1.length : Int))) then
  (Option.bind (ix s119.1 s119.2) fun (x134 : Int) =>
    some (Sum.inl ((lset s119.1 s119.2 99), (IntKind.wrap .i64 (s119.2 + 1)))))
  else
  (some (Sum.inr ()))
noncomputable def tocsinlaw04_LabelsBytes (a0 : List Int) (a1 : Int) (a2 : List S49) : Option Bool :=
  Option.bind (app ([] : List Int) a0) fun (zs1 : List Int) =>
  Option.bind (app zs1 [77]) fun (zs11 : List Int) =>
  Option.bind (tocsinlaw04_Lent a2) fun (y17 : (List S49 × List S49)) =>
  Option.bind (lx zs11 0 (a0.length : Int)) fun (l28 : List Int) =>
  Option.bind (labels_Put l28 y17.1) fun (y36 : (List Int) × Int) =>
  Option.bind (tocsinref04_Put a0 a2) fun (y45 : (List Int) × Int) =>
  Option.bind (lx zs11 0 (a0.length : Int)) fun (l55 : List Int) =>
  Option.bind (labels_Read l55 a1) fun (y59 : (List S49) × Int × Int) =>
  Option.bind (tocsinref04_Read a0 a1) fun (y68 : (List S49) × Int × Int) =>
  Option.bind (bif (!((ofBytes y36.1).toList == (ofBytes y45.1).toList)) then
    (some true)
    else
    (bif (y36.2 != y45.2) then
      (some true)
      else
      (Option.bind (tocsinlaw04_same y59.1 y68.1) fun (y84 : Bool) =>
        bif (!y84) then
        (some true)
        else
        (bif (y59.2.1 != y68.2.1) then
          (some true)
          else
          (bif (y59.2.2 != y68.2.2) then
            (some true)
            else
            (Option.bind (tocsinlaw04_Kept (y17.1, y17.2) a2) fun (y89 : Bool) =>
              some (!y89))))))) fun (j77 : Bool) =>
  bif j77 then
  (some false)
  else
  (Option.bind (Option.bind (lx zs11 0 (a0.length : Int)) fun (l98 : List Int) =>
      bif (!((ofBytes l98).toList == (ofBytes a0).toList)) then
      (some true)
      else
      (Option.bind (ix zs11 (a0.length : Int)) fun (x101 : Int) =>
        some (x101 != 77))) fun (j92 : Bool) =>
    bif j92 then
    (some false)
    else
    (Option.bind (loopO (tocsinlaw04_LabelsBytes_l131 y36) (y36.1, 0)) fun (r117 : Unit) =>
      Option.bind (Option.bind (lx zs11 0 (a0.length : Int)) fun (l152 : List Int) =>
        bif ((ofBytes l152).toList == (ofBytes a0).toList) then
        (Option.bind tocsinlaw04_awake fun (y155 : Bool) =>
          some y155)
        else
        (some false)) fun (j146 : Bool) =>
      some j146))
theorem tocsinlaw04_LabelsBytes_walk {a0 : List Int} {A0_0 : Option Addr} {n0_0 : Nat} {a1 : Int} {a2 : List S49} {A2_0 : Option Addr} {n2_0 : Nat} {I : Imm} {r : Bool} (hG : Gl I)  (hf0_0 : RepS (Kd.int .u8) I A0_0 n0_0 a0)  (hf2_0 : RepS kS49 I A2_0 n2_0 a2) (hr : tocsinlaw04_LabelsBytes a0 a1 a2 = some r) (L : Own) :
    CallsTo Tryz.prog 9 #[.slice A0_0 a0.length n0_0, .int .i64 a1, .slice A2_0 a2.length n2_0] I L (fun v I' L' => v = .bool r ∧ L = L') := by
  unfold tocsinlaw04_LabelsBytes at hr
  refine callsTo_body (N := 128) Tryz.func9 (by kernel_rfl) (by kernel_rfl) (by kernel_rfl) ?_
  refine gk_pick [0, 1, 2] (K' := [(0, .slice A0_0 a0.length n0_0), (1, .int .i64 a1), (2, .slice A2_0 a2.length n2_0)]) (by kernel_rfl) ?_
  refine gk_seq (by kernel_rfl) ?_
  refine gk_region (by kernel_rfl) ?_
  refine gl_pure 1 [0, 1, 2] (K' := [(0, .slice A0_0 a0.length n0_0), (1, .int .i64 a1), (2, .slice A2_0 a2.length n2_0)]) (by kernel_rfl) ?_
  refine gl_atE (by kernel_rfl) ?_
  refine ge_seq ?_
  refine gk_seq (by kernel_rfl) ?_
  refine gk_region (by kernel_rfl) ?_
  refine gl_pure 1 [0, 1, 2, 7] (K' := [(0, .slice A0_0 a0.length n0_0), (1, .int .i64 a1), (2, .slice A2_0 a2.length n2_0), (7, .slice none 0 0)]) (by kernel_rfl) ?_
  refine gl_atE (by kernel_rfl) ?_
  refine ge_seq ?_
  refine gk_seq (by kernel_rfl) ?_
  refine gk_region (by kernel_rfl) ?_
  refine gl_pure 2 [0, 1, 2, 20, 21] (K' := [(0, .slice A0_0 a0.length n0_0), (1, .int .i64 a1), (2, .slice A2_0 a2.length n2_0), (20, .slice none 0 0), (21, .slice A0_0 a0.length n0_0)]) (by kernel_rfl) ?_
  obtain ⟨zs1, hz2, hr⟩ := bind_some hr
  refine gl_append (xv := .slice A0_0 a0.length n0_0) (d := (Kd.int .u8)) (t := 51) (tx := 51) (e := 5) (s := (.tmp 20)) (x := (.tmp 21)) (xs := []) (A := none) (c := 0) (C := []) (fun X => X ++ L) hz2 (by kernel_rfl) (by kernel_rfl) (by kernel_rfl) (by kernel_rfl) (by kernel_rfl) (by kernel_rfl) (fun X => Upd.new X _) (OwnS.nil _ _ _ none) (SrcOk.slice (c := n0_0) (e := 5) (n := 1) (RepS.rd hf0_0 _) (by kernel_rfl)) (fun A3 n4 C5 hO6 => ?_)
  refine gl_pure 1 [0, 1, 2, 7] (K' := [(0, .slice A0_0 a0.length n0_0), (1, .int .i64 a1), (2, .slice A2_0 a2.length n2_0), (7, .slice A3 zs1.length n4)]) (by kernel_rfl) ?_
  refine gl_atE (by kernel_rfl) ?_
  refine ge_seq ?_
  refine gk_seq (by kernel_rfl) ?_
  refine gk_region (by kernel_rfl) ?_
  refine gl_pure 1 [0, 1, 2, 23] (K' := [(0, .slice A0_0 a0.length n0_0), (1, .int .i64 a1), (2, .slice A2_0 a2.length n2_0), (23, .slice A3 zs1.length n4)]) (by kernel_rfl) ?_
  refine gl_buildSlice (T' := 51) (e := 5) (n := 1) (len := 1) (parts := #[(0, (.const (.int .u8 77)))]) (l := [(0, .int .u8 77)]) (cs := #[.int .u8 77]) (by kernel_rfl) (by kernel_rfl) (by kernel_rfl) (by kernel_rfl) (by kernel_rfl) (fun g7 => ?_)
  have hO8 : OwnS (Kd.int .u8) 5 I (some ⟨g7, 0, none⟩) 1 [77] [(g7, .cells #[.int .u8 77] 5)] := OwnS.lit (row_cons (l := [.int .u8 77]) rfl (row_nil _ _)) rfl rfl rfl
  refine gl_reord (D := [(g7, .cells #[.int .u8 77] 5)] ++ (C5 ++ L)) (Reord.refl _) ?_
  obtain ⟨zs11, hz12, hr⟩ := bind_some hr
  refine gl_append (xv := .slice (some ⟨g7, 0, none⟩) [77].length 1) (d := (Kd.int .u8)) (t := 51) (tx := 51) (e := 5) (s := (.tmp 23)) (x := (.tmp 24)) (xs := zs1) (fun X => [(g7, .cells #[.int .u8 77] 5)] ++ (X ++ L)) hz12 (by kernel_rfl) (by kernel_rfl) (by kernel_rfl) (by kernel_rfl) (by kernel_rfl) (by kernel_rfl) (fun X => (Upd.app _ (Upd.head _ X _))) hO6 (SrcOk.slice (c := 1) (e := 5) (n := 1) (OwnS.rd hO8 (Upd.selfC _ _)) (by kernel_rfl)) (fun A13 n14 C15 hO16 => ?_)
  refine gl_pure 1 [0, 1, 2, 7] (K' := [(0, .slice A0_0 a0.length n0_0), (1, .int .i64 a1), (2, .slice A2_0 a2.length n2_0), (7, .slice A13 zs11.length n14)]) (by kernel_rfl) ?_
  refine gl_atE (by kernel_rfl) ?_
  refine ge_seq ?_
  refine gk_seq (by kernel_rfl) ?_
  refine gk_region (by kernel_rfl) ?_
  refine gl_pure 1 [0, 1, 2, 7, 26] (K' := [(0, .slice A0_0 a0.length n0_0), (1, .int .i64 a1), (2, .slice A2_0 a2.length n2_0), (7, .slice A13 zs11.length n14), (26, .slice A2_0 a2.length n2_0)]) (by kernel_rfl) ?_
  obtain ⟨y17, hx18, hr⟩ := bind_some hr
  refine gl_call (by kernel_rfl) (tocsinlaw04_Lent_walk (r := y17) hf2_0 hx18 _) ?_
  rintro v I19 L20 hI21 ⟨A22, c23, C24, hO25, hO26, rfl, rfl⟩
  refine gl_pure 1 [0, 1, 2, 7, 8] (K' := [(0, .slice A0_0 a0.length n0_0), (1, .int .i64 a1), (2, .slice A2_0 a2.length n2_0), (7, .slice A13 zs11.length n14), (8, .slice A22 y17.1.length c23)]) (by kernel_rfl) ?_
  refine gl_atE (by kernel_rfl) ?_
  refine ge_seq ?_
  refine gk_seq (by kernel_rfl) ?_
  refine gk_region (by kernel_rfl) ?_
  refine gl_pure 3 [0, 1, 2, 7, 8, 29, 31] (K' := [(0, .slice A0_0 a0.length n0_0), (1, .int .i64 a1), (2, .slice A2_0 a2.length n2_0), (7, .slice A13 zs11.length n14), (8, .slice A22 y17.1.length c23), (29, .slice A13 zs11.length n14), (31, .int .i64 (a0.length : Int))]) (by kernel_rfl) ?_
  obtain ⟨l28, hx27, hr⟩ := bind_some hr
  have hlc29 := OwnS.lenc (hO16.mono hI21)
  have hd30 := lx_take hx27
  refine gl_sliceH (A := A13) (c := n14) (n := 1) (T' := 51) (e := 5) (xs := (.tmp 29)) (lo := none) (hi := (some (.tmp 31))) hx27 hlc29 (by kernel_rfl) (by kernel_rfl) (by kernel_rfl) (by kernel_rfl) (by kernel_rfl) (by kernel_rfl) ?_
  refine gl_pure 1 [0, 1, 2, 7, 8, 32, 33] (K' := [(0, .slice A0_0 a0.length n0_0), (1, .int .i64 a1), (2, .slice A2_0 a2.length n2_0), (7, .slice A13 zs11.length n14), (8, .slice A22 y17.1.length c23), (32, .slice A13 l28.length n14), (33, .slice A22 y17.1.length c23)]) (by kernel_rfl) ?_
  refine gl_rest (Tk.step (Upd.rmC _ _) (Tk.step (Upd.app _ (Upd.rmC _ _)) (Tk.nil _))) (fun J31 hJ32 hC33 => ?_)
  have hf34 := (OwnS.rest hO25 hJ32 hC33.left)
  have hf35 := (OwnS.rest (hO16.mono hI21) hJ32 hC33.right.left)
  obtain ⟨y36, hx37, hr⟩ := bind_some hr
  refine gl_call (by kernel_rfl) (labels_Put_walk (r := y36) (hG.mono (Imm.trans hI21 hJ32)) (RepS.head hd30 hf35) (RepS.head hO26 hf34) hx37 _) ?_
  rintro v I38 L39 hI40 ⟨A41, c42, C43, hO44, rfl, rfl⟩
  refine gl_pure 5 [0, 1, 2, 7, 8, 9, 10] (K' := [(0, .slice A0_0 a0.length n0_0), (1, .int .i64 a1), (2, .slice A2_0 a2.length n2_0), (7, .slice A13 zs11.length n14), (8, .slice A22 y17.1.length c23), (9, .slice A41 y36.1.length c42), (10, .int .i64 y36.2)]) (by kernel_rfl) ?_
  refine gl_atE (by kernel_rfl) ?_
  refine ge_seq ?_
  refine gk_seq (by kernel_rfl) ?_
  refine gk_region (by kernel_rfl) ?_
  refine gl_pure 2 [0, 1, 2, 7, 8, 9, 10, 38, 39] (K' := [(0, .slice A0_0 a0.length n0_0), (1, .int .i64 a1), (2, .slice A2_0 a2.length n2_0), (7, .slice A13 zs11.length n14), (8, .slice A22 y17.1.length c23), (9, .slice A41 y36.1.length c42), (10, .int .i64 y36.2), (38, .slice A0_0 a0.length n0_0), (39, .slice A2_0 a2.length n2_0)]) (by kernel_rfl) ?_
  obtain ⟨y45, hx46, hr⟩ := bind_some hr
  refine gl_call (by kernel_rfl) (tocsinref04_Put_walk (r := y45) (hf0_0.mono (Imm.trans (Imm.trans hI21 hJ32) hI40)) (hf2_0.mono (Imm.trans (Imm.trans hI21 hJ32) hI40)) hx46 _) ?_
  rintro v I47 L48 hI49 ⟨A50, c51, C52, hO53, rfl, rfl⟩
  refine gl_pure 5 [0, 1, 2, 7, 8, 9, 10, 11, 12] (K' := [(0, .slice A0_0 a0.length n0_0), (1, .int .i64 a1), (2, .slice A2_0 a2.length n2_0), (7, .slice A13 zs11.length n14), (8, .slice A22 y17.1.length c23), (9, .slice A41 y36.1.length c42), (10, .int .i64 y36.2), (11, .slice A50 y45.1.length c51), (12, .int .i64 y45.2)]) (by kernel_rfl) ?_
  refine gl_atE (by kernel_rfl) ?_
  refine ge_seq ?_
  refine gk_seq (by kernel_rfl) ?_
  refine gk_region (by kernel_rfl) ?_
  refine gl_pure 3 [0, 1, 2, 7, 8, 9, 10, 11, 12, 44, 46] (K' := [(0, .slice A0_0 a0.length n0_0), (1, .int .i64 a1), (2, .slice A2_0 a2.length n2_0), (7, .slice A13 zs11.length n14), (8, .slice A22 y17.1.length c23), (9, .slice A41 y36.1.length c42), (10, .int .i64 y36.2), (11, .slice A50 y45.1.length c51), (12, .int .i64 y45.2), (44, .slice A13 zs11.length n14), (46, .int .i64 (a0.length : Int))]) (by kernel_rfl) ?_
  obtain ⟨l55, hx54, hr⟩ := bind_some hr
  refine gl_sliceR (d := (Kd.int .u8)) (T' := 51) (e := 5) (xs := (.tmp 44)) (lo := none) (hi := (some (.tmp 46))) hx54 (hf35.mono (Imm.trans hI40 hI49)) (by kernel_rfl) (by kernel_rfl) (by kernel_rfl) (by kernel_rfl) (by kernel_rfl) (by kernel_rfl) (fun A56 n57 hf58 => ?_)
  refine gl_pure 1 [0, 1, 2, 7, 8, 9, 10, 11, 12, 47, 48] (K' := [(0, .slice A0_0 a0.length n0_0), (1, .int .i64 a1), (2, .slice A2_0 a2.length n2_0), (7, .slice A13 zs11.length n14), (8, .slice A22 y17.1.length c23), (9, .slice A41 y36.1.length c42), (10, .int .i64 y36.2), (11, .slice A50 y45.1.length c51), (12, .int .i64 y45.2), (47, .slice A56 l55.length n57), (48, .int .i64 a1)]) (by kernel_rfl) ?_
  obtain ⟨y59, hx60, hr⟩ := bind_some hr
  refine gl_call (by kernel_rfl) (labels_Read_walk (r := y59) (hG.mono (Imm.trans (Imm.trans (Imm.trans hI21 hJ32) hI40) hI49)) hf58 hx60 _) ?_
  rintro v I61 L62 hI63 ⟨A64, c65, C66, hO67, rfl, rfl⟩
  refine gl_pure 7 [0, 1, 2, 7, 8, 9, 10, 11, 12, 13, 14, 15] (K' := [(0, .slice A0_0 a0.length n0_0), (1, .int .i64 a1), (2, .slice A2_0 a2.length n2_0), (7, .slice A13 zs11.length n14), (8, .slice A22 y17.1.length c23), (9, .slice A41 y36.1.length c42), (10, .int .i64 y36.2), (11, .slice A50 y45.1.length c51), (12, .int .i64 y45.2), (13, .slice A64 y59.1.length c65), (14, .int .i64 y59.2.1), (15, .int .i64 y59.2.2)]) (by kernel_rfl) ?_
  refine gl_atE (by kernel_rfl) ?_
  refine ge_seq ?_
  refine gk_seq (by kernel_rfl) ?_
  refine gk_region (by kernel_rfl) ?_
  refine gl_pure 2 [0, 2, 7, 8, 9, 10, 11, 12, 13, 14, 15, 54, 55] (K' := [(0, .slice A0_0 a0.length n0_0), (2, .slice A2_0 a2.length n2_0), (7, .slice A13 zs11.length n14), (8, .slice A22 y17.1.length c23), (9, .slice A41 y36.1.length c42), (10, .int .i64 y36.2), (11, .slice A50 y45.1.length c51), (12, .int .i64 y45.2), (13, .slice A64 y59.1.length c65), (14, .int .i64 y59.2.1), (15, .int .i64 y59.2.2), (54, .slice A0_0 a0.length n0_0), (55, .int .i64 a1)]) (by kernel_rfl) ?_
  obtain ⟨y68, hx69, hr⟩ := bind_some hr
  refine gl_call (by kernel_rfl) (tocsinref04_Read_walk (r := y68) (hf0_0.mono (Imm.trans (Imm.trans (Imm.trans (Imm.trans hI21 hJ32) hI40) hI49) hI63)) hx69 _) ?_
  rintro v I70 L71 hI72 ⟨A73, c74, C75, hO76, rfl, rfl⟩
  refine gl_pure 7 [0, 2, 7, 8, 9, 10, 11, 12, 13, 14, 15, 16, 17, 18] (K' := [(0, .slice A0_0 a0.length n0_0), (2, .slice A2_0 a2.length n2_0), (7, .slice A13 zs11.length n14), (8, .slice A22 y17.1.length c23), (9, .slice A41 y36.1.length c42), (10, .int .i64 y36.2), (11, .slice A50 y45.1.length c51), (12, .int .i64 y45.2), (13, .slice A64 y59.1.length c65), (14, .int .i64 y59.2.1), (15, .int .i64 y59.2.2), (16, .slice A73 y68.1.length c74), (17, .int .i64 y68.2.1), (18, .int .i64 y68.2.2)]) (by kernel_rfl) ?_
  refine gl_atE (by kernel_rfl) ?_
  refine ge_seq ?_
  refine gk_seq (by kernel_rfl) ?_
  refine gk_seq (by kernel_rfl) ?_
  obtain ⟨j77, hj78, hr⟩ := bind_some hr
  refine gk_join (fun t I' L' => I70 ≤ I' ∧ C43 ++ L = L' ∧ Knows 128 [(0, .slice A0_0 a0.length n0_0), (7, .slice A13 zs11.length n14), (9, .slice A41 y36.1.length c42), (91, .bool j77)] t) ?_ ?_
  · refine gk_region (by kernel_rfl) ?_
    refine gl_pure 1 [0, 2, 7, 8, 9, 10, 11, 12, 13, 14, 15, 16, 17, 18, 60] (K' := [(0, .slice A0_0 a0.length n0_0), (2, .slice A2_0 a2.length n2_0), (7, .slice A13 zs11.length n14), (8, .slice A22 y17.1.length c23), (9, .slice A41 y36.1.length c42), (10, .int .i64 y36.2), (11, .slice A50 y45.1.length c51), (12, .int .i64 y45.2), (13, .slice A64 y59.1.length c65), (14, .int .i64 y59.2.1), (15, .int .i64 y59.2.2), (16, .slice A73 y68.1.length c74), (17, .int .i64 y68.2.1), (18, .int .i64 y68.2.2), (60, .slice A41 y36.1.length c42)]) (by kernel_rfl) ?_
    refine gl_bytesStr (c := c42) (src := 51) (dst := 9) (e := 5) (n := 1) (x := (.tmp 60)) (by kernel_rfl) (by kernel_rfl) (by kernel_rfl) (by kernel_rfl) (by kernel_rfl) (by kernel_rfl) (OwnS.rd (hO44.mono (Imm.trans (Imm.trans hI49 hI63) hI72)) (Upd.app _ (Upd.app _ (Upd.app _ (Upd.selfC _ _))))) ?_
    refine gl_pure 1 [0, 2, 7, 8, 9, 10, 12, 13, 14, 15, 16, 17, 18, 61, 62] (K' := [(0, .slice A0_0 a0.length n0_0), (2, .slice A2_0 a2.length n2_0), (7, .slice A13 zs11.length n14), (8, .slice A22 y17.1.length c23), (9, .slice A41 y36.1.length c42), (10, .int .i64 y36.2), (12, .int .i64 y45.2), (13, .slice A64 y59.1.length c65), (14, .int .i64 y59.2.1), (15, .int .i64 y59.2.2), (16, .slice A73 y68.1.length c74), (17, .int .i64 y68.2.1), (18, .int .i64 y68.2.2), (61, .string (ofBytes y36.1)), (62, .slice A50 y45.1.length c51)]) (by kernel_rfl) ?_
    refine gl_bytesStr (c := c51) (src := 51) (dst := 9) (e := 5) (n := 1) (x := (.tmp 62)) (by kernel_rfl) (by kernel_rfl) (by kernel_rfl) (by kernel_rfl) (by kernel_rfl) (by kernel_rfl) (OwnS.rd (hO53.mono (Imm.trans hI63 hI72)) (Upd.app _ (Upd.app _ (Upd.selfC _ _)))) ?_
    refine gl_pure 2 [0, 2, 7, 8, 9, 10, 12, 13, 14, 15, 16, 17, 18, 65] (K' := [(0, .slice A0_0 a0.length n0_0), (2, .slice A2_0 a2.length n2_0), (7, .slice A13 zs11.length n14), (8, .slice A22 y17.1.length c23), (9, .slice A41 y36.1.length c42), (10, .int .i64 y36.2), (12, .int .i64 y45.2), (13, .slice A64 y59.1.length c65), (14, .int .i64 y59.2.1), (15, .int .i64 y59.2.2), (16, .slice A73 y68.1.length c74), (17, .int .i64 y68.2.1), (18, .int .i64 y68.2.2), (65, .bool (!((ofBytes y36.1).toList == (ofBytes y45.1).toList)))]) (by kernel_rfl) ?_
    refine gl_case 65 (b := (!((ofBytes y36.1).toList == (ofBytes y45.1).toList))) (by kernel_rfl) (fun hc82 => ?_) (fun hc82 => ?_)
    · have hj78 := cond_t hc82 hj78
      refine gl_pure 26 [0, 7, 9, 91] (K' := [(0, .slice A0_0 a0.length n0_0), (7, .slice A13 zs11.length n14), (9, .slice A41 y36.1.length c42), (91, .bool true)]) (by kernel_rfl) ?_
      refine gl_reord (D := C43 ++ L) (Reord.step (Upd.app _ (Upd.app _ (Upd.app _ (Upd.rmC _ _)))) (Reord.skipC (Reord.skipC (Reord.skipC (Reord.skipC (Reord.refl _)))))) ?_
      refine gl_atE (by kernel_rfl) ?_
      obtain rfl := some_inj hj78
      exact ge_mid fun t ht => ⟨(Imm.refl _), rfl, ht.pick (l := [0, 7, 9, 91]) (by kernel_rfl)⟩
    · have hj78 := cond_f hc82 hj78
      refine gl_pure 5 [0, 2, 7, 8, 9, 13, 14, 15, 16, 17, 18, 70] (K' := [(0, .slice A0_0 a0.length n0_0), (2, .slice A2_0 a2.length n2_0), (7, .slice A13 zs11.length n14), (8, .slice A22 y17.1.length c23), (9, .slice A41 y36.1.length c42), (13, .slice A64 y59.1.length c65), (14, .int .i64 y59.2.1), (15, .int .i64 y59.2.2), (16, .slice A73 y68.1.length c74), (17, .int .i64 y68.2.1), (18, .int .i64 y68.2.2), (70, .bool (y36.2 != y45.2))]) (by kernel_rfl) ?_
      refine gl_case 70 (b := (y36.2 != y45.2)) (by kernel_rfl) (fun hc83 => ?_) (fun hc83 => ?_)
      · have hj78 := cond_t hc83 hj78
        refine gl_pure 21 [0, 7, 9, 91] (K' := [(0, .slice A0_0 a0.length n0_0), (7, .slice A13 zs11.length n14), (9, .slice A41 y36.1.length c42), (91, .bool true)]) (by kernel_rfl) ?_
        refine gl_reord (D := C43 ++ L) (Reord.step (Upd.app _ (Upd.app _ (Upd.app _ (Upd.rmC _ _)))) (Reord.skipC (Reord.skipC (Reord.skipC (Reord.skipC (Reord.refl _)))))) ?_
        refine gl_atE (by kernel_rfl) ?_
        obtain rfl := some_inj hj78
        exact ge_mid fun t ht => ⟨(Imm.refl _), rfl, ht.pick (l := [0, 7, 9, 91]) (by kernel_rfl)⟩
      · have hj78 := cond_f hc83 hj78
        refine gl_pure 2 [0, 2, 7, 8, 9, 14, 15, 17, 18, 70, 71, 72] (K' := [(0, .slice A0_0 a0.length n0_0), (2, .slice A2_0 a2.length n2_0), (7, .slice A13 zs11.length n14), (8, .slice A22 y17.1.length c23), (9, .slice A41 y36.1.length c42), (14, .int .i64 y59.2.1), (15, .int .i64 y59.2.2), (17, .int .i64 y68.2.1), (18, .int .i64 y68.2.2), (70, .bool false), (71, .slice A64 y59.1.length c65), (72, .slice A73 y68.1.length c74)]) (by kernel_rfl) ?_
        obtain ⟨y84, hx85, hj78⟩ := bind_some hj78
        refine gl_callB (r := .bool y84) (Tk.step (Upd.rmC _ _) (Tk.step (Upd.rmC _ _) (Tk.nil _))) (by kernel_rfl) (fun J hJ hC => tocsinlaw04_same_walk (r := y84) (OwnS.rest (hO67.mono hI72) hJ hC.right.left) (OwnS.rest hO76 hJ hC.left) hx85 _) ?_
        refine gl_pure 3 [0, 2, 7, 8, 9, 14, 15, 17, 18, 76] (K' := [(0, .slice A0_0 a0.length n0_0), (2, .slice A2_0 a2.length n2_0), (7, .slice A13 zs11.length n14), (8, .slice A22 y17.1.length c23), (9, .slice A41 y36.1.length c42), (14, .int .i64 y59.2.1), (15, .int .i64 y59.2.2), (17, .int .i64 y68.2.1), (18, .int .i64 y68.2.2), (76, .bool (!y84))]) (by kernel_rfl) ?_
        refine gl_case 76 (b := (!y84)) (by kernel_rfl) (fun hc86 => ?_) (fun hc86 => ?_)
        · have hj78 := cond_t hc86 hj78
          refine gl_pure 15 [0, 7, 9, 91] (K' := [(0, .slice A0_0 a0.length n0_0), (7, .slice A13 zs11.length n14), (9, .slice A41 y36.1.length c42), (91, .bool true)]) (by kernel_rfl) ?_
          refine gl_reord (D := C43 ++ L) (Reord.step (Upd.app _ (Upd.app _ (Upd.app _ (Upd.rmC _ _)))) (Reord.skipC (Reord.skipC (Reord.skipC (Reord.skipC (Reord.refl _)))))) ?_
          refine gl_atE (by kernel_rfl) ?_
          obtain rfl := some_inj hj78
          exact ge_mid fun t ht => ⟨(Imm.refl _), rfl, ht.pick (l := [0, 7, 9, 91]) (by kernel_rfl)⟩
        · have hj78 := cond_f hc86 hj78
          refine gl_pure 5 [0, 2, 7, 8, 9, 15, 18, 81] (K' := [(0, .slice A0_0 a0.length n0_0), (2, .slice A2_0 a2.length n2_0), (7, .slice A13 zs11.length n14), (8, .slice A22 y17.1.length c23), (9, .slice A41 y36.1.length c42), (15, .int .i64 y59.2.2), (18, .int .i64 y68.2.2), (81, .bool (y59.2.1 != y68.2.1))]) (by kernel_rfl) ?_
          refine gl_case 81 (b := (y59.2.1 != y68.2.1)) (by kernel_rfl) (fun hc87 => ?_) (fun hc87 => ?_)
          · have hj78 := cond_t hc87 hj78
            refine gl_pure 10 [0, 7, 9, 91] (K' := [(0, .slice A0_0 a0.length n0_0), (7, .slice A13 zs11.length n14), (9, .slice A41 y36.1.length c42), (91, .bool true)]) (by kernel_rfl) ?_
            refine gl_reord (D := C43 ++ L) (Reord.step (Upd.app _ (Upd.app _ (Upd.app _ (Upd.rmC _ _)))) (Reord.skipC (Reord.skipC (Reord.skipC (Reord.skipC (Reord.refl _)))))) ?_
            refine gl_atE (by kernel_rfl) ?_
            obtain rfl := some_inj hj78
            exact ge_mid fun t ht => ⟨(Imm.refl _), rfl, ht.pick (l := [0, 7, 9, 91]) (by kernel_rfl)⟩
          · have hj78 := cond_f hc87 hj78
            refine gl_pure 5 [0, 2, 7, 8, 9, 86] (K' := [(0, .slice A0_0 a0.length n0_0), (2, .slice A2_0 a2.length n2_0), (7, .slice A13 zs11.length n14), (8, .slice A22 y17.1.length c23), (9, .slice A41 y36.1.length c42), (86, .bool (y59.2.2 != y68.2.2))]) (by kernel_rfl) ?_
            refine gl_case 86 (b := (y59.2.2 != y68.2.2)) (by kernel_rfl) (fun hc88 => ?_) (fun hc88 => ?_)
            · have hj78 := cond_t hc88 hj78
              refine gl_pure 5 [0, 7, 9, 91] (K' := [(0, .slice A0_0 a0.length n0_0), (7, .slice A13 zs11.length n14), (9, .slice A41 y36.1.length c42), (91, .bool true)]) (by kernel_rfl) ?_
              refine gl_reord (D := C43 ++ L) (Reord.step (Upd.app _ (Upd.app _ (Upd.app _ (Upd.rmC _ _)))) (Reord.skipC (Reord.skipC (Reord.skipC (Reord.skipC (Reord.refl _)))))) ?_
              refine gl_atE (by kernel_rfl) ?_
              obtain rfl := some_inj hj78
              exact ge_mid fun t ht => ⟨(Imm.refl _), rfl, ht.pick (l := [0, 7, 9, 91]) (by kernel_rfl)⟩
            · have hj78 := cond_f hc88 hj78
              refine gl_pure 2 [0, 7, 9, 86, 87, 88] (K' := [(0, .slice A0_0 a0.length n0_0), (7, .slice A13 zs11.length n14), (9, .slice A41 y36.1.length c42), (86, .bool false), (87, .slice A22 y17.1.length c23), (88, .slice A2_0 a2.length n2_0)]) (by kernel_rfl) ?_
              obtain ⟨y89, hx90, hj78⟩ := bind_some hj78
              refine gl_callQ (by kernel_rfl) (tocsinlaw04_Kept_walk (r := y89) ((RepS.head hO26 hf34).mono (Imm.trans (Imm.trans (Imm.trans hI40 hI49) hI63) hI72)) (hf34.mono (Imm.trans (Imm.trans (Imm.trans hI40 hI49) hI63) hI72)) (hf2_0.mono (Imm.trans (Imm.trans (Imm.trans (Imm.trans (Imm.trans hI21 hJ32) hI40) hI49) hI63) hI72)) hx90 _) ?_
              refine gl_pure 2 [0, 7, 9, 91] (K' := [(0, .slice A0_0 a0.length n0_0), (7, .slice A13 zs11.length n14), (9, .slice A41 y36.1.length c42), (91, .bool (!y89))]) (by kernel_rfl) ?_
              refine gl_reord (D := C43 ++ L) (Reord.step (Upd.app _ (Upd.app _ (Upd.app _ (Upd.rmC _ _)))) (Reord.skipC (Reord.skipC (Reord.skipC (Reord.skipC (Reord.refl _)))))) ?_
              refine gl_atE (by kernel_rfl) ?_
              obtain rfl := some_inj hj78
              exact ge_mid fun t ht => ⟨(Imm.refl _), rfl, ht.pick (l := [0, 7, 9, 91]) (by kernel_rfl)⟩
  · rintro t I81 L' ⟨hI79, rfl, hK80⟩
    refine ge_at hK80 ?_
    refine ge_seq ?_
    refine gk_cond (b := j77) (by kernel_rfl) (by kernel_rfl) (fun hc91 => ?_) (fun hc91 => ?_)
    · have hr := cond_t hc91 hr
      refine gk_seq (by kernel_rfl) ?_
      refine gk_region (by kernel_rfl) ?_
      refine gl_pure 1 [6] (K' := [(6, .bool false)]) (by kernel_rfl) ?_
      refine gl_atE (by kernel_rfl) ?_
      refine ge_seq ?_
      refine gk_reord (D := L) (Reord.skipC (Reord.refl _)) ?_
      refine gk_ret (by kernel_rfl) ?_
      refine ge_seq_ret ?_
      obtain rfl := some_inj hr
      exact ge_result trivial (ResOk.tmp (by kernel_rfl) ResOk.nil) (Imm.trans (Imm.trans (Imm.trans (Imm.trans (Imm.trans (Imm.trans hI21 hJ32) hI40) hI49) hI63) hI72) hI79) ⟨rfl, rfl⟩
    · have hr := cond_f hc91 hr
      refine gk_skip (by kernel_rfl) ?_
      refine ge_seq ?_
      refine gk_seq (by kernel_rfl) ?_
      refine gk_seq (by kernel_rfl) ?_
      obtain ⟨j92, hj93, hr⟩ := bind_some hr
      refine gk_join (fun t I' L' => I81 ≤ I' ∧ C43 ++ L = L' ∧ Knows 128 [(0, .slice A0_0 a0.length n0_0), (7, .slice A13 zs11.length n14), (9, .slice A41 y36.1.length c42), (107, .bool j92)] t) ?_ ?_
      · refine gk_draw 16 [(0, true), (1, true), (2, true), (3, true), (4, true), (5, true), (6, true), (7, true), (8, true), (9, true), (10, true), (11, true), (12, true), (13, true), (14, true), (15, true)] [] (fun p hp => by cases hp) (by kernel_rfl) (by kernel_rfl) (by kernel_rfl) ?_ (by kernel_rfl)
        refine gd_pure 3 [0, 7, 9, 92, 94] (K' := [(0, .slice A0_0 a0.length n0_0), (7, .slice A13 zs11.length n14), (9, .slice A41 y36.1.length c42), (92, .slice A13 zs11.length n14), (94, .int .i64 (a0.length : Int))]) (s' := [(3, true), (4, true), (5, true), (6, true), (7, true), (8, true), (9, true), (10, true), (11, true), (12, true), (13, true), (14, true), (15, true)]) (CC.refl (fun p hp => by cases hp)) (by kernel_rfl) ?_
        obtain ⟨l98, hx97, hj93⟩ := bind_some hj93
        have hd99 := lx_take hx97
        refine gd_q (v := .slice A13 l98.length n14) (by kernel_rfl) (by kernel_rfl) (CC.refl (fun p hp => by cases hp)) (fun I' L' T hC kk => gl_sliceH (A := A13) (c := n14) (n := 1) (T' := 51) (e := 5) (xs := (.tmp 92)) (lo := none) (hi := (some (.tmp 94))) hx97 (RepS.le (hf35.mono (Imm.trans (Imm.trans (Imm.trans (Imm.trans hI40 hI49) hI63) hI72) hI79))) (by kernel_rfl) (by kernel_rfl) (by kernel_rfl) (by kernel_rfl) (by kernel_rfl) (by kernel_rfl) kk) ?_
        refine gd_q (v := .string (ofBytes l98)) (by kernel_rfl) (by kernel_rfl) (CC.refl (fun p hp => by cases hp)) (fun I' L' T hC kk => gl_bytesStr (c := n14) (src := 51) (dst := 9) (e := 5) (n := 1) (x := (.tmp 95)) (by kernel_rfl) (by kernel_rfl) (by kernel_rfl) (by kernel_rfl) (by kernel_rfl) (by kernel_rfl) (RepS.rd ((RepS.head hd99 (hf35.mono (Imm.trans (Imm.trans (Imm.trans (Imm.trans hI40 hI49) hI63) hI72) hI79))).mono hC.le) _) kk) ?_
        refine gd_pure 1 [0, 7, 9, 96, 97] (K' := [(0, .slice A0_0 a0.length n0_0), (7, .slice A13 zs11.length n14), (9, .slice A41 y36.1.length c42), (96, .string (ofBytes l98)), (97, .slice A0_0 a0.length n0_0)]) (s' := [(6, true), (7, true), (8, true), (9, true), (10, true), (11, true), (12, true), (13, true), (14, true), (15, true)]) (CC.refl (fun p hp => by cases hp)) (by kernel_rfl) ?_
        refine gd_q (v := .string (ofBytes a0)) (by kernel_rfl) (by kernel_rfl) (CC.refl (fun p hp => by cases hp)) (fun I' L' T hC kk => gl_bytesStr (c := n0_0) (src := 51) (dst := 9) (e := 5) (n := 1) (x := (.tmp 97)) (by kernel_rfl) (by kernel_rfl) (by kernel_rfl) (by kernel_rfl) (by kernel_rfl) (by kernel_rfl) (RepS.rd ((hf0_0.mono (Imm.trans (Imm.trans (Imm.trans (Imm.trans (Imm.trans (Imm.trans hI21 hJ32) hI40) hI49) hI63) hI72) hI79)).mono hC.le) _) kk) ?_
        refine gd_pure 2 [0, 7, 9, 100] (K' := [(0, .slice A0_0 a0.length n0_0), (7, .slice A13 zs11.length n14), (9, .slice A41 y36.1.length c42), (100, .bool (!((ofBytes l98).toList == (ofBytes a0).toList)))]) (s' := [(9, true), (10, true), (11, true), (12, true), (13, true), (14, true), (15, true)]) (CC.refl (fun p hp => by cases hp)) (by kernel_rfl) ?_
        refine gd_case 100 (b := (!((ofBytes l98).toList == (ofBytes a0).toList))) (by kernel_rfl) (fun hc100 => ?_) (fun hc100 => ?_)
        · have hj93 := cond_t hc100 hj93
          refine gd_pure 7 [0, 7, 9, 107] (K' := [(0, .slice A0_0 a0.length n0_0), (7, .slice A13 zs11.length n14), (9, .slice A41 y36.1.length c42), (107, .bool true)]) (s' := []) (CC.refl (fun p hp => by cases hp)) (by kernel_rfl) ?_
          refine gd_done ?_
          refine gl_atE (by kernel_rfl) ?_
          obtain rfl := some_inj hj93
          exact ge_mid fun t ht => ⟨(Imm.refl _), rfl, ht.pick (l := [0, 7, 9, 107]) (by kernel_rfl)⟩
        · have hj93 := cond_f hc100 hj93
          refine gd_pure 3 [0, 7, 9, 100, 101, 103] (K' := [(0, .slice A0_0 a0.length n0_0), (7, .slice A13 zs11.length n14), (9, .slice A41 y36.1.length c42), (100, .bool false), (101, .slice A13 zs11.length n14), (103, .int .i64 (a0.length : Int))]) (s' := [(12, true), (13, true), (14, true), (15, true)]) (CC.refl (fun p hp => by cases hp)) (by kernel_rfl) ?_
          obtain ⟨x101, hx102, hj93⟩ := bind_some hj93
          obtain ⟨p103, cs104, hR105, hA106, ha107⟩ := RepS.ixAt hx102 (hf35.mono (Imm.trans (Imm.trans (Imm.trans (Imm.trans hI40 hI49) hI63) hI72) hI79))
          have hi108 := ix_some hx102
          obtain rfl := hR105
          refine gd_q (v := .pointer (some p103)) (by kernel_rfl) (by kernel_rfl) (CC.refl (fun p hp => by cases hp)) (fun I' L' T hC kk => gl_indexAddrF (c := n14) (T' := 51) (e := 5) (xs := (.tmp 101)) (xi := (.tmp 103)) (kd := .i64) ha107 hi108.1 hi108.2.1 (by kernel_rfl) (by kernel_rfl) (by kernel_rfl) (by kernel_rfl) (by kernel_rfl) kk) ?_
          refine gd_q (v := .int .u8 x101) (by kernel_rfl) (by kernel_rfl) (CC.refl (fun p hp => by cases hp)) (fun I' L' T hC kk => gl_load (T' := 5) (xp := (.tmp 104)) (p := p103) (c := .int .u8 x101) (n := 1) (by kernel_rfl) (by kernel_rfl) (by kernel_rfl) (by kernel_rfl) (hA106.mono hC.le) kk) ?_
          refine gd_pure 2 [0, 7, 9, 107] (K' := [(0, .slice A0_0 a0.length n0_0), (7, .slice A13 zs11.length n14), (9, .slice A41 y36.1.length c42), (107, .bool (x101 != 77))]) (s' := []) (CC.refl (fun p hp => by cases hp)) (by kernel_rfl) ?_
          refine gd_done ?_
          refine gl_atE (by kernel_rfl) ?_
          obtain rfl := some_inj hj93
          exact ge_mid fun t ht => ⟨(Imm.refl _), rfl, ht.pick (l := [0, 7, 9, 107]) (by kernel_rfl)⟩
      · rintro t I96 L' ⟨hI94, rfl, hK95⟩
        refine ge_at hK95 ?_
        refine ge_seq ?_
        refine gk_cond (b := j92) (by kernel_rfl) (by kernel_rfl) (fun hc109 => ?_) (fun hc109 => ?_)
        · have hr := cond_t hc109 hr
          refine gk_seq (by kernel_rfl) ?_
          refine gk_region (by kernel_rfl) ?_
          refine gl_pure 1 [6] (K' := [(6, .bool false)]) (by kernel_rfl) ?_
          refine gl_atE (by kernel_rfl) ?_
          refine ge_seq ?_
          refine gk_reord (D := L) (Reord.skipC (Reord.refl _)) ?_
          refine gk_ret (by kernel_rfl) ?_
          refine ge_seq_ret ?_
          obtain rfl := some_inj hr
          exact ge_result trivial (ResOk.tmp (by kernel_rfl) ResOk.nil) (Imm.trans (Imm.trans (Imm.trans (Imm.trans (Imm.trans (Imm.trans (Imm.trans hI21 hJ32) hI40) hI49) hI63) hI72) hI79) hI94) ⟨rfl, rfl⟩
        · have hr := cond_f hc109 hr
          refine gk_skip (by kernel_rfl) ?_
          refine ge_seq ?_
          refine gk_seq (by kernel_rfl) ?_
          refine gk_seq (by kernel_rfl) ?_
          refine gk_region (by kernel_rfl) ?_
          refine gl_pure 3 [0, 7, 9, 109, 110] (K' := [(0, .slice A0_0 a0.length n0_0), (7, .slice A13 zs11.length n14), (9, .slice A41 y36.1.length c42), (109, .int .i64 (y36.1.length : Int)), (110, .int .i64 0)]) (by kernel_rfl) ?_
          refine gl_atE (by kernel_rfl) ?_
          refine ge_seq ?_
          obtain ⟨r117, hl118, hr⟩ := bind_some hr
          refine gk_join (fun t I' L' => I96 ≤ I' ∧ L = L' ∧ Knows 128 [(0, .slice A0_0 a0.length n0_0), (7, .slice A13 zs11.length n14)] t) ?_ ?_
          · refine gk_block (by kernel_rfl) ?_
            refine gk_pick [0, 7, 9, 109, 110] (K' := [(0, .slice A0_0 a0.length n0_0), (7, .slice A13 zs11.length n14), (9, .slice A41 y36.1.length c42), (109, .int .i64 (y36.1.length : Int)), (110, .int .i64 0)]) (by kernel_rfl) ?_
            intro t hK
            refine gc_loop (tocsinlaw04_LabelsBytes_l131 y36) (fun s119 t I' L' => ∃ C123, OwnS (Kd.int .u8) 5 I' A41 c42 s119.1 C123 ∧ I96 ≤ I' ∧ C123 ++ L = L' ∧ Knows 128 [(0, .slice A0_0 a0.length n0_0), (7, .slice A13 zs11.length n14), (9, .slice A41 s119.1.length c42), (109, .int .i64 (y36.1.length : Int)), (110, .int .i64 s119.2)] t) (by kernel_rfl) ?_ hl118 ⟨C43, (hO44.mono (Imm.trans (Imm.trans (Imm.trans (Imm.trans hI49 hI63) hI72) hI79) hI94)), (Imm.refl _), rfl, hK⟩
            rintro s119 o120 t I127 L' hb121 ⟨C123, hO124, hI122, rfl, hK126⟩
            unfold tocsinlaw04_LabelsBytes_l131 at hb121
            refine gk_at hK126 ?_
            refine gk_seq (by kernel_rfl) ?_
            refine gk_region (by kernel_rfl) ?_
            refine gl_pure 1 [0, 7, 9, 109, 110, 111] (K' := [(0, .slice A0_0 a0.length n0_0), (7, .slice A13 zs11.length n14), (9, .slice A41 s119.1.length c42), (109, .int .i64 (y36.1.length : Int)), (110, .int .i64 s119.2), (111, .bool (decide (s119.2 < (y36.1.length : Int))))]) (by kernel_rfl) ?_
            refine gl_atE (by kernel_rfl) ?_
            refine ge_seq ?_
            refine gk_seq (by kernel_rfl) ?_
            refine gk_cond (b := (decide (s119.2 < (y36.1.length : Int)))) (by kernel_rfl) (by kernel_rfl) (fun hc133 => ?_) (fun hc133 => ?_)
            · have hb121 := cond_t hc133 hb121
              refine gk_skip (by kernel_rfl) ?_
              refine ge_seq ?_
              refine gk_seq (by kernel_rfl) ?_
              refine gk_block (by kernel_rfl) ?_
              refine gk_seq (by kernel_rfl) ?_
              refine gk_region (by kernel_rfl) ?_
              refine gl_pure 2 [0, 7, 9, 19, 109, 110] (K' := [(0, .slice A0_0 a0.length n0_0), (7, .slice A13 zs11.length n14), (9, .slice A41 s119.1.length c42), (19, .int .i64 s119.2), (109, .int .i64 (y36.1.length : Int)), (110, .int .i64 s119.2)]) (by kernel_rfl) ?_
              refine gl_atE (by kernel_rfl) ?_
              refine ge_seq ?_
              refine gk_region (by kernel_rfl) ?_
              refine gl_pure 2 [0, 7, 9, 109, 110, 113, 114] (K' := [(0, .slice A0_0 a0.length n0_0), (7, .slice A13 zs11.length n14), (9, .slice A41 s119.1.length c42), (109, .int .i64 (y36.1.length : Int)), (110, .int .i64 s119.2), (113, .slice A41 s119.1.length c42), (114, .int .i64 s119.2)]) (by kernel_rfl) ?_
              obtain ⟨x134, hx135, hb121⟩ := bind_some hb121
              refine gl_indexAddrW (d := (Kd.int .u8)) (c := c42) (T' := 51) (e := 5) (xs := (.tmp 113)) (xi := (.tmp 114)) (kd := .i64) hx135 hO124 (Upd.selfC _ _) (by kernel_rfl) (by kernel_rfl) (by kernel_rfl) (by kernel_rfl) (by kernel_rfl) (fun p136 cs137 hR138 hA139 hp142 => ?_)
              obtain rfl := hR138
              have hl145 : s119.1.length = (lset s119.1 s119.2 99).length := by simp [lset]
              refine gl_storeE (d := (Kd.int .u8)) (T' := 5) (xp := (.tmp 115)) (xv := (.const (.int .u8 99))) (v := .int .u8 99) (off := 0) (y := 99) (fun X => X ++ L) hx135 hO124 (fun X => (Upd.head _ X _)) hp142 (by kernel_rfl) (by kernel_rfl) (by kernel_rfl) (by kernel_rfl) (by kernel_rfl) (by kernel_rfl) (fun cs h => by obtain rfl := h; rfl) (by kernel_rfl) (fun C143 hO144 => ?_)
              try rw [hl145]
              refine gl_atE (by kernel_rfl) ?_
              refine ge_block_normal ?_
              refine ge_seq ?_
              refine gk_region (by kernel_rfl) ?_
              refine gl_pure 2 [0, 7, 9, 109, 110] (K' := [(0, .slice A0_0 a0.length n0_0), (7, .slice A13 zs11.length n14), (9, .slice A41 (lset s119.1 s119.2 99).length c42), (109, .int .i64 (y36.1.length : Int)), (110, .int .i64 (IntKind.wrap .i64 (s119.2 + 1)))]) (by kernel_rfl) ?_
              refine gl_atE (by kernel_rfl) ?_
              obtain rfl := some_inj hb121
              exact ge_round fun t ht => ⟨C143, hO144, hI122, rfl, ht.pick (l := [0, 7, 9, 109, 110]) (by kernel_rfl)⟩
            · have hb121 := cond_f hc133 hb121
              refine gk_reord (D := L) (Reord.skipC (Reord.refl _)) ?_
              refine gk_exit (by kernel_rfl) ?_
              refine ge_seq_exit ?_
              obtain rfl := some_inj hb121
              refine ge_round_out (fun hrr => ?_) (by intro h; cases h)
              obtain rfl := hrr
              refine ge_block_hit (by kernel_rfl) ?_
              exact ge_mid fun t ht => ⟨hI122, rfl, ht.pick (l := [0, 7]) (by kernel_rfl)⟩
          · rintro t I130 L' ⟨hI128, rfl, hK129⟩
            refine ge_at hK129 ?_
            refine ge_seq ?_
            refine gk_seq (by kernel_rfl) ?_
            obtain ⟨j146, hj147, hr⟩ := bind_some hr
            refine gk_join (fun t I' L' => I130 ≤ I' ∧ L = L' ∧ Knows 128 [(6, .bool j146)] t) ?_ ?_
            · refine gk_draw 9 [(0, true), (1, true), (2, true), (3, true), (4, true), (5, true), (6, true), (7, true), (8, true)] [] (fun p hp => by cases hp) (by kernel_rfl) (by kernel_rfl) (by kernel_rfl) ?_ (by kernel_rfl)
              refine gd_pure 3 [0, 117, 119] (K' := [(0, .slice A0_0 a0.length n0_0), (117, .slice A13 zs11.length n14), (119, .int .i64 (a0.length : Int))]) (s' := [(3, true), (4, true), (5, true), (6, true), (7, true), (8, true)]) (CC.refl (fun p hp => by cases hp)) (by kernel_rfl) ?_
              obtain ⟨l152, hx151, hj147⟩ := bind_some hj147
              have hd153 := lx_take hx151
              refine gd_q (v := .slice A13 l152.length n14) (by kernel_rfl) (by kernel_rfl) (CC.refl (fun p hp => by cases hp)) (fun I' L' T hC kk => gl_sliceH (A := A13) (c := n14) (n := 1) (T' := 51) (e := 5) (xs := (.tmp 117)) (lo := none) (hi := (some (.tmp 119))) hx151 (RepS.le (hf35.mono (Imm.trans (Imm.trans (Imm.trans (Imm.trans (Imm.trans (Imm.trans hI40 hI49) hI63) hI72) hI79) hI94) hI128))) (by kernel_rfl) (by kernel_rfl) (by kernel_rfl) (by kernel_rfl) (by kernel_rfl) (by kernel_rfl) kk) ?_
              refine gd_q (v := .string (ofBytes l152)) (by kernel_rfl) (by kernel_rfl) (CC.refl (fun p hp => by cases hp)) (fun I' L' T hC kk => gl_bytesStr (c := n14) (src := 51) (dst := 9) (e := 5) (n := 1) (x := (.tmp 120)) (by kernel_rfl) (by kernel_rfl) (by kernel_rfl) (by kernel_rfl) (by kernel_rfl) (by kernel_rfl) (RepS.rd ((RepS.head hd153 (hf35.mono (Imm.trans (Imm.trans (Imm.trans (Imm.trans (Imm.trans (Imm.trans hI40 hI49) hI63) hI72) hI79) hI94) hI128))).mono hC.le) _) kk) ?_
              refine gd_pure 1 [121, 122] (K' := [(121, .string (ofBytes l152)), (122, .slice A0_0 a0.length n0_0)]) (s' := [(6, true), (7, true), (8, true)]) (CC.refl (fun p hp => by cases hp)) (by kernel_rfl) ?_
              refine gd_q (v := .string (ofBytes a0)) (by kernel_rfl) (by kernel_rfl) (CC.refl (fun p hp => by cases hp)) (fun I' L' T hC kk => gl_bytesStr (c := n0_0) (src := 51) (dst := 9) (e := 5) (n := 1) (x := (.tmp 122)) (by kernel_rfl) (by kernel_rfl) (by kernel_rfl) (by kernel_rfl) (by kernel_rfl) (by kernel_rfl) (RepS.rd ((hf0_0.mono (Imm.trans (Imm.trans (Imm.trans (Imm.trans (Imm.trans (Imm.trans (Imm.trans (Imm.trans hI21 hJ32) hI40) hI49) hI63) hI72) hI79) hI94) hI128)).mono hC.le) _) kk) ?_
              refine gd_pure 2 [125] (K' := [(125, .bool ((ofBytes l152).toList == (ofBytes a0).toList))]) (s' := []) (CC.refl (fun p hp => by cases hp)) (by kernel_rfl) ?_
              refine gd_done ?_
              refine gl_case 125 (b := ((ofBytes l152).toList == (ofBytes a0).toList)) (by kernel_rfl) (fun hc154 => ?_) (fun hc154 => ?_)
              · have hj147 := cond_t hc154 hj147
                obtain ⟨y155, hx156, hj147⟩ := bind_some hj147
                refine gl_callQ (by kernel_rfl) (tocsinlaw04_awake_walk (r := y155) (hG.mono (Imm.trans (Imm.trans (Imm.trans (Imm.trans (Imm.trans (Imm.trans (Imm.trans (Imm.trans hI21 hJ32) hI40) hI49) hI63) hI72) hI79) hI94) hI128)) hx156 _) ?_
                refine gl_pure 2 [6] (K' := [(6, .bool y155)]) (by kernel_rfl) ?_
                refine gl_atE (by kernel_rfl) ?_
                obtain rfl := some_inj hj147
                exact ge_mid fun t ht => ⟨(Imm.refl _), rfl, ht.pick (l := [6]) (by kernel_rfl)⟩
              · have hj147 := cond_f hc154 hj147
                refine gl_pure 3 [6] (K' := [(6, .bool false)]) (by kernel_rfl) ?_
                refine gl_atE (by kernel_rfl) ?_
                obtain rfl := some_inj hj147
                exact ge_mid fun t ht => ⟨(Imm.refl _), rfl, ht.pick (l := [6]) (by kernel_rfl)⟩
            · rintro t I150 L' ⟨hI148, rfl, hK149⟩
              refine ge_at hK149 ?_
              refine ge_seq ?_
              refine gk_ret (by kernel_rfl) ?_
              obtain rfl := some_inj hr
              exact ge_result trivial (ResOk.tmp (by kernel_rfl) ResOk.nil) (Imm.trans (Imm.trans (Imm.trans (Imm.trans (Imm.trans (Imm.trans (Imm.trans (Imm.trans (Imm.trans hI21 hJ32) hI40) hI49) hI63) hI72) hI79) hI94) hI128) hI148) ⟨rfl, rfl⟩
end Go.Proofs.YtnlkfajnaelnnaaGreatDoor

/- From data that are read to what the walks ask: rows. -/
set_option linter.unusedVariables false
namespace Go.GB
open Go Go.RowKit
open Go.Proofs.YtnlkfajnaelnnaaGreatDoor.Rows (uptoBulk uptoBulkAll)

def immOf (W : World) : Imm := ⟨fun b => W.heap[b]?, W.os, W.tape, W.output, 0⟩
theorem holds_immOf (W : World) : Holds (immOf W) [] W := ⟨fun _ _ h => h, by simp, by simp, by simp, rfl, rfl, rfl, Nat.zero_le _⟩
theorem below_of {I' : Imm} {L' : Own} {W W' : World} (h : Holds I' L' W') (hI : immOf W ≤ I') : Below W.heap.size W W' := by
  refine ⟨by rw [h.os, hI.os]; rfl, by rw [h.tape, hI.tape]; rfl, by rw [h.out, hI.out]; rfl, ?_, fun k hk => ?_⟩
  · rcases Nat.eq_zero_or_pos W.heap.size with h0 | h0
    · omega
    · have : W.heap[W.heap.size - 1]? = some (W.heap[W.heap.size - 1]'(by omega)) := Array.getElem?_eq_getElem _
      have := lt_of_heap (h.imm _ _ (hI.h _ _ this))
      omega
  · have : W.heap[k]? = some (W.heap[k]) := Array.getElem?_eq_getElem hk
    rw [this]; exact h.imm _ _ (hI.h _ _ this)
theorem imm_cell {W : World} {a : Addr} {v : Value} (h : W.cell? a = some v) : (immOf W).cell a = some v := h
theorem run_of_cells {W : World} {a : Addr} {n : Nat} {cs : List Value} (h : W.cells? 0 a n = some cs) : RunAt (immOf W) a cs := fun j v hj => by
  unfold World.cells? at h
  rw [if_pos (Nat.zero_le _)] at h
  have hl := mapM_some_length h
  have hj' : j < n := by have := (List.getElem?_eq_some_iff.1 hj).1; simpa [hl] using this
  have := mapM_some_get h j j (by simp [hj'])
  exact imm_cell (this.trans hj)

def Reads {α : Type} (P : Program) (T : TypeId) (d : Kd α) (w : α → Nat → Prop) : Prop := ∀ {H : Type} {enc : TypeId × Value → H} {W : World} {spare : Nat → Bool} {held : Bool} {fuel : Nat} {cs : List Value} {x : DataW H × List MemPlace},
  DataW.trod enc P W 0 spare held fuel T cs = some x → uptoBulk x.1 ≤ 1048576 → ∃ y, d.R (immOf W) y cs ∧ w y (uptoBulk x.1)
theorem reads_int {P : Program} {T : TypeId} {k : IntKind} (h : P.underlying T = some (.int k)) : Reads P T (Kd.int k) (wInt k) := fun ht _ => by
  obtain ⟨n, rfl, _, hw⟩ := DataW.trod_int h ht
  simp only [Lit.wf, Bool.and_eq_true, decide_eq_true_eq] at hw
  exact ⟨n, rfl, hw⟩
theorem reads_str {P : Program} {T : TypeId} (h : P.underlying T = some .string) : Reads P T Kd.str wStr := fun ht _ => by
  obtain ⟨n, rfl, rfl, _⟩ := DataW.trod_string h ht
  exact ⟨n, rfl, by simp [uptoBulk, wStr]⟩
theorem bulk_pos {H : Type} (d : DataW H) : 1 ≤ uptoBulk d := by
  cases d with
  | lit l => cases l <;> simp [uptoBulk]
  | _ => simp [uptoBulk]
theorem bulkAll_ge {H : Type} : ∀ (l : List (DataW H)), l.length ≤ uptoBulkAll l
  | [] => by simp
  | d :: r => by have := bulk_pos d; have := bulkAll_ge r; simp only [uptoBulkAll, List.length_cons]; omega
theorem bulkAll_mem {H : Type} {d : DataW H} : ∀ {l : List (DataW H)}, d ∈ l → uptoBulk d ≤ uptoBulkAll l
  | [], h => by cases h
  | e :: r, h => by
    simp only [uptoBulkAll]
    rcases List.mem_cons.1 h with rfl | h
    · omega
    · have := bulkAll_mem h; omega
theorem choose_list {α : Type} {p : Nat → α → Prop} : ∀ (n : Nat), (∀ i, i < n → ∃ y, p i y) → ∃ xs : List α, xs.length = n ∧ ∀ i x, xs[i]? = some x → p i x
  | 0, _ => ⟨[], rfl, fun i x h => by simp at h⟩
  | m + 1, key => by
    obtain ⟨xs, hxl, hx⟩ := choose_list m (fun i hi => key i (by omega))
    obtain ⟨y, hy⟩ := key m (by omega)
    refine ⟨xs ++ [y], by simp [hxl], fun i x h => ?_⟩
    rcases Nat.lt_or_ge i m with hi | hi
    · rw [List.getElem?_append_left (by omega)] at h; exact hx i x h
    · rw [List.getElem?_append_right (by omega), hxl] at h
      have hi0 : i - m = 0 := by have := (List.getElem?_eq_some_iff.1 h).1; simpa using this
      rw [hi0] at h
      simp only [List.getElem?_cons_zero, Option.some.injEq] at h
      subst h
      rw [show i = m from by omega]
      exact hy
theorem wSl_of {α H : Type} {w : α → Nat → Prop} : ∀ (xs : List α) (es : List (DataW H)), xs.length = es.length → (∀ (i : Nat) (x : α) (e : DataW H), xs[i]? = some x → es[i]? = some e → w x (uptoBulk e)) → wSl w xs (uptoBulkAll es)
  | [], _, _, _ => trivial
  | x :: r, [], h, _ => by simp at h
  | x :: r, e :: es, h, hw => ⟨uptoBulk e, uptoBulkAll es, hw 0 x e rfl rfl, wSl_of r es (by simpa using h) (fun i x' e' h1 h2 => hw (i + 1) x' e' (by simpa using h1) (by simpa using h2)), by simp [uptoBulkAll], bulk_pos e⟩
theorem reads_slice {α : Type} {P : Program} {T e : TypeId} {d : Kd α} {w : α → Nat → Prop} (hu : P.underlying T = some (.slice e)) (hn : P.cellsOf e = d.n) (hr : Reads P e d w) : Reads P T (Kd.sl d) (wSl w) := by
  intro H enc W spare held fuel cs x ht hb
  rcases DataW.trod_slice hu ht with ⟨rfl, rfl⟩ | ⟨a, len, cap, elems, rest, n, rfl, rfl, rfl, _, hlc, hcm, hel, hat, _, _⟩
  · exact ⟨[], ⟨none, 0, rfl, RepS.nil _ _⟩, trivial⟩
  · simp only [uptoBulk] at hb
    have hlen := bulkAll_ge (elems.map (·.1))
    rw [List.length_map, hel] at hlen
    have key : ∀ i, i < len → ∃ y, (∃ cs', d.R (immOf W) y cs' ∧ RunAt (immOf W) (a.add (i * d.n)) cs') ∧ ∀ e, (elems.map (·.1))[i]? = some e → w y (uptoBulk e) := fun i hi => by
      have h1 := hat i hi
      have hie : i < elems.length := by omega
      rw [List.getElem?_eq_getElem hie] at h1
      simp only [Option.bind_eq_some_iff] at h1
      obtain ⟨cs', h2, h3⟩ := h1
      obtain ⟨y, hy, hw⟩ := hr h3 (by
        have := bulkAll_mem (l := elems.map (·.1)) (List.mem_map_of_mem (List.getElem_mem hie))
        omega)
      refine ⟨y, ⟨cs', hy, ?_⟩, fun e he => ?_⟩
      · rw [← hn]
        exact run_of_cells h2
      · rw [List.getElem?_map, List.getElem?_eq_getElem hie] at he
        cases he; exact hw
    have hex := choose_list (p := fun i y => (∃ cs', d.R (immOf W) y cs' ∧ RunAt (immOf W) (a.add (i * d.n)) cs') ∧ ∀ e, (elems.map (·.1))[i]? = some e → w y (uptoBulk e)) len key
    obtain ⟨xs, hxl, hx⟩ := hex
    refine ⟨xs, ⟨some a, cap, by rw [hxl], by omega, by unfold maxLen'; omega, fun i x h => ?_⟩, ?_⟩
    · obtain ⟨⟨cs', h1, h2⟩, _⟩ := hx i x h
      exact ⟨a, cs', rfl, h1, h2⟩
    · exact (wSl_of xs (elems.map (·.1)) (by simp [hxl, hel]) (fun i x e h1 h2 => (hx i x h1).2 e h2)).le (by simp only [uptoBulk]; omega)
theorem pairR {α β : Type} {a : Kd α} {b : Kd β} {I : Imm} {x : α} {y : β} {cs : List Value} {o n m : Nat} (h0 : a.R I x ((cs.drop o).take n)) (h1 : b.R I y (cs.drop m)) (hm : m = o + n) : (Kd.pair a b).R I (x, y) (cs.drop o) := by
  subst hm
  exact ⟨(cs.drop o).take n, (cs.drop o).drop n, (List.take_append_drop _ _).symm, h0, by rw [List.drop_drop]; exact h1⟩
theorem lastR {α : Type} {a : Kd α} {I : Imm} {x : α} {cs : List Value} {o n : Nat} (h : a.R I x ((cs.drop o).take n)) (hl : cs.length = o + n) : a.R I x (cs.drop o) := by
  rwa [List.take_of_length_le (by rw [List.length_drop]; omega)] at h
def fieldD (P : Program) (T : TypeId) (i : Nat) : Field := (P.fieldsOf T).getD i default
/-- A field of a struct that is read. -/
theorem field_read {α : Type} {H : Type} {enc : TypeId × Value → H} {P : Program} {W : World} {spare : Nat → Bool} {held : Bool} {m : Nat} {T t : TypeId} {d : Kd α} {w : α → Nat → Prop} {cs : List Value} {xs : List (DataW H × List MemPlace)} {x : DataW H × List MemPlace} {i o n : Nat}
    (hf : ∀ (i : Nat) (f : Field), (P.fieldsOf T)[i]? = some f → DataW.trod enc P W 0 spare held m f.type ((cs.drop f.offset).take (P.cellsOf f.type)) = xs[i]?)
    (hx : xs[i]? = some x) (h1 : (P.fieldsOf T)[i]? = some (fieldD P T i)) (h2 : (fieldD P T i).type = t) (h3 : (fieldD P T i).offset = o) (h4 : P.cellsOf t = n) (hr : Reads P t d w) (hb : uptoBulk x.1 ≤ 1048576) : ∃ y, d.R (immOf W) y ((cs.drop o).take n) ∧ w y (uptoBulk x.1) := by
  have := hf i _ h1
  rw [hx, h2, h3, h4] at this
  exact hr this hb
theorem calls_of {P : Program} {f : FuncId} {args : Array Value} {W : World} {b : Value} (h : CallsTo P f args (immOf W) [] (fun v I' L' => v = b ∧ [] = L')) : Calls P f args W fun e W' => e = .returned b ∧ Below W.heap.size W W' :=
  (h W (holds_immOf W)).mono fun e W' ⟨v, I', L', he, hI, hh, hv, _⟩ => ⟨by rw [he, hv], below_of hh hI⟩
end Go.GB

/- Functions that can be run out: twins with a bound on rounds. -/
set_option linter.unusedVariables false
namespace Go.GB
def loopF {σ ρ : Type} : Nat → (σ → Option (σ ⊕ ρ)) → σ → Option ρ
  | 0, _, _ => none
  | n + 1, body, s => match body s with
    | none => none
    | some (.inr r) => some r
    | some (.inl s') => loopF n body s'
def OLe {α : Type} (x y : Option α) : Prop := ∀ r, x = some r → y = some r
theorem OLe.refl {α : Type} (x : Option α) : OLe x x := fun _ h => h
theorem OLe.bind {α β : Type} {x y : Option α} {f g : α → Option β} (h : OLe x y) (hf : ∀ a, OLe (f a) (g a)) : OLe (Option.bind x f) (Option.bind y g) := fun r hr => by
  obtain ⟨a, ha, hb⟩ := bind_some hr
  rw [h a ha]; exact hf a r hb
theorem OLe.cond {α : Type} {b : Bool} {x y x' y' : Option α} (h : OLe x x') (h' : OLe y y') : OLe (bif b then x else y) (bif b then x' else y') := by
  cases b
  · exact h'
  · exact h
theorem loopF_R {σ ρ : Type} {body body' : σ → Option (σ ⊕ ρ)} (h : ∀ s, OLe (body s) (body' s)) : ∀ (n : Nat) (s : σ) (r : ρ), loopF n body s = some r → LoopR body' s r
  | 0, _, _, hr => by cases hr
  | n + 1, s, r, hr => by
    unfold loopF at hr
    cases hb : body s with
    | none => rw [hb] at hr; cases hr
    | some o =>
      rw [hb] at hr
      cases o with
      | inl s' => exact .step (h s _ hb) (loopF_R h n s' r hr)
      | inr r' => cases hr; exact .done (h s _ hb)
theorem OLe.loop {σ ρ : Type} {body body' : σ → Option (σ ⊕ ρ)} {n : Nat} {s : σ} (h : ∀ s, OLe (body s) (body' s)) : OLe (loopF n body s) (loopO body' s) := fun r hr => loopO_of (loopF_R h n s r hr)

/-! ### Loops that go up -/
/-- A loop that goes up, told by an invariant on its states. -/
theorem up_inv {σ ρ : Type} {body : σ → Option (σ ⊕ ρ)} (st : Nat → σ) {n : Nat} {r : ρ} (h : ∀ i : Nat, i < n → body (st i) = some (.inl (st (i + 1)))) (he : body (st n) = some (.inr r)) : ∀ i : Nat, i ≤ n → loopO body (st i) = some r := by
  intro i hi
  induction hd : n - i generalizing i with
  | zero =>
    have : i = n := by omega
    subst this
    exact loopO_of (.done he)
  | succ d ih => exact loopO_of (.step (h i (by omega)) (loopR_of (ih (i + 1) (by omega) (by omega))))
end Go.GB

/- What plain functions come to: a calculus for 'it answers, and its answer is ..'. -/
set_option linter.unusedVariables false
namespace Go.GB
def Ok {α : Type} (x : Option α) (Q : α → Prop) : Prop := ∃ r, x = some r ∧ Q r
theorem ok_some {α : Type} {r : α} {Q : α → Prop} (h : Q r) : Ok (some r) Q := ⟨r, rfl, h⟩
theorem ok_bind {α β : Type} {x : Option α} {f : α → Option β} {P : α → Prop} {Q : β → Prop} (h : Ok x P) (k : ∀ a, P a → Ok (f a) Q) : Ok (Option.bind x f) Q := by
  obtain ⟨a, rfl, hp⟩ := h
  exact k a hp
theorem ok_cond {α : Type} {b : Bool} {x y : Option α} {Q : α → Prop} (h : b = true → Ok x Q) (h' : b = false → Ok y Q) : Ok (bif b then x else y) Q := by
  cases b
  · exact h' rfl
  · exact h rfl
/-- A loop, by an invariant and a measure. -/
theorem ok_loop {σ ρ : Type} {body : σ → Option (σ ⊕ ρ)} {Q : ρ → Prop} (Inv : σ → Prop) (m : σ → Nat) (h : ∀ s, Inv s → Ok (body s) (fun o => match o with | .inl s' => Inv s' ∧ m s' < m s | .inr r => Q r)) : ∀ s, Inv s → Ok (loopO body s) Q := by
  intro s
  induction hm : m s using Nat.strongRecOn generalizing s with
  | _ k ih =>
    intro hs
    obtain ⟨o, e, ho⟩ := h s hs
    cases o with
    | inr r => exact ⟨r, loopO_of (.done e), ho⟩
    | inl s' =>
      obtain ⟨r, e', hr⟩ := ih (m s') (by omega) s' rfl ho.1
      exact ⟨r, loopO_of (.step e (loopR_of e')), hr⟩
theorem wrap_up {i : Nat} (h : i < 4294967296) : IntKind.wrap .i64 ((i : Int) + 1) = ((i + 1 : Nat) : Int) := by rw [wrap64 (by omega) (by omega)]; omega
theorem ix_nat {α : Type} (xs : List α) (i : Nat) : ix xs (i : Int) = xs[i]? := by simp [ix]
theorem ok_app {α : Type} {xs ys : List α} (h : xs.length + ys.length ≤ 2147483648) : Ok (app xs ys) (fun z => z = xs ++ ys) := ⟨xs ++ ys, by unfold app maxLen'; rw [if_pos (by simpa using h)], rfl⟩
theorem size_zero_iff {s : ByteArray} : (s.toList == (⟨#[]⟩ : ByteArray).toList) = decide (s.size = 0) := by
  rw [ByteArray.toList_eq, ByteArray.toList_eq]
  obtain ⟨⟨l⟩⟩ := s
  cases l <;> rfl
theorem toList_inj {a b : ByteArray} : (a.toList == b.toList) = true ↔ a = b := by
  rw [ByteArray.toList_eq, ByteArray.toList_eq]
  obtain ⟨⟨x⟩⟩ := a
  obtain ⟨⟨y⟩⟩ := b
  simp
end Go.GB

set_option linter.unusedVariables false
namespace Go.GB
theorem loopR_congr {σ ρ : Type} {b b' : σ → Option (σ ⊕ ρ)} (Inv : σ → Prop) (h : ∀ s, Inv s → b s = b' s) (hp : ∀ s s', Inv s → b s = some (.inl s') → Inv s') {s : σ} {r : ρ} (hr : LoopR b s r) : Inv s → LoopR b' s r := by
  induction hr with
  | done h1 => exact fun hs => .done (by rw [← h _ hs]; exact h1)
  | step h1 _ ih => exact fun hs => .step (by rw [← h _ hs]; exact h1) (ih (hp _ _ hs h1))
/-- Loops whose rounds are alike. -/
theorem loopO_congr {σ ρ : Type} {b b' : σ → Option (σ ⊕ ρ)} (Inv : σ → Prop) (h : ∀ s, Inv s → b s = b' s) (hp : ∀ s s', Inv s → b s = some (.inl s') → Inv s') {s : σ} (hs : Inv s) : loopO b s = loopO b' s := by
  cases h1 : loopO b s with
  | some r => exact (loopO_of (loopR_congr Inv h hp (loopR_of h1) hs)).symm
  | none =>
    cases h2 : loopO b' s with
    | none => rfl
    | some r =>
      have h3 : LoopR b s r := loopR_congr Inv (fun s hs => (h s hs).symm) (fun s s' hs he => hp s s' hs (by rw [h s hs]; exact he)) (loopR_of h2) hs
      rw [loopO_of h3] at h1; cases h1
theorem loopO_same {σ ρ : Type} {b b' : σ → Option (σ ⊕ ρ)} (h : ∀ s, b s = b' s) (s : σ) : loopO b s = loopO b' s := loopO_congr (fun _ => True) (fun s _ => h s) (fun _ _ _ _ => trivial) trivial
/-- One round. -/
theorem loopO_step {σ ρ : Type} {b : σ → Option (σ ⊕ ρ)} {s s' : σ} (h : b s = some (.inl s')) : loopO b s = loopO b s' := by rw [loopO_eq, h]; rfl
theorem loopO_done {σ ρ : Type} {b : σ → Option (σ ⊕ ρ)} {s : σ} {r : ρ} (h : b s = some (.inr r)) : loopO b s = some r := by rw [loopO_eq, h]; rfl
/-- A search that goes up: the first place at which there is something to tell. -/
theorem up_find {ρ : Type} {body : Int → Option (Int ⊕ (Unit ⊕ ρ))} {n : Nat} (p : Nat → Option ρ) (h : ∀ i : Nat, i < n → body i = some (match p i with | some r => .inr (.inr r) | none => .inl ((i + 1 : Nat) : Int))) (he : body n = some (.inr (.inl ()))) :
    loopO body 0 = some (match (List.range n).findSome? p with | some r => .inr r | none => .inl ()) := by
  have key : ∀ d i : Nat, i + d = n → loopO body i = some (match (List.range' i d).findSome? p with | some r => .inr r | none => .inl ()) := by
    intro d
    induction d with
    | zero =>
      intro i hi
      have : i = n := by omega
      subst this
      simp [loopO_done he]
    | succ d ih =>
      intro i hi
      have h1 := h i (by omega)
      rw [List.range'_succ, List.findSome?_cons]
      cases hp : p i with
      | some r => rw [hp] at h1; rw [loopO_done h1]
      | none => rw [hp] at h1; rw [loopO_step h1]; exact ih (i + 1) (by omega)
  have := key n 0 (by omega)
  rw [List.range_eq_range']
  exact this
/-- All of a list, by a loop that goes up. -/
theorem up_all {body : Int → Option (Int ⊕ (Unit ⊕ Bool))} {n : Nat} (q : Nat → Bool) (h : ∀ i : Nat, i < n → body i = some (bif q i then .inl ((i + 1 : Nat) : Int) else .inr (.inr false))) (he : body n = some (.inr (.inl ()))) :
    loopO body 0 = some (if (List.range n).all q then .inl () else .inr false) := by
  rw [up_find (fun i => if q i then none else some false) (fun i hi => by rw [h i hi]; cases q i <;> rfl) he]
  congr 1
  by_cases ha : (List.range n).all q = true
  · rw [if_pos ha]
    have : (List.range n).findSome? (fun i => if q i then none else some false) = none := by
      rw [List.findSome?_eq_none_iff]
      intro i hi
      rw [if_pos (List.all_eq_true.1 ha i hi)]
    rw [this]
  · rw [if_neg ha]
    have hx : (List.range n).all q = false := by simpa using ha
    rw [List.all_eq_false] at hx
    obtain ⟨i, hi, hq⟩ := hx
    cases hf : (List.range n).findSome? (fun i => if q i then none else some false) with
    | none =>
      rw [List.findSome?_eq_none_iff] at hf
      have := hf i hi
      rw [if_neg hq] at this; cases this
    | some b =>
      obtain ⟨j, _, hj⟩ := List.exists_of_findSome?_eq_some hf
      split at hj <;> cases hj
      rfl
theorem wrapU8 {x : Int} (h : 0 ≤ x) (h' : x < 256) : IntKind.wrap .u8 x = x := by
  unfold IntKind.wrap
  simp [IntKind.bits, IntKind.signed]
  omega
theorem wrapU64 {x : Int} (h : 0 ≤ x) (h' : x < 18446744073709551616) : IntKind.wrap .u64 x = x := by
  unfold IntKind.wrap
  simp [IntKind.bits, IntKind.signed]
  omega
theorem wrapU64_eq (x : Int) : IntKind.wrap .u64 x = x % 18446744073709551616 := by
  unfold IntKind.wrap
  simp [IntKind.bits, IntKind.signed]
theorem wrapU8_eq (x : Int) : IntKind.wrap .u8 x = x % 256 := by
  unfold IntKind.wrap
  simp [IntKind.bits, IntKind.signed]
theorem and127 : ∀ c : Fin 256, bitAnd .u8 ((c.val : Nat) : Int) 127 = ((c.val % 128 : Nat) : Int) := by decide +kernel
theorem and63 : ∀ c : Fin 256, bitAnd .u8 ((c.val : Nat) : Int) 63 = ((c.val % 64 : Nat) : Int) := by decide +kernel
theorem and192 : ∀ c : Fin 256, (bitAnd .u8 ((c.val : Nat) : Int) 192 != 128) = !(decide (c.val / 64 = 2)) := by decide +kernel
theorem or128 : ∀ c : Fin 256, bitOr .u8 ((c.val : Nat) : Int) 128 = ((c.val % 128 + 128 : Nat) : Int) := by decide +kernel
theorem and31 : ∀ c : Fin 256, bitAnd .i64 ((c.val : Nat) : Int) 31 = ((c.val % 32 : Nat) : Int) := by decide +kernel
theorem and15 : ∀ c : Fin 256, bitAnd .i64 ((c.val : Nat) : Int) 15 = ((c.val % 16 : Nat) : Int) := by decide +kernel
theorem and7 : ∀ c : Fin 256, bitAnd .i64 ((c.val : Nat) : Int) 7 = ((c.val % 8 : Nat) : Int) := by decide +kernel
theorem bx_at {s : ByteArray} {i : Nat} (h : i < s.size) : bx s (i : Int) = some (((s.data.toList.getD i 0).toNat : Nat) : Int) := by
  unfold bx
  rw [if_pos ⟨by omega, by omega⟩]
  unfold byteAt
  rw [Int.toNat_natCast]
  simp [List.getD_eq_getElem?_getD]
theorem size_list (s : ByteArray) : s.data.toList.length = s.size := by rw [Array.length_toList]; rfl
theorem nil_size (s : ByteArray) : (s.toList == (⟨#[]⟩ : ByteArray).toList) = decide (s.size = 0) := size_zero_iff
end Go.GB
