/- Stable sorting: what is a stable sort of a list, and that there is one alone. -/
import Derived.Test.YtnlkfajnaelnnaaGreatDoorL1cy
import Derived.Test.YtnlkfajnaelnnaaGreatDoorM1y
import Derived.Test.YtnlkfajnaelnnaaGreatDoorRows
import Derived.Deep.Slices
import Derived.Below
import Derived.Test.YtnlkfajnaelnnaaGreatDoorGB10y
import Derived.Lib.ValidLaws
import Derived.Lib.Bytealg
set_option linter.unusedVariables false
set_option linter.unusedSimpArgs false
set_option maxRecDepth 100000
namespace Go.Proofs.YtnlkfajnaelnnaaGreatDoor
open Go.GB
/-! 16 tocsinref04_Right  -/
noncomputable def tocsinref04_Right_l18 (a0 : List S49) : Int → Option ((Int) ⊕ ((Unit) ⊕ (Int × Int))) := fun s8 =>
  bif (decide (s8 < (a0.length : Int))) then
  (Option.bind (ix a0 s8) fun (x21 : S49) =>
    Option.bind (tocsinref04_one x21) fun (y30 : Int) =>
    bif (y30 != 0) then
    (some (Sum.inr (Sum.inr (y30, s8))))
    else
    (Option.bind (bif (decide (s8 > 0)) then
        (Option.bind (ix a0 (IntKind.wrap .i64 (s8 - 1))) fun (x39 : S49) =>
          some (!(Op.bytesLess x39.f0.toList x21.f0.toList)))
        else
        (some false)) fun (j33 : Bool) =>
      bif j33 then
      (some (Sum.inr (Sum.inr (3, s8))))
      else
      (some (Sum.inl (IntKind.wrap .i64 (s8 + 1))))))
  else
  (some (Sum.inr (Sum.inl ())))
noncomputable def tocsinref04_Right (a0 : List S49) : Option (Int × Int) :=
  bif (decide ((a0.length : Int) > 16)) then
  (some (8, 0))
  else
  (Option.bind (loopO (tocsinref04_Right_l18 a0) 0) fun (r6 : (Unit) ⊕ (Int × Int)) =>
    match r6 with
    | Sum.inl r14 => some (0, 0)
    | Sum.inr v48 => some v48)
/-! 20 tocsinref04_Metric  -/
/-! 21 tocsinlaw04_Kept ('vis', 'imm') -/
/-! 3 tocsinlaw04_LabelsRights  -/
/-! 29 labels_Make  -/
noncomputable def labels_Make (a0 : List S49) : Option ((List S49) × Int) :=
  Option.bind (labels_sorted a0) fun (y1 : (List S49) × Bool) =>
  bif y1.2 then
  (some ([], 6))
  else
  (Option.bind (labels_right y1.1) fun (y11 : Int) =>
    bif (y11 != 0) then
    (some ([], y11))
    else
    (some (y1.1, 0)))
theorem labels_Make_walk {a0 : List S49} {A0_0 : Option Addr} {n0_0 : Nat} {I : Imm} {r : (List S49) × Int} (hG : Gl I)  (hf0_0 : RepS kS49 I A0_0 n0_0 a0) (hr : labels_Make a0 = some r) (L : Own) :
    CallsTo Tryz.prog 29 #[.slice A0_0 a0.length n0_0] I L (fun v I' L' => ∃ A0 c0 C0, OwnS kS49 50 I' A0 c0 r.1 C0 ∧ v = .tuple #[.slice A0 r.1.length c0, .int .i64 r.2] ∧ C0 ++ L = L') := by
  unfold labels_Make at hr
  refine callsTo_body (N := 19) Tryz.func29 (by kernel_rfl) (by kernel_rfl) (by kernel_rfl) ?_
  refine gk_pick [0] (K' := [(0, .slice A0_0 a0.length n0_0)]) (by kernel_rfl) ?_
  refine gk_seq (by kernel_rfl) ?_
  refine gk_region (by kernel_rfl) ?_
  refine gl_pure 2 [0] (K' := [(0, .slice A0_0 a0.length n0_0)]) (by kernel_rfl) ?_
  refine gl_atE (by kernel_rfl) ?_
  refine ge_seq ?_
  refine gk_seq (by kernel_rfl) ?_
  refine gk_region (by kernel_rfl) ?_
  refine gl_pure 1 [8] (K' := [(8, .slice A0_0 a0.length n0_0)]) (by kernel_rfl) ?_
  obtain ⟨y1, hx2, hr⟩ := bind_some hr
  refine gl_call (by kernel_rfl) (labels_sorted_walk (r := y1) hf0_0 hx2 _) ?_
  rintro v I3 L4 hI5 ⟨A6, c7, C8, hO9, rfl, rfl⟩
  refine gl_pure 5 [4, 5] (K' := [(4, .slice A6 y1.1.length c7), (5, .bool y1.2)]) (by kernel_rfl) ?_
  refine gl_atE (by kernel_rfl) ?_
  refine ge_seq ?_
  refine gk_seq (by kernel_rfl) ?_
  refine gk_seq (by kernel_rfl) ?_
  refine gk_region (by kernel_rfl) ?_
  refine gl_pure 1 [4, 12] (K' := [(4, .slice A6 y1.1.length c7), (12, .bool y1.2)]) (by kernel_rfl) ?_
  refine gl_atE (by kernel_rfl) ?_
  refine ge_seq ?_
  refine gk_cond (b := y1.2) (by kernel_rfl) (by kernel_rfl) (fun hc10 => ?_) (fun hc10 => ?_)
  · have hr := cond_t hc10 hr
    refine gk_seq (by kernel_rfl) ?_
    refine gk_region (by kernel_rfl) ?_
    refine gl_pure 2 [2, 3] (K' := [(2, .slice none 0 0), (3, .int .i64 6)]) (by kernel_rfl) ?_
    refine gl_atE (by kernel_rfl) ?_
    refine ge_seq ?_
    refine gk_reord (D := L) (Reord.skipC (Reord.refl _)) ?_
    refine gk_ret (by kernel_rfl) ?_
    refine ge_seq_ret ?_
    obtain rfl := some_inj hr
    exact ge_result trivial (ResOk.tmp (by kernel_rfl) (ResOk.tmp (by kernel_rfl) ResOk.nil)) hI5 ⟨none, 0, [], OwnS.nil _ _ _ _, rfl, rfl⟩
  · have hr := cond_f hc10 hr
    refine gk_skip (by kernel_rfl) ?_
    refine ge_seq ?_
    refine gk_seq (by kernel_rfl) ?_
    refine gk_seq (by kernel_rfl) ?_
    refine gk_region (by kernel_rfl) ?_
    refine gl_pure 1 [4, 13] (K' := [(4, .slice A6 y1.1.length c7), (13, .slice A6 y1.1.length c7)]) (by kernel_rfl) ?_
    obtain ⟨y11, hx12, hr⟩ := bind_some hr
    refine gl_callB (r := .int .i64 y11) (Tk.step (Upd.rmC _ _) (Tk.nil _)) (by kernel_rfl) (fun J hJ hC => labels_right_walk (r := y11) (hG.mono (Imm.trans hI5 hJ)) (OwnS.rest hO9 hJ hC.left) hx12 _) ?_
    refine gl_pure 1 [4, 6] (K' := [(4, .slice A6 y1.1.length c7), (6, .int .i64 y11)]) (by kernel_rfl) ?_
    refine gl_atE (by kernel_rfl) ?_
    refine ge_seq ?_
    refine gk_seq (by kernel_rfl) ?_
    refine gk_region (by kernel_rfl) ?_
    refine gl_pure 2 [4, 6, 16] (K' := [(4, .slice A6 y1.1.length c7), (6, .int .i64 y11), (16, .bool (y11 != 0))]) (by kernel_rfl) ?_
    refine gl_atE (by kernel_rfl) ?_
    refine ge_seq ?_
    refine gk_cond (b := (y11 != 0)) (by kernel_rfl) (by kernel_rfl) (fun hc13 => ?_) (fun hc13 => ?_)
    · have hr := cond_t hc13 hr
      refine gk_seq (by kernel_rfl) ?_
      refine gk_region (by kernel_rfl) ?_
      refine gl_pure 3 [2, 3] (K' := [(2, .slice none 0 0), (3, .int .i64 y11)]) (by kernel_rfl) ?_
      refine gl_atE (by kernel_rfl) ?_
      refine ge_seq ?_
      refine gk_reord (D := L) (Reord.skipC (Reord.refl _)) ?_
      refine gk_ret (by kernel_rfl) ?_
      refine ge_seq_ret ?_
      obtain rfl := some_inj hr
      exact ge_result trivial (ResOk.tmp (by kernel_rfl) (ResOk.tmp (by kernel_rfl) ResOk.nil)) hI5 ⟨none, 0, [], OwnS.nil _ _ _ _, rfl, rfl⟩
    · have hr := cond_f hc13 hr
      refine gk_skip (by kernel_rfl) ?_
      refine ge_seq ?_
      refine gk_seq (by kernel_rfl) ?_
      refine gk_region (by kernel_rfl) ?_
      refine gl_pure 3 [2, 3] (K' := [(2, .slice A6 y1.1.length c7), (3, .int .i64 0)]) (by kernel_rfl) ?_
      refine gl_atE (by kernel_rfl) ?_
      refine ge_seq ?_
      refine gk_ret (by kernel_rfl) ?_
      obtain rfl := some_inj hr
      exact ge_result trivial (ResOk.tmp (by kernel_rfl) (ResOk.tmp (by kernel_rfl) ResOk.nil)) hI5 ⟨A6, c7, C8, hO9, rfl, rfl⟩
/-! 78 tocsinref04_twice  -/
noncomputable def tocsinref04_twice_l50 (x20 : S49) (l30 : List S49) : Int → Option ((Int) ⊕ ((Unit) ⊕ ((Int) ⊕ ((Unit) ⊕ (Bool))))) := fun s40 =>
  bif (decide (s40 < (l30.length : Int))) then
  (Option.bind (ix l30 s40) fun (x53 : S49) =>
    bif (x20.f0.toList == x53.f0.toList) then
    (some (Sum.inr (Sum.inr (Sum.inr (Sum.inr true)))))
    else
    (some (Sum.inl (IntKind.wrap .i64 (s40 + 1)))))
  else
  (some (Sum.inr (Sum.inl ())))
noncomputable def tocsinref04_twice_l17 (a0 : List S49) : Int → Option ((Int) ⊕ ((Unit) ⊕ (Bool))) := fun s7 =>
  bif (decide (s7 < (a0.length : Int))) then
  (Option.bind (ix a0 s7) fun (x20 : S49) =>
    Option.bind (lx a0 0 s7) fun (l30 : List S49) =>
    Option.bind (loopO (tocsinref04_twice_l50 x20 l30) 0) fun (r38 : (Unit) ⊕ ((Int) ⊕ ((Unit) ⊕ (Bool)))) =>
    match r38 with
    | Sum.inl r46 => some (Sum.inl (IntKind.wrap .i64 (s7 + 1)))
    | Sum.inr v63 => some v63)
  else
  (some (Sum.inr (Sum.inl ())))
noncomputable def tocsinref04_twice (a0 : List S49) : Option Bool :=
  Option.bind (loopO (tocsinref04_twice_l17 a0) 0) fun (r5 : (Unit) ⊕ (Bool)) =>
  match r5 with
  | Sum.inl r13 => some false
  | Sum.inr v64 => some v64
/-! 80 tocsinref04_full  -/
noncomputable def tocsinref04_full_l28 (a0 : List S49) : ((List S49) × Int) → Option (((List S49) × Int) ⊕ ((List S49))) := fun s11 =>
  bif (decide (s11.2 < (a0.length : Int))) then
  (Option.bind (ix a0 s11.2) fun (x31 : S49) =>
    Option.bind (bif (!(x31.f1.toList == (⟨#[]⟩ : ByteArray).toList)) then
      (Option.bind (app s11.1 [x31]) fun (zs54 : List S49) =>
        some zs54)
      else
      (some s11.1)) fun (j40 : (List S49)) =>
    some (Sum.inl (j40, (IntKind.wrap .i64 (s11.2 + 1)))))
  else
  (some (Sum.inr s11.1))
noncomputable def tocsinref04_full (a0 : List S49) : Option (List S49) :=
  Option.bind (loopO (tocsinref04_full_l28 a0) ([], 0)) fun (r9 : (List S49)) =>
  some r9
/-! 79 tocsinref04_sorted  -/
noncomputable def tocsinref04_sorted_l74 (x31 : S49) : ((List S49) × Int) → Option (((List S49) × Int) ⊕ ((List S49) × Int)) := fun s59 =>
  Option.bind (bif (decide (s59.2 > 0)) then
    (Option.bind (ix s59.1 (IntKind.wrap .i64 (s59.2 - 1))) fun (x82 : S49) =>
      some (!((Op.bytesLess x82.f0.toList x31.f0.toList) || (x82.f0.toList == x31.f0.toList))))
    else
    (some false)) fun (j76 : Bool) =>
  bif j76 then
  (Option.bind (ix s59.1 (IntKind.wrap .i64 (s59.2 - 1))) fun (x92 : S49) =>
    Option.bind (ix s59.1 s59.2) fun (x101 : S49) =>
    some (Sum.inl ((lset s59.1 s59.2 x92), (IntKind.wrap .i64 (s59.2 - 1)))))
  else
  (some (Sum.inr (s59.1, s59.2)))
noncomputable def tocsinref04_sorted_l28 (a0 : List S49) : ((List S49) × Int) → Option (((List S49) × Int) ⊕ ((List S49))) := fun s11 =>
  bif (decide (s11.2 < (a0.length : Int))) then
  (Option.bind (ix a0 s11.2) fun (x31 : S49) =>
    Option.bind (app s11.1 [x31]) fun (zs44 : List S49) =>
    Option.bind (loopO (tocsinref04_sorted_l74 x31) (zs44, (s11.1.length : Int))) fun (r57 : (List S49) × Int) =>
    Option.bind (ix r57.1 r57.2) fun (x113 : S49) =>
    some (Sum.inl ((lset r57.1 r57.2 x31), (IntKind.wrap .i64 (s11.2 + 1)))))
  else
  (some (Sum.inr s11.1))
noncomputable def tocsinref04_sorted (a0 : List S49) : Option (List S49) :=
  Option.bind (loopO (tocsinref04_sorted_l28 a0) ([], 0)) fun (r9 : (List S49)) =>
  some r9
/-! 30 tocsinref04_Make  -/
noncomputable def tocsinref04_Make (a0 : List S49) : Option ((List S49) × Int) :=
  Option.bind (tocsinref04_twice a0) fun (y1 : Bool) =>
  bif y1 then
  (some ([], 6))
  else
  (Option.bind (tocsinref04_full a0) fun (y4 : (List S49)) =>
    Option.bind (tocsinref04_sorted y4) fun (y17 : (List S49)) =>
    Option.bind (tocsinref04_Right y17) fun (y26 : Int × Int) =>
    bif (y26.1 != 0) then
    (some ([], y26.1))
    else
    (some (y17, 0)))
/-! 32 tocsinref04_Get  -/
/-! 28 tocsinlaw04_Spoil_f28 ('own',) -/
/-! 21 tocsinlaw04_Kept_f21  -/
/-! 5 tocsinlaw04_LabelsMakes  -/
/-! 37 labels_With  -/
noncomputable def labels_With (a0 : List S49) (a1 : ByteArray) (a2 : ByteArray) : Option ((List S49) × Int) :=
  Option.bind (labels_right a0) fun (y1 : Int) =>
  bif (y1 != 0) then
  (some ([], y1))
  else
  (Option.bind (labels_Name a1) fun (y4 : Bool) =>
    bif (!y4) then
    (some ([], 40))
    else
    (Option.bind (labels_pick a0 false [a1]) fun (y15 : (List S49)) =>
      bif (a2.toList == (⟨#[]⟩ : ByteArray).toList) then
      (some (y15, 0))
      else
      (Option.bind (labels_value a2) fun (y25 : Int) =>
        bif (y25 != 0) then
        (some ([], y25))
        else
        (Option.bind (app y15 [(⟨a1, a2⟩ : S49)]) fun (zs32 : List S49) =>
          Option.bind (labels_sorted zs32) fun (y42 : (List S49) × Bool) =>
          bif (decide ((y42.1.length : Int) > 16)) then
          (some ([], 8))
          else
          (some (y42.1, 0))))))
theorem labels_With_walk {a0 : List S49} {A0_0 : Option Addr} {n0_0 : Nat} {a1 : ByteArray} {a2 : ByteArray} {I : Imm} {r : (List S49) × Int} (hG : Gl I)  (hf0_0 : RepS kS49 I A0_0 n0_0 a0) (hr : labels_With a0 a1 a2 = some r) (L : Own) :
    CallsTo Tryz.prog 37 #[.slice A0_0 a0.length n0_0, .string a1, .string a2] I L (fun v I' L' => ∃ A0 c0 C0, OwnS kS49 50 I' A0 c0 r.1 C0 ∧ v = .tuple #[.slice A0 r.1.length c0, .int .i64 r.2] ∧ C0 ++ L = L') := by
  unfold labels_With at hr
  refine callsTo_body (N := 45) Tryz.func37 (by kernel_rfl) (by kernel_rfl) (by kernel_rfl) ?_
  refine gk_pick [0, 1, 2] (K' := [(0, .slice A0_0 a0.length n0_0), (1, .string a1), (2, .string a2)]) (by kernel_rfl) ?_
  refine gk_seq (by kernel_rfl) ?_
  refine gk_region (by kernel_rfl) ?_
  refine gl_pure 2 [0, 1, 2] (K' := [(0, .slice A0_0 a0.length n0_0), (1, .string a1), (2, .string a2)]) (by kernel_rfl) ?_
  refine gl_atE (by kernel_rfl) ?_
  refine ge_seq ?_
  refine gk_seq (by kernel_rfl) ?_
  refine gk_seq (by kernel_rfl) ?_
  refine gk_region (by kernel_rfl) ?_
  refine gl_pure 1 [0, 1, 2, 11] (K' := [(0, .slice A0_0 a0.length n0_0), (1, .string a1), (2, .string a2), (11, .slice A0_0 a0.length n0_0)]) (by kernel_rfl) ?_
  obtain ⟨y1, hx2, hr⟩ := bind_some hr
  refine gl_callQ (by kernel_rfl) (labels_right_walk (r := y1) hG hf0_0 hx2 _) ?_
  refine gl_pure 1 [0, 1, 2, 8] (K' := [(0, .slice A0_0 a0.length n0_0), (1, .string a1), (2, .string a2), (8, .int .i64 y1)]) (by kernel_rfl) ?_
  refine gl_atE (by kernel_rfl) ?_
  refine ge_seq ?_
  refine gk_seq (by kernel_rfl) ?_
  refine gk_region (by kernel_rfl) ?_
  refine gl_pure 2 [0, 1, 2, 8, 14] (K' := [(0, .slice A0_0 a0.length n0_0), (1, .string a1), (2, .string a2), (8, .int .i64 y1), (14, .bool (y1 != 0))]) (by kernel_rfl) ?_
  refine gl_atE (by kernel_rfl) ?_
  refine ge_seq ?_
  refine gk_cond (b := (y1 != 0)) (by kernel_rfl) (by kernel_rfl) (fun hc3 => ?_) (fun hc3 => ?_)
  · have hr := cond_t hc3 hr
    refine gk_seq (by kernel_rfl) ?_
    refine gk_region (by kernel_rfl) ?_
    refine gl_pure 3 [6, 7] (K' := [(6, .slice none 0 0), (7, .int .i64 y1)]) (by kernel_rfl) ?_
    refine gl_atE (by kernel_rfl) ?_
    refine ge_seq ?_
    refine gk_ret (by kernel_rfl) ?_
    refine ge_seq_ret ?_
    obtain rfl := some_inj hr
    exact ge_result trivial (ResOk.tmp (by kernel_rfl) (ResOk.tmp (by kernel_rfl) ResOk.nil)) (Imm.refl _) ⟨none, 0, [], OwnS.nil _ _ _ _, rfl, rfl⟩
  · have hr := cond_f hc3 hr
    refine gk_skip (by kernel_rfl) ?_
    refine ge_seq ?_
    refine gk_seq (by kernel_rfl) ?_
    refine gk_seq (by kernel_rfl) ?_
    refine gk_region (by kernel_rfl) ?_
    refine gl_pure 1 [0, 1, 2, 16] (K' := [(0, .slice A0_0 a0.length n0_0), (1, .string a1), (2, .string a2), (16, .string a1)]) (by kernel_rfl) ?_
    obtain ⟨y4, hx5, hr⟩ := bind_some hr
    refine gl_callQ (by kernel_rfl) (labels_Name_walk (r := y4)  hx5 _) ?_
    refine gl_pure 1 [0, 1, 2, 18] (K' := [(0, .slice A0_0 a0.length n0_0), (1, .string a1), (2, .string a2), (18, .bool (!y4))]) (by kernel_rfl) ?_
    refine gl_atE (by kernel_rfl) ?_
    refine ge_seq ?_
    refine gk_cond (b := (!y4)) (by kernel_rfl) (by kernel_rfl) (fun hc6 => ?_) (fun hc6 => ?_)
    · have hr := cond_t hc6 hr
      refine gk_seq (by kernel_rfl) ?_
      refine gk_region (by kernel_rfl) ?_
      refine gl_pure 2 [6, 7] (K' := [(6, .slice none 0 0), (7, .int .i64 40)]) (by kernel_rfl) ?_
      refine gl_atE (by kernel_rfl) ?_
      refine ge_seq ?_
      refine gk_ret (by kernel_rfl) ?_
      refine ge_seq_ret ?_
      obtain rfl := some_inj hr
      exact ge_result trivial (ResOk.tmp (by kernel_rfl) (ResOk.tmp (by kernel_rfl) ResOk.nil)) (Imm.refl _) ⟨none, 0, [], OwnS.nil _ _ _ _, rfl, rfl⟩
    · have hr := cond_f hc6 hr
      refine gk_skip (by kernel_rfl) ?_
      refine ge_seq ?_
      refine gk_seq (by kernel_rfl) ?_
      refine gk_region (by kernel_rfl) ?_
      refine gl_pure 2 [1, 2, 19, 20] (K' := [(1, .string a1), (2, .string a2), (19, .slice A0_0 a0.length n0_0), (20, .string a1)]) (by kernel_rfl) ?_
      refine gl_buildSlice (T' := 44) (e := 9) (n := 1) (len := 1) (parts := #[(0, (.tmp 20))]) (l := [(0, .string a1)]) (cs := #[.string a1]) (by kernel_rfl) (by kernel_rfl) (by kernel_rfl) (by kernel_rfl) (by kernel_rfl) (fun g7 => ?_)
      have hO8 : OwnS Kd.str 9 I (some ⟨g7, 0, none⟩) 1 [a1] [(g7, .cells #[.string a1] 9)] := OwnS.lit (row_cons (l := [.string a1]) rfl (row_nil _ _)) rfl rfl rfl
      refine gl_reord (D := [(g7, .cells #[.string a1] 9)] ++ L) (Reord.refl _) ?_
      refine gl_rest (Tk.step (Upd.rmC _ _) (Tk.nil _)) (fun J11 hJ12 hC13 => ?_)
      have hf14 := (OwnS.rest hO8 hJ12 hC13.left)
      obtain ⟨y15, hx16, hr⟩ := bind_some hr
      refine gl_call (by kernel_rfl) (labels_pick_walk (r := y15) (hf0_0.mono hJ12) hf14 hx16 _) ?_
      rintro v I17 L18 hI19 ⟨A20, c21, C22, hO23, rfl, rfl⟩
      refine gl_pure 1 [1, 2, 9] (K' := [(1, .string a1), (2, .string a2), (9, .slice A20 y15.length c21)]) (by kernel_rfl) ?_
      refine gl_atE (by kernel_rfl) ?_
      refine ge_seq ?_
      refine gk_seq (by kernel_rfl) ?_
      refine gk_seq (by kernel_rfl) ?_
      refine gk_region (by kernel_rfl) ?_
      refine gl_pure 2 [1, 2, 9, 24] (K' := [(1, .string a1), (2, .string a2), (9, .slice A20 y15.length c21), (24, .bool (a2.toList == (⟨#[]⟩ : ByteArray).toList))]) (by kernel_rfl) ?_
      refine gl_atE (by kernel_rfl) ?_
      refine ge_seq ?_
      refine gk_cond (b := (a2.toList == (⟨#[]⟩ : ByteArray).toList)) (by kernel_rfl) (by kernel_rfl) (fun hc24 => ?_) (fun hc24 => ?_)
      · have hr := cond_t hc24 hr
        refine gk_seq (by kernel_rfl) ?_
        refine gk_region (by kernel_rfl) ?_
        refine gl_pure 3 [6, 7] (K' := [(6, .slice A20 y15.length c21), (7, .int .i64 0)]) (by kernel_rfl) ?_
        refine gl_atE (by kernel_rfl) ?_
        refine ge_seq ?_
        refine gk_ret (by kernel_rfl) ?_
        refine ge_seq_ret ?_
        obtain rfl := some_inj hr
        exact ge_result trivial (ResOk.tmp (by kernel_rfl) (ResOk.tmp (by kernel_rfl) ResOk.nil)) (Imm.trans hJ12 hI19) ⟨A20, c21, C22, hO23, rfl, rfl⟩
      · have hr := cond_f hc24 hr
        refine gk_skip (by kernel_rfl) ?_
        refine ge_seq ?_
        refine gk_seq (by kernel_rfl) ?_
        refine gk_seq (by kernel_rfl) ?_
        refine gk_region (by kernel_rfl) ?_
        refine gl_pure 1 [1, 2, 9, 26] (K' := [(1, .string a1), (2, .string a2), (9, .slice A20 y15.length c21), (26, .string a2)]) (by kernel_rfl) ?_
        obtain ⟨y25, hx26, hr⟩ := bind_some hr
        refine gl_callQ (by kernel_rfl) (labels_value_walk (r := y25) (hG.mono (Imm.trans hJ12 hI19)) hx26 _) ?_
        refine gl_pure 1 [1, 2, 9, 10] (K' := [(1, .string a1), (2, .string a2), (9, .slice A20 y15.length c21), (10, .int .i64 y25)]) (by kernel_rfl) ?_
        refine gl_atE (by kernel_rfl) ?_
        refine ge_seq ?_
        refine gk_seq (by kernel_rfl) ?_
        refine gk_region (by kernel_rfl) ?_
        refine gl_pure 2 [1, 2, 9, 10, 29] (K' := [(1, .string a1), (2, .string a2), (9, .slice A20 y15.length c21), (10, .int .i64 y25), (29, .bool (y25 != 0))]) (by kernel_rfl) ?_
        refine gl_atE (by kernel_rfl) ?_
        refine ge_seq ?_
        refine gk_cond (b := (y25 != 0)) (by kernel_rfl) (by kernel_rfl) (fun hc27 => ?_) (fun hc27 => ?_)
        · have hr := cond_t hc27 hr
          refine gk_seq (by kernel_rfl) ?_
          refine gk_region (by kernel_rfl) ?_
          refine gl_pure 3 [6, 7] (K' := [(6, .slice none 0 0), (7, .int .i64 y25)]) (by kernel_rfl) ?_
          refine gl_atE (by kernel_rfl) ?_
          refine ge_seq ?_
          refine gk_reord (D := L) (Reord.skipC (Reord.refl _)) ?_
          refine gk_ret (by kernel_rfl) ?_
          refine ge_seq_ret ?_
          obtain rfl := some_inj hr
          exact ge_result trivial (ResOk.tmp (by kernel_rfl) (ResOk.tmp (by kernel_rfl) ResOk.nil)) (Imm.trans hJ12 hI19) ⟨none, 0, [], OwnS.nil _ _ _ _, rfl, rfl⟩
        · have hr := cond_f hc27 hr
          refine gk_skip (by kernel_rfl) ?_
          refine ge_seq ?_
          refine gk_seq (by kernel_rfl) ?_
          refine gk_region (by kernel_rfl) ?_
          refine gl_pure 4 [32, 35] (K' := [(32, .slice A20 y15.length c21), (35, .agg #[.string a1, .string a2])]) (by kernel_rfl) ?_
          refine gl_buildSlice (T' := 22) (e := 50) (n := 2) (len := 1) (parts := #[(0, (.tmp 35))]) (l := [(0, .agg #[.string a1, .string a2])]) (cs := #[.string a1, .string a2]) (by kernel_rfl) (by kernel_rfl) (by kernel_rfl) (by kernel_rfl) (by kernel_rfl) (fun g28 => ?_)
          have hO29 : OwnS kS49 50 I17 (some ⟨g28, 0, none⟩) 1 [(⟨a1, a2⟩ : S49)] [(g28, .cells #[.string a1, .string a2] 50)] := OwnS.lit (row_cons (l := [.string a1, .string a2]) (kS49_mk (x := (⟨a1, a2⟩ : S49)) ) (row_nil _ _)) rfl rfl rfl
          refine gl_reord (D := [(g28, .cells #[.string a1, .string a2] 50)] ++ (C22 ++ L)) (Reord.refl _) ?_
          obtain ⟨zs32, hz33, hr⟩ := bind_some hr
          refine gl_append (xv := .slice (some ⟨g28, 0, none⟩) [(⟨a1, a2⟩ : S49)].length 1) (d := kS49) (t := 22) (tx := 22) (e := 50) (s := (.tmp 32)) (x := (.tmp 36)) (xs := y15) (fun X => [(g28, .cells #[.string a1, .string a2] 50)] ++ (X ++ L)) hz33 (by kernel_rfl) (by kernel_rfl) (by kernel_rfl) (by kernel_rfl) (by kernel_rfl) (by kernel_rfl) (fun X => (Upd.app _ (Upd.head _ X _))) hO23 (SrcOk.slice (c := 1) (e := 50) (n := 2) (OwnS.rd hO29 (Upd.selfC _ _)) (by kernel_rfl)) (fun A34 n35 C36 hO37 => ?_)
          refine gl_rest (Tk.step (Upd.app _ (Upd.rmC _ _)) (Tk.nil _)) (fun J38 hJ39 hC40 => ?_)
          have hf41 := (OwnS.rest hO37 hJ39 hC40.left)
          obtain ⟨y42, hx43, hr⟩ := bind_some hr
          refine gl_call (by kernel_rfl) (labels_sorted_walk (r := y42) hf41 hx43 _) ?_
          rintro v I44 L45 hI46 ⟨A47, c48, C49, hO50, rfl, rfl⟩
          refine gl_pure 4 [9] (K' := [(9, .slice A47 y42.1.length c48)]) (by kernel_rfl) ?_
          refine gl_atE (by kernel_rfl) ?_
          refine ge_seq ?_
          refine gk_seq (by kernel_rfl) ?_
          refine gk_seq (by kernel_rfl) ?_
          refine gk_region (by kernel_rfl) ?_
          refine gl_pure 3 [9, 43] (K' := [(9, .slice A47 y42.1.length c48), (43, .bool (decide ((y42.1.length : Int) > 16)))]) (by kernel_rfl) ?_
          refine gl_atE (by kernel_rfl) ?_
          refine ge_seq ?_
          refine gk_cond (b := (decide ((y42.1.length : Int) > 16))) (by kernel_rfl) (by kernel_rfl) (fun hc51 => ?_) (fun hc51 => ?_)
          · have hr := cond_t hc51 hr
            refine gk_seq (by kernel_rfl) ?_
            refine gk_region (by kernel_rfl) ?_
            refine gl_pure 2 [6, 7] (K' := [(6, .slice none 0 0), (7, .int .i64 8)]) (by kernel_rfl) ?_
            refine gl_atE (by kernel_rfl) ?_
            refine ge_seq ?_
            refine gk_reord (D := L) (Reord.skipC (Reord.skipC (Reord.refl _))) ?_
            refine gk_ret (by kernel_rfl) ?_
            refine ge_seq_ret ?_
            obtain rfl := some_inj hr
            exact ge_result trivial (ResOk.tmp (by kernel_rfl) (ResOk.tmp (by kernel_rfl) ResOk.nil)) (Imm.trans (Imm.trans (Imm.trans hJ12 hI19) hJ39) hI46) ⟨none, 0, [], OwnS.nil _ _ _ _, rfl, rfl⟩
          · have hr := cond_f hc51 hr
            refine gk_skip (by kernel_rfl) ?_
            refine ge_seq ?_
            refine gk_seq (by kernel_rfl) ?_
            refine gk_region (by kernel_rfl) ?_
            refine gl_pure 3 [6, 7] (K' := [(6, .slice A47 y42.1.length c48), (7, .int .i64 0)]) (by kernel_rfl) ?_
            refine gl_atE (by kernel_rfl) ?_
            refine ge_seq ?_
            refine gk_reord (D := C49 ++ L) (Reord.step (Upd.rmC _ _) (Reord.skipC (Reord.refl _))) ?_
            refine gk_ret (by kernel_rfl) ?_
            obtain rfl := some_inj hr
            exact ge_result trivial (ResOk.tmp (by kernel_rfl) (ResOk.tmp (by kernel_rfl) ResOk.nil)) (Imm.trans (Imm.trans (Imm.trans hJ12 hI19) hJ39) hI46) ⟨A47, c48, C49, hO50, rfl, rfl⟩
/-! 112 tocsinref04_has  -/
noncomputable def tocsinref04_has_l17 (a0 : List ByteArray) (a1 : ByteArray) : Int → Option ((Int) ⊕ ((Unit) ⊕ (Bool))) := fun s7 =>
  bif (decide (s7 < (a0.length : Int))) then
  (Option.bind (ix a0 s7) fun (x20 : ByteArray) =>
    bif (x20.toList == a1.toList) then
    (some (Sum.inr (Sum.inr true)))
    else
    (some (Sum.inl (IntKind.wrap .i64 (s7 + 1)))))
  else
  (some (Sum.inr (Sum.inl ())))
noncomputable def tocsinref04_has (a0 : List ByteArray) (a1 : ByteArray) : Option Bool :=
  Option.bind (loopO (tocsinref04_has_l17 a0 a1) 0) fun (r5 : (Unit) ⊕ (Bool)) =>
  match r5 with
  | Sum.inl r13 => some false
  | Sum.inr v29 => some v29
/-! 65 tocsinref04_Pick  -/
noncomputable def tocsinref04_Pick_l28 (a0 : List S49) (a1 : List ByteArray) (a2 : Bool) : ((List S49) × Int) → Option (((List S49) × Int) ⊕ ((List S49))) := fun s11 =>
  bif (decide (s11.2 < (a0.length : Int))) then
  (Option.bind (ix a0 s11.2) fun (x31 : S49) =>
    Option.bind (tocsinref04_has a1 x31.f0) fun (y40 : Bool) =>
    Option.bind (bif (y40 == a2) then
      (Option.bind (app s11.1 [x31]) fun (zs56 : List S49) =>
        some zs56)
      else
      (some s11.1)) fun (j42 : (List S49)) =>
    some (Sum.inl (j42, (IntKind.wrap .i64 (s11.2 + 1)))))
  else
  (some (Sum.inr s11.1))
noncomputable def tocsinref04_Pick (a0 : List S49) (a1 : List ByteArray) (a2 : Bool) : Option (List S49) :=
  Option.bind (loopO (tocsinref04_Pick_l28 a0 a1 a2) ([], 0)) fun (r9 : (List S49)) =>
  some r9
/-! 38 tocsinref04_With  -/
noncomputable def tocsinref04_With (a0 : List S49) (a1 : ByteArray) (a2 : ByteArray) : Option ((List S49) × Int) :=
  Option.bind (tocsinref04_Right a0) fun (y1 : Int × Int) =>
  bif (y1.1 != 0) then
  (some ([], y1.1))
  else
  (Option.bind (tocsinref04_Name a1) fun (y4 : Bool) =>
    bif (!y4) then
    (some ([], 40))
    else
    (Option.bind (tocsinref04_Pick a0 [a1] false) fun (y15 : (List S49)) =>
      bif (a2.toList == (⟨#[]⟩ : ByteArray).toList) then
      (some (y15, 0))
      else
      (Option.bind (tocsinref04_one (⟨a1, a2⟩ : S49)) fun (y26 : Int) =>
        bif (y26 != 0) then
        (some ([], y26))
        else
        (Option.bind (app y15 [(⟨a1, a2⟩ : S49)]) fun (zs33 : List S49) =>
          Option.bind (tocsinref04_sorted zs33) fun (y43 : (List S49)) =>
          bif (decide ((y43.length : Int) > 16)) then
          (some ([], 8))
          else
          (some (y43, 0))))))
/-! 39 labels_Without  -/
noncomputable def labels_Without (a0 : List S49) (a1 : List ByteArray) : Option ((List S49) × Int) :=
  Option.bind (labels_right a0) fun (y1 : Int) =>
  bif (y1 != 0) then
  (some ([], y1))
  else
  (Option.bind (labels_pick a0 false a1) fun (y4 : (List S49)) =>
    some (y4, 0))
theorem labels_Without_walk {a0 : List S49} {A0_0 : Option Addr} {n0_0 : Nat} {a1 : List ByteArray} {A1_0 : Option Addr} {n1_0 : Nat} {I : Imm} {r : (List S49) × Int} (hG : Gl I)  (hf0_0 : RepS kS49 I A0_0 n0_0 a0)  (hf1_0 : RepS Kd.str I A1_0 n1_0 a1) (hr : labels_Without a0 a1 = some r) (L : Own) :
    CallsTo Tryz.prog 39 #[.slice A0_0 a0.length n0_0, .slice A1_0 a1.length n1_0] I L (fun v I' L' => ∃ A0 c0 C0, OwnS kS49 50 I' A0 c0 r.1 C0 ∧ v = .tuple #[.slice A0 r.1.length c0, .int .i64 r.2] ∧ C0 ++ L = L') := by
  unfold labels_Without at hr
  refine callsTo_body (N := 15) Tryz.func39 (by kernel_rfl) (by kernel_rfl) (by kernel_rfl) ?_
  refine gk_pick [0, 1] (K' := [(0, .slice A0_0 a0.length n0_0), (1, .slice A1_0 a1.length n1_0)]) (by kernel_rfl) ?_
  refine gk_seq (by kernel_rfl) ?_
  refine gk_region (by kernel_rfl) ?_
  refine gl_pure 2 [0, 1] (K' := [(0, .slice A0_0 a0.length n0_0), (1, .slice A1_0 a1.length n1_0)]) (by kernel_rfl) ?_
  refine gl_atE (by kernel_rfl) ?_
  refine ge_seq ?_
  refine gk_seq (by kernel_rfl) ?_
  refine gk_seq (by kernel_rfl) ?_
  refine gk_region (by kernel_rfl) ?_
  refine gl_pure 1 [0, 1, 7] (K' := [(0, .slice A0_0 a0.length n0_0), (1, .slice A1_0 a1.length n1_0), (7, .slice A0_0 a0.length n0_0)]) (by kernel_rfl) ?_
  obtain ⟨y1, hx2, hr⟩ := bind_some hr
  refine gl_callQ (by kernel_rfl) (labels_right_walk (r := y1) hG hf0_0 hx2 _) ?_
  refine gl_pure 1 [0, 1, 6] (K' := [(0, .slice A0_0 a0.length n0_0), (1, .slice A1_0 a1.length n1_0), (6, .int .i64 y1)]) (by kernel_rfl) ?_
  refine gl_atE (by kernel_rfl) ?_
  refine ge_seq ?_
  refine gk_seq (by kernel_rfl) ?_
  refine gk_region (by kernel_rfl) ?_
  refine gl_pure 2 [0, 1, 6, 10] (K' := [(0, .slice A0_0 a0.length n0_0), (1, .slice A1_0 a1.length n1_0), (6, .int .i64 y1), (10, .bool (y1 != 0))]) (by kernel_rfl) ?_
  refine gl_atE (by kernel_rfl) ?_
  refine ge_seq ?_
  refine gk_cond (b := (y1 != 0)) (by kernel_rfl) (by kernel_rfl) (fun hc3 => ?_) (fun hc3 => ?_)
  · have hr := cond_t hc3 hr
    refine gk_seq (by kernel_rfl) ?_
    refine gk_region (by kernel_rfl) ?_
    refine gl_pure 3 [4, 5] (K' := [(4, .slice none 0 0), (5, .int .i64 y1)]) (by kernel_rfl) ?_
    refine gl_atE (by kernel_rfl) ?_
    refine ge_seq ?_
    refine gk_ret (by kernel_rfl) ?_
    refine ge_seq_ret ?_
    obtain rfl := some_inj hr
    exact ge_result trivial (ResOk.tmp (by kernel_rfl) (ResOk.tmp (by kernel_rfl) ResOk.nil)) (Imm.refl _) ⟨none, 0, [], OwnS.nil _ _ _ _, rfl, rfl⟩
  · have hr := cond_f hc3 hr
    refine gk_skip (by kernel_rfl) ?_
    refine ge_seq ?_
    refine gk_seq (by kernel_rfl) ?_
    refine gk_region (by kernel_rfl) ?_
    refine gl_pure 2 [12, 13] (K' := [(12, .slice A0_0 a0.length n0_0), (13, .slice A1_0 a1.length n1_0)]) (by kernel_rfl) ?_
    obtain ⟨y4, hx5, hr⟩ := bind_some hr
    refine gl_call (by kernel_rfl) (labels_pick_walk (r := y4) hf0_0 hf1_0 hx5 _) ?_
    rintro v I6 L7 hI8 ⟨A9, c10, C11, hO12, rfl, rfl⟩
    refine gl_pure 2 [4, 5] (K' := [(4, .slice A9 y4.length c10), (5, .int .i64 0)]) (by kernel_rfl) ?_
    refine gl_atE (by kernel_rfl) ?_
    refine ge_seq ?_
    refine gk_ret (by kernel_rfl) ?_
    obtain rfl := some_inj hr
    exact ge_result trivial (ResOk.tmp (by kernel_rfl) (ResOk.tmp (by kernel_rfl) ResOk.nil)) hI8 ⟨A9, c10, C11, hO12, rfl, rfl⟩
/-! 40 tocsinref04_Keep  -/
noncomputable def tocsinref04_Keep (a0 : List S49) (a1 : List ByteArray) (a2 : Bool) : Option ((List S49) × Int) :=
  Option.bind (tocsinref04_Right a0) fun (y1 : Int × Int) =>
  bif (y1.1 != 0) then
  (some ([], y1.1))
  else
  (Option.bind (tocsinref04_Pick a0 a1 a2) fun (y4 : (List S49)) =>
    some (y4, 0))
/-! 41 labels_Keep  -/
noncomputable def labels_Keep (a0 : List S49) (a1 : List ByteArray) : Option ((List S49) × Int) :=
  Option.bind (labels_right a0) fun (y1 : Int) =>
  bif (y1 != 0) then
  (some ([], y1))
  else
  (Option.bind (labels_pick a0 true a1) fun (y4 : (List S49)) =>
    some (y4, 0))
theorem labels_Keep_walk {a0 : List S49} {A0_0 : Option Addr} {n0_0 : Nat} {a1 : List ByteArray} {A1_0 : Option Addr} {n1_0 : Nat} {I : Imm} {r : (List S49) × Int} (hG : Gl I)  (hf0_0 : RepS kS49 I A0_0 n0_0 a0)  (hf1_0 : RepS Kd.str I A1_0 n1_0 a1) (hr : labels_Keep a0 a1 = some r) (L : Own) :
    CallsTo Tryz.prog 41 #[.slice A0_0 a0.length n0_0, .slice A1_0 a1.length n1_0] I L (fun v I' L' => ∃ A0 c0 C0, OwnS kS49 50 I' A0 c0 r.1 C0 ∧ v = .tuple #[.slice A0 r.1.length c0, .int .i64 r.2] ∧ C0 ++ L = L') := by
  unfold labels_Keep at hr
  refine callsTo_body (N := 15) Tryz.func41 (by kernel_rfl) (by kernel_rfl) (by kernel_rfl) ?_
  refine gk_pick [0, 1] (K' := [(0, .slice A0_0 a0.length n0_0), (1, .slice A1_0 a1.length n1_0)]) (by kernel_rfl) ?_
  refine gk_seq (by kernel_rfl) ?_
  refine gk_region (by kernel_rfl) ?_
  refine gl_pure 2 [0, 1] (K' := [(0, .slice A0_0 a0.length n0_0), (1, .slice A1_0 a1.length n1_0)]) (by kernel_rfl) ?_
  refine gl_atE (by kernel_rfl) ?_
  refine ge_seq ?_
  refine gk_seq (by kernel_rfl) ?_
  refine gk_seq (by kernel_rfl) ?_
  refine gk_region (by kernel_rfl) ?_
  refine gl_pure 1 [0, 1, 7] (K' := [(0, .slice A0_0 a0.length n0_0), (1, .slice A1_0 a1.length n1_0), (7, .slice A0_0 a0.length n0_0)]) (by kernel_rfl) ?_
  obtain ⟨y1, hx2, hr⟩ := bind_some hr
  refine gl_callQ (by kernel_rfl) (labels_right_walk (r := y1) hG hf0_0 hx2 _) ?_
  refine gl_pure 1 [0, 1, 6] (K' := [(0, .slice A0_0 a0.length n0_0), (1, .slice A1_0 a1.length n1_0), (6, .int .i64 y1)]) (by kernel_rfl) ?_
  refine gl_atE (by kernel_rfl) ?_
  refine ge_seq ?_
  refine gk_seq (by kernel_rfl) ?_
  refine gk_region (by kernel_rfl) ?_
  refine gl_pure 2 [0, 1, 6, 10] (K' := [(0, .slice A0_0 a0.length n0_0), (1, .slice A1_0 a1.length n1_0), (6, .int .i64 y1), (10, .bool (y1 != 0))]) (by kernel_rfl) ?_
  refine gl_atE (by kernel_rfl) ?_
  refine ge_seq ?_
  refine gk_cond (b := (y1 != 0)) (by kernel_rfl) (by kernel_rfl) (fun hc3 => ?_) (fun hc3 => ?_)
  · have hr := cond_t hc3 hr
    refine gk_seq (by kernel_rfl) ?_
    refine gk_region (by kernel_rfl) ?_
    refine gl_pure 3 [4, 5] (K' := [(4, .slice none 0 0), (5, .int .i64 y1)]) (by kernel_rfl) ?_
    refine gl_atE (by kernel_rfl) ?_
    refine ge_seq ?_
    refine gk_ret (by kernel_rfl) ?_
    refine ge_seq_ret ?_
    obtain rfl := some_inj hr
    exact ge_result trivial (ResOk.tmp (by kernel_rfl) (ResOk.tmp (by kernel_rfl) ResOk.nil)) (Imm.refl _) ⟨none, 0, [], OwnS.nil _ _ _ _, rfl, rfl⟩
  · have hr := cond_f hc3 hr
    refine gk_skip (by kernel_rfl) ?_
    refine ge_seq ?_
    refine gk_seq (by kernel_rfl) ?_
    refine gk_region (by kernel_rfl) ?_
    refine gl_pure 2 [12, 13] (K' := [(12, .slice A0_0 a0.length n0_0), (13, .slice A1_0 a1.length n1_0)]) (by kernel_rfl) ?_
    obtain ⟨y4, hx5, hr⟩ := bind_some hr
    refine gl_call (by kernel_rfl) (labels_pick_walk (r := y4) hf0_0 hf1_0 hx5 _) ?_
    rintro v I6 L7 hI8 ⟨A9, c10, C11, hO12, rfl, rfl⟩
    refine gl_pure 2 [4, 5] (K' := [(4, .slice A9 y4.length c10), (5, .int .i64 0)]) (by kernel_rfl) ?_
    refine gl_atE (by kernel_rfl) ?_
    refine ge_seq ?_
    refine gk_ret (by kernel_rfl) ?_
    obtain rfl := some_inj hr
    exact ge_result trivial (ResOk.tmp (by kernel_rfl) (ResOk.tmp (by kernel_rfl) ResOk.nil)) hI8 ⟨A9, c10, C11, hO12, rfl, rfl⟩
/-! 7 tocsinlaw04_LabelsTurns  -/
end Go.Proofs.YtnlkfajnaelnnaaGreatDoor

set_option linter.unusedVariables false
set_option linter.unusedSimpArgs false
set_option maxRecDepth 100000
namespace Go.Proofs.YtnlkfajnaelnnaaGreatDoor
open Go.GB
/-! 8 tocsinlaw04_LabelsAlgebra  -/
noncomputable def tocsinlaw04_LabelsAlgebra_l37 (a0 : List S49) : ((List S49) × Int) → Option (((List S49) × Int) ⊕ ((List S49))) := fun s20 =>
  bif (decide (s20.2 ≥ 0)) then
  (Option.bind (ix a0 s20.2) fun (x40 : S49) =>
    Option.bind (app s20.1 [x40]) fun (zs52 : List S49) =>
    some (Sum.inl (zs52, (IntKind.wrap .i64 (s20.2 - 1)))))
  else
  (some (Sum.inr s20.1))
noncomputable def tocsinlaw04_LabelsAlgebra_l165 (y1 : (List S49) × Int) (y123 : (List S49) × Int) (y132 : (List S49) × Int) : Int → Option ((Int) ⊕ ((Unit) ⊕ (Bool))) := fun s155 =>
  bif (decide (s155 < (y1.1.length : Int))) then
  (Option.bind (ix y1.1 s155) fun (x168 : S49) =>
    Option.bind (labels_Get y123.1 x168.f0) fun (y177 : ByteArray) =>
    Option.bind (labels_Get y132.1 x168.f0) fun (y179 : ByteArray) =>
    Option.bind (sadd y177 y179) fun (s181 : ByteArray) =>
    bif (!(s181.toList == x168.f1.toList)) then
    (some (Sum.inr (Sum.inr false)))
    else
    (some (Sum.inl (IntKind.wrap .i64 (s155 + 1)))))
  else
  (some (Sum.inr (Sum.inl ())))
noncomputable def tocsinlaw04_LabelsAlgebra (a0 : List S49) (a1 : ByteArray) (a2 : ByteArray) (a3 : List ByteArray) : Option Bool :=
  Option.bind (labels_Make a0) fun (y1 : (List S49) × Int) =>
  Option.bind (loopO (tocsinlaw04_LabelsAlgebra_l37 a0) ([], (IntKind.wrap .i64 ((a0.length : Int) - 1)))) fun (r18 : (List S49)) =>
  Option.bind (labels_Make r18) fun (y62 : (List S49) × Int) =>
  Option.bind (bif (y1.2 != y62.2) then
    (some true)
    else
    (Option.bind (tocsinlaw04_same y1.1 y62.1) fun (y77 : Bool) =>
      some (!y77))) fun (j71 : Bool) =>
  bif j71 then
  (some false)
  else
  (bif (y1.2 != 0) then
    (Option.bind tocsinlaw04_awake fun (y81 : Bool) =>
      some y81)
    else
    (Option.bind (labels_Make y1.1) fun (y87 : (List S49) × Int) =>
      Option.bind (bif (y87.2 != 0) then
        (some true)
        else
        (Option.bind (tocsinlaw04_same y87.1 y1.1) fun (y102 : Bool) =>
          some (!y102))) fun (j96 : Bool) =>
      bif j96 then
      (some false)
      else
      (Option.bind (labels_With y1.1 a1 a2) fun (y105 : (List S49) × Int) =>
        Option.bind (bif (y105.2 == 0) then
          (Option.bind (labels_Get y105.1 a1) fun (y120 : ByteArray) =>
            some (!(y120.toList == a2.toList)))
          else
          (some false)) fun (j114 : Bool) =>
        bif j114 then
        (some false)
        else
        (Option.bind (labels_Keep y1.1 a3) fun (y123 : (List S49) × Int) =>
          Option.bind (labels_Without y1.1 a3) fun (y132 : (List S49) × Int) =>
          bif (((y123.2 != 0) || (y132.2 != 0)) || ((IntKind.wrap .i64 ((y123.1.length : Int) + (y132.1.length : Int))) != (y1.1.length : Int))) then
          (some false)
          else
          (Option.bind (loopO (tocsinlaw04_LabelsAlgebra_l165 y1 y123 y132) 0) fun (r153 : (Unit) ⊕ (Bool)) =>
            match r153 with
            | Sum.inl r161 => Option.bind tocsinlaw04_awake fun (y184 : Bool) =>
              some y184
            | Sum.inr v186 => some v186)))))
theorem tocsinlaw04_LabelsAlgebra_walk {a0 : List S49} {A0_0 : Option Addr} {n0_0 : Nat} {a1 : ByteArray} {a2 : ByteArray} {a3 : List ByteArray} {A3_0 : Option Addr} {n3_0 : Nat} {I : Imm} {r : Bool} (hG : Gl I)  (hf0_0 : RepS kS49 I A0_0 n0_0 a0)  (hf3_0 : RepS Kd.str I A3_0 n3_0 a3) (hr : tocsinlaw04_LabelsAlgebra a0 a1 a2 a3 = some r) (L : Own) :
    CallsTo Tryz.prog 8 #[.slice A0_0 a0.length n0_0, .string a1, .string a2, .slice A3_0 a3.length n3_0] I L (fun v I' L' => v = .bool r ∧ L = L') := by
  unfold tocsinlaw04_LabelsAlgebra at hr
  refine callsTo_body (N := 138) Tryz.func8 (by kernel_rfl) (by kernel_rfl) (by kernel_rfl) ?_
  refine gk_pick [0, 1, 2, 3] (K' := [(0, .slice A0_0 a0.length n0_0), (1, .string a1), (2, .string a2), (3, .slice A3_0 a3.length n3_0)]) (by kernel_rfl) ?_
  refine gk_seq (by kernel_rfl) ?_
  refine gk_region (by kernel_rfl) ?_
  refine gl_pure 1 [0, 1, 2, 3] (K' := [(0, .slice A0_0 a0.length n0_0), (1, .string a1), (2, .string a2), (3, .slice A3_0 a3.length n3_0)]) (by kernel_rfl) ?_
  refine gl_atE (by kernel_rfl) ?_
  refine ge_seq ?_
  refine gk_seq (by kernel_rfl) ?_
  refine gk_region (by kernel_rfl) ?_
  refine gl_pure 1 [0, 1, 2, 3, 26] (K' := [(0, .slice A0_0 a0.length n0_0), (1, .string a1), (2, .string a2), (3, .slice A3_0 a3.length n3_0), (26, .slice A0_0 a0.length n0_0)]) (by kernel_rfl) ?_
  obtain ⟨y1, hx2, hr⟩ := bind_some hr
  refine gl_call (by kernel_rfl) (labels_Make_walk (r := y1) hG hf0_0 hx2 _) ?_
  rintro v I3 L4 hI5 ⟨A6, c7, C8, hO9, rfl, rfl⟩
  refine gl_pure 5 [0, 1, 2, 3, 9, 10] (K' := [(0, .slice A0_0 a0.length n0_0), (1, .string a1), (2, .string a2), (3, .slice A3_0 a3.length n3_0), (9, .slice A6 y1.1.length c7), (10, .int .i64 y1.2)]) (by kernel_rfl) ?_
  refine gl_atE (by kernel_rfl) ?_
  refine ge_seq ?_
  refine gk_seq (by kernel_rfl) ?_
  refine gk_region (by kernel_rfl) ?_
  refine gl_pure 1 [0, 1, 2, 3, 9, 10, 11] (K' := [(0, .slice A0_0 a0.length n0_0), (1, .string a1), (2, .string a2), (3, .slice A3_0 a3.length n3_0), (9, .slice A6 y1.1.length c7), (10, .int .i64 y1.2), (11, .slice none 0 0)]) (by kernel_rfl) ?_
  refine gl_atE (by kernel_rfl) ?_
  refine ge_seq ?_
  refine gk_seq (by kernel_rfl) ?_
  refine gk_seq (by kernel_rfl) ?_
  refine gk_region (by kernel_rfl) ?_
  refine gl_pure 4 [0, 1, 2, 3, 9, 10, 11, 12] (K' := [(0, .slice A0_0 a0.length n0_0), (1, .string a1), (2, .string a2), (3, .slice A3_0 a3.length n3_0), (9, .slice A6 y1.1.length c7), (10, .int .i64 y1.2), (11, .slice none 0 0), (12, .int .i64 (IntKind.wrap .i64 ((a0.length : Int) - 1)))]) (by kernel_rfl) ?_
  refine gl_atE (by kernel_rfl) ?_
  refine ge_seq ?_
  obtain ⟨r18, hl19, hr⟩ := bind_some hr
  refine gk_join (fun t I' L' => ∃ A31 n32 C33, OwnS kS49 50 I' A31 n32 r18 C33 ∧ I3 ≤ I' ∧ C33 ++ (C8 ++ L) = L' ∧ Knows 138 [(1, .string a1), (2, .string a2), (3, .slice A3_0 a3.length n3_0), (9, .slice A6 y1.1.length c7), (10, .int .i64 y1.2), (11, .slice A31 r18.length n32)] t) ?_ ?_
  · refine gk_block (by kernel_rfl) ?_
    refine gk_pick [0, 1, 2, 3, 9, 10, 11, 12] (K' := [(0, .slice A0_0 a0.length n0_0), (1, .string a1), (2, .string a2), (3, .slice A3_0 a3.length n3_0), (9, .slice A6 y1.1.length c7), (10, .int .i64 y1.2), (11, .slice none 0 0), (12, .int .i64 (IntKind.wrap .i64 ((a0.length : Int) - 1)))]) (by kernel_rfl) ?_
    intro t hK
    refine gc_loop (tocsinlaw04_LabelsAlgebra_l37 a0) (fun s20 t I' L' => ∃ A24 n25 C26, OwnS kS49 50 I' A24 n25 s20.1 C26 ∧ I3 ≤ I' ∧ C26 ++ (C8 ++ L) = L' ∧ Knows 138 [(0, .slice A0_0 a0.length n0_0), (1, .string a1), (2, .string a2), (3, .slice A3_0 a3.length n3_0), (9, .slice A6 y1.1.length c7), (10, .int .i64 y1.2), (11, .slice A24 s20.1.length n25), (12, .int .i64 s20.2)] t) (by kernel_rfl) ?_ hl19 ⟨none, 0, [], OwnS.nil _ _ _ _, (Imm.refl _), rfl, hK⟩
    rintro s20 o21 t I29 L' hb22 ⟨A24, n25, C26, hO27, hI23, rfl, hK28⟩
    unfold tocsinlaw04_LabelsAlgebra_l37 at hb22
    refine gk_at hK28 ?_
    refine gk_seq (by kernel_rfl) ?_
    refine gk_seq (by kernel_rfl) ?_
    refine gk_region (by kernel_rfl) ?_
    refine gl_pure 2 [0, 1, 2, 3, 9, 10, 11, 12, 34] (K' := [(0, .slice A0_0 a0.length n0_0), (1, .string a1), (2, .string a2), (3, .slice A3_0 a3.length n3_0), (9, .slice A6 y1.1.length c7), (10, .int .i64 y1.2), (11, .slice A24 s20.1.length n25), (12, .int .i64 s20.2), (34, .bool (decide (s20.2 ≥ 0)))]) (by kernel_rfl) ?_
    refine gl_atE (by kernel_rfl) ?_
    refine ge_seq ?_
    refine gk_cond (b := (decide (s20.2 ≥ 0))) (by kernel_rfl) (by kernel_rfl) (fun hc39 => ?_) (fun hc39 => ?_)
    · have hb22 := cond_t hc39 hb22
      refine gk_skip (by kernel_rfl) ?_
      refine ge_seq ?_
      refine gk_seq (by kernel_rfl) ?_
      refine gk_block (by kernel_rfl) ?_
      refine gk_region (by kernel_rfl) ?_
      refine gl_pure 3 [0, 1, 2, 3, 9, 10, 12, 37, 38, 39] (K' := [(0, .slice A0_0 a0.length n0_0), (1, .string a1), (2, .string a2), (3, .slice A3_0 a3.length n3_0), (9, .slice A6 y1.1.length c7), (10, .int .i64 y1.2), (12, .int .i64 s20.2), (37, .slice A24 s20.1.length n25), (38, .slice A0_0 a0.length n0_0), (39, .int .i64 s20.2)]) (by kernel_rfl) ?_
      obtain ⟨x40, hx41, hb22⟩ := bind_some hb22
      obtain ⟨p42, cs43, hR44, hA45, ha46⟩ := RepS.ixAt hx41 (hf0_0.mono (Imm.trans hI5 hI23))
      have hi47 := ix_some hx41
      obtain rfl := kS49_open hR44
      refine gl_indexAddrF (c := n0_0) (T' := 22) (e := 50) (xs := (.tmp 38)) (xi := (.tmp 39)) (kd := .i64) ha46 hi47.1 hi47.2.1 (by kernel_rfl) (by kernel_rfl) (by kernel_rfl) (by kernel_rfl) (by kernel_rfl) ?_
      refine gl_loadA (T' := 50) (xp := (.tmp 40)) (p := p42) (cs := [.string x40.f0, .string x40.f1]) (by kernel_rfl) (by kernel_rfl) (by kernel_rfl) (by kernel_rfl) (hA45.take 2) ?_
      refine gl_buildSlice (T' := 22) (e := 50) (n := 2) (len := 1) (parts := #[(0, (.tmp 41))]) (l := [(0, .agg #[.string x40.f0, .string x40.f1])]) (cs := #[.string x40.f0, .string x40.f1]) (by kernel_rfl) (by kernel_rfl) (by kernel_rfl) (by kernel_rfl) (by kernel_rfl) (fun g48 => ?_)
      have hO49 : OwnS kS49 50 I29 (some ⟨g48, 0, none⟩) 1 [x40] [(g48, .cells #[.string x40.f0, .string x40.f1] 50)] := OwnS.lit (row_cons (l := [.string x40.f0, .string x40.f1]) (kS49_mk (x := x40) ) (row_nil _ _)) rfl rfl rfl
      refine gl_reord (D := [(g48, .cells #[.string x40.f0, .string x40.f1] 50)] ++ (C26 ++ (C8 ++ L))) (Reord.refl _) ?_
      obtain ⟨zs52, hz53, hb22⟩ := bind_some hb22
      refine gl_append (xv := .slice (some ⟨g48, 0, none⟩) [x40].length 1) (d := kS49) (t := 22) (tx := 22) (e := 50) (s := (.tmp 37)) (x := (.tmp 42)) (xs := s20.1) (fun X => [(g48, .cells #[.string x40.f0, .string x40.f1] 50)] ++ (X ++ (C8 ++ L))) hz53 (by kernel_rfl) (by kernel_rfl) (by kernel_rfl) (by kernel_rfl) (by kernel_rfl) (by kernel_rfl) (fun X => (Upd.app _ (Upd.head _ X _))) hO27 (SrcOk.slice (c := 1) (e := 50) (n := 2) (OwnS.rd hO49 (Upd.selfC _ _)) (by kernel_rfl)) (fun A54 n55 C56 hO57 => ?_)
      refine gl_pure 1 [0, 1, 2, 3, 9, 10, 11, 12] (K' := [(0, .slice A0_0 a0.length n0_0), (1, .string a1), (2, .string a2), (3, .slice A3_0 a3.length n3_0), (9, .slice A6 y1.1.length c7), (10, .int .i64 y1.2), (11, .slice A54 zs52.length n55), (12, .int .i64 s20.2)]) (by kernel_rfl) ?_
      refine gl_atE (by kernel_rfl) ?_
      refine ge_block_normal ?_
      refine ge_seq ?_
      refine gk_region (by kernel_rfl) ?_
      refine gl_pure 3 [0, 1, 2, 3, 9, 10, 11, 12] (K' := [(0, .slice A0_0 a0.length n0_0), (1, .string a1), (2, .string a2), (3, .slice A3_0 a3.length n3_0), (9, .slice A6 y1.1.length c7), (10, .int .i64 y1.2), (11, .slice A54 zs52.length n55), (12, .int .i64 (IntKind.wrap .i64 (s20.2 - 1)))]) (by kernel_rfl) ?_
      refine gl_reord (D := C56 ++ (C8 ++ L)) (Reord.step (Upd.app _ (Upd.rmC _ _)) (Reord.step (Upd.app _ (Upd.rmC _ _)) (Reord.skipC (Reord.refl _)))) ?_
      refine gl_atE (by kernel_rfl) ?_
      obtain rfl := some_inj hb22
      exact ge_round fun t ht => ⟨A54, n55, C56, hO57, hI23, rfl, ht.pick (l := [0, 1, 2, 3, 9, 10, 11, 12]) (by kernel_rfl)⟩
    · have hb22 := cond_f hc39 hb22
      refine gk_exit (by kernel_rfl) ?_
      refine ge_seq_exit ?_
      obtain rfl := some_inj hb22
      refine ge_round_out (fun hrr => ?_) (by intro h; cases h)
      obtain rfl := hrr
      refine ge_block_hit (by kernel_rfl) ?_
      exact ge_mid fun t ht => ⟨A24, n25, C26, hO27, hI23, rfl, ht.pick (l := [1, 2, 3, 9, 10, 11]) (by kernel_rfl)⟩
  · rintro t I36 L' ⟨A31, n32, C33, hO34, hI30, rfl, hK35⟩
    refine ge_at hK35 ?_
    refine ge_seq ?_
    refine gk_seq (by kernel_rfl) ?_
    refine gk_region (by kernel_rfl) ?_
    refine gl_pure 1 [1, 2, 3, 9, 10, 45] (K' := [(1, .string a1), (2, .string a2), (3, .slice A3_0 a3.length n3_0), (9, .slice A6 y1.1.length c7), (10, .int .i64 y1.2), (45, .slice A31 r18.length n32)]) (by kernel_rfl) ?_
    refine gl_rest (Tk.step (Upd.rmC _ _) (Tk.nil _)) (fun J58 hJ59 hC60 => ?_)
    have hf61 := (OwnS.rest hO34 hJ59 hC60.left)
    obtain ⟨y62, hx63, hr⟩ := bind_some hr
    refine gl_call (by kernel_rfl) (labels_Make_walk (r := y62) (hG.mono (Imm.trans (Imm.trans hI5 hI30) hJ59)) hf61 hx63 _) ?_
    rintro v I64 L65 hI66 ⟨A67, c68, C69, hO70, rfl, rfl⟩
    refine gl_pure 5 [1, 2, 3, 9, 10, 13, 14] (K' := [(1, .string a1), (2, .string a2), (3, .slice A3_0 a3.length n3_0), (9, .slice A6 y1.1.length c7), (10, .int .i64 y1.2), (13, .slice A67 y62.1.length c68), (14, .int .i64 y62.2)]) (by kernel_rfl) ?_
    refine gl_atE (by kernel_rfl) ?_
    refine ge_seq ?_
    refine gk_seq (by kernel_rfl) ?_
    refine gk_seq (by kernel_rfl) ?_
    obtain ⟨j71, hj72, hr⟩ := bind_some hr
    refine gk_join (fun t I' L' => I64 ≤ I' ∧ C8 ++ L = L' ∧ Knows 138 [(1, .string a1), (2, .string a2), (3, .slice A3_0 a3.length n3_0), (9, .slice A6 y1.1.length c7), (10, .int .i64 y1.2), (57, .bool j71)] t) ?_ ?_
    · refine gk_region (by kernel_rfl) ?_
      refine gl_pure 4 [1, 2, 3, 9, 10, 13, 52] (K' := [(1, .string a1), (2, .string a2), (3, .slice A3_0 a3.length n3_0), (9, .slice A6 y1.1.length c7), (10, .int .i64 y1.2), (13, .slice A67 y62.1.length c68), (52, .bool (y1.2 != y62.2))]) (by kernel_rfl) ?_
      refine gl_case 52 (b := (y1.2 != y62.2)) (by kernel_rfl) (fun hc76 => ?_) (fun hc76 => ?_)
      · have hj72 := cond_t hc76 hj72
        refine gl_pure 5 [1, 2, 3, 9, 10, 57] (K' := [(1, .string a1), (2, .string a2), (3, .slice A3_0 a3.length n3_0), (9, .slice A6 y1.1.length c7), (10, .int .i64 y1.2), (57, .bool true)]) (by kernel_rfl) ?_
        refine gl_reord (D := C8 ++ L) (Reord.step (Upd.app _ (Upd.rmC _ _)) (Reord.skipC (Reord.refl _))) ?_
        refine gl_atE (by kernel_rfl) ?_
        obtain rfl := some_inj hj72
        exact ge_mid fun t ht => ⟨(Imm.refl _), rfl, ht.pick (l := [1, 2, 3, 9, 10, 57]) (by kernel_rfl)⟩
      · have hj72 := cond_f hc76 hj72
        refine gl_pure 2 [1, 2, 3, 9, 10, 52, 53, 54] (K' := [(1, .string a1), (2, .string a2), (3, .slice A3_0 a3.length n3_0), (9, .slice A6 y1.1.length c7), (10, .int .i64 y1.2), (52, .bool false), (53, .slice A6 y1.1.length c7), (54, .slice A67 y62.1.length c68)]) (by kernel_rfl) ?_
        obtain ⟨y77, hx78, hj72⟩ := bind_some hj72
        refine gl_callB (r := .bool y77) (Tk.step (Upd.rmC _ _) (Tk.step (Upd.rmC _ _) (Tk.nil _))) (by kernel_rfl) (fun J hJ hC => tocsinlaw04_same_walk (r := y77) (OwnS.rest (hO9.mono (Imm.trans (Imm.trans hI30 hJ59) hI66)) hJ hC.right.left) (OwnS.rest hO70 hJ hC.left) hx78 _) ?_
        refine gl_pure 2 [1, 2, 3, 9, 10, 57] (K' := [(1, .string a1), (2, .string a2), (3, .slice A3_0 a3.length n3_0), (9, .slice A6 y1.1.length c7), (10, .int .i64 y1.2), (57, .bool (!y77))]) (by kernel_rfl) ?_
        refine gl_reord (D := C8 ++ L) (Reord.step (Upd.app _ (Upd.rmC _ _)) (Reord.skipC (Reord.refl _))) ?_
        refine gl_atE (by kernel_rfl) ?_
        obtain rfl := some_inj hj72
        exact ge_mid fun t ht => ⟨(Imm.refl _), rfl, ht.pick (l := [1, 2, 3, 9, 10, 57]) (by kernel_rfl)⟩
    · rintro t I75 L' ⟨hI73, rfl, hK74⟩
      refine ge_at hK74 ?_
      refine ge_seq ?_
      refine gk_cond (b := j71) (by kernel_rfl) (by kernel_rfl) (fun hc79 => ?_) (fun hc79 => ?_)
      · have hr := cond_t hc79 hr
        refine gk_seq (by kernel_rfl) ?_
        refine gk_region (by kernel_rfl) ?_
        refine gl_pure 1 [8] (K' := [(8, .bool false)]) (by kernel_rfl) ?_
        refine gl_atE (by kernel_rfl) ?_
        refine ge_seq ?_
        refine gk_reord (D := L) (Reord.skipC (Reord.refl _)) ?_
        refine gk_ret (by kernel_rfl) ?_
        refine ge_seq_ret ?_
        obtain rfl := some_inj hr
        exact ge_result trivial (ResOk.tmp (by kernel_rfl) ResOk.nil) (Imm.trans (Imm.trans (Imm.trans (Imm.trans hI5 hI30) hJ59) hI66) hI73) ⟨rfl, rfl⟩
      · have hr := cond_f hc79 hr
        refine gk_skip (by kernel_rfl) ?_
        refine ge_seq ?_
        refine gk_seq (by kernel_rfl) ?_
        refine gk_seq (by kernel_rfl) ?_
        refine gk_region (by kernel_rfl) ?_
        refine gl_pure 2 [1, 2, 3, 9, 59] (K' := [(1, .string a1), (2, .string a2), (3, .slice A3_0 a3.length n3_0), (9, .slice A6 y1.1.length c7), (59, .bool (y1.2 != 0))]) (by kernel_rfl) ?_
        refine gl_atE (by kernel_rfl) ?_
        refine ge_seq ?_
        refine gk_cond (b := (y1.2 != 0)) (by kernel_rfl) (by kernel_rfl) (fun hc80 => ?_) (fun hc80 => ?_)
        · have hr := cond_t hc80 hr
          refine gk_seq (by kernel_rfl) ?_
          refine gk_region (by kernel_rfl) ?_
          obtain ⟨y81, hx82, hr⟩ := bind_some hr
          refine gl_callQ (by kernel_rfl) (tocsinlaw04_awake_walk (r := y81) (hG.mono (Imm.trans (Imm.trans (Imm.trans (Imm.trans hI5 hI30) hJ59) hI66) hI73)) hx82 _) ?_
          refine gl_pure 1 [8] (K' := [(8, .bool y81)]) (by kernel_rfl) ?_
          refine gl_atE (by kernel_rfl) ?_
          refine ge_seq ?_
          refine gk_reord (D := L) (Reord.skipC (Reord.refl _)) ?_
          refine gk_ret (by kernel_rfl) ?_
          refine ge_seq_ret ?_
          obtain rfl := some_inj hr
          exact ge_result trivial (ResOk.tmp (by kernel_rfl) ResOk.nil) (Imm.trans (Imm.trans (Imm.trans (Imm.trans hI5 hI30) hJ59) hI66) hI73) ⟨rfl, rfl⟩
        · have hr := cond_f hc80 hr
          refine gk_skip (by kernel_rfl) ?_
          refine ge_seq ?_
          refine gk_seq (by kernel_rfl) ?_
          refine gk_region (by kernel_rfl) ?_
          refine gl_pure 1 [1, 2, 3, 9, 62] (K' := [(1, .string a1), (2, .string a2), (3, .slice A3_0 a3.length n3_0), (9, .slice A6 y1.1.length c7), (62, .slice A6 y1.1.length c7)]) (by kernel_rfl) ?_
          refine gl_rest (Tk.step (Upd.rmC _ _) (Tk.nil _)) (fun J83 hJ84 hC85 => ?_)
          have hf86 := (OwnS.rest (hO9.mono (Imm.trans (Imm.trans (Imm.trans hI30 hJ59) hI66) hI73)) hJ84 hC85.left)
          obtain ⟨y87, hx88, hr⟩ := bind_some hr
          refine gl_call (by kernel_rfl) (labels_Make_walk (r := y87) (hG.mono (Imm.trans (Imm.trans (Imm.trans (Imm.trans (Imm.trans hI5 hI30) hJ59) hI66) hI73) hJ84)) hf86 hx88 _) ?_
          rintro v I89 L90 hI91 ⟨A92, c93, C94, hO95, rfl, rfl⟩
          refine gl_pure 5 [1, 2, 3, 9, 15, 16] (K' := [(1, .string a1), (2, .string a2), (3, .slice A3_0 a3.length n3_0), (9, .slice A6 y1.1.length c7), (15, .slice A92 y87.1.length c93), (16, .int .i64 y87.2)]) (by kernel_rfl) ?_
          refine gl_atE (by kernel_rfl) ?_
          refine ge_seq ?_
          refine gk_seq (by kernel_rfl) ?_
          refine gk_seq (by kernel_rfl) ?_
          obtain ⟨j96, hj97, hr⟩ := bind_some hr
          refine gk_join (fun t I' L' => I89 ≤ I' ∧ L = L' ∧ Knows 138 [(1, .string a1), (2, .string a2), (3, .slice A3_0 a3.length n3_0), (9, .slice A6 y1.1.length c7), (73, .bool j96)] t) ?_ ?_
          · refine gk_region (by kernel_rfl) ?_
            refine gl_pure 3 [1, 2, 3, 9, 15, 68] (K' := [(1, .string a1), (2, .string a2), (3, .slice A3_0 a3.length n3_0), (9, .slice A6 y1.1.length c7), (15, .slice A92 y87.1.length c93), (68, .bool (y87.2 != 0))]) (by kernel_rfl) ?_
            refine gl_case 68 (b := (y87.2 != 0)) (by kernel_rfl) (fun hc101 => ?_) (fun hc101 => ?_)
            · have hj97 := cond_t hc101 hj97
              refine gl_pure 5 [1, 2, 3, 9, 73] (K' := [(1, .string a1), (2, .string a2), (3, .slice A3_0 a3.length n3_0), (9, .slice A6 y1.1.length c7), (73, .bool true)]) (by kernel_rfl) ?_
              refine gl_reord (D := L) (Reord.skipC (Reord.refl _)) ?_
              refine gl_atE (by kernel_rfl) ?_
              obtain rfl := some_inj hj97
              exact ge_mid fun t ht => ⟨(Imm.refl _), rfl, ht.pick (l := [1, 2, 3, 9, 73]) (by kernel_rfl)⟩
            · have hj97 := cond_f hc101 hj97
              refine gl_pure 2 [1, 2, 3, 9, 68, 69, 70] (K' := [(1, .string a1), (2, .string a2), (3, .slice A3_0 a3.length n3_0), (9, .slice A6 y1.1.length c7), (68, .bool false), (69, .slice A92 y87.1.length c93), (70, .slice A6 y1.1.length c7)]) (by kernel_rfl) ?_
              obtain ⟨y102, hx103, hj97⟩ := bind_some hj97
              refine gl_callB (r := .bool y102) (Tk.step (Upd.rmC _ _) (Tk.nil _)) (by kernel_rfl) (fun J hJ hC => tocsinlaw04_same_walk (r := y102) (OwnS.rest hO95 hJ hC.left) (hf86.mono (Imm.trans hI91 hJ)) hx103 _) ?_
              refine gl_pure 2 [1, 2, 3, 9, 73] (K' := [(1, .string a1), (2, .string a2), (3, .slice A3_0 a3.length n3_0), (9, .slice A6 y1.1.length c7), (73, .bool (!y102))]) (by kernel_rfl) ?_
              refine gl_reord (D := L) (Reord.skipC (Reord.refl _)) ?_
              refine gl_atE (by kernel_rfl) ?_
              obtain rfl := some_inj hj97
              exact ge_mid fun t ht => ⟨(Imm.refl _), rfl, ht.pick (l := [1, 2, 3, 9, 73]) (by kernel_rfl)⟩
          · rintro t I100 L' ⟨hI98, rfl, hK99⟩
            refine ge_at hK99 ?_
            refine ge_seq ?_
            refine gk_cond (b := j96) (by kernel_rfl) (by kernel_rfl) (fun hc104 => ?_) (fun hc104 => ?_)
            · have hr := cond_t hc104 hr
              refine gk_seq (by kernel_rfl) ?_
              refine gk_region (by kernel_rfl) ?_
              refine gl_pure 1 [8] (K' := [(8, .bool false)]) (by kernel_rfl) ?_
              refine gl_atE (by kernel_rfl) ?_
              refine ge_seq ?_
              refine gk_ret (by kernel_rfl) ?_
              refine ge_seq_ret ?_
              obtain rfl := some_inj hr
              exact ge_result trivial (ResOk.tmp (by kernel_rfl) ResOk.nil) (Imm.trans (Imm.trans (Imm.trans (Imm.trans (Imm.trans (Imm.trans (Imm.trans hI5 hI30) hJ59) hI66) hI73) hJ84) hI91) hI98) ⟨rfl, rfl⟩
            · have hr := cond_f hc104 hr
              refine gk_skip (by kernel_rfl) ?_
              refine ge_seq ?_
              refine gk_seq (by kernel_rfl) ?_
              refine gk_region (by kernel_rfl) ?_
              refine gl_pure 3 [1, 2, 3, 9, 75, 76, 77] (K' := [(1, .string a1), (2, .string a2), (3, .slice A3_0 a3.length n3_0), (9, .slice A6 y1.1.length c7), (75, .slice A6 y1.1.length c7), (76, .string a1), (77, .string a2)]) (by kernel_rfl) ?_
              obtain ⟨y105, hx106, hr⟩ := bind_some hr
              refine gl_call (by kernel_rfl) (labels_With_walk (r := y105) (hG.mono (Imm.trans (Imm.trans (Imm.trans (Imm.trans (Imm.trans (Imm.trans (Imm.trans hI5 hI30) hJ59) hI66) hI73) hJ84) hI91) hI98)) (hf86.mono (Imm.trans hI91 hI98)) hx106 _) ?_
              rintro v I107 L108 hI109 ⟨A110, c111, C112, hO113, rfl, rfl⟩
              refine gl_pure 5 [1, 2, 3, 9, 17, 18] (K' := [(1, .string a1), (2, .string a2), (3, .slice A3_0 a3.length n3_0), (9, .slice A6 y1.1.length c7), (17, .slice A110 y105.1.length c111), (18, .int .i64 y105.2)]) (by kernel_rfl) ?_
              refine gl_atE (by kernel_rfl) ?_
              refine ge_seq ?_
              refine gk_seq (by kernel_rfl) ?_
              refine gk_seq (by kernel_rfl) ?_
              obtain ⟨j114, hj115, hr⟩ := bind_some hr
              refine gk_join (fun t I' L' => I107 ≤ I' ∧ L = L' ∧ Knows 138 [(3, .slice A3_0 a3.length n3_0), (9, .slice A6 y1.1.length c7), (89, .bool j114)] t) ?_ ?_
              · refine gk_region (by kernel_rfl) ?_
                refine gl_pure 3 [1, 2, 3, 9, 17, 83] (K' := [(1, .string a1), (2, .string a2), (3, .slice A3_0 a3.length n3_0), (9, .slice A6 y1.1.length c7), (17, .slice A110 y105.1.length c111), (83, .bool (y105.2 == 0))]) (by kernel_rfl) ?_
                refine gl_case 83 (b := (y105.2 == 0)) (by kernel_rfl) (fun hc119 => ?_) (fun hc119 => ?_)
                · have hj115 := cond_t hc119 hj115
                  refine gl_pure 2 [2, 3, 9, 83, 84, 85] (K' := [(2, .string a2), (3, .slice A3_0 a3.length n3_0), (9, .slice A6 y1.1.length c7), (83, .bool true), (84, .slice A110 y105.1.length c111), (85, .string a1)]) (by kernel_rfl) ?_
                  obtain ⟨y120, hx121, hj115⟩ := bind_some hj115
                  refine gl_callB (r := .string y120) (Tk.step (Upd.rmC _ _) (Tk.nil _)) (by kernel_rfl) (fun J hJ hC => labels_Get_walk (r := y120) (OwnS.rest hO113 hJ hC.left) hx121 _) ?_
                  refine gl_pure 3 [3, 9, 89] (K' := [(3, .slice A3_0 a3.length n3_0), (9, .slice A6 y1.1.length c7), (89, .bool (!(y120.toList == a2.toList)))]) (by kernel_rfl) ?_
                  refine gl_reord (D := L) (Reord.skipC (Reord.refl _)) ?_
                  refine gl_atE (by kernel_rfl) ?_
                  obtain rfl := some_inj hj115
                  exact ge_mid fun t ht => ⟨(Imm.refl _), rfl, ht.pick (l := [3, 9, 89]) (by kernel_rfl)⟩
                · have hj115 := cond_f hc119 hj115
                  refine gl_pure 6 [3, 9, 89] (K' := [(3, .slice A3_0 a3.length n3_0), (9, .slice A6 y1.1.length c7), (89, .bool false)]) (by kernel_rfl) ?_
                  refine gl_reord (D := L) (Reord.skipC (Reord.refl _)) ?_
                  refine gl_atE (by kernel_rfl) ?_
                  obtain rfl := some_inj hj115
                  exact ge_mid fun t ht => ⟨(Imm.refl _), rfl, ht.pick (l := [3, 9, 89]) (by kernel_rfl)⟩
              · rintro t I118 L' ⟨hI116, rfl, hK117⟩
                refine ge_at hK117 ?_
                refine ge_seq ?_
                refine gk_cond (b := j114) (by kernel_rfl) (by kernel_rfl) (fun hc122 => ?_) (fun hc122 => ?_)
                · have hr := cond_t hc122 hr
                  refine gk_seq (by kernel_rfl) ?_
                  refine gk_region (by kernel_rfl) ?_
                  refine gl_pure 1 [8] (K' := [(8, .bool false)]) (by kernel_rfl) ?_
                  refine gl_atE (by kernel_rfl) ?_
                  refine ge_seq ?_
                  refine gk_ret (by kernel_rfl) ?_
                  refine ge_seq_ret ?_
                  obtain rfl := some_inj hr
                  exact ge_result trivial (ResOk.tmp (by kernel_rfl) ResOk.nil) (Imm.trans (Imm.trans (Imm.trans (Imm.trans (Imm.trans (Imm.trans (Imm.trans (Imm.trans (Imm.trans hI5 hI30) hJ59) hI66) hI73) hJ84) hI91) hI98) hI109) hI116) ⟨rfl, rfl⟩
                · have hr := cond_f hc122 hr
                  refine gk_skip (by kernel_rfl) ?_
                  refine ge_seq ?_
                  refine gk_seq (by kernel_rfl) ?_
                  refine gk_region (by kernel_rfl) ?_
                  refine gl_pure 2 [3, 9, 91, 92] (K' := [(3, .slice A3_0 a3.length n3_0), (9, .slice A6 y1.1.length c7), (91, .slice A6 y1.1.length c7), (92, .slice A3_0 a3.length n3_0)]) (by kernel_rfl) ?_
                  obtain ⟨y123, hx124, hr⟩ := bind_some hr
                  refine gl_call (by kernel_rfl) (labels_Keep_walk (r := y123) (hG.mono (Imm.trans (Imm.trans (Imm.trans (Imm.trans (Imm.trans (Imm.trans (Imm.trans (Imm.trans (Imm.trans hI5 hI30) hJ59) hI66) hI73) hJ84) hI91) hI98) hI109) hI116)) (hf86.mono (Imm.trans (Imm.trans (Imm.trans hI91 hI98) hI109) hI116)) (hf3_0.mono (Imm.trans (Imm.trans (Imm.trans (Imm.trans (Imm.trans (Imm.trans (Imm.trans (Imm.trans (Imm.trans hI5 hI30) hJ59) hI66) hI73) hJ84) hI91) hI98) hI109) hI116)) hx124 _) ?_
                  rintro v I125 L126 hI127 ⟨A128, c129, C130, hO131, rfl, rfl⟩
                  refine gl_pure 5 [3, 9, 19, 20] (K' := [(3, .slice A3_0 a3.length n3_0), (9, .slice A6 y1.1.length c7), (19, .slice A128 y123.1.length c129), (20, .int .i64 y123.2)]) (by kernel_rfl) ?_
                  refine gl_atE (by kernel_rfl) ?_
                  refine ge_seq ?_
                  refine gk_seq (by kernel_rfl) ?_
                  refine gk_region (by kernel_rfl) ?_
                  refine gl_pure 2 [9, 19, 20, 97, 98] (K' := [(9, .slice A6 y1.1.length c7), (19, .slice A128 y123.1.length c129), (20, .int .i64 y123.2), (97, .slice A6 y1.1.length c7), (98, .slice A3_0 a3.length n3_0)]) (by kernel_rfl) ?_
                  obtain ⟨y132, hx133, hr⟩ := bind_some hr
                  refine gl_call (by kernel_rfl) (labels_Without_walk (r := y132) (hG.mono (Imm.trans (Imm.trans (Imm.trans (Imm.trans (Imm.trans (Imm.trans (Imm.trans (Imm.trans (Imm.trans (Imm.trans hI5 hI30) hJ59) hI66) hI73) hJ84) hI91) hI98) hI109) hI116) hI127)) (hf86.mono (Imm.trans (Imm.trans (Imm.trans (Imm.trans hI91 hI98) hI109) hI116) hI127)) (hf3_0.mono (Imm.trans (Imm.trans (Imm.trans (Imm.trans (Imm.trans (Imm.trans (Imm.trans (Imm.trans (Imm.trans (Imm.trans hI5 hI30) hJ59) hI66) hI73) hJ84) hI91) hI98) hI109) hI116) hI127)) hx133 _) ?_
                  rintro v I134 L135 hI136 ⟨A137, c138, C139, hO140, rfl, rfl⟩
                  refine gl_pure 5 [9, 19, 20, 21, 22] (K' := [(9, .slice A6 y1.1.length c7), (19, .slice A128 y123.1.length c129), (20, .int .i64 y123.2), (21, .slice A137 y132.1.length c138), (22, .int .i64 y132.2)]) (by kernel_rfl) ?_
                  refine gl_atE (by kernel_rfl) ?_
                  refine ge_seq ?_
                  refine gk_seq (by kernel_rfl) ?_
                  refine gk_seq (by kernel_rfl) ?_
                  obtain ⟨b143, hb144⟩ : ∃ z, z = (((y123.2 != 0) || (y132.2 != 0)) || ((IntKind.wrap .i64 ((y123.1.length : Int) + (y132.1.length : Int))) != (y1.1.length : Int))) := ⟨_, rfl⟩
                  refine gk_join (fun t I' L' => I134 ≤ I' ∧ C139 ++ (C130 ++ L) = L' ∧ Knows 138 [(9, .slice A6 y1.1.length c7), (19, .slice A128 y123.1.length c129), (21, .slice A137 y132.1.length c138), (117, .bool b143)] t) ?_ ?_
                  · refine gk_region (by kernel_rfl) ?_
                    refine gl_pure 3 [9, 19, 21, 22, 104] (K' := [(9, .slice A6 y1.1.length c7), (19, .slice A128 y123.1.length c129), (21, .slice A137 y132.1.length c138), (22, .int .i64 y132.2), (104, .bool (y123.2 != 0))]) (by kernel_rfl) ?_
                    refine gl_case 104 (b := (y123.2 != 0)) (by kernel_rfl) (fun hc146 => ?_) (fun hc146 => ?_)
                    · refine gl_pure 13 [9, 19, 21, 117] (K' := [(9, .slice A6 y1.1.length c7), (19, .slice A128 y123.1.length c129), (21, .slice A137 y132.1.length c138), (117, .bool true)]) (by kernel_rfl) ?_
                      refine gl_atE (by kernel_rfl) ?_
                      exact ge_mid fun t ht => ⟨(Imm.refl _), rfl, by rw [(show b143 = true from hb144.trans (by first | (rw [hc146]; done) | (rw [hc146]; rfl) | (simp [hc146]; done) | (simp only [hc146]; rfl) | (simp at *; omega)))]; exact ht.pick (l := [9, 19, 21, 117]) (by kernel_rfl)⟩
                    · refine gl_pure 4 [9, 19, 21, 108] (K' := [(9, .slice A6 y1.1.length c7), (19, .slice A128 y123.1.length c129), (21, .slice A137 y132.1.length c138), (108, .bool (y132.2 != 0))]) (by kernel_rfl) ?_
                      refine gl_case 108 (b := (y132.2 != 0)) (by kernel_rfl) (fun hc147 => ?_) (fun hc147 => ?_)
                      · refine gl_pure 9 [9, 19, 21, 117] (K' := [(9, .slice A6 y1.1.length c7), (19, .slice A128 y123.1.length c129), (21, .slice A137 y132.1.length c138), (117, .bool true)]) (by kernel_rfl) ?_
                        refine gl_atE (by kernel_rfl) ?_
                        exact ge_mid fun t ht => ⟨(Imm.refl _), rfl, by rw [(show b143 = true from hb144.trans (by first | (rw [hc146, hc147]; done) | (rw [hc146, hc147]; rfl) | (simp [hc146, hc147]; done) | (simp only [hc146, hc147]; rfl) | (simp at *; omega)))]; exact ht.pick (l := [9, 19, 21, 117]) (by kernel_rfl)⟩
                      · refine gl_pure 9 [9, 19, 21, 117] (K' := [(9, .slice A6 y1.1.length c7), (19, .slice A128 y123.1.length c129), (21, .slice A137 y132.1.length c138), (117, .bool ((IntKind.wrap .i64 ((y123.1.length : Int) + (y132.1.length : Int))) != (y1.1.length : Int)))]) (by kernel_rfl) ?_
                        refine gl_atE (by kernel_rfl) ?_
                        exact ge_mid fun t ht => ⟨(Imm.refl _), rfl, by rw [(show b143 = ((IntKind.wrap .i64 ((y123.1.length : Int) + (y132.1.length : Int))) != (y1.1.length : Int)) from hb144.trans (by first | (rw [hc146, hc147]; done) | (rw [hc146, hc147]; rfl) | (simp [hc146, hc147]; done) | (simp only [hc146, hc147]; rfl) | (simp at *; omega)))]; exact ht.pick (l := [9, 19, 21, 117]) (by kernel_rfl)⟩
                  · rintro t I145 L' ⟨hI141, rfl, hK142⟩
                    subst hb144
                    refine ge_at hK142 ?_
                    refine ge_seq ?_
                    refine gk_cond (b := (((y123.2 != 0) || (y132.2 != 0)) || ((IntKind.wrap .i64 ((y123.1.length : Int) + (y132.1.length : Int))) != (y1.1.length : Int)))) (by kernel_rfl) (by kernel_rfl) (fun hc148 => ?_) (fun hc148 => ?_)
                    · have hr := cond_t hc148 hr
                      refine gk_seq (by kernel_rfl) ?_
                      refine gk_region (by kernel_rfl) ?_
                      refine gl_pure 1 [8] (K' := [(8, .bool false)]) (by kernel_rfl) ?_
                      refine gl_atE (by kernel_rfl) ?_
                      refine ge_seq ?_
                      refine gk_reord (D := L) (Reord.skipC (Reord.skipC (Reord.refl _))) ?_
                      refine gk_ret (by kernel_rfl) ?_
                      refine ge_seq_ret ?_
                      obtain rfl := some_inj hr
                      exact ge_result trivial (ResOk.tmp (by kernel_rfl) ResOk.nil) (Imm.trans (Imm.trans (Imm.trans (Imm.trans (Imm.trans (Imm.trans (Imm.trans (Imm.trans (Imm.trans (Imm.trans (Imm.trans (Imm.trans hI5 hI30) hJ59) hI66) hI73) hJ84) hI91) hI98) hI109) hI116) hI127) hI136) hI141) ⟨rfl, rfl⟩
                    · have hr := cond_f hc148 hr
                      refine gk_skip (by kernel_rfl) ?_
                      refine ge_seq ?_
                      refine gk_seq (by kernel_rfl) ?_
                      refine gk_seq (by kernel_rfl) ?_
                      refine gk_region (by kernel_rfl) ?_
                      refine gl_pure 3 [19, 21, 118, 119, 120] (K' := [(19, .slice A128 y123.1.length c129), (21, .slice A137 y132.1.length c138), (118, .slice A6 y1.1.length c7), (119, .int .i64 (y1.1.length : Int)), (120, .int .i64 0)]) (by kernel_rfl) ?_
                      refine gl_atE (by kernel_rfl) ?_
                      refine ge_seq ?_
                      obtain ⟨r153, hl154, hr⟩ := bind_some hr
                      refine gk_join (fun t I' L' => ∃ r161, r153 = Sum.inl r161 ∧ I145 ≤ I' ∧ L = L' ∧ Knows 138 [] t) ?_ ?_
                      · refine gk_block (by kernel_rfl) ?_
                        refine gk_pick [19, 21, 118, 119, 120] (K' := [(19, .slice A128 y123.1.length c129), (21, .slice A137 y132.1.length c138), (118, .slice A6 y1.1.length c7), (119, .int .i64 (y1.1.length : Int)), (120, .int .i64 0)]) (by kernel_rfl) ?_
                        intro t hK
                        refine gc_loop (tocsinlaw04_LabelsAlgebra_l165 y1 y123 y132) (fun s155 t I' L' => I145 ≤ I' ∧ C139 ++ (C130 ++ L) = L' ∧ Knows 138 [(19, .slice A128 y123.1.length c129), (21, .slice A137 y132.1.length c138), (118, .slice A6 y1.1.length c7), (119, .int .i64 (y1.1.length : Int)), (120, .int .i64 s155)] t) (by kernel_rfl) ?_ hl154 ⟨(Imm.refl _), rfl, hK⟩
                        rintro s155 o156 t I160 L' hb157 ⟨hI158, rfl, hK159⟩
                        unfold tocsinlaw04_LabelsAlgebra_l165 at hb157
                        refine gk_at hK159 ?_
                        refine gk_seq (by kernel_rfl) ?_
                        refine gk_region (by kernel_rfl) ?_
                        refine gl_pure 1 [19, 21, 118, 119, 120, 121] (K' := [(19, .slice A128 y123.1.length c129), (21, .slice A137 y132.1.length c138), (118, .slice A6 y1.1.length c7), (119, .int .i64 (y1.1.length : Int)), (120, .int .i64 s155), (121, .bool (decide (s155 < (y1.1.length : Int))))]) (by kernel_rfl) ?_
                        refine gl_atE (by kernel_rfl) ?_
                        refine ge_seq ?_
                        refine gk_seq (by kernel_rfl) ?_
                        refine gk_cond (b := (decide (s155 < (y1.1.length : Int)))) (by kernel_rfl) (by kernel_rfl) (fun hc167 => ?_) (fun hc167 => ?_)
                        · have hb157 := cond_t hc167 hb157
                          refine gk_skip (by kernel_rfl) ?_
                          refine ge_seq ?_
                          refine gk_seq (by kernel_rfl) ?_
                          refine gk_block (by kernel_rfl) ?_
                          refine gk_seq (by kernel_rfl) ?_
                          refine gk_region (by kernel_rfl) ?_
                          obtain ⟨x168, hx169, hb157⟩ := bind_some hb157
                          obtain ⟨p170, cs171, hR172, hA173, ha174⟩ := RepS.ixAt hx169 (hf86.mono (Imm.trans (Imm.trans (Imm.trans (Imm.trans (Imm.trans (Imm.trans (Imm.trans hI91 hI98) hI109) hI116) hI127) hI136) hI141) hI158))
                          have hi175 := ix_some hx169
                          obtain rfl := kS49_open hR172
                          refine gl_indexAddrF (c := c7) (T' := 22) (e := 50) (xs := (.tmp 118)) (xi := (.tmp 120)) (kd := .i64) ha174 hi175.1 hi175.2.1 (by kernel_rfl) (by kernel_rfl) (by kernel_rfl) (by kernel_rfl) (by kernel_rfl) ?_
                          refine gl_loadA (T' := 50) (xp := (.tmp 122)) (p := p170) (cs := [.string x168.f0, .string x168.f1]) (by kernel_rfl) (by kernel_rfl) (by kernel_rfl) (by kernel_rfl) (hA173.take 2) ?_
                          refine gl_alloc (T' := 50) (cs := #[.string (⟨#[]⟩ : ByteArray), .string (⟨#[]⟩ : ByteArray)]) (by kernel_rfl) (by kernel_rfl) (by kernel_rfl) (fun g176 => ?_)
                          refine gl_storeB (T' := 50) (xp := (.tmp 24)) (xv := (.tmp 123)) (v := .agg #[.string x168.f0, .string x168.f1]) (g := g176) (off := 0) (cs := #[.string (⟨#[]⟩ : ByteArray), .string (⟨#[]⟩ : ByteArray)]) (cs' := #[.string x168.f0, .string x168.f1]) (by kernel_rfl) (by kernel_rfl) (by kernel_rfl) (by kernel_rfl) (by kernel_rfl) (Upd.set _ _ _ _) ?_ (by kernel_rfl)
                          refine gl_atE (by kernel_rfl) ?_
                          refine ge_seq ?_
                          refine gk_seq (by kernel_rfl) ?_
                          refine gk_draw 12 [(0, true), (1, true), (2, true), (4, true), (5, true), (6, true), (9, true), (10, true), (3, false), (7, false), (8, true), (11, true)] [(g176, .cells #[.string x168.f0, .string x168.f1] 50)] (List.forall_mem_cons.2 ⟨List.mem_cons_self, (fun p hp => by cases hp)⟩) (by kernel_rfl) (by kernel_rfl) (by kernel_rfl) ?_ (by kernel_rfl)
                          refine gd_pure 2 [19, 21, 24, 118, 119, 120, 124, 125] (K' := [(19, .slice A128 y123.1.length c129), (21, .slice A137 y132.1.length c138), (24, .pointer (some ⟨g176, 0, none⟩)), (118, .slice A6 y1.1.length c7), (119, .int .i64 (y1.1.length : Int)), (120, .int .i64 s155), (124, .slice A128 y123.1.length c129), (125, .pointer (some ⟨g176, 0, none⟩))]) (s' := [(2, true), (4, true), (5, true), (6, true), (9, true), (10, true), (3, false), (7, false), (8, true), (11, true)]) (CC.refl (List.forall_mem_cons.2 ⟨List.mem_cons_self, (fun p hp => by cases hp)⟩)) (by kernel_rfl) ?_
                          refine gd_q (v := .string x168.f0) (by kernel_rfl) (by kernel_rfl) (CC.refl (List.forall_mem_cons.2 ⟨List.mem_cons_self, (fun p hp => by cases hp)⟩)) (fun I' L' T hC kk => gl_loadB (T' := 9) (xp := (.tmp 125)) (v := .string x168.f0) (g := g176) (off := 0) (cs := #[.string x168.f0, .string x168.f1]) (e := 50) (fz := (0, 0)) (by kernel_rfl) (by kernel_rfl) (by kernel_rfl) (hC.sub _ List.mem_cons_self) (by kernel_rfl) kk) ?_
                          refine gd_pure 2 [19, 21, 24, 118, 119, 120, 124, 126, 128, 129] (K' := [(19, .slice A128 y123.1.length c129), (21, .slice A137 y132.1.length c138), (24, .pointer (some ⟨g176, 0, none⟩)), (118, .slice A6 y1.1.length c7), (119, .int .i64 (y1.1.length : Int)), (120, .int .i64 s155), (124, .slice A128 y123.1.length c129), (126, .string x168.f0), (128, .slice A137 y132.1.length c138), (129, .pointer (some ⟨g176, 0, none⟩))]) (s' := [(6, true), (9, true), (10, true), (3, false), (7, false), (8, true), (11, true)]) (CC.refl (List.forall_mem_cons.2 ⟨List.mem_cons_self, (fun p hp => by cases hp)⟩)) (by kernel_rfl) ?_
                          refine gd_q (v := .string x168.f0) (by kernel_rfl) (by kernel_rfl) (CC.refl (List.forall_mem_cons.2 ⟨List.mem_cons_self, (fun p hp => by cases hp)⟩)) (fun I' L' T hC kk => gl_loadB (T' := 9) (xp := (.tmp 129)) (v := .string x168.f0) (g := g176) (off := 0) (cs := #[.string x168.f0, .string x168.f1]) (e := 50) (fz := (0, 0)) (by kernel_rfl) (by kernel_rfl) (by kernel_rfl) (hC.sub _ List.mem_cons_self) (by kernel_rfl) kk) ?_
                          refine gd_pure 1 [19, 21, 118, 119, 120, 124, 126, 128, 130, 133] (K' := [(19, .slice A128 y123.1.length c129), (21, .slice A137 y132.1.length c138), (118, .slice A6 y1.1.length c7), (119, .int .i64 (y1.1.length : Int)), (120, .int .i64 s155), (124, .slice A128 y123.1.length c129), (126, .string x168.f0), (128, .slice A137 y132.1.length c138), (130, .string x168.f0), (133, .pointer (some ⟨g176, 1, none⟩))]) (s' := [(10, true), (3, false), (7, false), (8, true), (11, true)]) (CC.refl (List.forall_mem_cons.2 ⟨List.mem_cons_self, (fun p hp => by cases hp)⟩)) (by kernel_rfl) ?_
                          refine gd_q (v := .string x168.f1) (by kernel_rfl) (by kernel_rfl) (CC.refl (List.forall_mem_cons.2 ⟨List.mem_cons_self, (fun p hp => by cases hp)⟩)) (fun I' L' T hC kk => gl_loadB (T' := 9) (xp := (.tmp 133)) (v := .string x168.f1) (g := g176) (off := 1) (cs := #[.string x168.f0, .string x168.f1]) (e := 50) (fz := (0, 0)) (by kernel_rfl) (by kernel_rfl) (by kernel_rfl) (hC.sub _ List.mem_cons_self) (by kernel_rfl) kk) ?_
                          refine gd_one (by kernel_rfl) ?_
                          obtain ⟨y177, hx178, hb157⟩ := bind_some hb157
                          refine gl_callB (r := .string y177) (Tk.step (Upd.one _ (Upd.app _ (Upd.rmC _ _))) (Tk.nil _)) (by kernel_rfl) (fun J hJ hC => labels_Get_walk (r := y177) (OwnS.rest (hO131.mono (Imm.trans (Imm.trans hI136 hI141) hI158)) hJ hC.left) hx178 _) ?_
                          refine gl_toD (by kernel_rfl) ⟨(Imm.refl _), (List.forall_mem_cons.2 ⟨List.mem_cons_self, (fun p hp => by cases hp)⟩)⟩ ?_
                          refine gd_one (by kernel_rfl) ?_
                          obtain ⟨y179, hx180, hb157⟩ := bind_some hb157
                          refine gl_callB (r := .string y179) (Tk.step (Upd.one _ (Upd.rmC _ _)) (Tk.nil _)) (by kernel_rfl) (fun J hJ hC => labels_Get_walk (r := y179) (OwnS.rest (hO140.mono (Imm.trans hI141 hI158)) hJ hC.left) hx180 _) ?_
                          refine gl_toD (by kernel_rfl) ⟨(Imm.refl _), (List.forall_mem_cons.2 ⟨List.mem_cons_self, (fun p hp => by cases hp)⟩)⟩ ?_
                          obtain ⟨s181, hx182, hb157⟩ := bind_some hb157
                          refine gd_q (v := .string s181) (by kernel_rfl) (by kernel_rfl) (CC.refl (List.forall_mem_cons.2 ⟨List.mem_cons_self, (fun p hp => by cases hp)⟩)) (fun I' L' T hC kk => gl_sadd (t := 9) (t' := 9) (x := (.tmp 127)) (y := (.tmp 131)) hx182 (by kernel_rfl) (by kernel_rfl) (by kernel_rfl) (by kernel_rfl) kk) ?_
                          refine gd_pure 1 [19, 21, 118, 119, 120, 135] (K' := [(19, .slice A128 y123.1.length c129), (21, .slice A137 y132.1.length c138), (118, .slice A6 y1.1.length c7), (119, .int .i64 (y1.1.length : Int)), (120, .int .i64 s155), (135, .bool (!(s181.toList == x168.f1.toList)))]) (s' := []) (CC.refl (List.forall_mem_cons.2 ⟨List.mem_cons_self, (fun p hp => by cases hp)⟩)) (by kernel_rfl) ?_
                          refine gd_done ?_
                          refine gl_atE (by kernel_rfl) ?_
                          refine ge_seq ?_
                          refine gk_cond (b := (!(s181.toList == x168.f1.toList))) (by kernel_rfl) (by kernel_rfl) (fun hc183 => ?_) (fun hc183 => ?_)
                          · have hb157 := cond_t hc183 hb157
                            refine gk_seq (by kernel_rfl) ?_
                            refine gk_region (by kernel_rfl) ?_
                            refine gl_pure 1 [8] (K' := [(8, .bool false)]) (by kernel_rfl) ?_
                            refine gl_atE (by kernel_rfl) ?_
                            refine ge_seq ?_
                            refine gk_reord (D := L) (Reord.skip (Reord.skipC (Reord.skipC (Reord.refl _)))) ?_
                            refine gk_ret (by kernel_rfl) ?_
                            refine ge_block_ret ?_
                            refine ge_seq_ret ?_
                            obtain rfl := some_inj hb157
                            refine ge_round_out (fun hrr => ?_) (by intro h; cases h)
                            obtain rfl := hrr
                            refine ge_block_ret ?_
                            refine ge_seq_ret ?_
                            refine ge_seq_ret ?_
                            obtain rfl := some_inj hr
                            exact ge_result trivial (ResOk.tmp (by kernel_rfl) ResOk.nil) (Imm.trans (Imm.trans (Imm.trans (Imm.trans (Imm.trans (Imm.trans (Imm.trans (Imm.trans (Imm.trans (Imm.trans (Imm.trans (Imm.trans (Imm.trans hI5 hI30) hJ59) hI66) hI73) hJ84) hI91) hI98) hI109) hI116) hI127) hI136) hI141) hI158) ⟨rfl, rfl⟩
                          · have hb157 := cond_f hc183 hb157
                            refine gk_skip (by kernel_rfl) ?_
                            refine ge_block_normal ?_
                            refine ge_seq ?_
                            refine gk_region (by kernel_rfl) ?_
                            refine gl_pure 2 [19, 21, 118, 119, 120] (K' := [(19, .slice A128 y123.1.length c129), (21, .slice A137 y132.1.length c138), (118, .slice A6 y1.1.length c7), (119, .int .i64 (y1.1.length : Int)), (120, .int .i64 (IntKind.wrap .i64 (s155 + 1)))]) (by kernel_rfl) ?_
                            refine gl_reord (D := C139 ++ (C130 ++ L)) (Reord.step (Upd.one _ (Upd.rmC _ _)) (Reord.step (Upd.one _ (Upd.rmC _ _)) (Reord.skip (Reord.refl _)))) ?_
                            refine gl_atE (by kernel_rfl) ?_
                            obtain rfl := some_inj hb157
                            exact ge_round fun t ht => ⟨hI158, rfl, ht.pick (l := [19, 21, 118, 119, 120]) (by kernel_rfl)⟩
                        · have hb157 := cond_f hc167 hb157
                          refine gk_reord (D := L) (Reord.skipC (Reord.skipC (Reord.refl _))) ?_
                          refine gk_exit (by kernel_rfl) ?_
                          refine ge_seq_exit ?_
                          obtain rfl := some_inj hb157
                          refine ge_round_out (fun hrr => ?_) (by intro h; cases h)
                          obtain rfl := hrr
                          refine ge_block_hit (by kernel_rfl) ?_
                          exact ge_mid fun t ht => ⟨_, rfl, hI158, rfl, ht.pick (l := []) (by kernel_rfl)⟩
                      · rintro t I164 L' ⟨r161, rfl, hI162, rfl, hK163⟩
                        refine ge_at hK163 ?_
                        refine ge_seq ?_
                        refine gk_seq (by kernel_rfl) ?_
                        refine gk_region (by kernel_rfl) ?_
                        obtain ⟨y184, hx185, hr⟩ := bind_some hr
                        refine gl_callQ (by kernel_rfl) (tocsinlaw04_awake_walk (r := y184) (hG.mono (Imm.trans (Imm.trans (Imm.trans (Imm.trans (Imm.trans (Imm.trans (Imm.trans (Imm.trans (Imm.trans (Imm.trans (Imm.trans (Imm.trans (Imm.trans hI5 hI30) hJ59) hI66) hI73) hJ84) hI91) hI98) hI109) hI116) hI127) hI136) hI141) hI162)) hx185 _) ?_
                        refine gl_pure 1 [8] (K' := [(8, .bool y184)]) (by kernel_rfl) ?_
                        refine gl_atE (by kernel_rfl) ?_
                        refine ge_seq ?_
                        refine gk_ret (by kernel_rfl) ?_
                        obtain rfl := some_inj hr
                        exact ge_result trivial (ResOk.tmp (by kernel_rfl) ResOk.nil) (Imm.trans (Imm.trans (Imm.trans (Imm.trans (Imm.trans (Imm.trans (Imm.trans (Imm.trans (Imm.trans (Imm.trans (Imm.trans (Imm.trans (Imm.trans hI5 hI30) hJ59) hI66) hI73) hJ84) hI91) hI98) hI109) hI116) hI127) hI136) hI141) hI162) ⟨rfl, rfl⟩
end Go.Proofs.YtnlkfajnaelnnaaGreatDoor

/- From data that are read to what the walks ask: rows. -/
set_option linter.unusedVariables false
namespace Go.GB
open Go Go.RowKit
open Go.Proofs.YtnlkfajnaelnnaaGreatDoor.Rows (uptoBulk uptoBulkAll)

def immOf (W : World) : Imm := ⟨fun b => W.heap[b]?, W.os, W.tape, W.output, 0⟩
theorem holds_immOf (W : World) : Holds (immOf W) [] W := ⟨fun _ _ h => h, by simp, by simp, by simp, rfl, rfl, rfl, Nat.zero_le _⟩
theorem below_of {I' : Imm} {L' : Own} {W W' : World} (h : Holds I' L' W') (hI : immOf W ≤ I') : Below W.heap.size W W' := by
  refine ⟨by rw [h.os, hI.os]; rfl, by rw [h.tape, hI.tape]; rfl, by rw [h.out, hI.out]; rfl, ?_, fun k hk => ?_⟩
  · rcases Nat.eq_zero_or_pos W.heap.size with h0 | h0
    · omega
    · have : W.heap[W.heap.size - 1]? = some (W.heap[W.heap.size - 1]'(by omega)) := Array.getElem?_eq_getElem _
      have := lt_of_heap (h.imm _ _ (hI.h _ _ this))
      omega
  · have : W.heap[k]? = some (W.heap[k]) := Array.getElem?_eq_getElem hk
    rw [this]; exact h.imm _ _ (hI.h _ _ this)
theorem imm_cell {W : World} {a : Addr} {v : Value} (h : W.cell? a = some v) : (immOf W).cell a = some v := h
theorem run_of_cells {W : World} {a : Addr} {n : Nat} {cs : List Value} (h : W.cells? 0 a n = some cs) : RunAt (immOf W) a cs := fun j v hj => by
  unfold World.cells? at h
  rw [if_pos (Nat.zero_le _)] at h
  have hl := mapM_some_length h
  have hj' : j < n := by have := (List.getElem?_eq_some_iff.1 hj).1; simpa [hl] using this
  have := mapM_some_get h j j (by simp [hj'])
  exact imm_cell (this.trans hj)

def Reads {α : Type} (P : Program) (T : TypeId) (d : Kd α) (w : α → Nat → Prop) : Prop := ∀ {H : Type} {enc : TypeId × Value → H} {W : World} {spare : Nat → Bool} {held : Bool} {fuel : Nat} {cs : List Value} {x : DataW H × List MemPlace},
  DataW.trod enc P W 0 spare held fuel T cs = some x → uptoBulk x.1 ≤ 1048576 → ∃ y, d.R (immOf W) y cs ∧ w y (uptoBulk x.1)
theorem reads_str {P : Program} {T : TypeId} (h : P.underlying T = some .string) : Reads P T Kd.str wStr := fun ht _ => by
  obtain ⟨n, rfl, rfl, _⟩ := DataW.trod_string h ht
  exact ⟨n, rfl, by simp [uptoBulk, wStr]⟩
theorem bulk_pos {H : Type} (d : DataW H) : 1 ≤ uptoBulk d := by
  cases d with
  | lit l => cases l <;> simp [uptoBulk]
  | _ => simp [uptoBulk]
theorem bulkAll_ge {H : Type} : ∀ (l : List (DataW H)), l.length ≤ uptoBulkAll l
  | [] => by simp
  | d :: r => by have := bulk_pos d; have := bulkAll_ge r; simp only [uptoBulkAll, List.length_cons]; omega
theorem bulkAll_mem {H : Type} {d : DataW H} : ∀ {l : List (DataW H)}, d ∈ l → uptoBulk d ≤ uptoBulkAll l
  | [], h => by cases h
  | e :: r, h => by
    simp only [uptoBulkAll]
    rcases List.mem_cons.1 h with rfl | h
    · omega
    · have := bulkAll_mem h; omega
theorem choose_list {α : Type} {p : Nat → α → Prop} : ∀ (n : Nat), (∀ i, i < n → ∃ y, p i y) → ∃ xs : List α, xs.length = n ∧ ∀ i x, xs[i]? = some x → p i x
  | 0, _ => ⟨[], rfl, fun i x h => by simp at h⟩
  | m + 1, key => by
    obtain ⟨xs, hxl, hx⟩ := choose_list m (fun i hi => key i (by omega))
    obtain ⟨y, hy⟩ := key m (by omega)
    refine ⟨xs ++ [y], by simp [hxl], fun i x h => ?_⟩
    rcases Nat.lt_or_ge i m with hi | hi
    · rw [List.getElem?_append_left (by omega)] at h; exact hx i x h
    · rw [List.getElem?_append_right (by omega), hxl] at h
      have hi0 : i - m = 0 := by have := (List.getElem?_eq_some_iff.1 h).1; simpa using this
      rw [hi0] at h
      simp only [List.getElem?_cons_zero, Option.some.injEq] at h
      subst h
      rw [show i = m from by omega]
      exact hy
theorem wSl_of {α H : Type} {w : α → Nat → Prop} : ∀ (xs : List α) (es : List (DataW H)), xs.length = es.length → (∀ (i : Nat) (x : α) (e : DataW H), xs[i]? = some x → es[i]? = some e → w x (uptoBulk e)) → wSl w xs (uptoBulkAll es)
  | [], _, _, _ => trivial
  | x :: r, [], h, _ => by simp at h
  | x :: r, e :: es, h, hw => ⟨uptoBulk e, uptoBulkAll es, hw 0 x e rfl rfl, wSl_of r es (by simpa using h) (fun i x' e' h1 h2 => hw (i + 1) x' e' (by simpa using h1) (by simpa using h2)), by simp [uptoBulkAll], bulk_pos e⟩
theorem reads_slice {α : Type} {P : Program} {T e : TypeId} {d : Kd α} {w : α → Nat → Prop} (hu : P.underlying T = some (.slice e)) (hn : P.cellsOf e = d.n) (hr : Reads P e d w) : Reads P T (Kd.sl d) (wSl w) := by
  intro H enc W spare held fuel cs x ht hb
  rcases DataW.trod_slice hu ht with ⟨rfl, rfl⟩ | ⟨a, len, cap, elems, rest, n, rfl, rfl, rfl, _, hlc, hcm, hel, hat, _, _⟩
  · exact ⟨[], ⟨none, 0, rfl, RepS.nil _ _⟩, trivial⟩
  · simp only [uptoBulk] at hb
    have hlen := bulkAll_ge (elems.map (·.1))
    rw [List.length_map, hel] at hlen
    have key : ∀ i, i < len → ∃ y, (∃ cs', d.R (immOf W) y cs' ∧ RunAt (immOf W) (a.add (i * d.n)) cs') ∧ ∀ e, (elems.map (·.1))[i]? = some e → w y (uptoBulk e) := fun i hi => by
      have h1 := hat i hi
      have hie : i < elems.length := by omega
      rw [List.getElem?_eq_getElem hie] at h1
      simp only [Option.bind_eq_some_iff] at h1
      obtain ⟨cs', h2, h3⟩ := h1
      obtain ⟨y, hy, hw⟩ := hr h3 (by
        have := bulkAll_mem (l := elems.map (·.1)) (List.mem_map_of_mem (List.getElem_mem hie))
        omega)
      refine ⟨y, ⟨cs', hy, ?_⟩, fun e he => ?_⟩
      · rw [← hn]
        exact run_of_cells h2
      · rw [List.getElem?_map, List.getElem?_eq_getElem hie] at he
        cases he; exact hw
    have hex := choose_list (p := fun i y => (∃ cs', d.R (immOf W) y cs' ∧ RunAt (immOf W) (a.add (i * d.n)) cs') ∧ ∀ e, (elems.map (·.1))[i]? = some e → w y (uptoBulk e)) len key
    obtain ⟨xs, hxl, hx⟩ := hex
    refine ⟨xs, ⟨some a, cap, by rw [hxl], by omega, by unfold maxLen'; omega, fun i x h => ?_⟩, ?_⟩
    · obtain ⟨⟨cs', h1, h2⟩, _⟩ := hx i x h
      exact ⟨a, cs', rfl, h1, h2⟩
    · exact (wSl_of xs (elems.map (·.1)) (by simp [hxl, hel]) (fun i x e h1 h2 => (hx i x h1).2 e h2)).le (by simp only [uptoBulk]; omega)
theorem pairR {α β : Type} {a : Kd α} {b : Kd β} {I : Imm} {x : α} {y : β} {cs : List Value} {o n m : Nat} (h0 : a.R I x ((cs.drop o).take n)) (h1 : b.R I y (cs.drop m)) (hm : m = o + n) : (Kd.pair a b).R I (x, y) (cs.drop o) := by
  subst hm
  exact ⟨(cs.drop o).take n, (cs.drop o).drop n, (List.take_append_drop _ _).symm, h0, by rw [List.drop_drop]; exact h1⟩
theorem lastR {α : Type} {a : Kd α} {I : Imm} {x : α} {cs : List Value} {o n : Nat} (h : a.R I x ((cs.drop o).take n)) (hl : cs.length = o + n) : a.R I x (cs.drop o) := by
  rwa [List.take_of_length_le (by rw [List.length_drop]; omega)] at h
def fieldD (P : Program) (T : TypeId) (i : Nat) : Field := (P.fieldsOf T).getD i default
/-- A field of a struct that is read. -/
theorem field_read {α : Type} {H : Type} {enc : TypeId × Value → H} {P : Program} {W : World} {spare : Nat → Bool} {held : Bool} {m : Nat} {T t : TypeId} {d : Kd α} {w : α → Nat → Prop} {cs : List Value} {xs : List (DataW H × List MemPlace)} {x : DataW H × List MemPlace} {i o n : Nat}
    (hf : ∀ (i : Nat) (f : Field), (P.fieldsOf T)[i]? = some f → DataW.trod enc P W 0 spare held m f.type ((cs.drop f.offset).take (P.cellsOf f.type)) = xs[i]?)
    (hx : xs[i]? = some x) (h1 : (P.fieldsOf T)[i]? = some (fieldD P T i)) (h2 : (fieldD P T i).type = t) (h3 : (fieldD P T i).offset = o) (h4 : P.cellsOf t = n) (hr : Reads P t d w) (hb : uptoBulk x.1 ≤ 1048576) : ∃ y, d.R (immOf W) y ((cs.drop o).take n) ∧ w y (uptoBulk x.1) := by
  have := hf i _ h1
  rw [hx, h2, h3, h4] at this
  exact hr this hb
theorem calls_of {P : Program} {f : FuncId} {args : Array Value} {W : World} {b : Value} (h : CallsTo P f args (immOf W) [] (fun v I' L' => v = b ∧ [] = L')) : Calls P f args W fun e W' => e = .returned b ∧ Below W.heap.size W W' :=
  (h W (holds_immOf W)).mono fun e W' ⟨v, I', L', he, hI, hh, hv, _⟩ => ⟨by rw [he, hv], below_of hh hI⟩
end Go.GB

/- Functions that can be run out: twins with a bound on rounds. -/
set_option linter.unusedVariables false
namespace Go.GB
def loopF {σ ρ : Type} : Nat → (σ → Option (σ ⊕ ρ)) → σ → Option ρ
  | 0, _, _ => none
  | n + 1, body, s => match body s with
    | none => none
    | some (.inr r) => some r
    | some (.inl s') => loopF n body s'
def OLe {α : Type} (x y : Option α) : Prop := ∀ r, x = some r → y = some r
theorem OLe.refl {α : Type} (x : Option α) : OLe x x := fun _ h => h
theorem OLe.bind {α β : Type} {x y : Option α} {f g : α → Option β} (h : OLe x y) (hf : ∀ a, OLe (f a) (g a)) : OLe (Option.bind x f) (Option.bind y g) := fun r hr => by
  obtain ⟨a, ha, hb⟩ := bind_some hr
  rw [h a ha]; exact hf a r hb
theorem OLe.cond {α : Type} {b : Bool} {x y x' y' : Option α} (h : OLe x x') (h' : OLe y y') : OLe (bif b then x else y) (bif b then x' else y') := by
  cases b
  · exact h'
  · exact h
theorem loopF_R {σ ρ : Type} {body body' : σ → Option (σ ⊕ ρ)} (h : ∀ s, OLe (body s) (body' s)) : ∀ (n : Nat) (s : σ) (r : ρ), loopF n body s = some r → LoopR body' s r
  | 0, _, _, hr => by cases hr
  | n + 1, s, r, hr => by
    unfold loopF at hr
    cases hb : body s with
    | none => rw [hb] at hr; cases hr
    | some o =>
      rw [hb] at hr
      cases o with
      | inl s' => exact .step (h s _ hb) (loopF_R h n s' r hr)
      | inr r' => cases hr; exact .done (h s _ hb)
theorem OLe.loop {σ ρ : Type} {body body' : σ → Option (σ ⊕ ρ)} {n : Nat} {s : σ} (h : ∀ s, OLe (body s) (body' s)) : OLe (loopF n body s) (loopO body' s) := fun r hr => loopO_of (loopF_R h n s r hr)

/-! ### Loops that go up -/
end Go.GB

/- What plain functions come to: a calculus for 'it answers, and its answer is ..'. -/
set_option linter.unusedVariables false
namespace Go.GB
theorem wrap_up {i : Nat} (h : i < 4294967296) : IntKind.wrap .i64 ((i : Int) + 1) = ((i + 1 : Nat) : Int) := by rw [wrap64 (by omega) (by omega)]; omega
theorem ix_nat {α : Type} (xs : List α) (i : Nat) : ix xs (i : Int) = xs[i]? := by simp [ix]
theorem size_zero_iff {s : ByteArray} : (s.toList == (⟨#[]⟩ : ByteArray).toList) = decide (s.size = 0) := by
  rw [ByteArray.toList_eq, ByteArray.toList_eq]
  obtain ⟨⟨l⟩⟩ := s
  cases l <;> rfl
theorem toList_inj {a b : ByteArray} : (a.toList == b.toList) = true ↔ a = b := by
  rw [ByteArray.toList_eq, ByteArray.toList_eq]
  obtain ⟨⟨x⟩⟩ := a
  obtain ⟨⟨y⟩⟩ := b
  simp
end Go.GB

/- Plain laws, base: loops that are alike; searches; words of bits. -/
set_option linter.unusedVariables false
namespace Go.GB
/-- One round. -/
theorem loopO_step {σ ρ : Type} {b : σ → Option (σ ⊕ ρ)} {s s' : σ} (h : b s = some (.inl s')) : loopO b s = loopO b s' := by rw [loopO_eq, h]; rfl
theorem loopO_done {σ ρ : Type} {b : σ → Option (σ ⊕ ρ)} {s : σ} {r : ρ} (h : b s = some (.inr r)) : loopO b s = some r := by rw [loopO_eq, h]; rfl
/-- A search that goes up: the first place at which there is something to tell. -/
theorem up_find {ρ : Type} {body : Int → Option (Int ⊕ (Unit ⊕ ρ))} {n : Nat} (p : Nat → Option ρ) (h : ∀ i : Nat, i < n → body i = some (match p i with | some r => .inr (.inr r) | none => .inl ((i + 1 : Nat) : Int))) (he : body n = some (.inr (.inl ()))) :
    loopO body 0 = some (match (List.range n).findSome? p with | some r => .inr r | none => .inl ()) := by
  have key : ∀ d i : Nat, i + d = n → loopO body i = some (match (List.range' i d).findSome? p with | some r => .inr r | none => .inl ()) := by
    intro d
    induction d with
    | zero =>
      intro i hi
      have : i = n := by omega
      subst this
      simp [loopO_done he]
    | succ d ih =>
      intro i hi
      have h1 := h i (by omega)
      rw [List.range'_succ, List.findSome?_cons]
      cases hp : p i with
      | some r => rw [hp] at h1; rw [loopO_done h1]
      | none => rw [hp] at h1; rw [loopO_step h1]; exact ih (i + 1) (by omega)
  have := key n 0 (by omega)
  rw [List.range_eq_range']
  exact this
/-- All of a list, by a loop that goes up. -/
theorem up_all {body : Int → Option (Int ⊕ (Unit ⊕ Bool))} {n : Nat} (q : Nat → Bool) (h : ∀ i : Nat, i < n → body i = some (bif q i then .inl ((i + 1 : Nat) : Int) else .inr (.inr false))) (he : body n = some (.inr (.inl ()))) :
    loopO body 0 = some (if (List.range n).all q then .inl () else .inr false) := by
  rw [up_find (fun i => if q i then none else some false) (fun i hi => by rw [h i hi]; cases q i <;> rfl) he]
  congr 1
  by_cases ha : (List.range n).all q = true
  · rw [if_pos ha]
    have : (List.range n).findSome? (fun i => if q i then none else some false) = none := by
      rw [List.findSome?_eq_none_iff]
      intro i hi
      rw [if_pos (List.all_eq_true.1 ha i hi)]
    rw [this]
  · rw [if_neg ha]
    have hx : (List.range n).all q = false := by simpa using ha
    rw [List.all_eq_false] at hx
    obtain ⟨i, hi, hq⟩ := hx
    cases hf : (List.range n).findSome? (fun i => if q i then none else some false) with
    | none =>
      rw [List.findSome?_eq_none_iff] at hf
      have := hf i hi
      rw [if_neg hq] at this; cases this
    | some b =>
      obtain ⟨j, _, hj⟩ := List.exists_of_findSome?_eq_some hf
      split at hj <;> cases hj
      rfl
theorem wrapU64 {x : Int} (h : 0 ≤ x) (h' : x < 18446744073709551616) : IntKind.wrap .u64 x = x := by
  unfold IntKind.wrap
  simp [IntKind.bits, IntKind.signed]
  omega
theorem and63 : ∀ c : Fin 256, bitAnd .u8 ((c.val : Nat) : Int) 63 = ((c.val % 64 : Nat) : Int) := by decide +kernel
theorem and192 : ∀ c : Fin 256, (bitAnd .u8 ((c.val : Nat) : Int) 192 != 128) = !(decide (c.val / 64 = 2)) := by decide +kernel
theorem and31 : ∀ c : Fin 256, bitAnd .i64 ((c.val : Nat) : Int) 31 = ((c.val % 32 : Nat) : Int) := by decide +kernel
theorem and15 : ∀ c : Fin 256, bitAnd .i64 ((c.val : Nat) : Int) 15 = ((c.val % 16 : Nat) : Int) := by decide +kernel
theorem and7 : ∀ c : Fin 256, bitAnd .i64 ((c.val : Nat) : Int) 7 = ((c.val % 8 : Nat) : Int) := by decide +kernel
theorem bx_at {s : ByteArray} {i : Nat} (h : i < s.size) : bx s (i : Int) = some (((s.data.toList.getD i 0).toNat : Nat) : Int) := by
  unfold bx
  rw [if_pos ⟨by omega, by omega⟩]
  unfold byteAt
  rw [Int.toNat_natCast]
  simp [List.getD_eq_getElem?_getD]
theorem size_list (s : ByteArray) : s.data.toList.length = s.size := by rw [Array.length_toList]; rfl
theorem nil_size (s : ByteArray) : (s.toList == (⟨#[]⟩ : ByteArray).toList) = decide (s.size = 0) := size_zero_iff
end Go.GB

/- Plain laws: the document's Utf8 is the library's. -/
set_option linter.unusedVariables false
set_option maxRecDepth 100000
namespace Go.Proofs.YtnlkfajnaelnnaaGreatDoor
open Go.GB Go.Lib
/-- The byte at a place, 0 behind the end. -/
def bat (s : ByteArray) (i : Nat) : Nat := (s.data.toList.getD i 0).toNat
theorem bat_lt (s : ByteArray) (i : Nat) : bat s i < 256 := UInt8.toNat_lt _
theorem bx_bat {s : ByteArray} {i : Nat} (h : i < s.size) : bx s (i : Int) = some ((bat s i : Nat) : Int) := bx_at h
theorem fin_and {P : Nat → Prop} (h : ∀ c : Fin 256, P c.val) {n : Nat} (hn : n < 256) : P n := h ⟨n, hn⟩
theorem l79_end {s : ByteArray} {i n least r0 : Nat} {r k : Nat} (h : n < k) (hk : k < 100) : loopO (tocsinref01_Utf8_l79 s (i : Int) ((n : Int), (least : Int), (r0 : Int))) ((r : Int), (k : Int)) = some (.inl (r : Int)) := by
  refine loopO_done ?_
  unfold tocsinref01_Utf8_l79
  rw [show decide (((r : Int), (k : Int)).2 ≤ ((n : Int), (least : Int), (r0 : Int)).1) = false from decide_eq_false (by show ¬ ((k : Int) ≤ (n : Int)); omega)]
  rfl
theorem l79_step {s : ByteArray} {i n least r0 : Nat} {r k : Nat} (hs : s.size < 4611686018427387904) (hi : i < s.size) (h : k ≤ n) (hn : n ≤ 3) (hr : r < 16777216) :
    tocsinref01_Utf8_l79 s (i : Int) ((n : Int), (least : Int), (r0 : Int)) ((r : Int), (k : Int)) =
      if i + k < s.size ∧ bat s (i + k) / 64 = 2 then some (.inl (((r * 64 + bat s (i + k) % 64 : Nat) : Int), ((k + 1 : Nat) : Int))) else some (.inr (.inr (.inr (.inr (.inr false))))) := by
  unfold tocsinref01_Utf8_l79
  simp only
  rw [show decide ((k : Int) ≤ (n : Int)) = true from decide_eq_true (by omega)]
  have e1 : IntKind.wrap .i64 ((i : Int) + (k : Int)) = ((i + k : Nat) : Int) := by rw [wrap64 (by omega) (by omega)]; omega
  simp only [cond_true, e1]
  by_cases hlt : i + k < s.size
  · rw [show decide (((i + k : Nat) : Int) ≥ (s.size : Int)) = false from decide_eq_false (by omega)]
    have hb := bat_lt s (i + k)
    have h1 : (bitAnd .u8 ((bat s (i + k) : Nat) : Int) 192 != 128) = !(decide (bat s (i + k) / 64 = 2)) := fin_and (P := fun n => (bitAnd .u8 ((n : Nat) : Int) 192 != 128) = !(decide (n / 64 = 2))) and192 hb
    have h2 : bitAnd .u8 ((bat s (i + k) : Nat) : Int) 63 = ((bat s (i + k) % 64 : Nat) : Int) := fin_and (P := fun n => bitAnd .u8 ((n : Nat) : Int) 63 = ((n % 64 : Nat) : Int)) and63 hb
    simp only [cond_false, bx_bat hlt, Option.bind_some, h1, h2]
    by_cases hc : bat s (i + k) / 64 = 2
    · rw [if_pos ⟨hlt, hc⟩]
      simp only [hc, decide_true, Bool.not_true, cond_false, bx_bat hlt, Option.bind_some, h2]
      have e2 : IntKind.wrap .i64 ((r : Int) * 64) = ((r * 64 : Nat) : Int) := by rw [wrap64 (by omega) (by omega)]; omega
      have e3 : IntKind.wrap .i64 ((bat s (i + k) % 64 : Nat) : Int) = ((bat s (i + k) % 64 : Nat) : Int) := wrap64 (by omega) (by omega)
      have e4 : IntKind.wrap .i64 (((r * 64 : Nat) : Int) + ((bat s (i + k) % 64 : Nat) : Int)) = ((r * 64 + bat s (i + k) % 64 : Nat) : Int) := by rw [wrap64 (by omega) (by omega)]; omega
      have e5 : IntKind.wrap .i64 ((k : Int) + 1) = ((k + 1 : Nat) : Int) := wrap_up (by omega)
      rw [e2, e3, e4, e5]
    · rw [if_neg (fun h => hc h.2)]
      simp only [hc, decide_false, Bool.not_false, cond_true]
  · rw [show decide (((i + k : Nat) : Int) ≥ (s.size : Int)) = true from decide_eq_true (by omega), if_neg (fun h => hlt h.1)]
    simp
/-- What a lead byte says: how many follow, the least, what it bears. -/
def leadN (c : Nat) : Option (Nat × Nat × Nat) := if 194 ≤ c ∧ c < 224 then some (1, 128, c % 32) else if 224 ≤ c ∧ c < 240 then some (2, 2048, c % 16) else if 240 ≤ c ∧ c < 245 then some (3, 65536, c % 8) else none
theorem l79_all {s : ByteArray} {i n least r0 : Nat} (hs : s.size < 4611686018427387904) (hi : i < s.size) (hn : 1 ≤ n ∧ n ≤ 3) (hr : r0 < 32) :
    loopO (tocsinref01_Utf8_l79 s (i : Int) ((n : Int), (least : Int), (r0 : Int))) ((r0 : Int), 1) =
      if (i + 1 < s.size ∧ bat s (i + 1) / 64 = 2) ∧ (2 ≤ n → i + 2 < s.size ∧ bat s (i + 2) / 64 = 2) ∧ (3 ≤ n → i + 3 < s.size ∧ bat s (i + 3) / 64 = 2) then
        some (.inl ((if n = 1 then r0 * 64 + bat s (i + 1) % 64 else if n = 2 then (r0 * 64 + bat s (i + 1) % 64) * 64 + bat s (i + 2) % 64 else ((r0 * 64 + bat s (i + 1) % 64) * 64 + bat s (i + 2) % 64) * 64 + bat s (i + 3) % 64 : Nat) : Int))
      else some (.inr (.inr (.inr (.inr false)))) := by
  have h1 := l79_step (s := s) (i := i) (n := n) (least := least) (r0 := r0) (r := r0) (k := 1) hs hi (by omega) hn.2 (by omega)
  by_cases c1 : i + 1 < s.size ∧ bat s (i + 1) / 64 = 2
  · rw [if_pos c1] at h1
    rw [show (1 : Int) = ((1 : Nat) : Int) from rfl, loopO_step h1]
    have b1 := bat_lt s (i + 1)
    by_cases n1 : n = 1
    · subst n1
      rw [l79_end (by omega) (by omega), if_pos ⟨c1, by omega, by omega⟩, if_pos rfl]
    · have h2 := l79_step (s := s) (i := i) (n := n) (least := least) (r0 := r0) (r := r0 * 64 + bat s (i + 1) % 64) (k := 2) hs hi (by omega) hn.2 (by omega)
      by_cases c2 : i + 2 < s.size ∧ bat s (i + 2) / 64 = 2
      · rw [if_pos c2] at h2
        rw [show ((1 + 1 : Nat) : Int) = ((2 : Nat) : Int) from rfl, loopO_step h2]
        have b2 := bat_lt s (i + 2)
        by_cases n2 : n = 2
        · subst n2
          rw [l79_end (by omega) (by omega), if_pos ⟨c1, fun _ => c2, by omega⟩]
          rfl
        · have h3 := l79_step (s := s) (i := i) (n := n) (least := least) (r0 := r0) (r := (r0 * 64 + bat s (i + 1) % 64) * 64 + bat s (i + 2) % 64) (k := 3) hs hi (by omega) hn.2 (by omega)
          by_cases c3 : i + 3 < s.size ∧ bat s (i + 3) / 64 = 2
          · rw [if_pos c3] at h3
            rw [show ((2 + 1 : Nat) : Int) = ((3 : Nat) : Int) from rfl, loopO_step h3, l79_end (by omega) (by omega), if_pos ⟨c1, fun _ => c2, fun _ => c3⟩, if_neg n1, if_neg n2]
          · rw [if_neg c3] at h3
            rw [show ((2 + 1 : Nat) : Int) = ((3 : Nat) : Int) from rfl, loopO_done h3, if_neg (fun h => c3 (h.2.2 (by omega)))]
      · rw [if_neg c2] at h2
        rw [show ((1 + 1 : Nat) : Int) = ((2 : Nat) : Int) from rfl, loopO_done h2, if_neg (fun h => c2 (h.2.1 (by omega)))]
  · rw [if_neg c1] at h1
    rw [show (1 : Int) = ((1 : Nat) : Int) from rfl, loopO_done h1, if_neg (fun h => c1 h.1)]
def contN (s : ByteArray) (i n least r0 : Nat) : Option Nat :=
  if (i + 1 < s.size ∧ bat s (i + 1) / 64 = 2) ∧ (2 ≤ n → i + 2 < s.size ∧ bat s (i + 2) / 64 = 2) ∧ (3 ≤ n → i + 3 < s.size ∧ bat s (i + 3) / 64 = 2) then
    (let r := if n = 1 then r0 * 64 + bat s (i + 1) % 64 else if n = 2 then (r0 * 64 + bat s (i + 1) % 64) * 64 + bat s (i + 2) % 64 else ((r0 * 64 + bat s (i + 1) % 64) * 64 + bat s (i + 2) % 64) * 64 + bat s (i + 3) % 64
     if r < least ∨ r > 1114111 ∨ (55296 ≤ r ∧ r < 57344) then none else some (i + n + 1))
  else none
/-- One round of the document's loop: the place behind the rune, or none. -/
def stepN (s : ByteArray) (i : Nat) : Option Nat :=
  if bat s i < 128 then some (i + 1) else match leadN (bat s i) with
    | none => none
    | some (n, least, r0) => contN s i n least r0
theorem l17_tail {s : ByteArray} {i n least r0 : Nat} (hs : s.size < 4611686018427387904) (hi : i < s.size) (hn : 1 ≤ n ∧ n ≤ 3) (hr : r0 < 32) (hl : least ≤ 65536) {X : Option ((Int) ⊕ ((Int) ⊕ ((Unit) ⊕ (Bool))))}
    (hX : X = Option.bind (loopO (tocsinref01_Utf8_l79 s (i : Int) ((n : Int), (least : Int), (r0 : Int))) ((r0 : Int), 1)) fun (r67 : (Int) ⊕ ((Int) ⊕ ((Int) ⊕ ((Unit) ⊕ (Bool))))) =>
          match r67 with
          | Sum.inl r75 => bif (((decide (r75 < (least : Int))) || (decide (r75 > 1114111))) || ((decide (r75 ≥ 55296)) && (decide (r75 < 57344)))) then
            (some (Sum.inr (Sum.inr (Sum.inr false))))
            else
            (some (Sum.inl (IntKind.wrap .i64 ((IntKind.wrap .i64 ((i : Int) + (n : Int))) + 1))))
          | Sum.inr v102 => some v102) :
    X = match contN s i n least r0 with
      | some j => some (Sum.inl (j : Int))
      | none => some (Sum.inr (Sum.inr (Sum.inr false))) := by
  subst hX
  rw [l79_all hs hi hn hr]
  unfold contN
  split
  · simp only [Option.bind_some]
    generalize (if n = 1 then r0 * 64 + bat s (i + 1) % 64 else if n = 2 then (r0 * 64 + bat s (i + 1) % 64) * 64 + bat s (i + 2) % 64 else ((r0 * 64 + bat s (i + 1) % 64) * 64 + bat s (i + 2) % 64) * 64 + bat s (i + 3) % 64) = r
    have e1 : IntKind.wrap .i64 (IntKind.wrap .i64 ((i : Int) + (n : Int)) + 1) = ((i + n + 1 : Nat) : Int) := by
      rw [wrap64 (x := (i : Int) + (n : Int)) (by omega) (by omega), wrap64 (by omega) (by omega)]; omega
    rw [e1]
    by_cases hb : r < least ∨ r > 1114111 ∨ (55296 ≤ r ∧ r < 57344)
    · rw [if_pos hb]
      have : (((decide ((r : Int) < (least : Int))) || (decide ((r : Int) > 1114111))) || ((decide ((r : Int) ≥ 55296)) && (decide ((r : Int) < 57344)))) = true := by
        simp only [Bool.or_eq_true, Bool.and_eq_true, decide_eq_true_eq]; omega
      rw [this]; rfl
    · rw [if_neg hb]
      have : (((decide ((r : Int) < (least : Int))) || (decide ((r : Int) > 1114111))) || ((decide ((r : Int) ≥ 55296)) && (decide ((r : Int) < 57344)))) = false := by
        rw [Bool.eq_false_iff]
        simp only [ne_eq, Bool.or_eq_true, Bool.and_eq_true, decide_eq_true_eq]; omega
      rw [this]; rfl
  · rfl
theorem l17_round {s : ByteArray} {i : Nat} (hs : s.size < 4611686018427387904) (hi : i < s.size) :
    tocsinref01_Utf8_l17 s (i : Int) = match stepN s i with | some j => some (.inl (j : Int)) | none => some (.inr (.inr false)) := by
  unfold tocsinref01_Utf8_l17
  have hb := bat_lt s i
  have w1 : IntKind.wrap .i64 ((bat s i : Nat) : Int) = ((bat s i : Nat) : Int) := wrap64 (by omega) (by omega)
  rw [show decide ((i : Int) < (s.size : Int)) = true from decide_eq_true (by omega)]
  simp only [cond_true, bx_bat hi, Option.bind_some, w1]
  unfold stepN
  by_cases h0 : bat s i < 128
  · rw [if_pos h0, show decide (((bat s i : Nat) : Int) < 128) = true from decide_eq_true (by omega), show IntKind.wrap .i64 ((i : Int) + 1) = ((i + 1 : Nat) : Int) from by rw [wrap64 (by omega) (by omega)]; omega]
    rfl
  · rw [if_neg h0, show decide (((bat s i : Nat) : Int) < 128) = false from decide_eq_false (by omega)]
    simp only [cond_false]
    have a31 : bitAnd .i64 ((bat s i : Nat) : Int) 31 = ((bat s i % 32 : Nat) : Int) := fin_and (P := fun n => bitAnd .i64 ((n : Nat) : Int) 31 = ((n % 32 : Nat) : Int)) and31 hb
    have a15 : bitAnd .i64 ((bat s i : Nat) : Int) 15 = ((bat s i % 16 : Nat) : Int) := fin_and (P := fun n => bitAnd .i64 ((n : Nat) : Int) 15 = ((n % 16 : Nat) : Int)) and15 hb
    have a7 : bitAnd .i64 ((bat s i : Nat) : Int) 7 = ((bat s i % 8 : Nat) : Int) := fin_and (P := fun n => bitAnd .i64 ((n : Nat) : Int) 7 = ((n % 8 : Nat) : Int)) Go.GB.and7 hb
    simp only [a31, a15, a7]
    unfold leadN
    by_cases c1 : 194 ≤ bat s i ∧ bat s i < 224
    · have : ((decide (((bat s i : Nat) : Int) ≥ 194)) && (decide (((bat s i : Nat) : Int) < 224))) = true := by simp only [Bool.and_eq_true, decide_eq_true_eq]; omega
      simp only [this, cond_true, Option.bind_some, if_pos c1]
      have hT := l17_tail (s := s) (i := i) (n := 1) (least := 128) (r0 := bat s i % 32) hs hi (by omega) (by omega) (by omega) rfl
      simp only [show ((1 : Nat) : Int) = 1 from rfl, show ((128 : Nat) : Int) = 128 from rfl] at hT
      refine Eq.trans (congrArg (fun X => Option.bind X _) hT) ?_
      cases contN s i 1 128 (bat s i % 32) <;> rfl
    · have f1 : ((decide (((bat s i : Nat) : Int) ≥ 194)) && (decide (((bat s i : Nat) : Int) < 224))) = false := by rw [Bool.eq_false_iff]; simp only [ne_eq, Bool.and_eq_true, decide_eq_true_eq]; omega
      simp only [f1, cond_false, if_neg c1]
      by_cases c2 : 224 ≤ bat s i ∧ bat s i < 240
      · have : ((decide (((bat s i : Nat) : Int) ≥ 224)) && (decide (((bat s i : Nat) : Int) < 240))) = true := by simp only [Bool.and_eq_true, decide_eq_true_eq]; omega
        simp only [this, cond_true, Option.bind_some, if_pos c2]
        have hT := l17_tail (s := s) (i := i) (n := 2) (least := 2048) (r0 := bat s i % 16) hs hi (by omega) (by omega) (by omega) rfl
        simp only [show ((2 : Nat) : Int) = 2 from rfl, show ((2048 : Nat) : Int) = 2048 from rfl] at hT
        refine Eq.trans (congrArg (fun X => Option.bind X _) hT) ?_
        cases contN s i 2 2048 (bat s i % 16) <;> rfl
      · have f2 : ((decide (((bat s i : Nat) : Int) ≥ 224)) && (decide (((bat s i : Nat) : Int) < 240))) = false := by rw [Bool.eq_false_iff]; simp only [ne_eq, Bool.and_eq_true, decide_eq_true_eq]; omega
        simp only [f2, cond_false, if_neg c2]
        by_cases c3 : 240 ≤ bat s i ∧ bat s i < 245
        · have : ((decide (((bat s i : Nat) : Int) ≥ 240)) && (decide (((bat s i : Nat) : Int) < 245))) = true := by simp only [Bool.and_eq_true, decide_eq_true_eq]; omega
          simp only [this, cond_true, Option.bind_some, if_pos c3]
          have hT := l17_tail (s := s) (i := i) (n := 3) (least := 65536) (r0 := bat s i % 8) hs hi (by omega) (by omega) (by omega) rfl
          simp only [show ((3 : Nat) : Int) = 3 from rfl, show ((65536 : Nat) : Int) = 65536 from rfl] at hT
          refine Eq.trans (congrArg (fun X => Option.bind X _) hT) ?_
          cases contN s i 3 65536 (bat s i % 8) <;> rfl
        · have f3 : ((decide (((bat s i : Nat) : Int) ≥ 240)) && (decide (((bat s i : Nat) : Int) < 245))) = false := by rw [Bool.eq_false_iff]; simp only [ne_eq, Bool.and_eq_true, decide_eq_true_eq]; omega
          simp only [f3, cond_false, if_neg c3, Option.bind_some]
theorem getD_drop (l : List UInt8) (i k : Nat) : (l.drop i).getD k 0 = l.getD (i + k) 0 := by simp [List.getD_eq_getElem?_getD, List.getElem?_drop]
theorem dec2 {n c b1 b2 b3 : Nat} (hc : 194 ≤ c ∧ c < 224) : decodeN n c b1 b2 b3 = if 1 < n ∧ b1 / 64 = 2 then (c % 32 * 64 + b1 % 64, 2) else (65533, 1) := by
  unfold decodeN
  rw [if_neg (by omega)]
  by_cases h : 1 < n ∧ b1 / 64 = 2
  · rw [if_pos ⟨by omega, h⟩, if_pos (by omega), if_pos h]
  · rw [if_neg (fun g => h g.2), if_neg (fun g => h g.2.1), if_neg (fun g => h g.2.1), if_neg h]
theorem dec3 {n c b1 b2 b3 : Nat} (hc : 224 ≤ c ∧ c < 240) : decodeN n c b1 b2 b3 = if (1 < n ∧ b1 / 64 = 2) ∧ (2 < n ∧ b2 / 64 = 2) then
    (if (c % 16 * 64 + b1 % 64) * 64 + b2 % 64 < 2048 ∨ (55296 ≤ (c % 16 * 64 + b1 % 64) * 64 + b2 % 64 ∧ (c % 16 * 64 + b1 % 64) * 64 + b2 % 64 < 57344) then (65533, 1) else ((c % 16 * 64 + b1 % 64) * 64 + b2 % 64, 3)) else (65533, 1) := by
  unfold decodeN
  rw [if_neg (by omega), if_neg (by omega)]
  by_cases h : (1 < n ∧ b1 / 64 = 2) ∧ (2 < n ∧ b2 / 64 = 2)
  · rw [if_pos ⟨by omega, h⟩, if_pos h]
    have e : c % 16 * 4096 + b1 % 64 * 64 + b2 % 64 = (c % 16 * 64 + b1 % 64) * 64 + b2 % 64 := by omega
    rw [e]
    by_cases h2 : (c % 16 * 64 + b1 % 64) * 64 + b2 % 64 < 2048 ∨ (55296 ≤ (c % 16 * 64 + b1 % 64) * 64 + b2 % 64 ∧ (c % 16 * 64 + b1 % 64) * 64 + b2 % 64 < 57344)
    · rw [if_pos h2, if_neg (by omega)]
    · rw [if_neg h2, if_pos (by omega)]
  · rw [if_neg (fun g => h g.2), if_neg (fun g => h ⟨g.2.1, g.2.2.1⟩), if_neg h]
theorem dec4 {n c b1 b2 b3 : Nat} (hc : 240 ≤ c ∧ c < 245) : decodeN n c b1 b2 b3 = if (1 < n ∧ b1 / 64 = 2) ∧ (2 < n ∧ b2 / 64 = 2) ∧ (3 < n ∧ b3 / 64 = 2) then
    (if ((c % 8 * 64 + b1 % 64) * 64 + b2 % 64) * 64 + b3 % 64 < 65536 ∨ 1114111 < ((c % 8 * 64 + b1 % 64) * 64 + b2 % 64) * 64 + b3 % 64 then (65533, 1) else (((c % 8 * 64 + b1 % 64) * 64 + b2 % 64) * 64 + b3 % 64, 4)) else (65533, 1) := by
  unfold decodeN
  rw [if_neg (by omega), if_neg (by omega), if_neg (by omega)]
  by_cases h : (1 < n ∧ b1 / 64 = 2) ∧ (2 < n ∧ b2 / 64 = 2) ∧ (3 < n ∧ b3 / 64 = 2)
  · rw [if_pos ⟨by omega, h⟩, if_pos h]
    have e : c % 8 * 262144 + b1 % 64 * 4096 + b2 % 64 * 64 + b3 % 64 = ((c % 8 * 64 + b1 % 64) * 64 + b2 % 64) * 64 + b3 % 64 := by omega
    rw [e]
    by_cases h2 : ((c % 8 * 64 + b1 % 64) * 64 + b2 % 64) * 64 + b3 % 64 < 65536 ∨ 1114111 < ((c % 8 * 64 + b1 % 64) * 64 + b2 % 64) * 64 + b3 % 64
    · rw [if_pos h2, if_neg (by omega)]
    · rw [if_neg h2, if_pos (by omega)]
  · rw [if_neg (fun g => h g.2), if_neg h]
set_option maxHeartbeats 1000000 in
/-- The document's round and the library's are one. -/
theorem stepN_valid {s : ByteArray} {i : Nat} (hi : i < s.size) : validD (s.data.toList.drop i) = match stepN s i with | some j => validD (s.data.toList.drop j) | none => false := by
  have hl : s.data.toList.length = s.size := size_list s
  have hne : s.data.toList.drop i ≠ [] := by intro h; have := congrArg List.length h; simp at this; omega
  have hlen : (s.data.toList.drop i).length = s.size - i := by rw [List.length_drop, hl]
  rw [validD_step _ hne, decodeL_N, hlen]
  simp only [getD_drop, Nat.add_zero]
  have b0 := bat_lt s i
  change (if (decodeN (s.size - i) (bat s i) (bat s (i + 1)) (bat s (i + 2)) (bat s (i + 3))).1 = 65533 ∧ (decodeN (s.size - i) (bat s i) (bat s (i + 1)) (bat s (i + 2)) (bat s (i + 3))).2 = 1 then false else validD ((s.data.toList.drop i).drop (decodeN (s.size - i) (bat s i) (bat s (i + 1)) (bat s (i + 2)) (bat s (i + 3))).2)) = _
  rw [List.drop_drop]
  unfold stepN leadN
  by_cases h0 : bat s i < 128
  · rw [if_pos h0, show decodeN (s.size - i) (bat s i) (bat s (i + 1)) (bat s (i + 2)) (bat s (i + 3)) = (bat s i, 1) from by unfold decodeN; rw [if_pos h0]]
    rw [if_neg (by simp; omega)]
  · rw [if_neg h0]
    by_cases c1 : 194 ≤ bat s i ∧ bat s i < 224
    · rw [if_pos c1, dec2 c1]
      show _ = match contN s i 1 128 (bat s i % 32) with | some j => validD (s.data.toList.drop j) | none => false
      by_cases k1 : i + 1 < s.size ∧ bat s (i + 1) / 64 = 2
      · have e : contN s i 1 128 (bat s i % 32) = some (i + 1 + 1) := by
          unfold contN
          rw [if_pos ⟨k1, by omega, by omega⟩]
          simp only [if_true]
          rw [if_neg (by omega)]
        rw [e, if_pos (show 1 < s.size - i ∧ bat s (i + 1) / 64 = 2 from ⟨by omega, k1.2⟩), if_neg (by simp)]; rfl
      · have e : contN s i 1 128 (bat s i % 32) = none := by
          unfold contN
          rw [if_neg (fun g => k1 g.1)]
        rw [e, if_neg (show ¬ (1 < s.size - i ∧ bat s (i + 1) / 64 = 2) from fun g => k1 ⟨by omega, g.2⟩), if_pos ⟨rfl, rfl⟩]
    · rw [if_neg c1]
      by_cases c2 : 224 ≤ bat s i ∧ bat s i < 240
      · rw [if_pos c2, dec3 c2]
        show _ = match contN s i 2 2048 (bat s i % 16) with | some j => validD (s.data.toList.drop j) | none => false
        by_cases k1 : (i + 1 < s.size ∧ bat s (i + 1) / 64 = 2) ∧ (i + 2 < s.size ∧ bat s (i + 2) / 64 = 2)
        · rw [if_pos (show (1 < s.size - i ∧ bat s (i + 1) / 64 = 2) ∧ (2 < s.size - i ∧ bat s (i + 2) / 64 = 2) from ⟨⟨by omega, k1.1.2⟩, by omega, k1.2.2⟩)]
          by_cases k2 : (bat s i % 16 * 64 + bat s (i + 1) % 64) * 64 + bat s (i + 2) % 64 < 2048 ∨ (55296 ≤ (bat s i % 16 * 64 + bat s (i + 1) % 64) * 64 + bat s (i + 2) % 64 ∧ (bat s i % 16 * 64 + bat s (i + 1) % 64) * 64 + bat s (i + 2) % 64 < 57344)
          · have e : contN s i 2 2048 (bat s i % 16) = none := by
              unfold contN
              rw [if_pos ⟨k1.1, fun _ => k1.2, by omega⟩]
              simp only [show ¬ (2 : Nat) = 1 from by omega, if_false, if_true]
              rw [if_pos (by omega)]
            rw [e, if_pos k2, if_pos ⟨rfl, rfl⟩]
          · have e : contN s i 2 2048 (bat s i % 16) = some (i + 2 + 1) := by
              unfold contN
              rw [if_pos ⟨k1.1, fun _ => k1.2, by omega⟩]
              simp only [show ¬ (2 : Nat) = 1 from by omega, if_false, if_true]
              rw [if_neg (by omega)]
            rw [e, if_neg k2, if_neg (by simp)]; rfl
        · have e : contN s i 2 2048 (bat s i % 16) = none := by
            unfold contN
            rw [if_neg (fun g => k1 ⟨g.1, g.2.1 (by omega)⟩)]
          rw [e, if_neg (show ¬ ((1 < s.size - i ∧ bat s (i + 1) / 64 = 2) ∧ (2 < s.size - i ∧ bat s (i + 2) / 64 = 2)) from fun g => k1 ⟨⟨by omega, g.1.2⟩, by omega, g.2.2⟩), if_pos ⟨rfl, rfl⟩]
      · rw [if_neg c2]
        by_cases c3 : 240 ≤ bat s i ∧ bat s i < 245
        · rw [if_pos c3, dec4 c3]
          show _ = match contN s i 3 65536 (bat s i % 8) with | some j => validD (s.data.toList.drop j) | none => false
          by_cases k1 : (i + 1 < s.size ∧ bat s (i + 1) / 64 = 2) ∧ (i + 2 < s.size ∧ bat s (i + 2) / 64 = 2) ∧ (i + 3 < s.size ∧ bat s (i + 3) / 64 = 2)
          · rw [if_pos (show (1 < s.size - i ∧ bat s (i + 1) / 64 = 2) ∧ (2 < s.size - i ∧ bat s (i + 2) / 64 = 2) ∧ (3 < s.size - i ∧ bat s (i + 3) / 64 = 2) from ⟨⟨by omega, k1.1.2⟩, ⟨by omega, k1.2.1.2⟩, by omega, k1.2.2.2⟩)]
            by_cases k2 : ((bat s i % 8 * 64 + bat s (i + 1) % 64) * 64 + bat s (i + 2) % 64) * 64 + bat s (i + 3) % 64 < 65536 ∨ 1114111 < ((bat s i % 8 * 64 + bat s (i + 1) % 64) * 64 + bat s (i + 2) % 64) * 64 + bat s (i + 3) % 64
            · have e : contN s i 3 65536 (bat s i % 8) = none := by
                unfold contN
                rw [if_pos ⟨k1.1, fun _ => k1.2.1, fun _ => k1.2.2⟩]
                simp only [show ¬ (3 : Nat) = 1 from by omega, show ¬ (3 : Nat) = 2 from by omega, if_false]
                rw [if_pos (by omega)]
              rw [e, if_pos k2, if_pos ⟨rfl, rfl⟩]
            · have e : contN s i 3 65536 (bat s i % 8) = some (i + 3 + 1) := by
                unfold contN
                rw [if_pos ⟨k1.1, fun _ => k1.2.1, fun _ => k1.2.2⟩]
                simp only [show ¬ (3 : Nat) = 1 from by omega, show ¬ (3 : Nat) = 2 from by omega, if_false]
                rw [if_neg (by omega)]
              rw [e, if_neg k2, if_neg (by simp)]; rfl
          · have e : contN s i 3 65536 (bat s i % 8) = none := by
              unfold contN
              rw [if_neg (fun g => k1 ⟨g.1, g.2.1 (by omega), g.2.2 (by omega)⟩)]
            rw [e, if_neg (show ¬ ((1 < s.size - i ∧ bat s (i + 1) / 64 = 2) ∧ (2 < s.size - i ∧ bat s (i + 2) / 64 = 2) ∧ (3 < s.size - i ∧ bat s (i + 3) / 64 = 2)) from fun g => k1 ⟨⟨by omega, g.1.2⟩, ⟨by omega, g.2.1.2⟩, by omega, g.2.2.2⟩), if_pos ⟨rfl, rfl⟩]
        · rw [if_neg c3, decodeN_bad _ _ _ _ _ (by omega)]
          simp
theorem contN_some {s : ByteArray} {i n least r0 j : Nat} (h : contN s i n least r0 = some j) : j = i + n + 1 ∧ (i + 1 < s.size ∧ bat s (i + 1) / 64 = 2) ∧ (2 ≤ n → i + 2 < s.size ∧ bat s (i + 2) / 64 = 2) ∧ (3 ≤ n → i + 3 < s.size ∧ bat s (i + 3) / 64 = 2) := by
  unfold contN at h
  split at h
  · rename_i hc
    refine ⟨?_, hc⟩
    have : ∀ (p : Prop) [Decidable p], (if p then none else some (i + n + 1)) = some j → j = i + n + 1 := fun p _ hp => by
      split at hp <;> cases hp
      rfl
    exact this _ h
  · cases h
theorem stepN_up {s : ByteArray} {i j : Nat} (h : stepN s i = some j) : i < j := by
  unfold stepN at h
  split at h
  · cases h; omega
  · split at h
    · cases h
    · have := (contN_some h).1; omega
theorem stepN_le {s : ByteArray} {i j : Nat} (hi : i < s.size) (h : stepN s i = some j) : j ≤ s.size := by
  unfold stepN at h
  split at h
  · cases h; omega
  · unfold leadN at h
    split at h
    · cases h
    · rename_i n least r0 hl
      obtain ⟨rfl, h1, h2, h3⟩ := contN_some h
      split at hl
      · cases hl; omega
      · split at hl
        · cases hl; have := h2 (by omega); omega
        · split at hl
          · cases hl; have := h3 (by omega); omega
          · cases hl
theorem utf8_loop {s : ByteArray} (hs : s.size < 4611686018427387904) : ∀ d i : Nat, s.size - i = d → i ≤ s.size → loopO (tocsinref01_Utf8_l17 s) (i : Int) = some (if validD (s.data.toList.drop i) then .inl () else .inr false) := by
  intro d
  induction d using Nat.strongRecOn with
  | _ d ih =>
    intro i hd hi
    by_cases hlt : i < s.size
    · have hr := l17_round hs hlt
      have hv := stepN_valid hlt
      cases hn : stepN s i with
      | none =>
        rw [hn] at hr hv
        rw [loopO_done hr, hv]; rfl
      | some j =>
        rw [hn] at hr hv
        have h1 := stepN_up hn
        have h2 := stepN_le hlt hn
        rw [loopO_step hr, hv]
        exact ih (s.size - j) (by omega) j rfl h2
    · have : i = s.size := by omega
      subst this
      have he : tocsinref01_Utf8_l17 s (s.size : Int) = some (.inr (.inl ())) := by
        unfold tocsinref01_Utf8_l17
        rw [show decide ((s.size : Int) < (s.size : Int)) = false from decide_eq_false (by omega)]
        rfl
      rw [loopO_done he]
      rw [show s.data.toList.drop s.size = [] from List.drop_eq_nil_of_le (Nat.le_of_eq (size_list s))]
      rfl
/-- The document's Utf8 is the library's ValidString. -/
theorem refUtf8_eq {s : ByteArray} (hs : s.size < 4611686018427387904) : tocsinref01_Utf8 s = some (validD s.data.toList) := by
  unfold tocsinref01_Utf8
  have := utf8_loop hs s.size 0 (by omega) (by omega)
  rw [show ((0 : Nat) : Int) = 0 from rfl, List.drop_zero] at this
  rw [this]
  cases validD s.data.toList <;> rfl
theorem valid_eq {s : ByteArray} (hs : s.size < 4611686018427387904) : utf8_ValidString s = some (validD s.data.toList) := by
  unfold utf8_ValidString
  rw [if_pos (by omega)]
end Go.Proofs.YtnlkfajnaelnnaaGreatDoor

/- Plain laws, base: the order of texts. -/
set_option linter.unusedVariables false
namespace Go.GB
open Go.Lib
theorem cb_self : ∀ a : List UInt8, compareBytes a a = 0
  | [] => rfl
  | a :: xs => by unfold compareBytes; rw [if_neg (UInt8.lt_irrefl a), if_neg (UInt8.lt_irrefl a)]; exact cb_self xs
theorem cb_swap : ∀ a b : List UInt8, compareBytes b a = - compareBytes a b
  | [], [] => rfl
  | [], _ :: _ => rfl
  | _ :: _, [] => rfl
  | a :: xs, b :: ys => by
    unfold compareBytes
    by_cases h1 : a < b
    · have h2 : ¬ b < a := fun h => UInt8.lt_irrefl a (UInt8.lt_trans h1 h)
      rw [if_pos h1, if_neg h2, if_pos h1]; rfl
    · by_cases h2 : b < a
      · rw [if_pos h2, if_neg h1, if_pos h2]
      · rw [if_neg h2, if_neg h1, if_neg h1, if_neg h2]; exact cb_swap xs ys
theorem u8_eq {a b : UInt8} (h1 : ¬ a < b) (h2 : ¬ b < a) : a = b := UInt8.le_antisymm (UInt8.not_lt.1 h2) (UInt8.not_lt.1 h1)
theorem cb_zero : ∀ a b : List UInt8, compareBytes a b = 0 → a = b
  | [], [], _ => rfl
  | [], _ :: _, h => by simp [compareBytes] at h
  | _ :: _, [], h => by simp [compareBytes] at h
  | a :: xs, b :: ys, h => by
    unfold compareBytes at h
    by_cases h1 : a < b
    · rw [if_pos h1] at h; cases h
    · by_cases h2 : b < a
      · rw [if_neg h1, if_pos h2] at h; cases h
      · rw [if_neg h1, if_neg h2] at h
        rw [cb_zero xs ys h, u8_eq h1 h2]
theorem cb_range : ∀ a b : List UInt8, compareBytes a b = -1 ∨ compareBytes a b = 0 ∨ compareBytes a b = 1
  | [], [] => by simp [compareBytes]
  | [], _ :: _ => by simp [compareBytes]
  | _ :: _, [] => by simp [compareBytes]
  | a :: xs, b :: ys => by
    unfold compareBytes
    split
    · simp
    · split
      · simp
      · exact cb_range xs ys
theorem cb_less : ∀ a b : List UInt8, Op.bytesLess a b = decide (compareBytes a b = -1)
  | [], [] => by simp [compareBytes, Op.bytesLess]
  | [], _ :: _ => by simp [compareBytes, Op.bytesLess]
  | _ :: _, [] => by simp [compareBytes, Op.bytesLess]
  | a :: xs, b :: ys => by
    unfold compareBytes Op.bytesLess
    by_cases h1 : a < b
    · simp [h1]
    · by_cases h2 : b < a
      · have h3 : (a == b) = false := by
          rw [beq_eq_false_iff_ne]; rintro rfl; exact h1 h2
        simp [h1, h2, h3]
      · have h3 := u8_eq h1 h2
        subst h3
        simp [h1, cb_less xs ys]
theorem cb_trans : ∀ a b c : List UInt8, compareBytes a b = -1 → compareBytes b c = -1 → compareBytes a c = -1
  | [], [], _, h, _ => by simp [compareBytes] at h
  | [], _ :: _, [], _, h => by simp [compareBytes] at h
  | [], _ :: _, _ :: _, _, _ => by simp [compareBytes]
  | _ :: _, [], _, h, _ => by simp [compareBytes] at h
  | _ :: _, _ :: _, [], _, h => by simp [compareBytes] at h
  | a :: xs, b :: ys, c :: zs, h, k => by
    unfold compareBytes at h k ⊢
    by_cases h1 : a < b
    · by_cases h3 : b < c
      · rw [if_pos (UInt8.lt_trans h1 h3)]
      · by_cases h4 : c < b
        · rw [if_neg h3, if_pos h4] at k; cases k
        · rw [← u8_eq h3 h4, if_pos h1]
    · by_cases h2 : b < a
      · rw [if_neg h1, if_pos h2] at h; cases h
      · have e := u8_eq h1 h2
        subst e
        rw [if_neg h1, if_neg h1] at h
        by_cases h3 : a < c
        · rw [if_pos h3]
        · by_cases h4 : c < a
          · rw [if_neg h3, if_pos h4] at k; cases k
          · rw [if_neg h3, if_neg h4] at k
            rw [if_neg h3, if_neg h4]
            exact cb_trans xs ys zs h k
def cmpS (a b : ByteArray) : Int := compareBytes a.data.toList b.data.toList
theorem cmpS_self (a : ByteArray) : cmpS a a = 0 := cb_self _
theorem cmpS_swap (a b : ByteArray) : cmpS b a = - cmpS a b := cb_swap _ _
theorem ba_eq {a b : ByteArray} (h : a.data.toList = b.data.toList) : a = b := by
  obtain ⟨⟨x⟩⟩ := a
  obtain ⟨⟨y⟩⟩ := b
  simpa using h
theorem cmpS_zero {a b : ByteArray} (h : cmpS a b = 0) : a = b := ba_eq (cb_zero _ _ h)
theorem cmpS_range (a b : ByteArray) : cmpS a b = -1 ∨ cmpS a b = 0 ∨ cmpS a b = 1 := cb_range _ _
theorem cmpS_trans {a b c : ByteArray} (h : cmpS a b = -1) (k : cmpS b c = -1) : cmpS a c = -1 := cb_trans _ _ _ h k
theorem toList_eq (a : ByteArray) : a.toList = a.data.toList := ByteArray.toList_eq a
theorem less_eq (a b : ByteArray) : Op.bytesLess a.toList b.toList = decide (cmpS a b = -1) := by rw [toList_eq, toList_eq]; exact cb_less _ _
theorem beq_eq (a b : ByteArray) : (a.toList == b.toList) = decide (cmpS a b = 0) := by
  rw [Bool.eq_iff_iff, toList_inj, decide_eq_true_iff]
  exact ⟨fun h => by rw [h]; exact cmpS_self _, cmpS_zero⟩
end Go.GB

/- Plain laws: names, values, label sets: the program's are the document's. -/
set_option linter.unusedVariables false
set_option maxRecDepth 100000
namespace Go.Proofs.YtnlkfajnaelnnaaGreatDoor
open Go.GB Go.Lib
theorem ix_bytes {s : ByteArray} {i : Nat} (h : i < s.size) : ix (bytesOf s) (i : Int) = some ((bat s i : Nat) : Int) := by
  rw [ix_nat]
  unfold bytesOf bat
  have : i < s.data.toList.length := by rw [size_list]; exact h
  rw [List.getElem?_map, List.getElem?_eq_getElem this, List.getD_eq_getElem?_getD, List.getElem?_eq_getElem this]
  rfl
noncomputable def namedB (s : ByteArray) (most : Nat) (colon : Bool) : Bool := decide (s.size ≠ 0) && (decide (s.size ≤ most) && (!labels_digit (bat s 0) && (List.range s.size).all fun i => labels_letter (bat s i) || (labels_digit (bat s i) || (colon && ((bat s i : Nat) : Int) == 58))))
theorem named_eq (s : ByteArray) {most : Nat} (hm : most ≤ 2147483648) (colon : Bool) : labels_named s (most : Int) colon = some (namedB s most colon) := by
  unfold labels_named namedB
  rw [nil_size]
  by_cases h0 : s.size = 0
  · simp [h0]
  · by_cases h1 : s.size ≤ most
    · have e1 : decide ((s.size : Int) > (most : Int)) = false := decide_eq_false (by omega)
      have e2 : bx s 0 = some ((bat s 0 : Nat) : Int) := bx_bat (i := 0) (by omega)
      simp only [h0, decide_false, cond_false, e1, e2, Option.bind_some, not_false_eq_true, ne_eq, decide_true, h1, Bool.true_and]
      cases hd : labels_digit ((bat s 0 : Nat) : Int) with
      | true => simp
      | false =>
        have e3 : sb s = some (bytesOf s) := by unfold sb maxLen'; rw [if_pos (by omega)]
        simp only [cond_false, e3, Option.bind_some, Bool.not_false, Bool.true_and]
        rw [up_all (n := s.size) (fun i => labels_letter (bat s i) || (labels_digit (bat s i) || (colon && ((bat s i : Nat) : Int) == 58))) (fun i hi => ?_) ?_]
        · simp only [Option.bind_some]
          cases (List.range s.size).all fun i => labels_letter (bat s i) || (labels_digit (bat s i) || (colon && ((bat s i : Nat) : Int) == 58)) <;> rfl
        · unfold labels_named_l33
          rw [show decide ((s.size : Int) < ((bytesOf s).length : Int)) = false from decide_eq_false (by rw [bytesOf_length]; omega)]
          rfl
        · unfold labels_named_l33
          rw [show decide ((i : Int) < ((bytesOf s).length : Int)) = true from decide_eq_true (by rw [bytesOf_length]; omega)]
          simp only [cond_true, ix_bytes hi, Option.bind_some, wrap_up (show i < 4294967296 by omega)]
          cases labels_letter ((bat s i : Nat) : Int) <;> cases labels_digit ((bat s i : Nat) : Int) <;> cases (colon && ((bat s i : Nat) : Int) == 58) <;> rfl
    · have e1 : decide ((s.size : Int) > (most : Int)) = true := decide_eq_true (by omega)
      simp only [h0, h1, decide_false, decide_true, cond_false, e1, cond_true, Option.bind_some, ne_eq, not_false_eq_true, Bool.false_and, Bool.and_false]
theorem Name_eq (s : ByteArray) : labels_Name s = some (namedB s 64 false) := by
  unfold labels_Name
  rw [show (64 : Int) = ((64 : Nat) : Int) from rfl, named_eq s (by omega) false]
  rfl
theorem let_not_dig (c : Int) : labels_letter c = true → labels_digit c = false := by
  unfold labels_letter labels_digit
  intro h
  rw [Bool.eq_false_iff]
  simp only [Bool.or_eq_true, Bool.and_eq_true, decide_eq_true_eq, beq_iff_eq] at h
  simp only [ne_eq, Bool.and_eq_true, decide_eq_true_eq]
  omega
theorem refName_eq (s : ByteArray) : tocsinref04_Name s = some (namedB s 64 false) := by
  unfold tocsinref04_Name namedB
  rw [nil_size]
  by_cases h0 : s.size = 0
  · simp [h0]
  · by_cases h1 : s.size ≤ 64
    · have e1 : decide ((s.size : Int) > 64) = false := decide_eq_false (by omega)
      simp only [h0, decide_false, e1, Bool.or_self, cond_false, not_false_eq_true, ne_eq, decide_true, h1, Bool.true_and]
      have hq : (!labels_digit ((bat s 0 : Nat) : Int) && (List.range s.size).all fun i => labels_letter (bat s i) || (labels_digit (bat s i) || (false && ((bat s i : Nat) : Int) == 58))) = (List.range s.size).all fun i => labels_letter (bat s i) || (decide (i ≠ 0) && labels_digit (bat s i)) := by
        rw [Bool.eq_iff_iff, Bool.and_eq_true, List.all_eq_true, List.all_eq_true]
        constructor
        · rintro ⟨h2, h3⟩ i hi
          have := h3 i hi
          by_cases hi0 : i = 0
          · subst hi0
            simp only [Bool.not_eq_true'] at h2
            simpa [h2] using this
          · simpa [hi0] using this
        · intro h3
          refine ⟨?_, fun i hi => ?_⟩
          · have := h3 0 (List.mem_range.2 (by omega))
            simp only [ne_eq, not_true_eq_false, decide_false, Bool.false_and, Bool.or_false] at this
            rw [let_not_dig _ this]; rfl
          · have := h3 i hi
            simp only [Bool.or_eq_true, Bool.and_eq_true] at this ⊢
            rcases this with h | h
            · exact .inl h
            · exact .inr (.inl h.2)
      rw [hq, up_all (n := s.size) (fun i => labels_letter (bat s i) || (decide (i ≠ 0) && labels_digit (bat s i))) (fun i hi => ?_) ?_]
      · simp only [Option.bind_some]
        cases (List.range s.size).all fun i => labels_letter (bat s i) || (decide (i ≠ 0) && labels_digit (bat s i)) <;> rfl
      · unfold tocsinref04_Name_l24
        rw [show decide ((s.size : Int) < (s.size : Int)) = false from decide_eq_false (by omega)]
        rfl
      · unfold tocsinref04_Name_l24
        rw [show decide ((i : Int) < (s.size : Int)) = true from decide_eq_true (by omega)]
        have el : ∀ c, tocsinref04_letter c = labels_letter c := fun _ => rfl
        have ed : ∀ c, tocsinref04_digit c = labels_digit c := fun _ => rfl
        simp only [cond_true, bx_bat hi, Option.bind_some, wrap_up (show i < 4294967296 by omega), el, ed]
        by_cases hi0 : i = 0
        · subst hi0
          cases labels_letter ((bat s 0 : Nat) : Int) <;> rfl
        · have e2 : ((i : Int) == 0) = false := by rw [beq_eq_false_iff_ne]; omega
          simp only [e2, hi0, cond_false]
          cases labels_letter ((bat s i : Nat) : Int) <;> cases labels_digit ((bat s i : Nat) : Int) <;> simp [hi0]
    · have e1 : decide ((s.size : Int) > 64) = true := decide_eq_true (by omega)
      simp only [e1, h1, Bool.or_true, cond_true, decide_false, Bool.false_and, Bool.and_false]
noncomputable def valueE (s : ByteArray) : Int := if s.size = 0 then 41 else if s.size > 256 then 4 else if validD s.data.toList then 0 else 12
theorem value_eq (s : ByteArray) : labels_value s = some (valueE s) := by
  unfold labels_value valueE
  rw [nil_size]
  by_cases h0 : s.size = 0
  · simp [h0]
  · by_cases h1 : s.size > 256
    · simp [h0, h1, show decide ((s.size : Int) > 256) = true from decide_eq_true (by omega)]
    · have e1 : decide ((s.size : Int) > 256) = false := decide_eq_false (by omega)
      simp only [h0, decide_false, cond_false, e1, valid_eq (show s.size < 4611686018427387904 by omega), Option.bind_some, if_false, h1]
      cases validD s.data.toList <;> rfl
noncomputable def oneE (x : S49) : Int := if namedB x.f0 64 false then valueE x.f1 else 40
theorem refOne_eq (x : S49) : tocsinref04_one x = some (oneE x) := by
  unfold tocsinref04_one oneE
  rw [refName_eq, nil_size]
  simp only [Option.bind_some]
  cases namedB x.f0 64 false with
  | false => rfl
  | true =>
    simp only [Bool.not_true, cond_false, if_true]
    unfold valueE
    by_cases h0 : x.f1.size = 0
    · simp [h0]
    · by_cases h1 : x.f1.size > 256
      · simp [h0, h1, show decide ((x.f1.size : Int) > 256) = true from decide_eq_true (by omega)]
      · have e1 : decide ((x.f1.size : Int) > 256) = false := decide_eq_false (by omega)
        simp only [h0, decide_false, cond_false, e1, refUtf8_eq (show x.f1.size < 4611686018427387904 by omega), Option.bind_some, if_false, h1]
        cases validD x.f1.data.toList <;> rfl
/-- The first fault of a label set, at a place. -/
noncomputable def faultAt (l : List S49) (i : Nat) : Option (Int × Int) := match l[i]? with
  | none => none
  | some x => if oneE x ≠ 0 then some (oneE x, (i : Int)) else if i = 0 then none else match l[i - 1]? with
    | none => none
    | some y => if cmpS y.f0 x.f0 = -1 then none else some (3, (i : Int))
noncomputable def rightE (l : List S49) : Int × Int := if l.length > 16 then (8, 0) else ((List.range l.length).findSome? (faultAt l)).getD (0, 0)
theorem oneE_ne {x : S49} (h : namedB x.f0 64 false = false) : oneE x = 40 := by unfold oneE; rw [h]; rfl
theorem ix_prev {α : Type} {l : List α} {i : Nat} (h0 : 0 < i) (hi : i < 4294967296) : ix l (IntKind.wrap .i64 ((i : Int) - 1)) = l[i - 1]? := by
  rw [wrap64 (by omega) (by omega), show (i : Int) - 1 = ((i - 1 : Nat) : Int) by omega, ix_nat]
theorem Right_eq (l : List S49) : labels_Right l = some (rightE l) := by
  unfold labels_Right rightE
  by_cases hl : l.length > 16
  · simp [hl, show decide ((l.length : Int) > 16) = true from decide_eq_true (by omega)]
  · rw [show decide ((l.length : Int) > 16) = false from decide_eq_false (by omega), if_neg hl]
    simp only [cond_false]
    rw [up_find (n := l.length) (faultAt l) (fun i hi => ?_) ?_]
    · simp only [Option.bind_some]
      cases (List.range l.length).findSome? (faultAt l) <;> rfl
    · unfold labels_Right_l18
      rw [show decide ((l.length : Int) < (l.length : Int)) = false from decide_eq_false (by omega)]
      rfl
    · unfold labels_Right_l18 faultAt
      have hx : l[i]? = some l[i] := List.getElem?_eq_getElem hi
      rw [show decide ((i : Int) < (l.length : Int)) = true from decide_eq_true (by omega)]
      simp only [cond_true, ix_nat, hx, Option.bind_some, Name_eq, value_eq]
      cases hn : namedB l[i].f0 64 false with
      | false => rw [oneE_ne hn]; rfl
      | true =>
        have ho : oneE l[i] = valueE l[i].f1 := by unfold oneE; rw [hn]; rfl
        rw [ho]
        simp only [Bool.not_true, cond_false]
        by_cases hv : valueE l[i].f1 = 0
        · have e2 : (valueE l[i].f1 != 0) = false := by simp [hv]
          rw [if_neg (by simpa using hv)]
          simp only [e2, cond_false, wrap_up (show i < 4294967296 by omega)]
          by_cases hi0 : i = 0
          · subst hi0
            simp
          · have e3 : decide ((i : Int) > 0) = true := decide_eq_true (by omega)
            have hy : l[i - 1]? = some (l[i - 1]'(by omega)) := List.getElem?_eq_getElem (by omega)
            rw [if_neg hi0]
            simp only [e3, cond_true, ix_prev (show 0 < i by omega) (show i < 4294967296 by omega), hy, Option.bind_some, less_eq, beq_eq]
            have hs := cmpS_swap (l[i - 1]'(by omega)).f0 l[i].f0
            have hr := cmpS_range (l[i - 1]'(by omega)).f0 l[i].f0
            by_cases hc : cmpS (l[i - 1]'(by omega)).f0 l[i].f0 = -1
            · rw [if_pos hc]
              have : (decide (cmpS l[i].f0 (l[i - 1]'(by omega)).f0 = -1) || decide (cmpS l[i].f0 (l[i - 1]'(by omega)).f0 = 0)) = false := by
                rw [Bool.eq_false_iff]; simp only [ne_eq, Bool.or_eq_true, decide_eq_true_eq]; omega
              rw [this]; rfl
            · rw [if_neg hc]
              have : (decide (cmpS l[i].f0 (l[i - 1]'(by omega)).f0 = -1) || decide (cmpS l[i].f0 (l[i - 1]'(by omega)).f0 = 0)) = true := by
                simp only [Bool.or_eq_true, decide_eq_true_eq]; omega
              rw [this]; rfl
        · have e2 : (valueE l[i].f1 != 0) = true := by simpa using hv
          rw [if_pos hv]
          simp only [e2, cond_true]
theorem refRight_eq (l : List S49) : tocsinref04_Right l = some (rightE l) := by
  unfold tocsinref04_Right rightE
  by_cases hl : l.length > 16
  · simp [hl, show decide ((l.length : Int) > 16) = true from decide_eq_true (by omega)]
  · rw [show decide ((l.length : Int) > 16) = false from decide_eq_false (by omega), if_neg hl]
    simp only [cond_false]
    rw [up_find (n := l.length) (faultAt l) (fun i hi => ?_) ?_]
    · simp only [Option.bind_some]
      cases (List.range l.length).findSome? (faultAt l) <;> rfl
    · unfold tocsinref04_Right_l18
      rw [show decide ((l.length : Int) < (l.length : Int)) = false from decide_eq_false (by omega)]
      rfl
    · unfold tocsinref04_Right_l18 faultAt
      have hx : l[i]? = some l[i] := List.getElem?_eq_getElem hi
      rw [show decide ((i : Int) < (l.length : Int)) = true from decide_eq_true (by omega)]
      simp only [cond_true, ix_nat, hx, Option.bind_some, refOne_eq]
      by_cases hv : oneE l[i] = 0
      · have e2 : (oneE l[i] != 0) = false := by simp [hv]
        rw [if_neg (by simpa using hv)]
        simp only [e2, cond_false, wrap_up (show i < 4294967296 by omega)]
        by_cases hi0 : i = 0
        · subst hi0
          simp
        · have e3 : decide ((i : Int) > 0) = true := decide_eq_true (by omega)
          have hy : l[i - 1]? = some (l[i - 1]'(by omega)) := List.getElem?_eq_getElem (by omega)
          rw [if_neg hi0]
          simp only [e3, cond_true, ix_prev (show 0 < i by omega) (show i < 4294967296 by omega), hy, Option.bind_some, less_eq]
          by_cases hc : cmpS (l[i - 1]'(by omega)).f0 l[i].f0 = -1
          · rw [if_pos hc, decide_eq_true hc]; rfl
          · rw [if_neg hc, decide_eq_false hc]; rfl
      · have e2 : (oneE l[i] != 0) = true := by simpa using hv
        rw [if_pos hv]
        simp only [e2, cond_true]
end Go.Proofs.YtnlkfajnaelnnaaGreatDoor

/- Plain laws, base: words of bits; numbers in few bytes. -/
set_option linter.unusedVariables false
namespace Go.GB
theorem shr_nat (k : IntKind) (a n : Nat) (hn : n ≤ k.bits) : shr k (a : Int) (n : Int) = ((a / 2 ^ n : Nat) : Int) := by
  unfold shr
  rw [Int.toNat_natCast, Nat.min_eq_left hn, Int.fdiv_eq_ediv_of_nonneg _ (by exact Int.pow_nonneg (by omega))]
  norm_cast
theorem app_eq {α : Type} {xs ys : List α} (h : xs.length + ys.length ≤ 2147483648) : app xs ys = some (xs ++ ys) := by unfold app maxLen'; rw [if_pos (by simpa using h)]
end Go.GB

set_option linter.unusedVariables false
namespace Go.GB
section
variable {α : Type}
/-- A strict weak order. -/
structure Swo (lt : α → α → Bool) : Prop where
  asymm : ∀ a b, lt a b = true → lt b a = false
  trans : ∀ a b c, lt b a = false → lt c b = false → lt c a = false
variable {lt : α → α → Bool}
theorem Swo.irrefl (h : Swo lt) (a : α) : lt a a = false := by
  cases e : lt a a with
  | false => rfl
  | true => have := h.asymm a a e; rw [e] at this; exact this
/-- x < y, y ≤ z: x < z. -/
theorem Swo.lt_le (h : Swo lt) {a b c : α} (h1 : lt a b = true) (h2 : lt c b = false) : lt a c = true := by
  cases e : lt a c with
  | true => rfl
  | false => have := h.trans b c a h2 e; rw [h1] at this; cases this
theorem Swo.le_lt (h : Swo lt) {a b c : α} (h1 : lt b a = false) (h2 : lt b c = true) : lt a c = true := by
  cases e : lt a c with
  | true => rfl
  | false => have := h.trans c a b e h1; rw [h2] at this; cases this
def eqv (lt : α → α → Bool) (k x : α) : Bool := !lt k x && !lt x k
theorem eqv_iff {k x : α} : eqv lt k x = true ↔ lt k x = false ∧ lt x k = false := by simp [eqv]
theorem Swo.eqv_self (h : Swo lt) (a : α) : eqv lt a a = true := by simp [eqv, h.irrefl]
def Sorted (lt : α → α → Bool) (l : List α) : Prop := l.Pairwise fun a b => lt b a = false
def FE (lt : α → α → Bool) (l m : List α) : Prop := ∀ k, l.filter (eqv lt k) = m.filter (eqv lt k)
theorem FE.refl (l : List α) : FE lt l l := fun _ => rfl
theorem FE.symm {l m : List α} (h : FE lt l m) : FE lt m l := fun k => (h k).symm
theorem FE.trans {l m n : List α} (h : FE lt l m) (h' : FE lt m n) : FE lt l n := fun k => (h k).trans (h' k)
theorem FE.append {l m l' m' : List α} (h : FE lt l m) (h' : FE lt l' m') : FE lt (l ++ l') (m ++ m') := fun k => by rw [List.filter_append, List.filter_append, h k, h' k]
theorem FE.mid {P S l m : List α} (h : FE lt l m) : FE lt (P ++ l ++ S) (P ++ m ++ S) := ((FE.refl P).append h).append (FE.refl S)
theorem FE.mem (hs : Swo lt) {l m : List α} (h : FE lt l m) {x : α} (hx : x ∈ l) : x ∈ m := by
  have : x ∈ l.filter (eqv lt x) := List.mem_filter.2 ⟨hx, hs.eqv_self x⟩
  rw [h x] at this
  exact (List.mem_filter.1 this).1
/-- Two parts of which one stands all below the other change places. -/
theorem FE.swap (hs : Swo lt) {X Y : List α} (h : ∀ x ∈ X, ∀ y ∈ Y, lt y x = true) : FE lt (X ++ Y) (Y ++ X) := fun k => by
  rw [List.filter_append, List.filter_append]
  by_cases hx : X.filter (eqv lt k) = []
  · rw [hx]; simp
  · have hy : Y.filter (eqv lt k) = [] := by
      rw [List.filter_eq_nil_iff]
      intro y hy hk
      obtain ⟨x, hx'⟩ := List.exists_mem_of_ne_nil _ hx
      obtain ⟨hxX, hxk⟩ := List.mem_filter.1 hx'
      have h1 := h x hxX y hy
      have h2 := hs.trans x k y (eqv_iff.1 hxk).1 (eqv_iff.1 hk).2
      rw [h1] at h2; cases h2
    rw [hy]; simp
theorem Sorted.uniq (hs : Swo lt) : ∀ {a b : List α}, Sorted lt a → Sorted lt b → FE lt a b → a = b
  | [], [], _, _, _ => rfl
  | [], y :: b, _, _, h => by have := h.symm.mem hs (x := y) (by simp); cases this
  | x :: a, [], _, _, h => by have := h.mem hs (x := x) (by simp); cases this
  | x :: a, y :: b, ha, hb, h => by
    have ha' := List.pairwise_cons.1 ha
    have hb' := List.pairwise_cons.1 hb
    have hxy : lt x y = false := by
      rcases List.mem_cons.1 (h.mem hs (x := x) (by simp)) with rfl | hx
      · exact hs.irrefl _
      · exact hb'.1 x hx
    have hyx : lt y x = false := by
      rcases List.mem_cons.1 (h.symm.mem hs (x := y) (by simp)) with rfl | hy
      · exact hs.irrefl _
      · exact ha'.1 y hy
    have e1 := h x
    rw [List.filter_cons_of_pos (hs.eqv_self x), List.filter_cons_of_pos (eqv_iff.2 ⟨hxy, hyx⟩)] at e1
    simp only [List.cons.injEq] at e1
    obtain ⟨rfl, _⟩ := e1
    congr 1
    refine Sorted.uniq hs ha'.2 hb'.2 fun k => ?_
    have e2 := h k
    by_cases hk : eqv lt k x = true
    · rw [List.filter_cons_of_pos hk, List.filter_cons_of_pos hk] at e2
      simpa using e2
    · rw [List.filter_cons_of_neg hk, List.filter_cons_of_neg hk] at e2
      exact e2
/-- m is l, stably sorted. -/
def StS (lt : α → α → Bool) (l m : List α) : Prop := FE lt m l ∧ Sorted lt m
theorem StS.uniq (hs : Swo lt) {l a b : List α} (ha : StS lt l a) (hb : StS lt l b) : a = b := Sorted.uniq hs ha.2 hb.2 (ha.1.trans hb.1.symm)
theorem FE.length (hs : Swo lt) : ∀ (n : Nat) {a b : List α}, a.length = n → FE lt a b → b.length = n
  | 0, a, b, hn, h => by
    cases b with
    | nil => rfl
    | cons y b => have := h.symm.mem hs (x := y) (by simp); rw [List.length_eq_zero_iff.1 hn] at this; cases this
  | n + 1, a, b, hn, h => by
    cases a with
    | nil => cases hn
    | cons x a =>
      have hx := h.mem hs (x := x) (by simp)
      have hne : b.filter (eqv lt x) ≠ [] := fun e => by
        have : x ∈ b.filter (eqv lt x) := List.mem_filter.2 ⟨hx, hs.eqv_self x⟩
        rw [e] at this; cases this
      -- the first of x's class in b is x
      have e1 := h x
      rw [List.filter_cons_of_pos (hs.eqv_self x)] at e1
      obtain ⟨b1, b2, hb, hb1⟩ : ∃ b1 b2, b = b1 ++ x :: b2 ∧ ∀ z ∈ b1, eqv lt x z = false := by
        clear hn h hx hne
        induction b with
        | nil => cases e1
        | cons z b ih =>
          by_cases hz : eqv lt x z = true
          · rw [List.filter_cons_of_pos hz] at e1
            simp only [List.cons.injEq] at e1
            obtain ⟨rfl, _⟩ := e1
            exact ⟨[], b, rfl, fun z hz => by cases hz⟩
          · rw [List.filter_cons_of_neg hz] at e1
            obtain ⟨b1, b2, rfl, h1⟩ := ih e1
            exact ⟨z :: b1, b2, rfl, fun w hw => by
              rcases List.mem_cons.1 hw with rfl | hw
              · simpa using hz
              · exact h1 w hw⟩
      have h2 : FE lt a (b1 ++ b2) := fun k => by
        have e2 := h k
        rw [hb, List.filter_append] at e2
        rw [List.filter_append]
        by_cases hk : eqv lt k x = true
        · rw [List.filter_cons_of_pos hk, List.filter_cons_of_pos hk] at e2
          have h0 : b1.filter (eqv lt k) = [] := by
            rw [List.filter_eq_nil_iff]
            intro z hz hkz
            have h1 := hb1 z hz
            have h3 := eqv_iff.1 hk
            have h4 := eqv_iff.1 hkz
            have : eqv lt x z = true := eqv_iff.2 ⟨hs.trans z k x h4.1 h3.2, hs.trans x k z h3.1 h4.2⟩
            rw [this] at h1; cases h1
          rw [h0] at e2 ⊢
          simpa using e2
        · rw [List.filter_cons_of_neg hk, List.filter_cons_of_neg hk] at e2
          exact e2
      have := FE.length hs n (by simpa using hn) h2
      rw [hb]; simp at this ⊢; omega
end
end Go.GB
