/- Parts: W2. -/
import Derived.Test.YtkjkkimnjpodiaaGreatDoorW2bs
set_option linter.unusedVariables false
set_option linter.unusedSimpArgs false
set_option maxRecDepth 100000
namespace Go.Proofs.YtkjkkimnjpodiaaGreatDoor
open Go.GB
def lays_sort1_ren : Go.Shelf.Ren := ⟨fun x => if x = 6 then 55 else if x = 15 then 89 else if x = 14 then 109 else if x = 28 then 140 else if x = 29 then 141 else if x = 20 then 147 else if x = 21 then 148 else if x = 22 then 149 else if x = 23 then 150 else if x = 24 then 151 else if x = 25 then 152 else if x = 26 then 153 else if x = 27 then 154 else if x = 46 then 177 else if x = 47 then 169 else if x = 48 then 170 else if x = 49 then 178 else if x = 50 then 179 else if x = 57 then 197 else x, fun x => if x = 22 then 34 else if x = 24 then 3 else if x = 25 then 103 else if x = 39 then 127 else if x = 53 then 157 else if x = 55 then 85 else if x = 46 then 151 else if x = 45 then 150 else if x = 50 then 101 else if x = 66 then 175 else if x = 70 then 179 else if x = 76 then 190 else if x = 77 then 191 else x, fun x => x⟩
theorem lays_sort1 : Go.Proofs.SlLaysF.n6 Tryz.prog lays_sort1_ren := {
  mixed := by kernel_rfl,
  f6 := ⟨Tryz.f55.name, by decide, Tryz.func55.trans (congrArg some (by kernel_rfl))⟩,
  f14 := ⟨Tryz.f109.name, by decide, Tryz.func109.trans (congrArg some (by kernel_rfl))⟩,
  f15 := Tryz.func89.trans (congrArg some (by kernel_rfl)),
  f20 := ⟨Tryz.f147.name, by decide, Tryz.func147.trans (congrArg some (by kernel_rfl))⟩,
  f21 := ⟨Tryz.f148.name, by decide, Tryz.func148.trans (congrArg some (by kernel_rfl))⟩,
  f22 := ⟨Tryz.f149.name, by decide, Tryz.func149.trans (congrArg some (by kernel_rfl))⟩,
  f23 := ⟨Tryz.f150.name, by decide, Tryz.func150.trans (congrArg some (by kernel_rfl))⟩,
  f24 := ⟨Tryz.f151.name, by decide, Tryz.func151.trans (congrArg some (by kernel_rfl))⟩,
  f25 := ⟨Tryz.f152.name, by decide, Tryz.func152.trans (congrArg some (by kernel_rfl))⟩,
  f26 := ⟨Tryz.f153.name, by decide, Tryz.func153.trans (congrArg some (by kernel_rfl))⟩,
  f27 := ⟨Tryz.f154.name, by decide, Tryz.func154.trans (congrArg some (by kernel_rfl))⟩,
  f28 := Tryz.func140.trans (congrArg some (by kernel_rfl)),
  f29 := Tryz.func141.trans (congrArg some (by kernel_rfl)),
  f46 := ⟨Tryz.f177.name, by decide, Tryz.func177.trans (congrArg some (by kernel_rfl))⟩,
  f47 := Tryz.func169.trans (congrArg some (by kernel_rfl)),
  f48 := Tryz.func170.trans (congrArg some (by kernel_rfl)),
  f49 := ⟨Tryz.f178.name, by decide, Tryz.func178.trans (congrArg some (by kernel_rfl))⟩,
  f50 := ⟨Tryz.f179.name, by decide, Tryz.func179.trans (congrArg some (by kernel_rfl))⟩,
  f57 := ⟨Tryz.f197.name, by decide, Tryz.func197.trans (congrArg some (by kernel_rfl))⟩,
  t0 := Tryz.underlying0,
  a0 := Tryz.isAgg0,
  z0 := Tryz.sizeOf0,
  v0 := Tryz.zeroValue0,
  t3 := Tryz.underlying3,
  a3 := Tryz.isAgg3,
  z3 := Tryz.sizeOf3,
  v3 := Tryz.zeroValue3,
  t4 := Tryz.underlying4,
  a4 := Tryz.isAgg4,
  z4 := Tryz.sizeOf4,
  v4 := Tryz.zeroValue4,
  t5 := Tryz.underlying5,
  a5 := Tryz.isAgg5,
  z5 := Tryz.sizeOf5,
  v5 := Tryz.zeroValue5,
  t9 := Tryz.underlying9,
  a9 := Tryz.isAgg9,
  z9 := Tryz.sizeOf9,
  v9 := Tryz.zeroValue9,
  t22 := Tryz.underlying34,
  a22 := Tryz.isAgg34,
  z22 := Tryz.sizeOf34,
  v22 := Tryz.zeroValue34,
  a24 := Tryz.isAgg3,
  z24 := Tryz.sizeOf3,
  t25 := Tryz.underlying103,
  a25 := Tryz.isAgg103,
  z25 := Tryz.sizeOf103,
  v25 := Tryz.zeroValue103,
  t39 := Tryz.underlying127,
  a39 := Tryz.isAgg127,
  z39 := Tryz.sizeOf127,
  v39 := Tryz.zeroValue127,
  t45 := Tryz.underlying150,
  a45 := Tryz.isAgg150,
  z45 := Tryz.sizeOf150,
  v45 := Tryz.zeroValue150,
  t46 := Tryz.underlying151,
  a46 := Tryz.isAgg151,
  z46 := Tryz.sizeOf151,
  v46 := Tryz.zeroValue151,
  t50 := Tryz.underlying101,
  a50 := Tryz.isAgg101,
  z50 := Tryz.sizeOf101,
  v50 := Tryz.zeroValue101,
  t53 := Tryz.underlying157,
  a53 := Tryz.isAgg157,
  z53 := Tryz.sizeOf157,
  v53 := Tryz.zeroValue157,
  t55 := Tryz.underlying85,
  a55 := Tryz.isAgg85,
  z55 := Tryz.sizeOf85,
  v55 := Tryz.zeroValue85,
  t66 := Tryz.underlying175,
  a66 := Tryz.isAgg175,
  z66 := Tryz.sizeOf175,
  v66 := Tryz.zeroValue175,
  t70 := Tryz.underlying179,
  a70 := Tryz.isAgg179,
  z70 := Tryz.sizeOf179,
  v70 := Tryz.zeroValue179,
  t76 := Tryz.underlying190,
  a76 := Tryz.isAgg190,
  z76 := Tryz.sizeOf190,
  v76 := Tryz.zeroValue190,
  t77 := Tryz.underlying191,
  a77 := Tryz.isAgg191,
  z77 := Tryz.sizeOf191,
  v77 := Tryz.zeroValue191 }

theorem slices_SortFunc_55_56_walk {a0 : List Int} {A : Option Addr} {c : Nat} {C : Own} {I : Imm} {a2 : List (List S76)} {p2 : Addr} {A2_0 : Option Addr} {n2_0 : Nat} (hO : OwnS (Kd.int .i64) 3 I A c a0 C) (hp2 : RunAt I p2 [.slice A2_0 a2.length n2_0]) (hf2_0 : RepS (Kd.sl kS76) I A2_0 n2_0 a2) (hr : SortAble (fun x0 x1 => aggr_Groups_1 x0 x1 a2) a0) (L : Own) :
    CallsTo Tryz.prog 55 #[.slice A a0.length c, .func (.func 56) #[] #[.pointer (some p2)]] I (C ++ L) (fun v I' L' => ∃ r C', SortRel (fun x0 x1 => aggr_Groups_1 x0 x1 a2) a0 r ∧ OwnS (Kd.int .i64) 3 I' A c r C' ∧ v = .tuple #[] ∧ C' ++ L = L') :=
  callsTo_sort1 lays_sort1 rfl hO hr (enters_of Tryz.func56 (by kernel_rfl) rfl)
    (fun {J} {x0 x1} {_ _} {k} hJ h0 h1 hk L => by
      cases h0
      cases h1
      simp only [List.append_toArray, List.nil_append, List.append_nil, Array.append_empty, Array.empty_append, List.push_append_toArray, List.cons_append]
      exact aggr_Groups_1_walk  (hp2.monoH hJ) (hf2_0.monoH hJ) hk L) L
/-! 21 aggr_Groups  -/
noncomputable def aggr_Groups_l61 (a1 : List ByteArray) (a2 : Bool) (y1 : (List S38) × Int) : ((List (List S76)) × (List (ByteArray × Int)) × (List (List S38)) × Int) → Option (((List (List S76)) × (List (ByteArray × Int)) × (List (List S38)) × Int) ⊕ ((List (List S38)) × (List (List S76)))) := fun s34 =>
  bif (decide (s34.2.2.2 < (y1.1.length : Int))) then
  (Option.bind (ix y1.1 s34.2.2.2) fun (x64 : S38) =>
    Option.bind (aggr_group x64.f0 a1 a2) fun (y79 : (List S76)) =>
    Option.bind (labels_Put [] y79) fun (y92 : (List Int) × Int) =>
    Option.bind (bif (!((mget Ky.str s34.2.1 (ofBytes y92.1)).isSome)) then
      (Option.bind (app s34.1 [y79]) fun (zs123 : List (List S76)) =>
        Option.bind (app s34.2.2.1 [([] : List S38)]) fun (zs133 : List (List S38)) =>
        some ((mput Ky.str s34.2.1 (ofBytes y92.1) (s34.2.2.1.length : Int)), zs133, (s34.2.2.1.length : Int), zs123))
      else
      (some (s34.2.1, s34.2.2.1, ((mget Ky.str s34.2.1 (ofBytes y92.1)).getD 0), s34.1))) fun (j101 : (List (ByteArray × Int)) × (List (List S38)) × Int × (List (List S76))) =>
    Option.bind (ix j101.2.1 j101.2.2.1) fun (x140 : List S38) =>
    Option.bind (app x140 [x64]) fun (zs160 : List S38) =>
    some (Sum.inl (j101.2.2.2, j101.1, (lset j101.2.1 j101.2.2.1 zs160), (IntKind.wrap .i64 (s34.2.2.2 + 1)))))
  else
  (some (Sum.inr (s34.2.2.1, s34.1)))
noncomputable def aggr_Groups_l198 (xs169 : List Int) : ((List Int) × Int) → Option (((List Int) × Int) ⊕ ((List Int))) := fun s183 =>
  bif (decide (s183.2 < (xs169.length : Int))) then
  (Option.bind (ix s183.1 s183.2) fun (x201 : Int) =>
    some (Sum.inl ((lset s183.1 s183.2 s183.2), (IntKind.wrap .i64 (s183.2 + 1)))))
  else
  (some (Sum.inr s183.1))
noncomputable def aggr_Groups_l270 (r32 : (List (List S38)) × (List (List S76))) (zs218 : List Int) : ((List (List S38)) × Int) → Option (((List (List S38)) × Int) ⊕ ((List (List S38)))) := fun s253 =>
  bif (decide (s253.2 < (zs218.length : Int))) then
  (Option.bind (ix zs218 s253.2) fun (x273 : Int) =>
    Option.bind (ix r32.1 x273) fun (x282 : List S38) =>
    Option.bind (app s253.1 [x282]) fun (zs297 : List (List S38)) =>
    some (Sum.inl (zs297, (IntKind.wrap .i64 (s253.2 + 1)))))
  else
  (some (Sum.inr s253.1))
noncomputable def aggr_Groups (a0 : List S38) (a1 : List ByteArray) (a2 : Bool) : Option ((List (List S38)) × Int) :=
  Option.bind (vec_Vector a0) fun (y1 : (List S38) × Int) =>
  bif (y1.2 != 0) then
  (some ([], y1.2))
  else
  (Option.bind (aggr_wrong a1) fun (y11 : Int) =>
    bif (y11 != 0) then
    (some ([], y11))
    else
    (Option.bind (loopO (aggr_Groups_l61 a1 a2 y1) ([], ([] : List (ByteArray × Int)), [], 0)) fun (r32 : (List (List S38)) × (List (List S76))) =>
      Option.bind (mkrow (0 : Int) (r32.1.length : Int) (r32.1.length : Int)) fun (xs169 : List Int) =>
      Option.bind (loopO (aggr_Groups_l198 xs169) (xs169, 0)) fun (r181 : (List Int)) =>
      sortBind (fun x0 x1 => aggr_Groups_1 x0 x1 r32.2) r181 fun (zs218 : List Int) =>
      Option.bind (loopO (aggr_Groups_l270 r32 zs218) ([], 0)) fun (r251 : (List (List S38))) =>
      some (r251, 0)))
theorem aggr_Groups_walk {a0 : List S38} {A0_0 : Option Addr} {n0_0 : Nat} {a1 : List ByteArray} {A1_0 : Option Addr} {n1_0 : Nat} {a2 : Bool} {I : Imm} {r : (List (List S38)) × Int} (hG : Gl I)  (hf0_0 : RepS kS38 I A0_0 n0_0 a0)  (hf1_0 : RepS Kd.str I A1_0 n1_0 a1) (hr : aggr_Groups a0 a1 a2 = some r) (L : Own) :
    CallsTo Tryz.prog 21 #[.slice A0_0 a0.length n0_0, .slice A1_0 a1.length n1_0, .bool a2] I L (fun v I' L' => ∃ A0 c0 C0, OwnS (Kd.sl kS38) 22 I' A0 c0 r.1 C0 ∧ v = .tuple #[.slice A0 r.1.length c0, .int .i64 r.2] ∧ C0 ++ L = L') := by
  unfold aggr_Groups at hr
  refine callsTo_body (N := 120) Tryz.func21 (by kernel_rfl) (by kernel_rfl) (by kernel_rfl) ?_
  refine gk_pick [0, 1, 2] (K' := [(0, .slice A0_0 a0.length n0_0), (1, .slice A1_0 a1.length n1_0), (2, .bool a2)]) (by kernel_rfl) ?_
  refine gk_seq (by kernel_rfl) ?_
  refine gk_region (by kernel_rfl) ?_
  refine gl_pure 2 [0, 1, 2] (K' := [(0, .slice A0_0 a0.length n0_0), (1, .slice A1_0 a1.length n1_0), (2, .bool a2)]) (by kernel_rfl) ?_
  refine gl_atE (by kernel_rfl) ?_
  refine ge_seq ?_
  refine gk_seq (by kernel_rfl) ?_
  refine gk_region (by kernel_rfl) ?_
  refine gl_pure 1 [1, 2, 27] (K' := [(1, .slice A1_0 a1.length n1_0), (2, .bool a2), (27, .slice A0_0 a0.length n0_0)]) (by kernel_rfl) ?_
  obtain ⟨y1, hx2, hr⟩ := bind_some hr
  refine gl_call (by kernel_rfl) (vec_Vector_walk (r := y1) hG hf0_0 hx2 _) ?_
  rintro v I3 L4 hI5 ⟨A6, c7, C8, hO9, rfl, rfl⟩
  refine gl_pure 5 [1, 2, 8, 9] (K' := [(1, .slice A1_0 a1.length n1_0), (2, .bool a2), (8, .slice A6 y1.1.length c7), (9, .int .i64 y1.2)]) (by kernel_rfl) ?_
  refine gl_atE (by kernel_rfl) ?_
  refine ge_seq ?_
  refine gk_seq (by kernel_rfl) ?_
  refine gk_seq (by kernel_rfl) ?_
  refine gk_region (by kernel_rfl) ?_
  refine gl_pure 2 [1, 2, 8, 9, 32] (K' := [(1, .slice A1_0 a1.length n1_0), (2, .bool a2), (8, .slice A6 y1.1.length c7), (9, .int .i64 y1.2), (32, .bool (y1.2 != 0))]) (by kernel_rfl) ?_
  refine gl_atE (by kernel_rfl) ?_
  refine ge_seq ?_
  refine gk_cond (b := (y1.2 != 0)) (by kernel_rfl) (by kernel_rfl) (fun hc10 => ?_) (fun hc10 => ?_)
  · have hr := cond_t hc10 hr
    refine gk_seq (by kernel_rfl) ?_
    refine gk_region (by kernel_rfl) ?_
    refine gl_pure 3 [6, 7] (K' := [(6, .slice none 0 0), (7, .int .i64 y1.2)]) (by kernel_rfl) ?_
    refine gl_atE (by kernel_rfl) ?_
    refine ge_seq ?_
    refine gk_reord (D := L) (Reord.skipC (Reord.refl _)) ?_
    refine gk_ret (by kernel_rfl) ?_
    refine ge_seq_ret ?_
    obtain rfl := some_inj hr
    exact ge_result trivial (ResOk.tmp (by kernel_rfl) (ResOk.tmp (by kernel_rfl) ResOk.nil)) hI5 ⟨none, 0, [], OwnS.nil _ _ _ _, rfl, rfl⟩
  · have hr := cond_f hc10 hr
    refine gk_skip (by kernel_rfl) ?_
    refine ge_seq ?_
    refine gk_seq (by kernel_rfl) ?_
    refine gk_seq (by kernel_rfl) ?_
    refine gk_region (by kernel_rfl) ?_
    refine gl_pure 1 [1, 2, 8, 34] (K' := [(1, .slice A1_0 a1.length n1_0), (2, .bool a2), (8, .slice A6 y1.1.length c7), (34, .slice A1_0 a1.length n1_0)]) (by kernel_rfl) ?_
    obtain ⟨y11, hx12, hr⟩ := bind_some hr
    refine gl_callQ (by kernel_rfl) (aggr_wrong_walk (r := y11) (hf1_0.mono hI5) hx12 _) ?_
    refine gl_pure 1 [1, 2, 8, 10] (K' := [(1, .slice A1_0 a1.length n1_0), (2, .bool a2), (8, .slice A6 y1.1.length c7), (10, .int .i64 y11)]) (by kernel_rfl) ?_
    refine gl_atE (by kernel_rfl) ?_
    refine ge_seq ?_
    refine gk_seq (by kernel_rfl) ?_
    refine gk_region (by kernel_rfl) ?_
    refine gl_pure 2 [1, 2, 8, 10, 37] (K' := [(1, .slice A1_0 a1.length n1_0), (2, .bool a2), (8, .slice A6 y1.1.length c7), (10, .int .i64 y11), (37, .bool (y11 != 0))]) (by kernel_rfl) ?_
    refine gl_atE (by kernel_rfl) ?_
    refine ge_seq ?_
    refine gk_cond (b := (y11 != 0)) (by kernel_rfl) (by kernel_rfl) (fun hc13 => ?_) (fun hc13 => ?_)
    · have hr := cond_t hc13 hr
      refine gk_seq (by kernel_rfl) ?_
      refine gk_region (by kernel_rfl) ?_
      refine gl_pure 3 [6, 7] (K' := [(6, .slice none 0 0), (7, .int .i64 y11)]) (by kernel_rfl) ?_
      refine gl_atE (by kernel_rfl) ?_
      refine ge_seq ?_
      refine gk_reord (D := L) (Reord.skipC (Reord.refl _)) ?_
      refine gk_ret (by kernel_rfl) ?_
      refine ge_seq_ret ?_
      obtain rfl := some_inj hr
      exact ge_result trivial (ResOk.tmp (by kernel_rfl) (ResOk.tmp (by kernel_rfl) ResOk.nil)) hI5 ⟨none, 0, [], OwnS.nil _ _ _ _, rfl, rfl⟩
    · have hr := cond_f hc13 hr
      refine gk_skip (by kernel_rfl) ?_
      refine ge_seq ?_
      refine gk_seq (by kernel_rfl) ?_
      refine gk_region (by kernel_rfl) ?_
      refine gl_makeMap (ky := Ky.str) (d := (Kd.int .i64)) (agg := false) (T' := 96) (by kernel_rfl) (by kernel_rfl) (fun g14 C15 hO16 => ?_)
      refine gl_pure 1 [1, 2, 8, 11] (K' := [(1, .slice A1_0 a1.length n1_0), (2, .bool a2), (8, .slice A6 y1.1.length c7), (11, .map (some g14))]) (by kernel_rfl) ?_
      refine gl_atE (by kernel_rfl) ?_
      refine ge_seq ?_
      refine gk_seq (by kernel_rfl) ?_
      refine gk_region (by kernel_rfl) ?_
      refine gl_alloc (T' := 97) (cs := #[.slice none 0 0]) (by kernel_rfl) (by kernel_rfl) (by kernel_rfl) (fun g17 => ?_)
      refine gl_atE (by kernel_rfl) ?_
      refine ge_seq ?_
      refine gk_seq (by kernel_rfl) ?_
      refine gk_region (by kernel_rfl) ?_
      refine gl_pure 1 [1, 2, 8, 11, 12, 13] (K' := [(1, .slice A1_0 a1.length n1_0), (2, .bool a2), (8, .slice A6 y1.1.length c7), (11, .map (some g14)), (12, .pointer (some ⟨g17, 0, none⟩)), (13, .slice none 0 0)]) (by kernel_rfl) ?_
      refine gl_atE (by kernel_rfl) ?_
      refine ge_seq ?_
      refine gk_seq (by kernel_rfl) ?_
      refine gk_seq (by kernel_rfl) ?_
      refine gk_region (by kernel_rfl) ?_
      refine gl_pure 3 [1, 2, 11, 12, 13, 40, 41, 42] (K' := [(1, .slice A1_0 a1.length n1_0), (2, .bool a2), (11, .map (some g14)), (12, .pointer (some ⟨g17, 0, none⟩)), (13, .slice none 0 0), (40, .slice A6 y1.1.length c7), (41, .int .i64 (y1.1.length : Int)), (42, .int .i64 0)]) (by kernel_rfl) ?_
      refine gl_atE (by kernel_rfl) ?_
      refine ge_seq ?_
      obtain ⟨r32, hl33, hr⟩ := bind_some hr
      refine gk_reord (D := C15 ++ ((g17, .cells #[.slice none 0 0] 97) :: (C8 ++ L))) (Reord.step (Upd.one _ (Upd.rmC _ _)) (Reord.step1 (Upd.rm1 _ _) (Reord.step (Upd.rmC _ _) (Reord.refl _)))) ?_
      refine gk_join (fun t I' L' => ∃ A51 n52 C53 A55 n56 C57, OwnD (KD.sl kS38 39) 22 I' A51 n52 r32.1 C53 ∧ OwnS (Kd.sl kS76) 36 I' A55 n56 r32.2 C57 ∧ I3 ≤ I' ∧ C53 ++ (C57 ++ ((g17, .cells #[.slice A55 r32.2.length n56] 97) :: L)) = L' ∧ Knows 120 [(12, .pointer (some ⟨g17, 0, none⟩)), (13, .slice A51 r32.1.length n52)] t) ?_ ?_
      · refine gk_block (by kernel_rfl) ?_
        refine gk_pick [1, 2, 11, 12, 13, 40, 41, 42] (K' := [(1, .slice A1_0 a1.length n1_0), (2, .bool a2), (11, .map (some g14)), (12, .pointer (some ⟨g17, 0, none⟩)), (13, .slice none 0 0), (40, .slice A6 y1.1.length c7), (41, .int .i64 (y1.1.length : Int)), (42, .int .i64 0)]) (by kernel_rfl) ?_
        intro t hK
        refine gc_loop (aggr_Groups_l61 a1 a2 y1) (fun s34 t I' L' => ∃ A38 n39 C40 C42 A44 n45 C46, OwnS (Kd.sl kS76) 36 I' A38 n39 s34.1 C40 ∧ OwnM Ky.str (Kd.int .i64) false I' g14 s34.2.1 C42 ∧ OwnD (KD.sl kS38 39) 22 I' A44 n45 s34.2.2.1 C46 ∧ I3 ≤ I' ∧ C40 ++ (C42 ++ (C46 ++ ((g17, .cells #[.slice A38 s34.1.length n39] 97) :: (C8 ++ L)))) = L' ∧ Knows 120 [(1, .slice A1_0 a1.length n1_0), (2, .bool a2), (11, .map (some g14)), (12, .pointer (some ⟨g17, 0, none⟩)), (13, .slice A44 s34.2.2.1.length n45), (40, .slice A6 y1.1.length c7), (41, .int .i64 (y1.1.length : Int)), (42, .int .i64 s34.2.2.2)] t) (by kernel_rfl) ?_ hl33 ⟨none, 0, [], C15, none, 0, [], OwnS.nil _ _ _ _, hO16, OwnD.nil _ _ _, (Imm.refl _), rfl, hK⟩
        rintro s34 o35 t I49 L' hb36 ⟨A38, n39, C40, C42, A44, n45, C46, hO41, hO43, hO47, hI37, rfl, hK48⟩
        unfold aggr_Groups_l61 at hb36
        refine gk_at hK48 ?_
        refine gk_seq (by kernel_rfl) ?_
        refine gk_region (by kernel_rfl) ?_
        refine gl_pure 1 [1, 2, 11, 12, 13, 40, 41, 42, 43] (K' := [(1, .slice A1_0 a1.length n1_0), (2, .bool a2), (11, .map (some g14)), (12, .pointer (some ⟨g17, 0, none⟩)), (13, .slice A44 s34.2.2.1.length n45), (40, .slice A6 y1.1.length c7), (41, .int .i64 (y1.1.length : Int)), (42, .int .i64 s34.2.2.2), (43, .bool (decide (s34.2.2.2 < (y1.1.length : Int))))]) (by kernel_rfl) ?_
        refine gl_atE (by kernel_rfl) ?_
        refine ge_seq ?_
        refine gk_seq (by kernel_rfl) ?_
        refine gk_cond (b := (decide (s34.2.2.2 < (y1.1.length : Int)))) (by kernel_rfl) (by kernel_rfl) (fun hc63 => ?_) (fun hc63 => ?_)
        · have hb36 := cond_t hc63 hb36
          refine gk_skip (by kernel_rfl) ?_
          refine ge_seq ?_
          refine gk_seq (by kernel_rfl) ?_
          refine gk_block (by kernel_rfl) ?_
          refine gk_seq (by kernel_rfl) ?_
          refine gk_region (by kernel_rfl) ?_
          obtain ⟨x64, hx65, hb36⟩ := bind_some hb36
          refine gl_indexAddrW (d := kS38) (c := c7) (T' := 22) (e := 39) (xs := (.tmp 40)) (xi := (.tmp 42)) (kd := .i64) hx65 (hO9.mono hI37) (Upd.app _ (Upd.app _ (Upd.app _ (Upd.one _ (Upd.selfC _ _))))) (by kernel_rfl) (by kernel_rfl) (by kernel_rfl) (by kernel_rfl) (by kernel_rfl) (fun p66 cs67 hR68 hA69 hp77 => ?_)
          obtain ⟨A72, n73, b75, hf74, hf76, rfl⟩ := kS38_open hR68
          refine gl_loadOA (T' := 39) (xp := (.tmp 44)) (p := p66) (cs := [.slice A72 x64.f0.length n73, .float .f64 b75]) (by kernel_rfl) (by kernel_rfl) (by kernel_rfl) (by kernel_rfl) (hA69.take 2) ?_
          refine gl_alloc (T' := 39) (cs := #[.slice none 0 0, .float .f64 0]) (by kernel_rfl) (by kernel_rfl) (by kernel_rfl) (fun g78 => ?_)
          refine gl_storeB (T' := 39) (xp := (.tmp 15)) (xv := (.tmp 45)) (v := .agg #[.slice A72 x64.f0.length n73, .float .f64 b75]) (g := g78) (off := 0) (cs := #[.slice none 0 0, .float .f64 0]) (cs' := #[.slice A72 x64.f0.length n73, .float .f64 b75]) (by kernel_rfl) (by kernel_rfl) (by kernel_rfl) (by kernel_rfl) (by kernel_rfl) (Upd.set _ _ _ _) ?_ (by kernel_rfl)
          refine gl_atE (by kernel_rfl) ?_
          refine ge_seq ?_
          refine gk_seq (by kernel_rfl) ?_
          refine gk_region (by kernel_rfl) ?_
          refine gl_pure 1 [1, 2, 11, 12, 13, 15, 40, 41, 42, 46] (K' := [(1, .slice A1_0 a1.length n1_0), (2, .bool a2), (11, .map (some g14)), (12, .pointer (some ⟨g17, 0, none⟩)), (13, .slice A44 s34.2.2.1.length n45), (15, .pointer (some ⟨g78, 0, none⟩)), (40, .slice A6 y1.1.length c7), (41, .int .i64 (y1.1.length : Int)), (42, .int .i64 s34.2.2.2), (46, .pointer (some ⟨g78, 0, none⟩))]) (by kernel_rfl) ?_
          refine gl_loadB (T' := 36) (xp := (.tmp 46)) (v := .slice A72 x64.f0.length n73) (g := g78) (off := 0) (cs := #[.slice A72 x64.f0.length n73, .float .f64 b75]) (e := 39) (fz := (0, 0)) (by kernel_rfl) (by kernel_rfl) (by kernel_rfl) List.mem_cons_self (by kernel_rfl) ?_
          refine gl_pure 2 [1, 2, 11, 12, 13, 15, 40, 41, 42, 47, 48, 49] (K' := [(1, .slice A1_0 a1.length n1_0), (2, .bool a2), (11, .map (some g14)), (12, .pointer (some ⟨g17, 0, none⟩)), (13, .slice A44 s34.2.2.1.length n45), (15, .pointer (some ⟨g78, 0, none⟩)), (40, .slice A6 y1.1.length c7), (41, .int .i64 (y1.1.length : Int)), (42, .int .i64 s34.2.2.2), (47, .slice A72 x64.f0.length n73), (48, .slice A1_0 a1.length n1_0), (49, .bool a2)]) (by kernel_rfl) ?_
          obtain ⟨y79, hx80, hb36⟩ := bind_some hb36
          refine gl_call (by kernel_rfl) (aggr_group_walk (r := y79) (hG.mono (Imm.trans hI5 hI37)) hf74 (hf1_0.mono (Imm.trans hI5 hI37)) hx80 _) ?_
          rintro v I81 L82 hI83 ⟨A84, c85, C86, hO87, rfl, rfl⟩
          refine gl_pure 1 [1, 2, 11, 12, 13, 15, 16, 40, 41, 42] (K' := [(1, .slice A1_0 a1.length n1_0), (2, .bool a2), (11, .map (some g14)), (12, .pointer (some ⟨g17, 0, none⟩)), (13, .slice A44 s34.2.2.1.length n45), (15, .pointer (some ⟨g78, 0, none⟩)), (16, .slice A84 y79.length c85), (40, .slice A6 y1.1.length c7), (41, .int .i64 (y1.1.length : Int)), (42, .int .i64 s34.2.2.2)]) (by kernel_rfl) ?_
          refine gl_atE (by kernel_rfl) ?_
          refine ge_seq ?_
          refine gk_seq (by kernel_rfl) ?_
          refine gk_region (by kernel_rfl) ?_
          refine gl_pure 1 [1, 2, 11, 12, 13, 15, 16, 40, 41, 42, 52] (K' := [(1, .slice A1_0 a1.length n1_0), (2, .bool a2), (11, .map (some g14)), (12, .pointer (some ⟨g17, 0, none⟩)), (13, .slice A44 s34.2.2.1.length n45), (15, .pointer (some ⟨g78, 0, none⟩)), (16, .slice A84 y79.length c85), (40, .slice A6 y1.1.length c7), (41, .int .i64 (y1.1.length : Int)), (42, .int .i64 s34.2.2.2), (52, .slice A84 y79.length c85)]) (by kernel_rfl) ?_
          refine gl_rest (Tk.step (Upd.rmC _ _) (Tk.nil _)) (fun J88 hJ89 hC90 => ?_)
          have hf91 := (OwnS.rest hO87 hJ89 hC90.left)
          obtain ⟨y92, hx93, hb36⟩ := bind_some hb36
          refine gl_call (by kernel_rfl) (labels_Put_walk (r := y92) (hG.mono (Imm.trans (Imm.trans (Imm.trans hI5 hI37) hI83) hJ89)) (RepS.nil _ _) hf91 hx93 _) ?_
          rintro v I94 L95 hI96 ⟨A97, c98, C99, hO100, rfl, rfl⟩
          refine gl_pure 5 [1, 2, 11, 12, 13, 15, 16, 17, 40, 41, 42] (K' := [(1, .slice A1_0 a1.length n1_0), (2, .bool a2), (11, .map (some g14)), (12, .pointer (some ⟨g17, 0, none⟩)), (13, .slice A44 s34.2.2.1.length n45), (15, .pointer (some ⟨g78, 0, none⟩)), (16, .slice A84 y79.length c85), (17, .slice A97 y92.1.length c98), (40, .slice A6 y1.1.length c7), (41, .int .i64 (y1.1.length : Int)), (42, .int .i64 s34.2.2.2)]) (by kernel_rfl) ?_
          refine gl_atE (by kernel_rfl) ?_
          refine ge_seq ?_
          refine gk_seq (by kernel_rfl) ?_
          refine gk_region (by kernel_rfl) ?_
          refine gl_pure 2 [1, 2, 11, 12, 13, 15, 16, 17, 40, 41, 42, 57, 58] (K' := [(1, .slice A1_0 a1.length n1_0), (2, .bool a2), (11, .map (some g14)), (12, .pointer (some ⟨g17, 0, none⟩)), (13, .slice A44 s34.2.2.1.length n45), (15, .pointer (some ⟨g78, 0, none⟩)), (16, .slice A84 y79.length c85), (17, .slice A97 y92.1.length c98), (40, .slice A6 y1.1.length c7), (41, .int .i64 (y1.1.length : Int)), (42, .int .i64 s34.2.2.2), (57, .map (some g14)), (58, .slice A97 y92.1.length c98)]) (by kernel_rfl) ?_
          refine gl_bytesStr (c := c98) (src := 98) (dst := 9) (e := 5) (n := 1) (x := (.tmp 58)) (by kernel_rfl) (by kernel_rfl) (by kernel_rfl) (by kernel_rfl) (by kernel_rfl) (by kernel_rfl) (OwnS.rd hO100 (Upd.selfC _ _)) ?_
          refine gl_lookupS (a := 9) (b := 3) (ds := .string) (ok := true) (T' := 96) (xm := (.tmp 57)) (xk := (.tmp 59)) (x := (ofBytes y92.1)) (z := 0) (uz := .int .i64 0) (fun x => .int .i64 x) valR_int (hO43.mono (Imm.trans (Imm.trans hI83 hJ89) hI96)) (fun q hq => (List.mem_append_right _ (List.mem_cons_of_mem _ (List.mem_append_right _ (List.mem_append_left _ hq))))) (by kernel_rfl) (by kernel_rfl) (by kernel_rfl) (by kernel_rfl) (by kernel_rfl) (by kernel_rfl) (by kernel_rfl) rfl ?_
          refine gl_pure 5 [1, 2, 11, 12, 13, 15, 16, 17, 19, 20, 40, 41, 42] (K' := [(1, .slice A1_0 a1.length n1_0), (2, .bool a2), (11, .map (some g14)), (12, .pointer (some ⟨g17, 0, none⟩)), (13, .slice A44 s34.2.2.1.length n45), (15, .pointer (some ⟨g78, 0, none⟩)), (16, .slice A84 y79.length c85), (17, .slice A97 y92.1.length c98), (19, .int .i64 ((mget Ky.str s34.2.1 (ofBytes y92.1)).getD 0)), (20, .bool ((mget Ky.str s34.2.1 (ofBytes y92.1)).isSome)), (40, .slice A6 y1.1.length c7), (41, .int .i64 (y1.1.length : Int)), (42, .int .i64 s34.2.2.2)]) (by kernel_rfl) ?_
          refine gl_atE (by kernel_rfl) ?_
          refine ge_seq ?_
          refine gk_seq (by kernel_rfl) ?_
          refine gk_seq (by kernel_rfl) ?_
          refine gk_region (by kernel_rfl) ?_
          refine gl_pure 2 [1, 2, 11, 12, 13, 15, 16, 17, 19, 40, 41, 42, 64] (K' := [(1, .slice A1_0 a1.length n1_0), (2, .bool a2), (11, .map (some g14)), (12, .pointer (some ⟨g17, 0, none⟩)), (13, .slice A44 s34.2.2.1.length n45), (15, .pointer (some ⟨g78, 0, none⟩)), (16, .slice A84 y79.length c85), (17, .slice A97 y92.1.length c98), (19, .int .i64 ((mget Ky.str s34.2.1 (ofBytes y92.1)).getD 0)), (40, .slice A6 y1.1.length c7), (41, .int .i64 (y1.1.length : Int)), (42, .int .i64 s34.2.2.2), (64, .bool (!((mget Ky.str s34.2.1 (ofBytes y92.1)).isSome)))]) (by kernel_rfl) ?_
          refine gl_atE (by kernel_rfl) ?_
          refine ge_seq ?_
          obtain ⟨j101, hj102, hb36⟩ := bind_some hb36
          refine gk_join (fun t I' L' => ∃ C104 A106 n107 C108 A110 n111 C112, OwnM Ky.str (Kd.int .i64) false I' g14 j101.1 C104 ∧ OwnD (KD.sl kS38 39) 22 I' A106 n107 j101.2.1 C108 ∧ OwnS (Kd.sl kS76) 36 I' A110 n111 j101.2.2.2 C112 ∧ I94 ≤ I' ∧ C104 ++ (C108 ++ (C112 ++ ((g78, .cells #[.slice A72 x64.f0.length n73, .float .f64 b75] 39) :: ((g17, .cells #[.slice A110 j101.2.2.2.length n111] 97) :: (C8 ++ L))))) = L' ∧ Knows 120 [(1, .slice A1_0 a1.length n1_0), (2, .bool a2), (11, .map (some g14)), (12, .pointer (some ⟨g17, 0, none⟩)), (13, .slice A106 j101.2.1.length n107), (15, .pointer (some ⟨g78, 0, none⟩)), (19, .int .i64 j101.2.2.1), (40, .slice A6 y1.1.length c7), (41, .int .i64 (y1.1.length : Int)), (42, .int .i64 s34.2.2.2)] t) ?_ ?_
          · refine gk_cond (b := (!((mget Ky.str s34.2.1 (ofBytes y92.1)).isSome))) (by kernel_rfl) (by kernel_rfl) (fun hc116 => ?_) (fun hc116 => ?_)
            · have hj102 := cond_t hc116 hj102
              refine gk_seq (by kernel_rfl) ?_
              refine gk_region (by kernel_rfl) ?_
              refine gl_pure 3 [1, 2, 11, 12, 13, 15, 16, 17, 19, 40, 41, 42] (K' := [(1, .slice A1_0 a1.length n1_0), (2, .bool a2), (11, .map (some g14)), (12, .pointer (some ⟨g17, 0, none⟩)), (13, .slice A44 s34.2.2.1.length n45), (15, .pointer (some ⟨g78, 0, none⟩)), (16, .slice A84 y79.length c85), (17, .slice A97 y92.1.length c98), (19, .int .i64 (s34.2.2.1.length : Int)), (40, .slice A6 y1.1.length c7), (41, .int .i64 (y1.1.length : Int)), (42, .int .i64 s34.2.2.2)]) (by kernel_rfl) ?_
              refine gl_atE (by kernel_rfl) ?_
              refine ge_seq ?_
              refine gk_seq (by kernel_rfl) ?_
              refine gk_region (by kernel_rfl) ?_
              refine gl_pure 2 [1, 2, 11, 12, 13, 15, 16, 19, 40, 41, 42, 67, 68] (K' := [(1, .slice A1_0 a1.length n1_0), (2, .bool a2), (11, .map (some g14)), (12, .pointer (some ⟨g17, 0, none⟩)), (13, .slice A44 s34.2.2.1.length n45), (15, .pointer (some ⟨g78, 0, none⟩)), (16, .slice A84 y79.length c85), (19, .int .i64 (s34.2.2.1.length : Int)), (40, .slice A6 y1.1.length c7), (41, .int .i64 (y1.1.length : Int)), (42, .int .i64 s34.2.2.2), (67, .map (some g14)), (68, .slice A97 y92.1.length c98)]) (by kernel_rfl) ?_
              refine gl_bytesStr (c := c98) (src := 98) (dst := 9) (e := 5) (n := 1) (x := (.tmp 68)) (by kernel_rfl) (by kernel_rfl) (by kernel_rfl) (by kernel_rfl) (by kernel_rfl) (by kernel_rfl) (OwnS.rd hO100 (Upd.selfC _ _)) ?_
              refine gl_pure 1 [1, 2, 11, 12, 13, 15, 16, 19, 40, 41, 42, 67, 69, 70] (K' := [(1, .slice A1_0 a1.length n1_0), (2, .bool a2), (11, .map (some g14)), (12, .pointer (some ⟨g17, 0, none⟩)), (13, .slice A44 s34.2.2.1.length n45), (15, .pointer (some ⟨g78, 0, none⟩)), (16, .slice A84 y79.length c85), (19, .int .i64 (s34.2.2.1.length : Int)), (40, .slice A6 y1.1.length c7), (41, .int .i64 (y1.1.length : Int)), (42, .int .i64 s34.2.2.2), (67, .map (some g14)), (69, .string (ofBytes y92.1)), (70, .int .i64 (s34.2.2.1.length : Int))]) (by kernel_rfl) ?_
              refine gl_mapUpdate (a := 9) (b := 3) (ds := .string) (T' := 96) (xm := (.tmp 67)) (xk := (.tmp 69)) (xv := (.tmp 70)) (x := (ofBytes y92.1)) (v := (s34.2.2.1.length : Int)) (u := .int .i64 (s34.2.2.1.length : Int)) (fun X => C99 ++ ((g78, .cells #[.slice A72 x64.f0.length n73, .float .f64 b75] 39) :: (C40 ++ (X ++ (C46 ++ ((g17, .cells #[.slice A38 s34.1.length n39] 97) :: (C8 ++ L))))))) (hO43.mono (Imm.trans (Imm.trans hI83 hJ89) hI96)) (fun X => (Upd.app _ (Upd.one _ (Upd.app _ (Upd.head _ X _))))) (by kernel_rfl) (by kernel_rfl) (by kernel_rfl) (by kernel_rfl) (by kernel_rfl) (by kernel_rfl) (by kernel_rfl) rfl (by kernel_rfl) (fun C117 hO118 => ?_)
              refine gl_atE (by kernel_rfl) ?_
              refine ge_seq ?_
              refine gk_seq (by kernel_rfl) ?_
              refine gk_region (by kernel_rfl) ?_
              refine gl_loadB (T' := 97) (xp := (.tmp 12)) (v := .slice A38 s34.1.length n39) (g := g17) (off := 0) (cs := #[.slice A38 s34.1.length n39]) (e := 97) (fz := (0, 0)) (by kernel_rfl) (by kernel_rfl) (by kernel_rfl) (List.mem_append_right _ (List.mem_cons_of_mem _ (List.mem_append_right _ (List.mem_append_right _ (List.mem_append_right _ List.mem_cons_self))))) (by kernel_rfl) ?_
              refine gl_pure 1 [1, 2, 11, 12, 13, 15, 19, 40, 41, 42, 71, 72] (K' := [(1, .slice A1_0 a1.length n1_0), (2, .bool a2), (11, .map (some g14)), (12, .pointer (some ⟨g17, 0, none⟩)), (13, .slice A44 s34.2.2.1.length n45), (15, .pointer (some ⟨g78, 0, none⟩)), (19, .int .i64 (s34.2.2.1.length : Int)), (40, .slice A6 y1.1.length c7), (41, .int .i64 (y1.1.length : Int)), (42, .int .i64 s34.2.2.2), (71, .slice A38 s34.1.length n39), (72, .slice A84 y79.length c85)]) (by kernel_rfl) ?_
              refine gl_buildSlice (T' := 97) (e := 36) (n := 1) (len := 1) (parts := #[(0, (.tmp 72))]) (l := [(0, .slice A84 y79.length c85)]) (cs := #[.slice A84 y79.length c85]) (by kernel_rfl) (by kernel_rfl) (by kernel_rfl) (by kernel_rfl) (by kernel_rfl) (fun g119 => ?_)
              have hO120 : OwnS (Kd.sl kS76) 36 I94 (some ⟨g119, 0, none⟩) 1 [y79] [(g119, .cells #[.slice A84 y79.length c85] 36)] := OwnS.lit (row_cons (l := [.slice A84 y79.length c85]) ⟨_, _, rfl, (hf91.mono hI96)⟩ (row_nil _ _)) rfl rfl rfl
              refine gl_reord (D := [(g119, .cells #[.slice A84 y79.length c85] 36)] ++ (C99 ++ ((g78, .cells #[.slice A72 x64.f0.length n73, .float .f64 b75] 39) :: (C40 ++ (C117 ++ (C46 ++ ((g17, .cells #[.slice A38 s34.1.length n39] 97) :: (C8 ++ L)))))))) (Reord.refl _) ?_
              obtain ⟨zs123, hz124, hj102⟩ := bind_some hj102
              refine gl_append (xv := .slice (some ⟨g119, 0, none⟩) [y79].length 1) (d := (Kd.sl kS76)) (t := 97) (tx := 97) (e := 36) (s := (.tmp 71)) (x := (.tmp 73)) (xs := s34.1) (fun X => [(g119, .cells #[.slice A84 y79.length c85] 36)] ++ (C99 ++ ((g78, .cells #[.slice A72 x64.f0.length n73, .float .f64 b75] 39) :: (X ++ (C117 ++ (C46 ++ ((g17, .cells #[.slice A38 s34.1.length n39] 97) :: (C8 ++ L)))))))) hz124 (by kernel_rfl) (by kernel_rfl) (by kernel_rfl) (by kernel_rfl) (by kernel_rfl) (by kernel_rfl) (fun X => (Upd.app _ (Upd.app _ (Upd.one _ (Upd.head _ X _))))) (hO41.mono (Imm.trans (Imm.trans hI83 hJ89) hI96)) (SrcOk.slice (c := 1) (e := 36) (n := 1) (OwnS.rd hO120 (Upd.selfC _ _)) (by kernel_rfl)) (fun A125 n126 C127 hO128 => ?_)
              refine gl_storeB (T' := 97) (xp := (.tmp 12)) (xv := (.tmp 74)) (v := .slice A125 zs123.length n126) (g := g17) (off := 0) (cs := #[.slice A38 s34.1.length n39]) (cs' := #[.slice A125 zs123.length n126]) (by kernel_rfl) (by kernel_rfl) (by kernel_rfl) (by kernel_rfl) (by kernel_rfl) (Upd.app _ (Upd.app _ (Upd.one _ (Upd.app _ (Upd.app _ (Upd.app _ (Upd.set _ _ _ _))))))) ?_ (by kernel_rfl)
              refine gl_atE (by kernel_rfl) ?_
              refine ge_seq ?_
              refine gk_region (by kernel_rfl) ?_
              refine gl_pure 1 [1, 2, 11, 12, 15, 19, 40, 41, 42, 75] (K' := [(1, .slice A1_0 a1.length n1_0), (2, .bool a2), (11, .map (some g14)), (12, .pointer (some ⟨g17, 0, none⟩)), (15, .pointer (some ⟨g78, 0, none⟩)), (19, .int .i64 (s34.2.2.1.length : Int)), (40, .slice A6 y1.1.length c7), (41, .int .i64 (y1.1.length : Int)), (42, .int .i64 s34.2.2.2), (75, .slice A44 s34.2.2.1.length n45)]) (by kernel_rfl) ?_
              refine gl_buildSlice (T' := 48) (e := 22) (n := 1) (len := 1) (parts := #[(0, (.const (.slice none 0 0)))]) (l := [(0, .slice none 0 0)]) (cs := #[.slice none 0 0]) (by kernel_rfl) (by kernel_rfl) (by kernel_rfl) (by kernel_rfl) (by kernel_rfl) (fun g129 => ?_)
              have hO130 : OwnS (Kd.sl kS38) 22 I94 (some ⟨g129, 0, none⟩) 1 [[]] [(g129, .cells #[.slice none 0 0] 22)] := OwnS.lit (row_cons (l := [.slice none 0 0]) ⟨_, _, rfl, (RepS.nil _ _)⟩ (row_nil _ _)) rfl rfl rfl
              refine gl_reord (D := [(g129, .cells #[.slice none 0 0] 22)] ++ ([(g119, .cells #[.slice A84 y79.length c85] 36)] ++ (C99 ++ ((g78, .cells #[.slice A72 x64.f0.length n73, .float .f64 b75] 39) :: (C127 ++ (C117 ++ (C46 ++ ((g17, .cells #[.slice A125 zs123.length n126] 97) :: (C8 ++ L))))))))) (Reord.refl _) ?_
              obtain ⟨zs133, hz134, hj102⟩ := bind_some hj102
              refine gl_reord (D := C46 ++ ([(g129, .cells #[.slice none 0 0] 22)] ++ ([(g119, .cells #[.slice A84 y79.length c85] 36)] ++ (C99 ++ ((g78, .cells #[.slice A72 x64.f0.length n73, .float .f64 b75] 39) :: (C127 ++ (C117 ++ ((g17, .cells #[.slice A125 zs123.length n126] 97) :: (C8 ++ L))))))))) (Reord.step (Upd.app _ (Upd.app _ (Upd.app _ (Upd.one _ (Upd.app _ (Upd.app _ (Upd.rmC _ _))))))) (Reord.step (Upd.rmC _ _) (Reord.step (Upd.rmC _ _) (Reord.step (Upd.rmC _ _) (Reord.step1 (Upd.rm1 _ _) (Reord.step (Upd.rmC _ _) (Reord.step (Upd.rmC _ _) (Reord.step1 (Upd.rm1 _ _) (Reord.step (Upd.rmC _ _) (Reord.refl _)))))))))) ?_
              have hq139 : (KD.sl kS38 39).R I94 ([] : List S38) [.slice none 0 0] [] := ⟨none, 0, rfl, OwnS.nil _ _ _ _⟩
              refine gl_appendD (A := A44) (c := n45) (C := C46) (Cy := []) (R := [(g129, .cells #[.slice none 0 0] 22)] ++ ([(g119, .cells #[.slice A84 y79.length c85] 36)] ++ (C99 ++ ((g78, .cells #[.slice A72 x64.f0.length n73, .float .f64 b75] 39) :: (C127 ++ (C117 ++ ((g17, .cells #[.slice A125 zs123.length n126] 97) :: (C8 ++ L)))))))) (cy := [.slice none 0 0]) (xv := .slice (some ⟨g129, 0, none⟩) [[]].length 1) (t := 48) (tx := 48) (s := (.tmp 75)) (x := (.tmp 76)) hz134 (by kernel_rfl) (by kernel_rfl) (by kernel_rfl) (by kernel_rfl) (by kernel_rfl) (by kernel_rfl) (hO47.mono (Imm.trans (Imm.trans hI83 hJ89) hI96)) hq139 (SrcOk.slice (c := 1) (e := 22) (n := 1) (OwnS.rd (OwnS.lit (row_cons (l := [.slice none 0 0]) ⟨rfl, rfl, KD.one (KD.sl kS38 39) hq139⟩ (row_nil _ _)) rfl rfl rfl : OwnS (Kd.raw 1) 22 I94 (some ⟨g129, 0, none⟩) 1 [[.slice none 0 0]] [(g129, .cells #[.slice none 0 0] 22)]) (Upd.app _ (Upd.selfC _ _))) (by kernel_rfl)) (fun A135 n136 C137 hO138 => ?_)
              refine gl_pure 1 [1, 2, 11, 12, 13, 15, 19, 40, 41, 42] (K' := [(1, .slice A1_0 a1.length n1_0), (2, .bool a2), (11, .map (some g14)), (12, .pointer (some ⟨g17, 0, none⟩)), (13, .slice A135 zs133.length n136), (15, .pointer (some ⟨g78, 0, none⟩)), (19, .int .i64 (s34.2.2.1.length : Int)), (40, .slice A6 y1.1.length c7), (41, .int .i64 (y1.1.length : Int)), (42, .int .i64 s34.2.2.2)]) (by kernel_rfl) ?_
              refine gl_reord (D := C117 ++ (C137 ++ (C127 ++ ((g78, .cells #[.slice A72 x64.f0.length n73, .float .f64 b75] 39) :: ((g17, .cells #[.slice A125 zs123.length n126] 97) :: (C8 ++ L)))))) (Reord.step (Upd.app _ (Upd.app _ (Upd.app _ (Upd.app _ (Upd.one _ (Upd.app _ (Upd.rmC _ _))))))) (Reord.step (Upd.rmC _ _) (Reord.step (Upd.app _ (Upd.app _ (Upd.app _ (Upd.one _ (Upd.rmC _ _))))) (Reord.step1 (Upd.app _ (Upd.app _ (Upd.app _ (Upd.rm1 _ _)))) (Reord.step1 (Upd.app _ (Upd.app _ (Upd.app _ (Upd.rm1 _ _)))) (Reord.step (Upd.app _ (Upd.app _ (Upd.app _ (Upd.rmC _ _)))) (Reord.skipC (Reord.skipC (Reord.skipC (Reord.refl _)))))))))) ?_
              refine gl_atE (by kernel_rfl) ?_
              obtain rfl := some_inj hj102
              exact ge_mid fun t ht => ⟨C117, A135, n136, C137, A125, n126, C127, hO118, hO138, hO128, (Imm.refl _), rfl, ht.pick (l := [1, 2, 11, 12, 13, 15, 19, 40, 41, 42]) (by kernel_rfl)⟩
            · have hj102 := cond_f hc116 hj102
              refine gk_reord (D := C42 ++ (C46 ++ (C40 ++ ((g78, .cells #[.slice A72 x64.f0.length n73, .float .f64 b75] 39) :: ((g17, .cells #[.slice A38 s34.1.length n39] 97) :: (C8 ++ L)))))) (Reord.step (Upd.app _ (Upd.one _ (Upd.app _ (Upd.rmC _ _)))) (Reord.step (Upd.app _ (Upd.one _ (Upd.app _ (Upd.rmC _ _)))) (Reord.step (Upd.app _ (Upd.one _ (Upd.rmC _ _))) (Reord.step1 (Upd.app _ (Upd.rm1 _ _)) (Reord.step1 (Upd.app _ (Upd.rm1 _ _)) (Reord.step (Upd.app _ (Upd.rmC _ _)) (Reord.skipC (Reord.refl _)))))))) ?_
              refine gk_skip (by kernel_rfl) ?_
              obtain rfl := some_inj hj102
              exact ge_mid fun t ht => ⟨C42, A44, n45, C46, A38, n39, C40, (hO43.mono (Imm.trans (Imm.trans hI83 hJ89) hI96)), (hO47.mono (Imm.trans (Imm.trans hI83 hJ89) hI96)), (hO41.mono (Imm.trans (Imm.trans hI83 hJ89) hI96)), (Imm.refl _), rfl, ht.pick (l := [1, 2, 11, 12, 13, 15, 19, 40, 41, 42]) (by kernel_rfl)⟩
          · rintro t I115 L' ⟨C104, A106, n107, C108, A110, n111, C112, hO105, hO109, hO113, hI103, rfl, hK114⟩
            refine ge_at hK114 ?_
            refine ge_seq ?_
            refine gk_drawS 10 [(0, true), (1, true), (2, true), (3, true), (4, true), (5, true), (6, true), (7, false), (8, false), (9, false)] [5] [(g78, .cells #[.slice A72 x64.f0.length n73, .float .f64 b75] 39), (g17, .cells #[.slice A110 j101.2.2.2.length n111] 97)] (C108 ++ [(g78, .cells #[.slice A72 x64.f0.length n73, .float .f64 b75] 39), (g17, .cells #[.slice A110 j101.2.2.2.length n111] 97)]) (List.forall_mem_append.2 ⟨fun q hq => (List.mem_append_right _ (List.mem_append_left _ hq)), (List.forall_mem_cons.2 ⟨(List.mem_append_right _ (List.mem_append_right _ (List.mem_append_right _ List.mem_cons_self))), (List.forall_mem_cons.2 ⟨(List.mem_append_right _ (List.mem_append_right _ (List.mem_append_right _ (List.mem_cons_of_mem _ List.mem_cons_self)))), (fun p hp => by cases hp)⟩)⟩)⟩) (fun p hp => List.mem_append_right _ ((fun p hp => hp) p hp)) (by kernel_rfl) (by kernel_rfl) (by kernel_rfl) ?_ (by kernel_rfl)
            refine gd_pure 4 [1, 2, 11, 12, 13, 15, 40, 41, 42, 78, 79, 80, 81] (K' := [(1, .slice A1_0 a1.length n1_0), (2, .bool a2), (11, .map (some g14)), (12, .pointer (some ⟨g17, 0, none⟩)), (13, .slice A106 j101.2.1.length n107), (15, .pointer (some ⟨g78, 0, none⟩)), (40, .slice A6 y1.1.length c7), (41, .int .i64 (y1.1.length : Int)), (42, .int .i64 s34.2.2.2), (78, .slice A106 j101.2.1.length n107), (79, .int .i64 j101.2.2.1), (80, .slice A106 j101.2.1.length n107), (81, .int .i64 j101.2.2.1)]) (s' := [(4, true), (5, true), (6, true), (7, false), (8, false), (9, false)]) (CC.refl (List.forall_mem_append.2 ⟨fun q hq => (List.mem_append_right _ (List.mem_append_left _ hq)), (List.forall_mem_cons.2 ⟨(List.mem_append_right _ (List.mem_append_right _ (List.mem_append_right _ List.mem_cons_self))), (List.forall_mem_cons.2 ⟨(List.mem_append_right _ (List.mem_append_right _ (List.mem_append_right _ (List.mem_cons_of_mem _ List.mem_cons_self)))), (fun p hp => by cases hp)⟩)⟩)⟩)) (by kernel_rfl) ?_
            obtain ⟨x140, hx141, hb36⟩ := bind_some hb36
            obtain ⟨cs142, C143, C144, hR145, hH146, hp147⟩ := OwnD.take hO109 hx141
            obtain ⟨A153, n154, rfl, hO155⟩ := hR145
            obtain ⟨p148, hA149, ha150, hg151⟩ := OwnH.at_ hH146
            have hi152 := ix_some hx141
            refine gd_q (v := .pointer (some p148)) (by kernel_rfl) (by kernel_rfl) (CC.refl (List.forall_mem_append.2 ⟨fun q hq => (List.mem_append_right _ (List.mem_append_left _ hq)), (List.forall_mem_cons.2 ⟨(List.mem_append_right _ (List.mem_append_right _ (List.mem_append_right _ List.mem_cons_self))), (List.forall_mem_cons.2 ⟨(List.mem_append_right _ (List.mem_append_right _ (List.mem_append_right _ (List.mem_cons_of_mem _ List.mem_cons_self)))), (fun p hp => by cases hp)⟩)⟩)⟩)) (fun I' L' T hC kk => gl_indexAddrF (c := n107) (T' := 48) (e := 22) (xs := (.tmp 80)) (xi := (.tmp 81)) (kd := .i64) ha150 hi152.1 hi152.2.1 (by kernel_rfl) (by kernel_rfl) (by kernel_rfl) (by kernel_rfl) (by kernel_rfl) kk) ?_
            refine gd_q (v := .slice A153 x140.length n154) (by kernel_rfl) (by kernel_rfl) (CC.refl (List.forall_mem_append.2 ⟨fun q hq => (List.mem_append_right _ (List.mem_append_left _ hq)), (List.forall_mem_cons.2 ⟨(List.mem_append_right _ (List.mem_append_right _ (List.mem_append_right _ List.mem_cons_self))), (List.forall_mem_cons.2 ⟨(List.mem_append_right _ (List.mem_append_right _ (List.mem_append_right _ (List.mem_cons_of_mem _ List.mem_cons_self)))), (fun p hp => by cases hp)⟩)⟩)⟩)) (fun I' L' T hC kk => gl_loadO (T' := 22) (xp := (.tmp 82)) (p := p148) (c := .slice A153 x140.length n154) (n := 1) (by kernel_rfl) (by kernel_rfl) (by kernel_rfl) (by kernel_rfl) ((OwnH.inC hp147 hA149) _ _ (fun q hq => hC.sub _ (List.mem_append_left _ hq))) kk) ?_
            refine gd_q (v := .agg #[.slice A72 x64.f0.length n73, .float .f64 b75]) (by kernel_rfl) (by kernel_rfl) (CC.refl (List.forall_mem_append.2 ⟨fun q hq => (List.mem_append_right _ (List.mem_append_left _ hq)), (List.forall_mem_cons.2 ⟨(List.mem_append_right _ (List.mem_append_right _ (List.mem_append_right _ List.mem_cons_self))), (List.forall_mem_cons.2 ⟨(List.mem_append_right _ (List.mem_append_right _ (List.mem_append_right _ (List.mem_cons_of_mem _ List.mem_cons_self)))), (fun p hp => by cases hp)⟩)⟩)⟩)) (fun I' L' T hC kk => gl_loadB (T' := 39) (xp := (.tmp 15)) (v := .agg #[.slice A72 x64.f0.length n73, .float .f64 b75]) (g := g78) (off := 0) (cs := #[.slice A72 x64.f0.length n73, .float .f64 b75]) (e := 39) (fz := (0, 0)) (by kernel_rfl) (by kernel_rfl) (by kernel_rfl) (hC.sub _ List.mem_cons_self) (by kernel_rfl) kk) ?_
            refine gd_one (by kernel_rfl) ?_
            refine gl_buildSlice (T' := 22) (e := 39) (n := 2) (len := 1) (parts := #[(0, (.tmp 84))]) (l := [(0, .agg #[.slice A72 x64.f0.length n73, .float .f64 b75])]) (cs := #[.slice A72 x64.f0.length n73, .float .f64 b75]) (by kernel_rfl) (by kernel_rfl) (by kernel_rfl) (by kernel_rfl) (by kernel_rfl) (fun g156 => ?_)
            have hO157 : OwnS kS38 39 I115 (some ⟨g156, 0, none⟩) 1 [x64] [(g156, .cells #[.slice A72 x64.f0.length n73, .float .f64 b75] 39)] := OwnS.lit (row_cons (l := [.slice A72 x64.f0.length n73, .float .f64 b75]) (kS38_mk (x := x64) (hf74.mono (Imm.trans (Imm.trans (Imm.trans hI83 hJ89) hI96) hI103)) hf76) (row_nil _ _)) rfl rfl rfl
            refine gl_reord (D := [(g156, .cells #[.slice A72 x64.f0.length n73, .float .f64 b75] 39)] ++ (C104 ++ (C108 ++ (C112 ++ ((g78, .cells #[.slice A72 x64.f0.length n73, .float .f64 b75] 39) :: ((g17, .cells #[.slice A110 j101.2.2.2.length n111] 97) :: (C8 ++ L))))))) (Reord.refl _) ?_
            refine gl_toD (by kernel_rfl) ⟨(Imm.refl _), (List.forall_mem_append.2 ⟨fun q hq => (List.mem_append_right _ (List.mem_append_right _ (List.mem_append_left _ hq))), (List.forall_mem_cons.2 ⟨(List.mem_append_right _ (List.mem_append_right _ (List.mem_append_right _ (List.mem_append_right _ List.mem_cons_self)))), (List.forall_mem_cons.2 ⟨(List.mem_append_right _ (List.mem_append_right _ (List.mem_append_right _ (List.mem_append_right _ (List.mem_cons_of_mem _ List.mem_cons_self))))), (fun p hp => by cases hp)⟩)⟩)⟩)⟩ ?_
            refine gd_flip (by kernel_rfl) (by kernel_rfl) ?_
            refine gl_reord (D := C108 ++ ([(g156, .cells #[.slice A72 x64.f0.length n73, .float .f64 b75] 39)] ++ (C104 ++ (C112 ++ ((g78, .cells #[.slice A72 x64.f0.length n73, .float .f64 b75] 39) :: ((g17, .cells #[.slice A110 j101.2.2.2.length n111] 97) :: (C8 ++ L))))))) (Reord.step (Upd.app _ (Upd.app _ (Upd.rmC _ _))) (Reord.step (Upd.rmC _ _) (Reord.step (Upd.rmC _ _) (Reord.step (Upd.rmC _ _) (Reord.step1 (Upd.rm1 _ _) (Reord.step1 (Upd.rm1 _ _) (Reord.step (Upd.rmC _ _) (Reord.refl _)))))))) ?_
            refine gl_split hp147 ?_
            obtain ⟨zs160, hz161, hb36⟩ := bind_some hb36
            refine gl_append (xv := .slice (some ⟨g156, 0, none⟩) [x64].length 1) (d := kS38) (t := 22) (tx := 22) (e := 39) (s := (.tmp 83)) (x := (.tmp 85)) (xs := x140) (fun X => C144 ++ (X ++ ([(g156, .cells #[.slice A72 x64.f0.length n73, .float .f64 b75] 39)] ++ (C104 ++ (C112 ++ ((g78, .cells #[.slice A72 x64.f0.length n73, .float .f64 b75] 39) :: ((g17, .cells #[.slice A110 j101.2.2.2.length n111] 97) :: (C8 ++ L)))))))) hz161 (by kernel_rfl) (by kernel_rfl) (by kernel_rfl) (by kernel_rfl) (by kernel_rfl) (by kernel_rfl) (fun X => (Upd.app _ (Upd.head _ X _))) hO155 (SrcOk.slice (c := 1) (e := 39) (n := 2) (OwnS.rd hO157 (Upd.app _ (Upd.app _ (Upd.selfC _ _)))) (by kernel_rfl)) (fun A162 n163 C164 hO165 => ?_)
            refine gl_toD (by kernel_rfl) ⟨(Imm.refl _), (List.forall_mem_cons.2 ⟨(List.mem_append_right _ (List.mem_append_right _ (List.mem_append_right _ (List.mem_append_right _ (List.mem_append_right _ List.mem_cons_self))))), (List.forall_mem_cons.2 ⟨(List.mem_append_right _ (List.mem_append_right _ (List.mem_append_right _ (List.mem_append_right _ (List.mem_append_right _ (List.mem_cons_of_mem _ List.mem_cons_self)))))), (fun p hp => by cases hp)⟩)⟩)⟩ ?_
            refine gd_one (by kernel_rfl) ?_
            refine gl_indexAddrF (c := n107) (T' := 48) (e := 22) (xs := (.tmp 78)) (xi := (.tmp 79)) (kd := .i64) ha150 hi152.1 hi152.2.1 (by kernel_rfl) (by kernel_rfl) (by kernel_rfl) (by kernel_rfl) (by kernel_rfl) ?_
            refine gl_toD (by kernel_rfl) ⟨(Imm.refl _), (List.forall_mem_cons.2 ⟨(List.mem_append_right _ (List.mem_append_right _ (List.mem_append_right _ (List.mem_append_right _ (List.mem_append_right _ List.mem_cons_self))))), (List.forall_mem_cons.2 ⟨(List.mem_append_right _ (List.mem_append_right _ (List.mem_append_right _ (List.mem_append_right _ (List.mem_append_right _ (List.mem_cons_of_mem _ List.mem_cons_self)))))), (fun p hp => by cases hp)⟩)⟩)⟩ ?_
            refine gd_done ?_
            have hl168 : j101.2.1.length = (lset j101.2.1 j101.2.2.1 zs160).length := by simp [lset]
            refine gl_storeD (T' := 22) (xp := (.tmp 87)) (xv := (.tmp 86)) (v := .slice A162 zs160.length n163) (off := 0) (x' := zs160) hH146 ⟨_, _, rfl, hO165⟩ hg151 (by kernel_rfl) (by kernel_rfl) (by kernel_rfl) (by kernel_rfl) (by kernel_rfl) (by kernel_rfl) (by kernel_rfl) (fun C166 hO167 => ?_)
            try rw [hl168]
            refine gl_atE (by kernel_rfl) ?_
            refine ge_block_normal ?_
            refine ge_seq ?_
            refine gk_region (by kernel_rfl) ?_
            refine gl_pure 2 [1, 2, 11, 12, 13, 40, 41, 42] (K' := [(1, .slice A1_0 a1.length n1_0), (2, .bool a2), (11, .map (some g14)), (12, .pointer (some ⟨g17, 0, none⟩)), (13, .slice A106 (lset j101.2.1 j101.2.2.1 zs160).length n107), (40, .slice A6 y1.1.length c7), (41, .int .i64 (y1.1.length : Int)), (42, .int .i64 (IntKind.wrap .i64 (s34.2.2.2 + 1)))]) (by kernel_rfl) ?_
            refine gl_reord (D := C112 ++ (C104 ++ (C166 ++ ((g17, .cells #[.slice A110 j101.2.2.2.length n111] 97) :: (C8 ++ L))))) (Reord.step (Upd.app _ (Upd.app _ (Upd.app _ (Upd.rmC _ _)))) (Reord.step (Upd.app _ (Upd.app _ (Upd.rmC _ _))) (Reord.step (Upd.rmC _ _) (Reord.step1 (Upd.app _ (Upd.one _ (Upd.rm1 _ _))) (Reord.step (Upd.app _ (Upd.one _ (Upd.rmC _ _))) (Reord.skipC (Reord.skip (Reord.refl _)))))))) ?_
            refine gl_atE (by kernel_rfl) ?_
            obtain rfl := some_inj hb36
            exact ge_round fun t ht => ⟨A110, n111, C112, C104, A106, n107, C166, hO113, hO105, hO167, (Imm.trans (Imm.trans (Imm.trans (Imm.trans hI37 hI83) hJ89) hI96) hI103), rfl, ht.pick (l := [1, 2, 11, 12, 13, 40, 41, 42]) (by kernel_rfl)⟩
        · have hb36 := cond_f hc63 hb36
          refine gk_reord (D := C46 ++ (C40 ++ ((g17, .cells #[.slice A38 s34.1.length n39] 97) :: L))) (Reord.step (Upd.app _ (Upd.app _ (Upd.rmC _ _))) (Reord.step (Upd.rmC _ _) (Reord.step1 (Upd.app _ (Upd.rm1 _ _)) (Reord.skipC (Reord.skipC (Reord.refl _)))))) ?_
          refine gk_exit (by kernel_rfl) ?_
          refine ge_seq_exit ?_
          obtain rfl := some_inj hb36
          refine ge_round_out (fun hrr => ?_) (by intro h; cases h)
          obtain rfl := hrr
          refine ge_block_hit (by kernel_rfl) ?_
          exact ge_mid fun t ht => ⟨A44, n45, C46, A38, n39, C40, hO47, hO41, hI37, rfl, ht.pick (l := [12, 13]) (by kernel_rfl)⟩
      · rintro t I60 L' ⟨A51, n52, C53, A55, n56, C57, hO54, hO58, hI50, rfl, hK59⟩
        refine ge_at hK59 ?_
        refine ge_seq ?_
        refine gk_seq (by kernel_rfl) ?_
        refine gk_region (by kernel_rfl) ?_
        refine gl_pure 2 [12, 13, 90] (K' := [(12, .pointer (some ⟨g17, 0, none⟩)), (13, .slice A51 r32.1.length n52), (90, .int .i64 (r32.1.length : Int))]) (by kernel_rfl) ?_
        obtain ⟨xs169, hx170, hr⟩ := bind_some hr
        refine gl_makeSlice (d := (Kd.int .i64)) (T' := 34) (e := 3) (lx := (.tmp 90)) (cx := (.tmp 90)) (kl := .i64) (kc := .i64) (zc := #[.int .i64 0]) hx170 (by kernel_rfl) (by kernel_rfl) (by kernel_rfl) (by kernel_rfl) (by kernel_rfl) (by kernel_rfl) (by kernel_rfl) rfl (fun A171 C172 hO173 => ?_)
        refine gl_pure 1 [12, 13, 21] (K' := [(12, .pointer (some ⟨g17, 0, none⟩)), (13, .slice A51 r32.1.length n52), (21, .slice A171 xs169.length ((r32.1.length : Int).toNat))]) (by kernel_rfl) ?_
        refine gl_atE (by kernel_rfl) ?_
        refine ge_seq ?_
        refine gk_seq (by kernel_rfl) ?_
        refine gk_seq (by kernel_rfl) ?_
        refine gk_region (by kernel_rfl) ?_
        refine gl_pure 3 [12, 13, 21, 93, 94] (K' := [(12, .pointer (some ⟨g17, 0, none⟩)), (13, .slice A51 r32.1.length n52), (21, .slice A171 xs169.length ((r32.1.length : Int).toNat)), (93, .int .i64 (xs169.length : Int)), (94, .int .i64 0)]) (by kernel_rfl) ?_
        refine gl_atE (by kernel_rfl) ?_
        refine ge_seq ?_
        obtain ⟨r181, hl182, hr⟩ := bind_some hr
        refine gk_join (fun t I' L' => ∃ C193, OwnS (Kd.int .i64) 3 I' A171 ((r32.1.length : Int).toNat) r181 C193 ∧ I60 ≤ I' ∧ C193 ++ (C53 ++ (C57 ++ ((g17, .cells #[.slice A55 r32.2.length n56] 97) :: L))) = L' ∧ Knows 120 [(12, .pointer (some ⟨g17, 0, none⟩)), (13, .slice A51 r32.1.length n52), (21, .slice A171 r181.length ((r32.1.length : Int).toNat))] t) ?_ ?_
        · refine gk_block (by kernel_rfl) ?_
          refine gk_pick [12, 13, 21, 93, 94] (K' := [(12, .pointer (some ⟨g17, 0, none⟩)), (13, .slice A51 r32.1.length n52), (21, .slice A171 xs169.length ((r32.1.length : Int).toNat)), (93, .int .i64 (xs169.length : Int)), (94, .int .i64 0)]) (by kernel_rfl) ?_
          intro t hK
          refine gc_loop (aggr_Groups_l198 xs169) (fun s183 t I' L' => ∃ C187, OwnS (Kd.int .i64) 3 I' A171 ((r32.1.length : Int).toNat) s183.1 C187 ∧ I60 ≤ I' ∧ C187 ++ (C53 ++ (C57 ++ ((g17, .cells #[.slice A55 r32.2.length n56] 97) :: L))) = L' ∧ Knows 120 [(12, .pointer (some ⟨g17, 0, none⟩)), (13, .slice A51 r32.1.length n52), (21, .slice A171 s183.1.length ((r32.1.length : Int).toNat)), (93, .int .i64 (xs169.length : Int)), (94, .int .i64 s183.2)] t) (by kernel_rfl) ?_ hl182 ⟨C172, hO173, (Imm.refl _), rfl, hK⟩
          rintro s183 o184 t I191 L' hb185 ⟨C187, hO188, hI186, rfl, hK190⟩
          unfold aggr_Groups_l198 at hb185
          refine gk_at hK190 ?_
          refine gk_seq (by kernel_rfl) ?_
          refine gk_region (by kernel_rfl) ?_
          refine gl_pure 1 [12, 13, 21, 93, 94, 95] (K' := [(12, .pointer (some ⟨g17, 0, none⟩)), (13, .slice A51 r32.1.length n52), (21, .slice A171 s183.1.length ((r32.1.length : Int).toNat)), (93, .int .i64 (xs169.length : Int)), (94, .int .i64 s183.2), (95, .bool (decide (s183.2 < (xs169.length : Int))))]) (by kernel_rfl) ?_
          refine gl_atE (by kernel_rfl) ?_
          refine ge_seq ?_
          refine gk_seq (by kernel_rfl) ?_
          refine gk_cond (b := (decide (s183.2 < (xs169.length : Int)))) (by kernel_rfl) (by kernel_rfl) (fun hc200 => ?_) (fun hc200 => ?_)
          · have hb185 := cond_t hc200 hb185
            refine gk_skip (by kernel_rfl) ?_
            refine ge_seq ?_
            refine gk_seq (by kernel_rfl) ?_
            refine gk_block (by kernel_rfl) ?_
            refine gk_seq (by kernel_rfl) ?_
            refine gk_region (by kernel_rfl) ?_
            refine gl_pure 2 [12, 13, 21, 22, 93, 94] (K' := [(12, .pointer (some ⟨g17, 0, none⟩)), (13, .slice A51 r32.1.length n52), (21, .slice A171 s183.1.length ((r32.1.length : Int).toNat)), (22, .int .i64 s183.2), (93, .int .i64 (xs169.length : Int)), (94, .int .i64 s183.2)]) (by kernel_rfl) ?_
            refine gl_atE (by kernel_rfl) ?_
            refine ge_seq ?_
            refine gk_region (by kernel_rfl) ?_
            refine gl_pure 3 [12, 13, 21, 93, 94, 97, 98, 99] (K' := [(12, .pointer (some ⟨g17, 0, none⟩)), (13, .slice A51 r32.1.length n52), (21, .slice A171 s183.1.length ((r32.1.length : Int).toNat)), (93, .int .i64 (xs169.length : Int)), (94, .int .i64 s183.2), (97, .slice A171 s183.1.length ((r32.1.length : Int).toNat)), (98, .int .i64 s183.2), (99, .int .i64 s183.2)]) (by kernel_rfl) ?_
            obtain ⟨x201, hx202, hb185⟩ := bind_some hb185
            refine gl_indexAddrW (d := (Kd.int .i64)) (c := ((r32.1.length : Int).toNat)) (T' := 34) (e := 3) (xs := (.tmp 97)) (xi := (.tmp 98)) (kd := .i64) hx202 hO188 (Upd.selfC _ _) (by kernel_rfl) (by kernel_rfl) (by kernel_rfl) (by kernel_rfl) (by kernel_rfl) (fun p203 cs204 hR205 hA206 hp209 => ?_)
            obtain rfl := hR205
            have hl212 : s183.1.length = (lset s183.1 s183.2 s183.2).length := by simp [lset]
            refine gl_storeE (d := (Kd.int .i64)) (T' := 3) (xp := (.tmp 100)) (xv := (.tmp 99)) (v := .int .i64 s183.2) (off := 0) (y := s183.2) (fun X => X ++ (C53 ++ (C57 ++ ((g17, .cells #[.slice A55 r32.2.length n56] 97) :: L)))) hx202 hO188 (fun X => (Upd.head _ X _)) hp209 (by kernel_rfl) (by kernel_rfl) (by kernel_rfl) (by kernel_rfl) (by kernel_rfl) (by kernel_rfl) (fun cs h => by obtain rfl := h; rfl) (by kernel_rfl) (fun C210 hO211 => ?_)
            try rw [hl212]
            refine gl_atE (by kernel_rfl) ?_
            refine ge_block_normal ?_
            refine ge_seq ?_
            refine gk_region (by kernel_rfl) ?_
            refine gl_pure 2 [12, 13, 21, 93, 94] (K' := [(12, .pointer (some ⟨g17, 0, none⟩)), (13, .slice A51 r32.1.length n52), (21, .slice A171 (lset s183.1 s183.2 s183.2).length ((r32.1.length : Int).toNat)), (93, .int .i64 (xs169.length : Int)), (94, .int .i64 (IntKind.wrap .i64 (s183.2 + 1)))]) (by kernel_rfl) ?_
            refine gl_atE (by kernel_rfl) ?_
            obtain rfl := some_inj hb185
            exact ge_round fun t ht => ⟨C210, hO211, hI186, rfl, ht.pick (l := [12, 13, 21, 93, 94]) (by kernel_rfl)⟩
          · have hb185 := cond_f hc200 hb185
            refine gk_exit (by kernel_rfl) ?_
            refine ge_seq_exit ?_
            obtain rfl := some_inj hb185
            refine ge_round_out (fun hrr => ?_) (by intro h; cases h)
            obtain rfl := hrr
            refine ge_block_hit (by kernel_rfl) ?_
            exact ge_mid fun t ht => ⟨C187, hO188, hI186, rfl, ht.pick (l := [12, 13, 21]) (by kernel_rfl)⟩
        · rintro t I197 L' ⟨C193, hO194, hI192, rfl, hK196⟩
          refine ge_at hK196 ?_
          refine ge_seq ?_
          refine gk_seq (by kernel_rfl) ?_
          refine gk_region (by kernel_rfl) ?_
          refine gl_pure 2 [13, 21, 102, 103] (K' := [(13, .slice A51 r32.1.length n52), (21, .slice A171 r181.length ((r32.1.length : Int).toNat)), (102, .slice A171 r181.length ((r32.1.length : Int).toNat)), (103, .func (.func 56) #[] #[.pointer (some ⟨g17, 0, none⟩)])]) (by kernel_rfl) ?_
          refine gl_rest (Tk.step (Upd.app _ (Upd.app _ (Upd.rmC _ _))) (Tk.step (Upd.app _ (Upd.app _ (Upd.rm1 _ _))) (Tk.nil _))) (fun J213 hJ214 hC215 => ?_)
          have hf216 := (OwnS.rest (hO58.mono hI192) hJ214 hC215.left)
          have hf217 := hC215.right.left.blk
          obtain ⟨hsa219, hsr220⟩ := sortBind_some hr
          refine gl_call (by kernel_rfl) (slices_SortFunc_55_56_walk (a0 := r181) (A := A171) (c := ((r32.1.length : Int).toNat)) (C := C193) (hO194.mono hJ214) hf217 hf216 hsa219 _) ?_
          rintro v I224 L225 hI226 ⟨zs218, C222, hz221, hO223, rfl, rfl⟩
          replace hr := hsr220 _ hz221
          have hl227 : r181.length = zs218.length := hz221.1.length_eq.symm
          try rw [hl227]
          refine gl_atE (by kernel_rfl) ?_
          refine ge_seq ?_
          refine gk_seq (by kernel_rfl) ?_
          refine gk_region (by kernel_rfl) ?_
          refine gl_pure 1 [13, 21, 23] (K' := [(13, .slice A51 r32.1.length n52), (21, .slice A171 zs218.length ((r32.1.length : Int).toNat)), (23, .slice none 0 0)]) (by kernel_rfl) ?_
          refine gl_atE (by kernel_rfl) ?_
          refine ge_seq ?_
          refine gk_seq (by kernel_rfl) ?_
          refine gk_seq (by kernel_rfl) ?_
          refine gk_region (by kernel_rfl) ?_
          refine gl_pure 3 [13, 23, 105, 106, 107] (K' := [(13, .slice A51 r32.1.length n52), (23, .slice none 0 0), (105, .slice A171 zs218.length ((r32.1.length : Int).toNat)), (106, .int .i64 (zs218.length : Int)), (107, .int .i64 0)]) (by kernel_rfl) ?_
          refine gl_atE (by kernel_rfl) ?_
          refine ge_seq ?_
          refine gk_rest (Tk.step (Upd.app _ (Upd.rmC _ _)) (Tk.nil _)) (fun J239 hJ240 hC241 => ?_)
          have hf242 := (OwnD.rest (hO54.mono (Imm.trans (Imm.trans hI192 hJ214) hI226)) hJ240 hC241.left)
          obtain ⟨r251, hl252, hr⟩ := bind_some hr
          refine gk_join (fun t I' L' => ∃ A264 n265 C266, OwnS (Kd.sl kS38) 22 I' A264 n265 r251 C266 ∧ J239 ≤ I' ∧ C266 ++ L = L' ∧ Knows 120 [(23, .slice A264 r251.length n265)] t) ?_ ?_
          · refine gk_block (by kernel_rfl) ?_
            refine gk_pick [13, 23, 105, 106, 107] (K' := [(13, .slice A51 r32.1.length n52), (23, .slice none 0 0), (105, .slice A171 zs218.length ((r32.1.length : Int).toNat)), (106, .int .i64 (zs218.length : Int)), (107, .int .i64 0)]) (by kernel_rfl) ?_
            intro t hK
            refine gc_loop (aggr_Groups_l270 r32 zs218) (fun s253 t I' L' => ∃ A257 n258 C259, OwnS (Kd.sl kS38) 22 I' A257 n258 s253.1 C259 ∧ J239 ≤ I' ∧ C259 ++ (C222 ++ L) = L' ∧ Knows 120 [(13, .slice A51 r32.1.length n52), (23, .slice A257 s253.1.length n258), (105, .slice A171 zs218.length ((r32.1.length : Int).toNat)), (106, .int .i64 (zs218.length : Int)), (107, .int .i64 s253.2)] t) (by kernel_rfl) ?_ hl252 ⟨none, 0, [], OwnS.nil _ _ _ _, (Imm.refl _), rfl, hK⟩
            rintro s253 o254 t I262 L' hb255 ⟨A257, n258, C259, hO260, hI256, rfl, hK261⟩
            unfold aggr_Groups_l270 at hb255
            refine gk_at hK261 ?_
            refine gk_seq (by kernel_rfl) ?_
            refine gk_region (by kernel_rfl) ?_
            refine gl_pure 1 [13, 23, 105, 106, 107, 108] (K' := [(13, .slice A51 r32.1.length n52), (23, .slice A257 s253.1.length n258), (105, .slice A171 zs218.length ((r32.1.length : Int).toNat)), (106, .int .i64 (zs218.length : Int)), (107, .int .i64 s253.2), (108, .bool (decide (s253.2 < (zs218.length : Int))))]) (by kernel_rfl) ?_
            refine gl_atE (by kernel_rfl) ?_
            refine ge_seq ?_
            refine gk_seq (by kernel_rfl) ?_
            refine gk_cond (b := (decide (s253.2 < (zs218.length : Int)))) (by kernel_rfl) (by kernel_rfl) (fun hc272 => ?_) (fun hc272 => ?_)
            · have hb255 := cond_t hc272 hb255
              refine gk_skip (by kernel_rfl) ?_
              refine ge_seq ?_
              refine gk_seq (by kernel_rfl) ?_
              refine gk_block (by kernel_rfl) ?_
              refine gk_seq (by kernel_rfl) ?_
              refine gk_region (by kernel_rfl) ?_
              obtain ⟨x273, hx274, hb255⟩ := bind_some hb255
              refine gl_indexAddrW (d := (Kd.int .i64)) (c := ((r32.1.length : Int).toNat)) (T' := 34) (e := 3) (xs := (.tmp 105)) (xi := (.tmp 107)) (kd := .i64) hx274 (hO223.mono (Imm.trans hJ240 hI256)) (Upd.app _ (Upd.selfC _ _)) (by kernel_rfl) (by kernel_rfl) (by kernel_rfl) (by kernel_rfl) (by kernel_rfl) (fun p275 cs276 hR277 hA278 hp281 => ?_)
              obtain rfl := hR277
              refine gl_loadO (T' := 3) (xp := (.tmp 109)) (p := p275) (c := .int .i64 x273) (n := 1) (by kernel_rfl) (by kernel_rfl) (by kernel_rfl) (by kernel_rfl) hA278 ?_
              refine gl_pure 1 [13, 23, 25, 105, 106, 107] (K' := [(13, .slice A51 r32.1.length n52), (23, .slice A257 s253.1.length n258), (25, .int .i64 x273), (105, .slice A171 zs218.length ((r32.1.length : Int).toNat)), (106, .int .i64 (zs218.length : Int)), (107, .int .i64 s253.2)]) (by kernel_rfl) ?_
              refine gl_atE (by kernel_rfl) ?_
              refine ge_seq ?_
              refine gk_region (by kernel_rfl) ?_
              refine gl_pure 3 [13, 105, 106, 107, 111, 112, 113] (K' := [(13, .slice A51 r32.1.length n52), (105, .slice A171 zs218.length ((r32.1.length : Int).toNat)), (106, .int .i64 (zs218.length : Int)), (107, .int .i64 s253.2), (111, .slice A257 s253.1.length n258), (112, .slice A51 r32.1.length n52), (113, .int .i64 x273)]) (by kernel_rfl) ?_
              obtain ⟨x282, hx283, hb255⟩ := bind_some hb255
              obtain ⟨p284, cs285, hR286, hA287, ha288⟩ := RepS.ixAt hx283 (hf242.mono hI256)
              have hi289 := ix_some hx283
              obtain ⟨A290, n291, rfl, hf292⟩ := sl_open hR286
              refine gl_indexAddrF (c := n52) (T' := 48) (e := 22) (xs := (.tmp 112)) (xi := (.tmp 113)) (kd := .i64) ha288 hi289.1 hi289.2.1 (by kernel_rfl) (by kernel_rfl) (by kernel_rfl) (by kernel_rfl) (by kernel_rfl) ?_
              refine gl_load (T' := 22) (xp := (.tmp 114)) (p := p284) (c := .slice A290 x282.length n291) (n := 1) (by kernel_rfl) (by kernel_rfl) (by kernel_rfl) (by kernel_rfl) hA287 ?_
              refine gl_buildSlice (T' := 48) (e := 22) (n := 1) (len := 1) (parts := #[(0, (.tmp 115))]) (l := [(0, .slice A290 x282.length n291)]) (cs := #[.slice A290 x282.length n291]) (by kernel_rfl) (by kernel_rfl) (by kernel_rfl) (by kernel_rfl) (by kernel_rfl) (fun g293 => ?_)
              have hO294 : OwnS (Kd.sl kS38) 22 I262 (some ⟨g293, 0, none⟩) 1 [x282] [(g293, .cells #[.slice A290 x282.length n291] 22)] := OwnS.lit (row_cons (l := [.slice A290 x282.length n291]) ⟨_, _, rfl, hf292⟩ (row_nil _ _)) rfl rfl rfl
              refine gl_reord (D := [(g293, .cells #[.slice A290 x282.length n291] 22)] ++ (C259 ++ (C222 ++ L))) (Reord.refl _) ?_
              obtain ⟨zs297, hz298, hb255⟩ := bind_some hb255
              refine gl_append (xv := .slice (some ⟨g293, 0, none⟩) [x282].length 1) (d := (Kd.sl kS38)) (t := 48) (tx := 48) (e := 22) (s := (.tmp 111)) (x := (.tmp 116)) (xs := s253.1) (fun X => [(g293, .cells #[.slice A290 x282.length n291] 22)] ++ (X ++ (C222 ++ L))) hz298 (by kernel_rfl) (by kernel_rfl) (by kernel_rfl) (by kernel_rfl) (by kernel_rfl) (by kernel_rfl) (fun X => (Upd.app _ (Upd.head _ X _))) hO260 (SrcOk.slice (c := 1) (e := 22) (n := 1) (OwnS.rd hO294 (Upd.selfC _ _)) (by kernel_rfl)) (fun A299 n300 C301 hO302 => ?_)
              refine gl_pure 1 [13, 23, 105, 106, 107] (K' := [(13, .slice A51 r32.1.length n52), (23, .slice A299 zs297.length n300), (105, .slice A171 zs218.length ((r32.1.length : Int).toNat)), (106, .int .i64 (zs218.length : Int)), (107, .int .i64 s253.2)]) (by kernel_rfl) ?_
              refine gl_atE (by kernel_rfl) ?_
              refine ge_block_normal ?_
              refine ge_seq ?_
              refine gk_region (by kernel_rfl) ?_
              refine gl_pure 2 [13, 23, 105, 106, 107] (K' := [(13, .slice A51 r32.1.length n52), (23, .slice A299 zs297.length n300), (105, .slice A171 zs218.length ((r32.1.length : Int).toNat)), (106, .int .i64 (zs218.length : Int)), (107, .int .i64 (IntKind.wrap .i64 (s253.2 + 1)))]) (by kernel_rfl) ?_
              refine gl_reord (D := C301 ++ (C222 ++ L)) (Reord.step (Upd.app _ (Upd.rmC _ _)) (Reord.step (Upd.app _ (Upd.rmC _ _)) (Reord.skipC (Reord.refl _)))) ?_
              refine gl_atE (by kernel_rfl) ?_
              obtain rfl := some_inj hb255
              exact ge_round fun t ht => ⟨A299, n300, C301, hO302, hI256, rfl, ht.pick (l := [13, 23, 105, 106, 107]) (by kernel_rfl)⟩
            · have hb255 := cond_f hc272 hb255
              refine gk_reord (D := C259 ++ L) (Reord.step (Upd.rmC _ _) (Reord.skipC (Reord.refl _))) ?_
              refine gk_exit (by kernel_rfl) ?_
              refine ge_seq_exit ?_
              obtain rfl := some_inj hb255
              refine ge_round_out (fun hrr => ?_) (by intro h; cases h)
              obtain rfl := hrr
              refine ge_block_hit (by kernel_rfl) ?_
              exact ge_mid fun t ht => ⟨A257, n258, C259, hO260, hI256, rfl, ht.pick (l := [23]) (by kernel_rfl)⟩
          · rintro t I269 L' ⟨A264, n265, C266, hO267, hI263, rfl, hK268⟩
            refine ge_at hK268 ?_
            refine ge_seq ?_
            refine gk_seq (by kernel_rfl) ?_
            refine gk_region (by kernel_rfl) ?_
            refine gl_pure 3 [6, 7] (K' := [(6, .slice A264 r251.length n265), (7, .int .i64 0)]) (by kernel_rfl) ?_
            refine gl_atE (by kernel_rfl) ?_
            refine ge_seq ?_
            refine gk_ret (by kernel_rfl) ?_
            obtain rfl := some_inj hr
            exact ge_result trivial (ResOk.tmp (by kernel_rfl) (ResOk.tmp (by kernel_rfl) ResOk.nil)) (Imm.trans (Imm.trans (Imm.trans (Imm.trans (Imm.trans (Imm.trans hI5 hI50) hI192) hJ214) hI226) hJ240) hI263) ⟨A264, n265, C266, hO267, rfl, rfl⟩
/-! 49 aggr_stands  -/
/-! 18 aggr_Number  -/
noncomputable def aggr_Number_l96 (x51 : List S38) : ((List Fl) × Int) → Option (((List Fl) × Int) ⊕ ((List Fl))) := fun s79 =>
  bif (decide (s79.2 < (x51.length : Int))) then
  (Option.bind (ix x51 s79.2) fun (x99 : S38) =>
    Option.bind (app s79.1 [x99.f1]) fun (zs117 : List Fl) =>
    some (Sum.inl (zs117, (IntKind.wrap .i64 (s79.2 + 1)))))
  else
  (some (Sum.inr s79.1))
noncomputable def aggr_Number_l48 (a0 : ByteArray) (a2 : List ByteArray) (a3 : Bool) (a4 : Fl) (y11 : (List (List S38)) × Int) : ((List S38) × Int) → Option (((List S38) × Int) ⊕ ((List S38))) := fun s31 =>
  bif (decide (s31.2 < (y11.1.length : Int))) then
  (Option.bind (ix y11.1 s31.2) fun (x51 : List S38) =>
    bif ((aggr_fold a0) == 0) then
    (none)
    else
    (Option.bind (loopO (aggr_Number_l96 x51) ([], 0)) fun (r77 : (List Fl)) =>
      Option.bind (ix x51 0) fun (x123 : S38) =>
      Option.bind (aggr_group x123.f0 a2 a3) fun (y136 : (List S76)) =>
      Option.bind (tabf_48 (aggr_fold a0) r77 a4) fun (y152 : Fl) =>
      Option.bind (app s31.1 [(⟨y136, (aggr_told y152)⟩ : S38)]) fun (zs171 : List S38) =>
      some (Sum.inl (zs171, (IntKind.wrap .i64 (s31.2 + 1))))))
  else
  (some (Sum.inr s31.1))
noncomputable def aggr_Number (a0 : ByteArray) (a1 : List S38) (a2 : List ByteArray) (a3 : Bool) (a4 : Fl) : Option ((List S38) × Int) :=
  Option.bind (slices_Contains aggr_Words a0) fun (y8 : Bool) =>
  bif (!y8) then
  (some ([], 60))
  else
  (Option.bind (aggr_Groups a1 a2 a3) fun (y11 : (List (List S38)) × Int) =>
    bif (y11.2 != 0) then
    (some ([], y11.2))
    else
    (Option.bind (loopO (aggr_Number_l48 a0 a2 a3 a4 y11) ([], 0)) fun (r29 : (List S38)) =>
      Option.bind (vec_Vector r29) fun (y181 : (List S38) × Int) =>
      some (y181.1, y181.2)))
theorem aggr_Number_walk {a0 : ByteArray} {a1 : List S38} {A1_0 : Option Addr} {n1_0 : Nat} {a2 : List ByteArray} {A2_0 : Option Addr} {n2_0 : Nat} {a3 : Bool} {a4 : Fl} {b4_0 : Nat} {I : Imm} {r : (List S38) × Int} (hG : Gl I)  (hf1_0 : RepS kS38 I A1_0 n1_0 a1)  (hf2_0 : RepS Kd.str I A2_0 n2_0 a2)  (hf4_0 : FRep a4 b4_0) (hr : aggr_Number a0 a1 a2 a3 a4 = some r) (L : Own) :
    CallsTo Tryz.prog 18 #[.string a0, .slice A1_0 a1.length n1_0, .slice A2_0 a2.length n2_0, .bool a3, .float .f64 b4_0] I L (fun v I' L' => ∃ A0 c0 C0, OwnS kS38 39 I' A0 c0 r.1 C0 ∧ v = .tuple #[.slice A0 r.1.length c0, .int .i64 r.2] ∧ C0 ++ L = L') := by
  unfold aggr_Number at hr
  refine callsTo_body (N := 91) Tryz.func18 (by kernel_rfl) (by kernel_rfl) (by kernel_rfl) ?_
  refine gk_pick [0, 1, 2, 3, 4] (K' := [(0, .string a0), (1, .slice A1_0 a1.length n1_0), (2, .slice A2_0 a2.length n2_0), (3, .bool a3), (4, .float .f64 b4_0)]) (by kernel_rfl) ?_
  refine gk_seq (by kernel_rfl) ?_
  refine gk_region (by kernel_rfl) ?_
  refine gl_pure 2 [0, 1, 2, 3, 4] (K' := [(0, .string a0), (1, .slice A1_0 a1.length n1_0), (2, .slice A2_0 a2.length n2_0), (3, .bool a3), (4, .float .f64 b4_0)]) (by kernel_rfl) ?_
  refine gl_atE (by kernel_rfl) ?_
  refine ge_seq ?_
  refine gk_seq (by kernel_rfl) ?_
  refine gk_seq (by kernel_rfl) ?_
  refine gk_region (by kernel_rfl) ?_
  refine gl_call (by kernel_rfl) (aggr_Words_walk (r := aggr_Words)  rfl _) ?_
  rintro v I1 L2 hI3 ⟨A4, c5, C6, hO7, rfl, rfl⟩
  refine gl_pure 1 [0, 1, 2, 3, 4, 21, 22] (K' := [(0, .string a0), (1, .slice A1_0 a1.length n1_0), (2, .slice A2_0 a2.length n2_0), (3, .bool a3), (4, .float .f64 b4_0), (21, .slice A4 aggr_Words.length c5), (22, .string a0)]) (by kernel_rfl) ?_
  obtain ⟨y8, hx9, hr⟩ := bind_some hr
  refine gl_callB (r := .bool y8) (Tk.step (Upd.rmC _ _) (Tk.nil _)) (by kernel_rfl) (fun J hJ hC => slices_Contains_walk (r := y8) (OwnS.rest hO7 hJ hC.left) hx9 _) ?_
  refine gl_pure 1 [0, 1, 2, 3, 4, 24] (K' := [(0, .string a0), (1, .slice A1_0 a1.length n1_0), (2, .slice A2_0 a2.length n2_0), (3, .bool a3), (4, .float .f64 b4_0), (24, .bool (!y8))]) (by kernel_rfl) ?_
  refine gl_atE (by kernel_rfl) ?_
  refine ge_seq ?_
  refine gk_cond (b := (!y8)) (by kernel_rfl) (by kernel_rfl) (fun hc10 => ?_) (fun hc10 => ?_)
  · have hr := cond_t hc10 hr
    refine gk_seq (by kernel_rfl) ?_
    refine gk_region (by kernel_rfl) ?_
    refine gl_pure 2 [10, 11] (K' := [(10, .slice none 0 0), (11, .int .i64 60)]) (by kernel_rfl) ?_
    refine gl_atE (by kernel_rfl) ?_
    refine ge_seq ?_
    refine gk_reord (D := L) (Reord.skipC (Reord.refl _)) ?_
    refine gk_ret (by kernel_rfl) ?_
    refine ge_seq_ret ?_
    obtain rfl := some_inj hr
    exact ge_result trivial (ResOk.tmp (by kernel_rfl) (ResOk.tmp (by kernel_rfl) ResOk.nil)) hI3 ⟨none, 0, [], OwnS.nil _ _ _ _, rfl, rfl⟩
  · have hr := cond_f hc10 hr
    refine gk_skip (by kernel_rfl) ?_
    refine ge_seq ?_
    refine gk_seq (by kernel_rfl) ?_
    refine gk_region (by kernel_rfl) ?_
    refine gl_pure 3 [0, 2, 3, 4, 26, 27, 28] (K' := [(0, .string a0), (2, .slice A2_0 a2.length n2_0), (3, .bool a3), (4, .float .f64 b4_0), (26, .slice A1_0 a1.length n1_0), (27, .slice A2_0 a2.length n2_0), (28, .bool a3)]) (by kernel_rfl) ?_
    obtain ⟨y11, hx12, hr⟩ := bind_some hr
    refine gl_call (by kernel_rfl) (aggr_Groups_walk (r := y11) (hG.mono hI3) (hf1_0.mono hI3) (hf2_0.mono hI3) hx12 _) ?_
    rintro v I13 L14 hI15 ⟨A16, c17, C18, hO19, rfl, rfl⟩
    refine gl_pure 5 [0, 2, 3, 4, 12, 13] (K' := [(0, .string a0), (2, .slice A2_0 a2.length n2_0), (3, .bool a3), (4, .float .f64 b4_0), (12, .slice A16 y11.1.length c17), (13, .int .i64 y11.2)]) (by kernel_rfl) ?_
    refine gl_atE (by kernel_rfl) ?_
    refine ge_seq ?_
    refine gk_seq (by kernel_rfl) ?_
    refine gk_seq (by kernel_rfl) ?_
    refine gk_region (by kernel_rfl) ?_
    refine gl_pure 2 [0, 2, 3, 4, 12, 13, 33] (K' := [(0, .string a0), (2, .slice A2_0 a2.length n2_0), (3, .bool a3), (4, .float .f64 b4_0), (12, .slice A16 y11.1.length c17), (13, .int .i64 y11.2), (33, .bool (y11.2 != 0))]) (by kernel_rfl) ?_
    refine gl_atE (by kernel_rfl) ?_
    refine ge_seq ?_
    refine gk_cond (b := (y11.2 != 0)) (by kernel_rfl) (by kernel_rfl) (fun hc20 => ?_) (fun hc20 => ?_)
    · have hr := cond_t hc20 hr
      refine gk_seq (by kernel_rfl) ?_
      refine gk_region (by kernel_rfl) ?_
      refine gl_pure 3 [10, 11] (K' := [(10, .slice none 0 0), (11, .int .i64 y11.2)]) (by kernel_rfl) ?_
      refine gl_atE (by kernel_rfl) ?_
      refine ge_seq ?_
      refine gk_reord (D := L) (Reord.skipC (Reord.skipC (Reord.refl _))) ?_
      refine gk_ret (by kernel_rfl) ?_
      refine ge_seq_ret ?_
      obtain rfl := some_inj hr
      exact ge_result trivial (ResOk.tmp (by kernel_rfl) (ResOk.tmp (by kernel_rfl) ResOk.nil)) (Imm.trans hI3 hI15) ⟨none, 0, [], OwnS.nil _ _ _ _, rfl, rfl⟩
    · have hr := cond_f hc20 hr
      refine gk_skip (by kernel_rfl) ?_
      refine ge_seq ?_
      refine gk_seq (by kernel_rfl) ?_
      refine gk_region (by kernel_rfl) ?_
      refine gl_pure 1 [0, 2, 3, 4, 12, 35] (K' := [(0, .string a0), (2, .slice A2_0 a2.length n2_0), (3, .bool a3), (4, .float .f64 b4_0), (12, .slice A16 y11.1.length c17), (35, .string a0)]) (by kernel_rfl) ?_
      refine gl_callQ (by kernel_rfl) (aggr_fold_walk (r := (aggr_fold a0))  rfl _) ?_
      refine gl_pure 1 [0, 2, 3, 4, 12, 14] (K' := [(0, .string a0), (2, .slice A2_0 a2.length n2_0), (3, .bool a3), (4, .float .f64 b4_0), (12, .slice A16 y11.1.length c17), (14, (tabv_48 (aggr_fold a0)))]) (by kernel_rfl) ?_
      refine gl_atE (by kernel_rfl) ?_
      refine ge_seq ?_
      refine gk_seq (by kernel_rfl) ?_
      refine gk_region (by kernel_rfl) ?_
      refine gl_pure 1 [0, 2, 3, 4, 12, 14, 15] (K' := [(0, .string a0), (2, .slice A2_0 a2.length n2_0), (3, .bool a3), (4, .float .f64 b4_0), (12, .slice A16 y11.1.length c17), (14, (tabv_48 (aggr_fold a0))), (15, .slice none 0 0)]) (by kernel_rfl) ?_
      refine gl_atE (by kernel_rfl) ?_
      refine ge_seq ?_
      refine gk_seq (by kernel_rfl) ?_
      refine gk_seq (by kernel_rfl) ?_
      refine gk_region (by kernel_rfl) ?_
      refine gl_pure 3 [0, 2, 3, 4, 14, 15, 37, 38, 39] (K' := [(0, .string a0), (2, .slice A2_0 a2.length n2_0), (3, .bool a3), (4, .float .f64 b4_0), (14, (tabv_48 (aggr_fold a0))), (15, .slice none 0 0), (37, .slice A16 y11.1.length c17), (38, .int .i64 (y11.1.length : Int)), (39, .int .i64 0)]) (by kernel_rfl) ?_
      refine gl_atE (by kernel_rfl) ?_
      refine ge_seq ?_
      obtain ⟨r29, hl30, hr⟩ := bind_some hr
      refine gk_reord (D := C18 ++ L) (Reord.step (Upd.rmC _ _) (Reord.skipC (Reord.refl _))) ?_
      refine gk_join (fun t I' L' => ∃ A42 n43 C44, OwnS kS38 39 I' A42 n43 r29 C44 ∧ I13 ≤ I' ∧ C44 ++ L = L' ∧ Knows 91 [(15, .slice A42 r29.length n43)] t) ?_ ?_
      · refine gk_block (by kernel_rfl) ?_
        refine gk_pick [0, 2, 3, 4, 14, 15, 37, 38, 39] (K' := [(0, .string a0), (2, .slice A2_0 a2.length n2_0), (3, .bool a3), (4, .float .f64 b4_0), (14, (tabv_48 (aggr_fold a0))), (15, .slice none 0 0), (37, .slice A16 y11.1.length c17), (38, .int .i64 (y11.1.length : Int)), (39, .int .i64 0)]) (by kernel_rfl) ?_
        intro t hK
        refine gc_loop (aggr_Number_l48 a0 a2 a3 a4 y11) (fun s31 t I' L' => ∃ A35 n36 C37, OwnS kS38 39 I' A35 n36 s31.1 C37 ∧ I13 ≤ I' ∧ C37 ++ (C18 ++ L) = L' ∧ Knows 91 [(0, .string a0), (2, .slice A2_0 a2.length n2_0), (3, .bool a3), (4, .float .f64 b4_0), (14, (tabv_48 (aggr_fold a0))), (15, .slice A35 s31.1.length n36), (37, .slice A16 y11.1.length c17), (38, .int .i64 (y11.1.length : Int)), (39, .int .i64 s31.2)] t) (by kernel_rfl) ?_ hl30 ⟨none, 0, [], OwnS.nil _ _ _ _, (Imm.refl _), rfl, hK⟩
        rintro s31 o32 t I40 L' hb33 ⟨A35, n36, C37, hO38, hI34, rfl, hK39⟩
        unfold aggr_Number_l48 at hb33
        refine gk_at hK39 ?_
        refine gk_seq (by kernel_rfl) ?_
        refine gk_region (by kernel_rfl) ?_
        refine gl_pure 1 [0, 2, 3, 4, 14, 15, 37, 38, 39, 40] (K' := [(0, .string a0), (2, .slice A2_0 a2.length n2_0), (3, .bool a3), (4, .float .f64 b4_0), (14, (tabv_48 (aggr_fold a0))), (15, .slice A35 s31.1.length n36), (37, .slice A16 y11.1.length c17), (38, .int .i64 (y11.1.length : Int)), (39, .int .i64 s31.2), (40, .bool (decide (s31.2 < (y11.1.length : Int))))]) (by kernel_rfl) ?_
        refine gl_atE (by kernel_rfl) ?_
        refine ge_seq ?_
        refine gk_seq (by kernel_rfl) ?_
        refine gk_cond (b := (decide (s31.2 < (y11.1.length : Int)))) (by kernel_rfl) (by kernel_rfl) (fun hc50 => ?_) (fun hc50 => ?_)
        · have hb33 := cond_t hc50 hb33
          refine gk_skip (by kernel_rfl) ?_
          refine ge_seq ?_
          refine gk_seq (by kernel_rfl) ?_
          refine gk_block (by kernel_rfl) ?_
          refine gk_seq (by kernel_rfl) ?_
          refine gk_region (by kernel_rfl) ?_
          obtain ⟨x51, hx52, hb33⟩ := bind_some hb33
          refine gl_indexAddrW (d := (Kd.sl kS38)) (c := c17) (T' := 48) (e := 22) (xs := (.tmp 37)) (xi := (.tmp 39)) (kd := .i64) hx52 (hO19.mono hI34) (Upd.app _ (Upd.selfC _ _)) (by kernel_rfl) (by kernel_rfl) (by kernel_rfl) (by kernel_rfl) (by kernel_rfl) (fun p53 cs54 hR55 hA56 hp62 => ?_)
          obtain ⟨A59, n60, rfl, hf61⟩ := sl_open hR55
          refine gl_loadO (T' := 22) (xp := (.tmp 41)) (p := p53) (c := .slice A59 x51.length n60) (n := 1) (by kernel_rfl) (by kernel_rfl) (by kernel_rfl) (by kernel_rfl) hA56 ?_
          refine gl_pure 1 [0, 2, 3, 4, 14, 15, 17, 37, 38, 39] (K' := [(0, .string a0), (2, .slice A2_0 a2.length n2_0), (3, .bool a3), (4, .float .f64 b4_0), (14, (tabv_48 (aggr_fold a0))), (15, .slice A35 s31.1.length n36), (17, .slice A59 x51.length n60), (37, .slice A16 y11.1.length c17), (38, .int .i64 (y11.1.length : Int)), (39, .int .i64 s31.2)]) (by kernel_rfl) ?_
          refine gl_atE (by kernel_rfl) ?_
          refine ge_seq ?_
          refine gk_seq (by kernel_rfl) ?_
          refine gk_seq (by kernel_rfl) ?_
          refine gk_region (by kernel_rfl) ?_
          refine gl_pure 1 [0, 2, 3, 4, 14, 15, 17, 37, 38, 39, 43] (K' := [(0, .string a0), (2, .slice A2_0 a2.length n2_0), (3, .bool a3), (4, .float .f64 b4_0), (14, (tabv_48 (aggr_fold a0))), (15, .slice A35 s31.1.length n36), (17, .slice A59 x51.length n60), (37, .slice A16 y11.1.length c17), (38, .int .i64 (y11.1.length : Int)), (39, .int .i64 s31.2), (43, (tabv_48 (aggr_fold a0)))]) (by kernel_rfl) ?_
          refine gl_eqNilTab (neg := false) (b := ((aggr_fold a0) == 0)) (t := 88) (t' := 88) (x := (.tmp 43)) (y := (.const (.nilFunc))) (tabv_48_cases (aggr_fold a0)) (by kernel_rfl) (by kernel_rfl) (by kernel_rfl) (by kernel_rfl) (by kernel_rfl) ?_
          refine gl_atE (by kernel_rfl) ?_
          refine ge_seq ?_
          refine gk_cond (b := ((aggr_fold a0) == 0)) (by kernel_rfl) (by kernel_rfl) (fun hc63 => ?_) (fun hc63 => ?_)
          · have hb33 := cond_t hc63 hb33
            cases hb33
          · have hb33 := cond_f hc63 hb33
            refine gk_skip (by kernel_rfl) ?_
            refine ge_seq ?_
            refine gk_seq (by kernel_rfl) ?_
            refine gk_region (by kernel_rfl) ?_
            refine gl_pure 1 [0, 2, 3, 4, 14, 15, 17, 18, 37, 38, 39] (K' := [(0, .string a0), (2, .slice A2_0 a2.length n2_0), (3, .bool a3), (4, .float .f64 b4_0), (14, (tabv_48 (aggr_fold a0))), (15, .slice A35 s31.1.length n36), (17, .slice A59 x51.length n60), (18, .slice none 0 0), (37, .slice A16 y11.1.length c17), (38, .int .i64 (y11.1.length : Int)), (39, .int .i64 s31.2)]) (by kernel_rfl) ?_
            refine gl_atE (by kernel_rfl) ?_
            refine ge_seq ?_
            refine gk_seq (by kernel_rfl) ?_
            refine gk_seq (by kernel_rfl) ?_
            refine gk_region (by kernel_rfl) ?_
            refine gl_pure 3 [0, 2, 3, 4, 14, 15, 17, 18, 37, 38, 39, 58, 59, 60] (K' := [(0, .string a0), (2, .slice A2_0 a2.length n2_0), (3, .bool a3), (4, .float .f64 b4_0), (14, (tabv_48 (aggr_fold a0))), (15, .slice A35 s31.1.length n36), (17, .slice A59 x51.length n60), (18, .slice none 0 0), (37, .slice A16 y11.1.length c17), (38, .int .i64 (y11.1.length : Int)), (39, .int .i64 s31.2), (58, .slice A59 x51.length n60), (59, .int .i64 (x51.length : Int)), (60, .int .i64 0)]) (by kernel_rfl) ?_
            refine gl_atE (by kernel_rfl) ?_
            refine ge_seq ?_
            obtain ⟨r77, hl78, hb33⟩ := bind_some hb33
            refine gk_join (fun t I' L' => ∃ A90 n91 C92, OwnS Kd.flt 37 I' A90 n91 r77 C92 ∧ I40 ≤ I' ∧ C92 ++ (C37 ++ (C18 ++ L)) = L' ∧ Knows 91 [(0, .string a0), (2, .slice A2_0 a2.length n2_0), (3, .bool a3), (4, .float .f64 b4_0), (14, (tabv_48 (aggr_fold a0))), (15, .slice A35 s31.1.length n36), (17, .slice A59 x51.length n60), (18, .slice A90 r77.length n91), (37, .slice A16 y11.1.length c17), (38, .int .i64 (y11.1.length : Int)), (39, .int .i64 s31.2)] t) ?_ ?_
            · refine gk_block (by kernel_rfl) ?_
              refine gk_pick [0, 2, 3, 4, 14, 15, 17, 18, 37, 38, 39, 58, 59, 60] (K' := [(0, .string a0), (2, .slice A2_0 a2.length n2_0), (3, .bool a3), (4, .float .f64 b4_0), (14, (tabv_48 (aggr_fold a0))), (15, .slice A35 s31.1.length n36), (17, .slice A59 x51.length n60), (18, .slice none 0 0), (37, .slice A16 y11.1.length c17), (38, .int .i64 (y11.1.length : Int)), (39, .int .i64 s31.2), (58, .slice A59 x51.length n60), (59, .int .i64 (x51.length : Int)), (60, .int .i64 0)]) (by kernel_rfl) ?_
              intro t hK
              refine gc_loop (aggr_Number_l96 x51) (fun s79 t I' L' => ∃ A83 n84 C85, OwnS Kd.flt 37 I' A83 n84 s79.1 C85 ∧ I40 ≤ I' ∧ C85 ++ (C37 ++ (C18 ++ L)) = L' ∧ Knows 91 [(0, .string a0), (2, .slice A2_0 a2.length n2_0), (3, .bool a3), (4, .float .f64 b4_0), (14, (tabv_48 (aggr_fold a0))), (15, .slice A35 s31.1.length n36), (17, .slice A59 x51.length n60), (18, .slice A83 s79.1.length n84), (37, .slice A16 y11.1.length c17), (38, .int .i64 (y11.1.length : Int)), (39, .int .i64 s31.2), (58, .slice A59 x51.length n60), (59, .int .i64 (x51.length : Int)), (60, .int .i64 s79.2)] t) (by kernel_rfl) ?_ hl78 ⟨none, 0, [], OwnS.nil _ _ _ _, (Imm.refl _), rfl, hK⟩
              rintro s79 o80 t I88 L' hb81 ⟨A83, n84, C85, hO86, hI82, rfl, hK87⟩
              unfold aggr_Number_l96 at hb81
              refine gk_at hK87 ?_
              refine gk_seq (by kernel_rfl) ?_
              refine gk_region (by kernel_rfl) ?_
              refine gl_pure 1 [0, 2, 3, 4, 14, 15, 17, 18, 37, 38, 39, 58, 59, 60, 61] (K' := [(0, .string a0), (2, .slice A2_0 a2.length n2_0), (3, .bool a3), (4, .float .f64 b4_0), (14, (tabv_48 (aggr_fold a0))), (15, .slice A35 s31.1.length n36), (17, .slice A59 x51.length n60), (18, .slice A83 s79.1.length n84), (37, .slice A16 y11.1.length c17), (38, .int .i64 (y11.1.length : Int)), (39, .int .i64 s31.2), (58, .slice A59 x51.length n60), (59, .int .i64 (x51.length : Int)), (60, .int .i64 s79.2), (61, .bool (decide (s79.2 < (x51.length : Int))))]) (by kernel_rfl) ?_
              refine gl_atE (by kernel_rfl) ?_
              refine ge_seq ?_
              refine gk_seq (by kernel_rfl) ?_
              refine gk_cond (b := (decide (s79.2 < (x51.length : Int)))) (by kernel_rfl) (by kernel_rfl) (fun hc98 => ?_) (fun hc98 => ?_)
              · have hb81 := cond_t hc98 hb81
                refine gk_skip (by kernel_rfl) ?_
                refine ge_seq ?_
                refine gk_seq (by kernel_rfl) ?_
                refine gk_block (by kernel_rfl) ?_
                refine gk_seq (by kernel_rfl) ?_
                refine gk_region (by kernel_rfl) ?_
                obtain ⟨x99, hx100, hb81⟩ := bind_some hb81
                obtain ⟨p101, cs102, hR103, hA104, ha105⟩ := RepS.ixAt hx100 (hf61.mono hI82)
                have hi106 := ix_some hx100
                obtain ⟨A107, n108, b110, hf109, hf111, rfl⟩ := kS38_open hR103
                refine gl_indexAddrF (c := n60) (T' := 22) (e := 39) (xs := (.tmp 58)) (xi := (.tmp 60)) (kd := .i64) ha105 hi106.1 hi106.2.1 (by kernel_rfl) (by kernel_rfl) (by kernel_rfl) (by kernel_rfl) (by kernel_rfl) ?_
                refine gl_loadA (T' := 39) (xp := (.tmp 62)) (p := p101) (cs := [.slice A107 x99.f0.length n108, .float .f64 b110]) (by kernel_rfl) (by kernel_rfl) (by kernel_rfl) (by kernel_rfl) (hA104.take 2) ?_
                refine gl_alloc (T' := 39) (cs := #[.slice none 0 0, .float .f64 0]) (by kernel_rfl) (by kernel_rfl) (by kernel_rfl) (fun g112 => ?_)
                refine gl_storeB (T' := 39) (xp := (.tmp 20)) (xv := (.tmp 63)) (v := .agg #[.slice A107 x99.f0.length n108, .float .f64 b110]) (g := g112) (off := 0) (cs := #[.slice none 0 0, .float .f64 0]) (cs' := #[.slice A107 x99.f0.length n108, .float .f64 b110]) (by kernel_rfl) (by kernel_rfl) (by kernel_rfl) (by kernel_rfl) (by kernel_rfl) (Upd.set _ _ _ _) ?_ (by kernel_rfl)
                refine gl_atE (by kernel_rfl) ?_
                refine ge_seq ?_
                refine gk_region (by kernel_rfl) ?_
                refine gl_pure 2 [0, 2, 3, 4, 14, 15, 17, 37, 38, 39, 58, 59, 60, 64, 65] (K' := [(0, .string a0), (2, .slice A2_0 a2.length n2_0), (3, .bool a3), (4, .float .f64 b4_0), (14, (tabv_48 (aggr_fold a0))), (15, .slice A35 s31.1.length n36), (17, .slice A59 x51.length n60), (37, .slice A16 y11.1.length c17), (38, .int .i64 (y11.1.length : Int)), (39, .int .i64 s31.2), (58, .slice A59 x51.length n60), (59, .int .i64 (x51.length : Int)), (60, .int .i64 s79.2), (64, .slice A83 s79.1.length n84), (65, .pointer (some ⟨g112, 1, none⟩))]) (by kernel_rfl) ?_
                refine gl_loadB (T' := 37) (xp := (.tmp 65)) (v := .float .f64 b110) (g := g112) (off := 1) (cs := #[.slice A107 x99.f0.length n108, .float .f64 b110]) (e := 39) (fz := (0, 0)) (by kernel_rfl) (by kernel_rfl) (by kernel_rfl) List.mem_cons_self (by kernel_rfl) ?_
                refine gl_buildSlice (T' := 92) (e := 37) (n := 1) (len := 1) (parts := #[(0, (.tmp 66))]) (l := [(0, .float .f64 b110)]) (cs := #[.float .f64 b110]) (by kernel_rfl) (by kernel_rfl) (by kernel_rfl) (by kernel_rfl) (by kernel_rfl) (fun g113 => ?_)
                have hO114 : OwnS Kd.flt 37 I88 (some ⟨g113, 0, none⟩) 1 [x99.f1] [(g113, .cells #[.float .f64 b110] 37)] := OwnS.lit (row_cons (l := [.float .f64 b110]) ⟨_, rfl, hf111⟩ (row_nil _ _)) rfl rfl rfl
                refine gl_reord (D := [(g113, .cells #[.float .f64 b110] 37)] ++ ((g112, .cells #[.slice A107 x99.f0.length n108, .float .f64 b110] 39) :: (C85 ++ (C37 ++ (C18 ++ L))))) (Reord.refl _) ?_
                obtain ⟨zs117, hz118, hb81⟩ := bind_some hb81
                refine gl_append (xv := .slice (some ⟨g113, 0, none⟩) [x99.f1].length 1) (d := Kd.flt) (t := 92) (tx := 92) (e := 37) (s := (.tmp 64)) (x := (.tmp 67)) (xs := s79.1) (fun X => [(g113, .cells #[.float .f64 b110] 37)] ++ ((g112, .cells #[.slice A107 x99.f0.length n108, .float .f64 b110] 39) :: (X ++ (C37 ++ (C18 ++ L))))) hz118 (by kernel_rfl) (by kernel_rfl) (by kernel_rfl) (by kernel_rfl) (by kernel_rfl) (by kernel_rfl) (fun X => (Upd.app _ (Upd.one _ (Upd.head _ X _)))) hO86 (SrcOk.slice (c := 1) (e := 37) (n := 1) (OwnS.rd hO114 (Upd.selfC _ _)) (by kernel_rfl)) (fun A119 n120 C121 hO122 => ?_)
                refine gl_pure 1 [0, 2, 3, 4, 14, 15, 17, 18, 37, 38, 39, 58, 59, 60] (K' := [(0, .string a0), (2, .slice A2_0 a2.length n2_0), (3, .bool a3), (4, .float .f64 b4_0), (14, (tabv_48 (aggr_fold a0))), (15, .slice A35 s31.1.length n36), (17, .slice A59 x51.length n60), (18, .slice A119 zs117.length n120), (37, .slice A16 y11.1.length c17), (38, .int .i64 (y11.1.length : Int)), (39, .int .i64 s31.2), (58, .slice A59 x51.length n60), (59, .int .i64 (x51.length : Int)), (60, .int .i64 s79.2)]) (by kernel_rfl) ?_
                refine gl_atE (by kernel_rfl) ?_
                refine ge_block_normal ?_
                refine ge_seq ?_
                refine gk_region (by kernel_rfl) ?_
                refine gl_pure 2 [0, 2, 3, 4, 14, 15, 17, 18, 37, 38, 39, 58, 59, 60] (K' := [(0, .string a0), (2, .slice A2_0 a2.length n2_0), (3, .bool a3), (4, .float .f64 b4_0), (14, (tabv_48 (aggr_fold a0))), (15, .slice A35 s31.1.length n36), (17, .slice A59 x51.length n60), (18, .slice A119 zs117.length n120), (37, .slice A16 y11.1.length c17), (38, .int .i64 (y11.1.length : Int)), (39, .int .i64 s31.2), (58, .slice A59 x51.length n60), (59, .int .i64 (x51.length : Int)), (60, .int .i64 (IntKind.wrap .i64 (s79.2 + 1)))]) (by kernel_rfl) ?_
                refine gl_reord (D := C121 ++ (C37 ++ (C18 ++ L))) (Reord.step (Upd.app _ (Upd.one _ (Upd.rmC _ _))) (Reord.step (Upd.app _ (Upd.one _ (Upd.rmC _ _))) (Reord.step (Upd.app _ (Upd.one _ (Upd.rmC _ _))) (Reord.skipC (Reord.skip (Reord.refl _)))))) ?_
                refine gl_atE (by kernel_rfl) ?_
                obtain rfl := some_inj hb81
                exact ge_round fun t ht => ⟨A119, n120, C121, hO122, hI82, rfl, ht.pick (l := [0, 2, 3, 4, 14, 15, 17, 18, 37, 38, 39, 58, 59, 60]) (by kernel_rfl)⟩
              · have hb81 := cond_f hc98 hb81
                refine gk_exit (by kernel_rfl) ?_
                refine ge_seq_exit ?_
                obtain rfl := some_inj hb81
                refine ge_round_out (fun hrr => ?_) (by intro h; cases h)
                obtain rfl := hrr
                refine ge_block_hit (by kernel_rfl) ?_
                exact ge_mid fun t ht => ⟨A83, n84, C85, hO86, hI82, rfl, ht.pick (l := [0, 2, 3, 4, 14, 15, 17, 18, 37, 38, 39]) (by kernel_rfl)⟩
            · rintro t I95 L' ⟨A90, n91, C92, hO93, hI89, rfl, hK94⟩
              refine ge_at hK94 ?_
              refine ge_seq ?_
              refine gk_region (by kernel_rfl) ?_
              refine gl_pure 2 [0, 2, 3, 4, 14, 18, 37, 38, 39, 70, 71] (K' := [(0, .string a0), (2, .slice A2_0 a2.length n2_0), (3, .bool a3), (4, .float .f64 b4_0), (14, (tabv_48 (aggr_fold a0))), (18, .slice A90 r77.length n91), (37, .slice A16 y11.1.length c17), (38, .int .i64 (y11.1.length : Int)), (39, .int .i64 s31.2), (70, .slice A35 s31.1.length n36), (71, .slice A59 x51.length n60)]) (by kernel_rfl) ?_
              obtain ⟨x123, hx124, hb33⟩ := bind_some hb33
              obtain ⟨p125, cs126, hR127, hA128, ha129⟩ := RepS.ixAt hx124 (hf61.mono hI89)
              have hi130 := ix_some hx124
              obtain ⟨A131, n132, b134, hf133, hf135, rfl⟩ := kS38_open hR127
              refine gl_indexAddrF (c := n60) (T' := 22) (e := 39) (xs := (.tmp 71)) (xi := (.const (.int .i64 0))) (kd := .i64) ha129 hi130.1 hi130.2.1 (by kernel_rfl) (by kernel_rfl) (by kernel_rfl) (by kernel_rfl) (by kernel_rfl) ?_
              refine gl_pure 1 [0, 2, 3, 4, 14, 18, 37, 38, 39, 70, 73] (K' := [(0, .string a0), (2, .slice A2_0 a2.length n2_0), (3, .bool a3), (4, .float .f64 b4_0), (14, (tabv_48 (aggr_fold a0))), (18, .slice A90 r77.length n91), (37, .slice A16 y11.1.length c17), (38, .int .i64 (y11.1.length : Int)), (39, .int .i64 s31.2), (70, .slice A35 s31.1.length n36), (73, .pointer (some (p125.add 0)))]) (by kernel_rfl) ?_
              refine gl_load (T' := 36) (xp := (.tmp 73)) (p := (p125.add 0)) (c := .slice A131 x123.f0.length n132) (n := 1) (by kernel_rfl) (by kernel_rfl) (by kernel_rfl) (by kernel_rfl) (hA128.drop 0) ?_
              refine gl_pure 2 [0, 2, 3, 4, 14, 18, 37, 38, 39, 70, 74, 75, 76] (K' := [(0, .string a0), (2, .slice A2_0 a2.length n2_0), (3, .bool a3), (4, .float .f64 b4_0), (14, (tabv_48 (aggr_fold a0))), (18, .slice A90 r77.length n91), (37, .slice A16 y11.1.length c17), (38, .int .i64 (y11.1.length : Int)), (39, .int .i64 s31.2), (70, .slice A35 s31.1.length n36), (74, .slice A131 x123.f0.length n132), (75, .slice A2_0 a2.length n2_0), (76, .bool a3)]) (by kernel_rfl) ?_
              obtain ⟨y136, hx137, hb33⟩ := bind_some hb33
              refine gl_call (by kernel_rfl) (aggr_group_walk (r := y136) (hG.mono (Imm.trans (Imm.trans (Imm.trans hI3 hI15) hI34) hI89)) hf133 (hf2_0.mono (Imm.trans (Imm.trans (Imm.trans hI3 hI15) hI34) hI89)) hx137 _) ?_
              rintro v I138 L139 hI140 ⟨A141, c142, C143, hO144, rfl, rfl⟩
              refine gl_pure 3 [0, 2, 3, 4, 14, 37, 38, 39, 70, 77, 78, 79, 80] (K' := [(0, .string a0), (2, .slice A2_0 a2.length n2_0), (3, .bool a3), (4, .float .f64 b4_0), (14, (tabv_48 (aggr_fold a0))), (37, .slice A16 y11.1.length c17), (38, .int .i64 (y11.1.length : Int)), (39, .int .i64 s31.2), (70, .slice A35 s31.1.length n36), (77, .slice A141 y136.length c142), (78, (tabv_48 (aggr_fold a0))), (79, .slice A90 r77.length n91), (80, .float .f64 b4_0)]) (by kernel_rfl) ?_
              refine gl_rest (Tk.step (Upd.app _ (Upd.rmC _ _)) (Tk.nil _)) (fun J147 hJ148 hC149 => ?_)
              have hf150 := (OwnS.rest (hO93.mono hI140) hJ148 hC149.left)
              obtain ⟨y152, hx151, hb33⟩ := bind_some hb33
              refine gl_callv (by kernel_rfl) ((tabf_48_fn (aggr_fold a0)).out _ (Imm.refl _) _ _ _ hx151 _ _ _ hf150 hf4_0 _) ?_
              rintro v I153 L154 hI155 ⟨z156, hO157, rfl, rfl⟩
              refine gl_call (by kernel_rfl) (aggr_told_walk (r := (aggr_told y152)) hO157 rfl _) ?_
              rintro v I158 L159 hI160 ⟨z161, hO162, rfl, rfl⟩
              refine gl_pure 1 [0, 2, 3, 4, 14, 37, 38, 39, 70, 83] (K' := [(0, .string a0), (2, .slice A2_0 a2.length n2_0), (3, .bool a3), (4, .float .f64 b4_0), (14, (tabv_48 (aggr_fold a0))), (37, .slice A16 y11.1.length c17), (38, .int .i64 (y11.1.length : Int)), (39, .int .i64 s31.2), (70, .slice A35 s31.1.length n36), (83, .agg #[.slice A141 y136.length c142, .float .f64 z161])]) (by kernel_rfl) ?_
              refine gl_rest (Tk.step (Upd.rmC _ _) (Tk.nil _)) (fun J163 hJ164 hC165 => ?_)
              have hf166 := (OwnS.rest (hO144.mono (Imm.trans (Imm.trans hJ148 hI155) hI160)) hJ164 hC165.left)
              refine gl_buildSlice (T' := 22) (e := 39) (n := 2) (len := 1) (parts := #[(0, (.tmp 83))]) (l := [(0, .agg #[.slice A141 y136.length c142, .float .f64 z161])]) (cs := #[.slice A141 y136.length c142, .float .f64 z161]) (by kernel_rfl) (by kernel_rfl) (by kernel_rfl) (by kernel_rfl) (by kernel_rfl) (fun g167 => ?_)
              have hO168 : OwnS kS38 39 J163 (some ⟨g167, 0, none⟩) 1 [(⟨y136, (aggr_told y152)⟩ : S38)] [(g167, .cells #[.slice A141 y136.length c142, .float .f64 z161] 39)] := OwnS.lit (row_cons (l := [.slice A141 y136.length c142, .float .f64 z161]) (kS38_mk (x := (⟨y136, (aggr_told y152)⟩ : S38)) hf166 hO162) (row_nil _ _)) rfl rfl rfl
              refine gl_reord (D := [(g167, .cells #[.slice A141 y136.length c142, .float .f64 z161] 39)] ++ (C37 ++ (C18 ++ L))) (Reord.refl _) ?_
              obtain ⟨zs171, hz172, hb33⟩ := bind_some hb33
              refine gl_append (xv := .slice (some ⟨g167, 0, none⟩) [(⟨y136, (aggr_told y152)⟩ : S38)].length 1) (d := kS38) (t := 22) (tx := 22) (e := 39) (s := (.tmp 70)) (x := (.tmp 84)) (xs := s31.1) (fun X => [(g167, .cells #[.slice A141 y136.length c142, .float .f64 z161] 39)] ++ (X ++ (C18 ++ L))) hz172 (by kernel_rfl) (by kernel_rfl) (by kernel_rfl) (by kernel_rfl) (by kernel_rfl) (by kernel_rfl) (fun X => (Upd.app _ (Upd.head _ X _))) (hO38.mono (Imm.trans (Imm.trans (Imm.trans (Imm.trans (Imm.trans hI89 hI140) hJ148) hI155) hI160) hJ164)) (SrcOk.slice (c := 1) (e := 39) (n := 2) (OwnS.rd hO168 (Upd.selfC _ _)) (by kernel_rfl)) (fun A173 n174 C175 hO176 => ?_)
              refine gl_pure 1 [0, 2, 3, 4, 14, 15, 37, 38, 39] (K' := [(0, .string a0), (2, .slice A2_0 a2.length n2_0), (3, .bool a3), (4, .float .f64 b4_0), (14, (tabv_48 (aggr_fold a0))), (15, .slice A173 zs171.length n174), (37, .slice A16 y11.1.length c17), (38, .int .i64 (y11.1.length : Int)), (39, .int .i64 s31.2)]) (by kernel_rfl) ?_
              refine gl_atE (by kernel_rfl) ?_
              refine ge_block_normal ?_
              refine ge_seq ?_
              refine gk_region (by kernel_rfl) ?_
              refine gl_pure 2 [0, 2, 3, 4, 14, 15, 37, 38, 39] (K' := [(0, .string a0), (2, .slice A2_0 a2.length n2_0), (3, .bool a3), (4, .float .f64 b4_0), (14, (tabv_48 (aggr_fold a0))), (15, .slice A173 zs171.length n174), (37, .slice A16 y11.1.length c17), (38, .int .i64 (y11.1.length : Int)), (39, .int .i64 (IntKind.wrap .i64 (s31.2 + 1)))]) (by kernel_rfl) ?_
              refine gl_reord (D := C175 ++ (C18 ++ L)) (Reord.step (Upd.app _ (Upd.rmC _ _)) (Reord.step (Upd.app _ (Upd.rmC _ _)) (Reord.skipC (Reord.refl _)))) ?_
              refine gl_atE (by kernel_rfl) ?_
              obtain rfl := some_inj hb33
              exact ge_round fun t ht => ⟨A173, n174, C175, hO176, (Imm.trans (Imm.trans (Imm.trans (Imm.trans (Imm.trans (Imm.trans hI34 hI89) hI140) hJ148) hI155) hI160) hJ164), rfl, ht.pick (l := [0, 2, 3, 4, 14, 15, 37, 38, 39]) (by kernel_rfl)⟩
        · have hb33 := cond_f hc50 hb33
          refine gk_reord (D := C37 ++ L) (Reord.step (Upd.rmC _ _) (Reord.skipC (Reord.refl _))) ?_
          refine gk_exit (by kernel_rfl) ?_
          refine ge_seq_exit ?_
          obtain rfl := some_inj hb33
          refine ge_round_out (fun hrr => ?_) (by intro h; cases h)
          obtain rfl := hrr
          refine ge_block_hit (by kernel_rfl) ?_
          exact ge_mid fun t ht => ⟨A35, n36, C37, hO38, hI34, rfl, ht.pick (l := [15]) (by kernel_rfl)⟩
      · rintro t I47 L' ⟨A42, n43, C44, hO45, hI41, rfl, hK46⟩
        refine ge_at hK46 ?_
        refine ge_seq ?_
        refine gk_seq (by kernel_rfl) ?_
        refine gk_region (by kernel_rfl) ?_
        refine gl_pure 1 [87] (K' := [(87, .slice A42 r29.length n43)]) (by kernel_rfl) ?_
        refine gl_rest (Tk.step (Upd.rmC _ _) (Tk.nil _)) (fun J177 hJ178 hC179 => ?_)
        have hf180 := (OwnS.rest hO45 hJ178 hC179.left)
        obtain ⟨y181, hx182, hr⟩ := bind_some hr
        refine gl_call (by kernel_rfl) (vec_Vector_walk (r := y181) (hG.mono (Imm.trans (Imm.trans (Imm.trans hI3 hI15) hI41) hJ178)) hf180 hx182 _) ?_
        rintro v I183 L184 hI185 ⟨A186, c187, C188, hO189, rfl, rfl⟩
        refine gl_pure 4 [10, 11] (K' := [(10, .slice A186 y181.1.length c187), (11, .int .i64 y181.2)]) (by kernel_rfl) ?_
        refine gl_atE (by kernel_rfl) ?_
        refine ge_seq ?_
        refine gk_ret (by kernel_rfl) ?_
        obtain rfl := some_inj hr
        exact ge_result trivial (ResOk.tmp (by kernel_rfl) (ResOk.tmp (by kernel_rfl) ResOk.nil)) (Imm.trans (Imm.trans (Imm.trans (Imm.trans hI3 hI15) hI41) hJ178) hI185) ⟨A186, c187, C188, hO189, rfl, rfl⟩
/-! 19 tocsinlaw16_awake  -/
noncomputable def tocsinlaw16_awake : Option Bool :=
  Option.bind (aggr_Number (⟨#[115, 117, 109]⟩ : ByteArray) [(⟨[(⟨(⟨#[97]⟩ : ByteArray), (⟨#[49]⟩ : ByteArray)⟩ : S76), (⟨(⟨#[98]⟩ : ByteArray), (⟨#[120]⟩ : ByteArray)⟩ : S76)], (some 4611686018427387904 : Fl)⟩ : S38), (⟨[(⟨(⟨#[97]⟩ : ByteArray), (⟨#[49]⟩ : ByteArray)⟩ : S76), (⟨(⟨#[98]⟩ : ByteArray), (⟨#[121]⟩ : ByteArray)⟩ : S76)], (some 4616189618054758400 : Fl)⟩ : S38)] [(⟨#[97]⟩ : ByteArray)] false (some 0 : Fl)) fun (y27 : (List S38) × Int) =>
  Option.bind (aggr_Fold (⟨#[97, 118, 103]⟩ : ByteArray) [(some 4611686018427387904 : Fl), (some 4616189618054758400 : Fl)] (some 0 : Fl)) fun (y44 : Fl × Int) =>
  Option.bind (bif (y27.2 == 0) then
    (bif ((y27.1.length : Int) == 1) then
      (Option.bind (ix y27.1 0) fun (x58 : S38) =>
        bif (fcmp .eql x58.f1 (some 4618441417868443648 : Fl)) then
        (Option.bind (ix y27.1 0) fun (x73 : S38) =>
          bif ((x73.f0.length : Int) == 1) then
          (bif (y44.2 == 0) then
            (some (fcmp .eql y44.1 (some 4613937818241073152 : Fl)))
            else
            (some false))
          else
          (some false))
        else
        (some false))
      else
      (some false))
    else
    (some false)) fun (j51 : Bool) =>
  some j51
theorem tocsinlaw16_awake_walk  {I : Imm} {r : Bool} (hG : Gl I) (hr : tocsinlaw16_awake = some r) (L : Own) :
    CallsTo Tryz.prog 19 #[] I L (fun v I' L' => v = .bool r ∧ L = L') := by
  unfold tocsinlaw16_awake at hr
  refine callsTo_body (N := 56) Tryz.func19 (by kernel_rfl) (by kernel_rfl) (by kernel_rfl) ?_
  refine gk_pick [] (K' := []) (by kernel_rfl) ?_
  refine gk_seq (by kernel_rfl) ?_
  refine gk_region (by kernel_rfl) ?_
  refine gl_pure 1 [] (K' := []) (by kernel_rfl) ?_
  refine gl_atE (by kernel_rfl) ?_
  refine ge_seq ?_
  refine gk_seq (by kernel_rfl) ?_
  refine gk_region (by kernel_rfl) ?_
  refine gl_pure 2 [6, 7] (K' := [(6, .agg #[.string (⟨#[97]⟩ : ByteArray), .string (⟨#[49]⟩ : ByteArray)]), (7, .agg #[.string (⟨#[98]⟩ : ByteArray), .string (⟨#[120]⟩ : ByteArray)])]) (by kernel_rfl) ?_
  refine gl_buildSlice (T' := 36) (e := 77) (n := 2) (len := 2) (parts := #[(0, (.tmp 6)), (1, (.tmp 7))]) (l := [(0, .agg #[.string (⟨#[97]⟩ : ByteArray), .string (⟨#[49]⟩ : ByteArray)]), (1, .agg #[.string (⟨#[98]⟩ : ByteArray), .string (⟨#[120]⟩ : ByteArray)])]) (cs := #[.string (⟨#[97]⟩ : ByteArray), .string (⟨#[49]⟩ : ByteArray), .string (⟨#[98]⟩ : ByteArray), .string (⟨#[120]⟩ : ByteArray)]) (by kernel_rfl) (by kernel_rfl) (by kernel_rfl) (by kernel_rfl) (by kernel_rfl) (fun g1 => ?_)
  have hO2 : OwnS kS76 77 I (some ⟨g1, 0, none⟩) 2 [(⟨(⟨#[97]⟩ : ByteArray), (⟨#[49]⟩ : ByteArray)⟩ : S76), (⟨(⟨#[98]⟩ : ByteArray), (⟨#[120]⟩ : ByteArray)⟩ : S76)] [(g1, .cells #[.string (⟨#[97]⟩ : ByteArray), .string (⟨#[49]⟩ : ByteArray), .string (⟨#[98]⟩ : ByteArray), .string (⟨#[120]⟩ : ByteArray)] 77)] := OwnS.lit (row_cons (l := [.string (⟨#[97]⟩ : ByteArray), .string (⟨#[49]⟩ : ByteArray)]) (kS76_mk (x := (⟨(⟨#[97]⟩ : ByteArray), (⟨#[49]⟩ : ByteArray)⟩ : S76)) ) (row_cons (l := [.string (⟨#[98]⟩ : ByteArray), .string (⟨#[120]⟩ : ByteArray)]) (kS76_mk (x := (⟨(⟨#[98]⟩ : ByteArray), (⟨#[120]⟩ : ByteArray)⟩ : S76)) ) (row_nil _ _))) rfl rfl rfl
  refine gl_reord (D := [(g1, .cells #[.string (⟨#[97]⟩ : ByteArray), .string (⟨#[49]⟩ : ByteArray), .string (⟨#[98]⟩ : ByteArray), .string (⟨#[120]⟩ : ByteArray)] 77)] ++ L) (Reord.refl _) ?_
  refine gl_pure 3 [9, 10, 11] (K' := [(9, .agg #[.slice (some ⟨g1, 0, none⟩) [(⟨(⟨#[97]⟩ : ByteArray), (⟨#[49]⟩ : ByteArray)⟩ : S76), (⟨(⟨#[98]⟩ : ByteArray), (⟨#[120]⟩ : ByteArray)⟩ : S76)].length 2, .float .f64 4611686018427387904]), (10, .agg #[.string (⟨#[97]⟩ : ByteArray), .string (⟨#[49]⟩ : ByteArray)]), (11, .agg #[.string (⟨#[98]⟩ : ByteArray), .string (⟨#[121]⟩ : ByteArray)])]) (by kernel_rfl) ?_
  refine gl_buildSlice (T' := 36) (e := 77) (n := 2) (len := 2) (parts := #[(0, (.tmp 10)), (1, (.tmp 11))]) (l := [(0, .agg #[.string (⟨#[97]⟩ : ByteArray), .string (⟨#[49]⟩ : ByteArray)]), (1, .agg #[.string (⟨#[98]⟩ : ByteArray), .string (⟨#[121]⟩ : ByteArray)])]) (cs := #[.string (⟨#[97]⟩ : ByteArray), .string (⟨#[49]⟩ : ByteArray), .string (⟨#[98]⟩ : ByteArray), .string (⟨#[121]⟩ : ByteArray)]) (by kernel_rfl) (by kernel_rfl) (by kernel_rfl) (by kernel_rfl) (by kernel_rfl) (fun g5 => ?_)
  have hO6 : OwnS kS76 77 I (some ⟨g5, 0, none⟩) 2 [(⟨(⟨#[97]⟩ : ByteArray), (⟨#[49]⟩ : ByteArray)⟩ : S76), (⟨(⟨#[98]⟩ : ByteArray), (⟨#[121]⟩ : ByteArray)⟩ : S76)] [(g5, .cells #[.string (⟨#[97]⟩ : ByteArray), .string (⟨#[49]⟩ : ByteArray), .string (⟨#[98]⟩ : ByteArray), .string (⟨#[121]⟩ : ByteArray)] 77)] := OwnS.lit (row_cons (l := [.string (⟨#[97]⟩ : ByteArray), .string (⟨#[49]⟩ : ByteArray)]) (kS76_mk (x := (⟨(⟨#[97]⟩ : ByteArray), (⟨#[49]⟩ : ByteArray)⟩ : S76)) ) (row_cons (l := [.string (⟨#[98]⟩ : ByteArray), .string (⟨#[121]⟩ : ByteArray)]) (kS76_mk (x := (⟨(⟨#[98]⟩ : ByteArray), (⟨#[121]⟩ : ByteArray)⟩ : S76)) ) (row_nil _ _))) rfl rfl rfl
  refine gl_reord (D := [(g5, .cells #[.string (⟨#[97]⟩ : ByteArray), .string (⟨#[49]⟩ : ByteArray), .string (⟨#[98]⟩ : ByteArray), .string (⟨#[121]⟩ : ByteArray)] 77)] ++ ([(g1, .cells #[.string (⟨#[97]⟩ : ByteArray), .string (⟨#[49]⟩ : ByteArray), .string (⟨#[98]⟩ : ByteArray), .string (⟨#[120]⟩ : ByteArray)] 77)] ++ L)) (Reord.refl _) ?_
  refine gl_pure 1 [9, 13] (K' := [(9, .agg #[.slice (some ⟨g1, 0, none⟩) [(⟨(⟨#[97]⟩ : ByteArray), (⟨#[49]⟩ : ByteArray)⟩ : S76), (⟨(⟨#[98]⟩ : ByteArray), (⟨#[120]⟩ : ByteArray)⟩ : S76)].length 2, .float .f64 4611686018427387904]), (13, .agg #[.slice (some ⟨g5, 0, none⟩) [(⟨(⟨#[97]⟩ : ByteArray), (⟨#[49]⟩ : ByteArray)⟩ : S76), (⟨(⟨#[98]⟩ : ByteArray), (⟨#[121]⟩ : ByteArray)⟩ : S76)].length 2, .float .f64 4616189618054758400])]) (by kernel_rfl) ?_
  refine gl_rest (Tk.step (Upd.rmC _ _) (Tk.step (Upd.rmC _ _) (Tk.nil _))) (fun J9 hJ10 hC11 => ?_)
  have hf12 := (OwnS.rest hO6 hJ10 hC11.left)
  have hf13 := (OwnS.rest hO2 hJ10 hC11.right.left)
  refine gl_buildSlice (T' := 22) (e := 39) (n := 2) (len := 2) (parts := #[(0, (.tmp 9)), (1, (.tmp 13))]) (l := [(0, .agg #[.slice (some ⟨g1, 0, none⟩) [(⟨(⟨#[97]⟩ : ByteArray), (⟨#[49]⟩ : ByteArray)⟩ : S76), (⟨(⟨#[98]⟩ : ByteArray), (⟨#[120]⟩ : ByteArray)⟩ : S76)].length 2, .float .f64 4611686018427387904]), (1, .agg #[.slice (some ⟨g5, 0, none⟩) [(⟨(⟨#[97]⟩ : ByteArray), (⟨#[49]⟩ : ByteArray)⟩ : S76), (⟨(⟨#[98]⟩ : ByteArray), (⟨#[121]⟩ : ByteArray)⟩ : S76)].length 2, .float .f64 4616189618054758400])]) (cs := #[.slice (some ⟨g1, 0, none⟩) [(⟨(⟨#[97]⟩ : ByteArray), (⟨#[49]⟩ : ByteArray)⟩ : S76), (⟨(⟨#[98]⟩ : ByteArray), (⟨#[120]⟩ : ByteArray)⟩ : S76)].length 2, .float .f64 4611686018427387904, .slice (some ⟨g5, 0, none⟩) [(⟨(⟨#[97]⟩ : ByteArray), (⟨#[49]⟩ : ByteArray)⟩ : S76), (⟨(⟨#[98]⟩ : ByteArray), (⟨#[121]⟩ : ByteArray)⟩ : S76)].length 2, .float .f64 4616189618054758400]) (by kernel_rfl) (by kernel_rfl) (by kernel_rfl) (by kernel_rfl) (by kernel_rfl) (fun g14 => ?_)
  have hO15 : OwnS kS38 39 J9 (some ⟨g14, 0, none⟩) 2 [(⟨[(⟨(⟨#[97]⟩ : ByteArray), (⟨#[49]⟩ : ByteArray)⟩ : S76), (⟨(⟨#[98]⟩ : ByteArray), (⟨#[120]⟩ : ByteArray)⟩ : S76)], (some 4611686018427387904 : Fl)⟩ : S38), (⟨[(⟨(⟨#[97]⟩ : ByteArray), (⟨#[49]⟩ : ByteArray)⟩ : S76), (⟨(⟨#[98]⟩ : ByteArray), (⟨#[121]⟩ : ByteArray)⟩ : S76)], (some 4616189618054758400 : Fl)⟩ : S38)] [(g14, .cells #[.slice (some ⟨g1, 0, none⟩) [(⟨(⟨#[97]⟩ : ByteArray), (⟨#[49]⟩ : ByteArray)⟩ : S76), (⟨(⟨#[98]⟩ : ByteArray), (⟨#[120]⟩ : ByteArray)⟩ : S76)].length 2, .float .f64 4611686018427387904, .slice (some ⟨g5, 0, none⟩) [(⟨(⟨#[97]⟩ : ByteArray), (⟨#[49]⟩ : ByteArray)⟩ : S76), (⟨(⟨#[98]⟩ : ByteArray), (⟨#[121]⟩ : ByteArray)⟩ : S76)].length 2, .float .f64 4616189618054758400] 39)] := OwnS.lit (row_cons (l := [.slice (some ⟨g1, 0, none⟩) [(⟨(⟨#[97]⟩ : ByteArray), (⟨#[49]⟩ : ByteArray)⟩ : S76), (⟨(⟨#[98]⟩ : ByteArray), (⟨#[120]⟩ : ByteArray)⟩ : S76)].length 2, .float .f64 4611686018427387904]) (kS38_mk (x := (⟨[(⟨(⟨#[97]⟩ : ByteArray), (⟨#[49]⟩ : ByteArray)⟩ : S76), (⟨(⟨#[98]⟩ : ByteArray), (⟨#[120]⟩ : ByteArray)⟩ : S76)], (some 4611686018427387904 : Fl)⟩ : S38)) hf13 (FRep.of 4611686018427387904)) (row_cons (l := [.slice (some ⟨g5, 0, none⟩) [(⟨(⟨#[97]⟩ : ByteArray), (⟨#[49]⟩ : ByteArray)⟩ : S76), (⟨(⟨#[98]⟩ : ByteArray), (⟨#[121]⟩ : ByteArray)⟩ : S76)].length 2, .float .f64 4616189618054758400]) (kS38_mk (x := (⟨[(⟨(⟨#[97]⟩ : ByteArray), (⟨#[49]⟩ : ByteArray)⟩ : S76), (⟨(⟨#[98]⟩ : ByteArray), (⟨#[121]⟩ : ByteArray)⟩ : S76)], (some 4616189618054758400 : Fl)⟩ : S38)) hf12 (FRep.of 4616189618054758400)) (row_nil _ _))) rfl rfl rfl
  refine gl_reord (D := [(g14, .cells #[.slice (some ⟨g1, 0, none⟩) [(⟨(⟨#[97]⟩ : ByteArray), (⟨#[49]⟩ : ByteArray)⟩ : S76), (⟨(⟨#[98]⟩ : ByteArray), (⟨#[120]⟩ : ByteArray)⟩ : S76)].length 2, .float .f64 4611686018427387904, .slice (some ⟨g5, 0, none⟩) [(⟨(⟨#[97]⟩ : ByteArray), (⟨#[49]⟩ : ByteArray)⟩ : S76), (⟨(⟨#[98]⟩ : ByteArray), (⟨#[121]⟩ : ByteArray)⟩ : S76)].length 2, .float .f64 4616189618054758400] 39)] ++ L) (Reord.refl _) ?_
  refine gl_pure 1 [1] (K' := [(1, .slice (some ⟨g14, 0, none⟩) [(⟨[(⟨(⟨#[97]⟩ : ByteArray), (⟨#[49]⟩ : ByteArray)⟩ : S76), (⟨(⟨#[98]⟩ : ByteArray), (⟨#[120]⟩ : ByteArray)⟩ : S76)], (some 4611686018427387904 : Fl)⟩ : S38), (⟨[(⟨(⟨#[97]⟩ : ByteArray), (⟨#[49]⟩ : ByteArray)⟩ : S76), (⟨(⟨#[98]⟩ : ByteArray), (⟨#[121]⟩ : ByteArray)⟩ : S76)], (some 4616189618054758400 : Fl)⟩ : S38)].length 2)]) (by kernel_rfl) ?_
  refine gl_atE (by kernel_rfl) ?_
  refine ge_seq ?_
  refine gk_seq (by kernel_rfl) ?_
  refine gk_region (by kernel_rfl) ?_
  refine gl_pure 1 [16] (K' := [(16, .slice (some ⟨g14, 0, none⟩) [(⟨[(⟨(⟨#[97]⟩ : ByteArray), (⟨#[49]⟩ : ByteArray)⟩ : S76), (⟨(⟨#[98]⟩ : ByteArray), (⟨#[120]⟩ : ByteArray)⟩ : S76)], (some 4611686018427387904 : Fl)⟩ : S38), (⟨[(⟨(⟨#[97]⟩ : ByteArray), (⟨#[49]⟩ : ByteArray)⟩ : S76), (⟨(⟨#[98]⟩ : ByteArray), (⟨#[121]⟩ : ByteArray)⟩ : S76)], (some 4616189618054758400 : Fl)⟩ : S38)].length 2)]) (by kernel_rfl) ?_
  refine gl_buildSlice (T' := 23) (e := 9) (n := 1) (len := 1) (parts := #[(0, (.const (.string (⟨#[97]⟩ : ByteArray))))]) (l := [(0, .string (⟨#[97]⟩ : ByteArray))]) (cs := #[.string (⟨#[97]⟩ : ByteArray)]) (by kernel_rfl) (by kernel_rfl) (by kernel_rfl) (by kernel_rfl) (by kernel_rfl) (fun g18 => ?_)
  have hO19 : OwnS Kd.str 9 J9 (some ⟨g18, 0, none⟩) 1 [(⟨#[97]⟩ : ByteArray)] [(g18, .cells #[.string (⟨#[97]⟩ : ByteArray)] 9)] := OwnS.lit (row_cons (l := [.string (⟨#[97]⟩ : ByteArray)]) rfl (row_nil _ _)) rfl rfl rfl
  refine gl_reord (D := [(g18, .cells #[.string (⟨#[97]⟩ : ByteArray)] 9)] ++ ([(g14, .cells #[.slice (some ⟨g1, 0, none⟩) [(⟨(⟨#[97]⟩ : ByteArray), (⟨#[49]⟩ : ByteArray)⟩ : S76), (⟨(⟨#[98]⟩ : ByteArray), (⟨#[120]⟩ : ByteArray)⟩ : S76)].length 2, .float .f64 4611686018427387904, .slice (some ⟨g5, 0, none⟩) [(⟨(⟨#[97]⟩ : ByteArray), (⟨#[49]⟩ : ByteArray)⟩ : S76), (⟨(⟨#[98]⟩ : ByteArray), (⟨#[121]⟩ : ByteArray)⟩ : S76)].length 2, .float .f64 4616189618054758400] 39)] ++ L)) (Reord.refl _) ?_
  refine gl_rest (Tk.step (Upd.rmC _ _) (Tk.step (Upd.rmC _ _) (Tk.nil _))) (fun J22 hJ23 hC24 => ?_)
  have hf25 := (OwnS.rest hO19 hJ23 hC24.left)
  have hf26 := (OwnS.rest hO15 hJ23 hC24.right.left)
  obtain ⟨y27, hx28, hr⟩ := bind_some hr
  refine gl_call (by kernel_rfl) (aggr_Number_walk (r := y27) (hG.mono (Imm.trans hJ10 hJ23)) hf26 hf25 (FRep.of 0) hx28 _) ?_
  rintro v I29 L30 hI31 ⟨A32, c33, C34, hO35, rfl, rfl⟩
  refine gl_pure 5 [2, 3] (K' := [(2, .slice A32 y27.1.length c33), (3, .int .i64 y27.2)]) (by kernel_rfl) ?_
  refine gl_atE (by kernel_rfl) ?_
  refine ge_seq ?_
  refine gk_seq (by kernel_rfl) ?_
  refine gk_region (by kernel_rfl) ?_
  refine gl_buildSlice (T' := 43) (e := 37) (n := 1) (len := 2) (parts := #[(0, (.const (.float .f64 4611686018427387904))), (1, (.const (.float .f64 4616189618054758400)))]) (l := [(0, .float .f64 4611686018427387904), (1, .float .f64 4616189618054758400)]) (cs := #[.float .f64 4611686018427387904, .float .f64 4616189618054758400]) (by kernel_rfl) (by kernel_rfl) (by kernel_rfl) (by kernel_rfl) (by kernel_rfl) (fun g36 => ?_)
  have hO37 : OwnS Kd.flt 37 I29 (some ⟨g36, 0, none⟩) 2 [(some 4611686018427387904 : Fl), (some 4616189618054758400 : Fl)] [(g36, .cells #[.float .f64 4611686018427387904, .float .f64 4616189618054758400] 37)] := OwnS.lit (row_cons (l := [.float .f64 4611686018427387904]) ⟨_, rfl, (FRep.of 4611686018427387904)⟩ (row_cons (l := [.float .f64 4616189618054758400]) ⟨_, rfl, (FRep.of 4616189618054758400)⟩ (row_nil _ _))) rfl rfl rfl
  refine gl_reord (D := [(g36, .cells #[.float .f64 4611686018427387904, .float .f64 4616189618054758400] 37)] ++ (C34 ++ L)) (Reord.refl _) ?_
  refine gl_rest (Tk.step (Upd.rmC _ _) (Tk.nil _)) (fun J40 hJ41 hC42 => ?_)
  have hf43 := (OwnS.rest hO37 hJ41 hC42.left)
  obtain ⟨y44, hx45, hr⟩ := bind_some hr
  refine gl_call (by kernel_rfl) (aggr_Fold_walk (r := y44) hf43 (FRep.of 0) hx45 _) ?_
  rintro v I46 L47 hI48 ⟨z49, hO50, rfl, rfl⟩
  refine gl_pure 5 [2, 3, 4, 5] (K' := [(2, .slice A32 y27.1.length c33), (3, .int .i64 y27.2), (4, .float .f64 z49), (5, .int .i64 y44.2)]) (by kernel_rfl) ?_
  refine gl_atE (by kernel_rfl) ?_
  refine ge_seq ?_
  refine gk_seq (by kernel_rfl) ?_
  obtain ⟨j51, hj52, hr⟩ := bind_some hr
  refine gk_join (fun t I' L' => I46 ≤ I' ∧ L = L' ∧ Knows 56 [(0, .bool j51)] t) ?_ ?_
  · refine gk_region (by kernel_rfl) ?_
    refine gl_pure 3 [2, 4, 5, 28] (K' := [(2, .slice A32 y27.1.length c33), (4, .float .f64 z49), (5, .int .i64 y44.2), (28, .bool (y27.2 == 0))]) (by kernel_rfl) ?_
    refine gl_case 28 (b := (y27.2 == 0)) (by kernel_rfl) (fun hc56 => ?_) (fun hc56 => ?_)
    · have hj52 := cond_t hc56 hj52
      refine gl_pure 5 [2, 4, 5, 33] (K' := [(2, .slice A32 y27.1.length c33), (4, .float .f64 z49), (5, .int .i64 y44.2), (33, .bool ((y27.1.length : Int) == 1))]) (by kernel_rfl) ?_
      refine gl_case 33 (b := ((y27.1.length : Int) == 1)) (by kernel_rfl) (fun hc57 => ?_) (fun hc57 => ?_)
      · have hj52 := cond_t hc57 hj52
        refine gl_pure 1 [2, 4, 5, 33, 34] (K' := [(2, .slice A32 y27.1.length c33), (4, .float .f64 z49), (5, .int .i64 y44.2), (33, .bool true), (34, .slice A32 y27.1.length c33)]) (by kernel_rfl) ?_
        obtain ⟨x58, hx59, hj52⟩ := bind_some hj52
        refine gl_indexAddrW (d := kS38) (c := c33) (T' := 22) (e := 39) (xs := (.tmp 34)) (xi := (.const (.int .i64 0))) (kd := .i64) hx59 (hO35.mono (Imm.trans hJ41 hI48)) (Upd.selfC _ _) (by kernel_rfl) (by kernel_rfl) (by kernel_rfl) (by kernel_rfl) (by kernel_rfl) (fun p60 cs61 hR62 hA63 hp71 => ?_)
        obtain ⟨A66, n67, b69, hf68, hf70, rfl⟩ := kS38_open hR62
        refine gl_pure 1 [2, 4, 5, 33, 36] (K' := [(2, .slice A32 y27.1.length c33), (4, .float .f64 z49), (5, .int .i64 y44.2), (33, .bool true), (36, .pointer (some (p60.add 1)))]) (by kernel_rfl) ?_
        refine gl_loadO (T' := 37) (xp := (.tmp 36)) (p := (p60.add 1)) (c := .float .f64 b69) (n := 1) (by kernel_rfl) (by kernel_rfl) (by kernel_rfl) (by kernel_rfl) (hA63.drop 1) ?_
        refine gl_fcmp (op := .eql) (t := 37) (t' := 37) (xx := (.tmp 37)) (yy := (.const (.float .f64 4618441417868443648))) hf70 (FRep.of 4618441417868443648) (by kernel_rfl) (by kernel_rfl) rfl (by kernel_rfl) (by kernel_rfl) ?_
        refine gl_pure 2 [2, 4, 5, 40] (K' := [(2, .slice A32 y27.1.length c33), (4, .float .f64 z49), (5, .int .i64 y44.2), (40, .bool (fcmp .eql x58.f1 (some 4618441417868443648 : Fl)))]) (by kernel_rfl) ?_
        refine gl_case 40 (b := (fcmp .eql x58.f1 (some 4618441417868443648 : Fl))) (by kernel_rfl) (fun hc72 => ?_) (fun hc72 => ?_)
        · have hj52 := cond_t hc72 hj52
          refine gl_pure 1 [4, 5, 40, 41] (K' := [(4, .float .f64 z49), (5, .int .i64 y44.2), (40, .bool true), (41, .slice A32 y27.1.length c33)]) (by kernel_rfl) ?_
          obtain ⟨x73, hx74, hj52⟩ := bind_some hj52
          refine gl_indexAddrW (d := kS38) (c := c33) (T' := 22) (e := 39) (xs := (.tmp 41)) (xi := (.const (.int .i64 0))) (kd := .i64) hx74 (hO35.mono (Imm.trans hJ41 hI48)) (Upd.selfC _ _) (by kernel_rfl) (by kernel_rfl) (by kernel_rfl) (by kernel_rfl) (by kernel_rfl) (fun p75 cs76 hR77 hA78 hp86 => ?_)
          obtain ⟨A81, n82, b84, hf83, hf85, rfl⟩ := kS38_open hR77
          refine gl_pure 1 [4, 5, 40, 43] (K' := [(4, .float .f64 z49), (5, .int .i64 y44.2), (40, .bool true), (43, .pointer (some (p75.add 0)))]) (by kernel_rfl) ?_
          refine gl_loadO (T' := 36) (xp := (.tmp 43)) (p := (p75.add 0)) (c := .slice A81 x73.f0.length n82) (n := 1) (by kernel_rfl) (by kernel_rfl) (by kernel_rfl) (by kernel_rfl) (hA78.drop 0) ?_
          refine gl_pure 4 [4, 5, 48] (K' := [(4, .float .f64 z49), (5, .int .i64 y44.2), (48, .bool ((x73.f0.length : Int) == 1))]) (by kernel_rfl) ?_
          refine gl_case 48 (b := ((x73.f0.length : Int) == 1)) (by kernel_rfl) (fun hc87 => ?_) (fun hc87 => ?_)
          · have hj52 := cond_t hc87 hj52
            refine gl_pure 4 [4, 52] (K' := [(4, .float .f64 z49), (52, .bool (y44.2 == 0))]) (by kernel_rfl) ?_
            refine gl_case 52 (b := (y44.2 == 0)) (by kernel_rfl) (fun hc88 => ?_) (fun hc88 => ?_)
            · have hj52 := cond_t hc88 hj52
              refine gl_pure 1 [52, 53] (K' := [(52, .bool true), (53, .float .f64 z49)]) (by kernel_rfl) ?_
              refine gl_fcmp (op := .eql) (t := 37) (t' := 37) (xx := (.tmp 53)) (yy := (.const (.float .f64 4613937818241073152))) hO50 (FRep.of 4613937818241073152) (by kernel_rfl) (by kernel_rfl) rfl (by kernel_rfl) (by kernel_rfl) ?_
              refine gl_pure 2 [0] (K' := [(0, .bool (fcmp .eql y44.1 (some 4613937818241073152 : Fl)))]) (by kernel_rfl) ?_
              refine gl_reord (D := L) (Reord.skipC (Reord.refl _)) ?_
              refine gl_atE (by kernel_rfl) ?_
              obtain rfl := some_inj hj52
              exact ge_mid fun t ht => ⟨(Imm.refl _), rfl, ht.pick (l := [0]) (by kernel_rfl)⟩
            · have hj52 := cond_f hc88 hj52
              refine gl_pure 4 [0] (K' := [(0, .bool false)]) (by kernel_rfl) ?_
              refine gl_reord (D := L) (Reord.skipC (Reord.refl _)) ?_
              refine gl_atE (by kernel_rfl) ?_
              obtain rfl := some_inj hj52
              exact ge_mid fun t ht => ⟨(Imm.refl _), rfl, ht.pick (l := [0]) (by kernel_rfl)⟩
          · have hj52 := cond_f hc87 hj52
            refine gl_pure 8 [0] (K' := [(0, .bool false)]) (by kernel_rfl) ?_
            refine gl_reord (D := L) (Reord.skipC (Reord.refl _)) ?_
            refine gl_atE (by kernel_rfl) ?_
            obtain rfl := some_inj hj52
            exact ge_mid fun t ht => ⟨(Imm.refl _), rfl, ht.pick (l := [0]) (by kernel_rfl)⟩
        · have hj52 := cond_f hc72 hj52
          refine gl_pure 16 [0] (K' := [(0, .bool false)]) (by kernel_rfl) ?_
          refine gl_reord (D := L) (Reord.skipC (Reord.refl _)) ?_
          refine gl_atE (by kernel_rfl) ?_
          obtain rfl := some_inj hj52
          exact ge_mid fun t ht => ⟨(Imm.refl _), rfl, ht.pick (l := [0]) (by kernel_rfl)⟩
      · have hj52 := cond_f hc57 hj52
        refine gl_pure 23 [0] (K' := [(0, .bool false)]) (by kernel_rfl) ?_
        refine gl_reord (D := L) (Reord.skipC (Reord.refl _)) ?_
        refine gl_atE (by kernel_rfl) ?_
        obtain rfl := some_inj hj52
        exact ge_mid fun t ht => ⟨(Imm.refl _), rfl, ht.pick (l := [0]) (by kernel_rfl)⟩
    · have hj52 := cond_f hc56 hj52
      refine gl_pure 28 [0] (K' := [(0, .bool false)]) (by kernel_rfl) ?_
      refine gl_reord (D := L) (Reord.skipC (Reord.refl _)) ?_
      refine gl_atE (by kernel_rfl) ?_
      obtain rfl := some_inj hj52
      exact ge_mid fun t ht => ⟨(Imm.refl _), rfl, ht.pick (l := [0]) (by kernel_rfl)⟩
  · rintro t I55 L' ⟨hI53, rfl, hK54⟩
    refine ge_at hK54 ?_
    refine ge_seq ?_
    refine gk_ret (by kernel_rfl) ?_
    obtain rfl := some_inj hr
    exact ge_result trivial (ResOk.tmp (by kernel_rfl) ResOk.nil) (Imm.trans (Imm.trans (Imm.trans (Imm.trans (Imm.trans hJ10 hJ23) hI31) hJ41) hI48) hI53) ⟨rfl, rfl⟩
/-! 6 tocsinlaw16_AggrBounds  -/
noncomputable def tocsinlaw16_AggrBounds_l41 (a0 : List Fl) (y1 : Fl × Int) (y8 : Fl × Int) : Int → Option ((Int) ⊕ ((Unit) ⊕ (Bool))) := fun s31 =>
  bif (decide (s31 < (a0.length : Int))) then
  (Option.bind (ix a0 s31) fun (x44 : Fl) =>
    Option.bind (bif (fcmp .lss x44 y1.1) then
      (some true)
      else
      (some (fcmp .gtr x44 y8.1))) fun (j54 : Bool) =>
    bif j54 then
    (some (Sum.inr (Sum.inr false)))
    else
    (some (Sum.inl (IntKind.wrap .i64 (s31 + 1)))))
  else
  (some (Sum.inr (Sum.inl ())))
noncomputable def tocsinlaw16_AggrBounds_l102 (j61 : (List Int)) : (Int × (List Fl) × Int) → Option ((Int × (List Fl) × Int) ⊕ (Int × (List Fl))) := fun s85 =>
  bif (decide (s85.2.2 < (j61.length : Int))) then
  (Option.bind (ix j61 s85.2.2) fun (x105 : Int) =>
    Option.bind (app s85.2.1 [(some (FloatKind.nearest .f64 x105) : Fl)]) fun (zs117 : List Fl) =>
    some (Sum.inl ((IntKind.wrap .i64 (s85.1 + (IntKind.wrap .i64 x105))), zs117, (IntKind.wrap .i64 (s85.2.2 + 1)))))
  else
  (some (Sum.inr (s85.1, s85.2.1)))
noncomputable def tocsinlaw16_AggrBounds_l175 (a2 : Int) : ((List Fl) × Int) → Option (((List Fl) × Int) ⊕ ((List Fl))) := fun s158 =>
  bif (decide (s158.2 < (IntKind.wrap .i64 (1 + (Int.tmod (IntKind.wrap .i64 ((Int.tmod a2 1000) + 1000)) 1000))))) then
  (Option.bind (app s158.1 [(some 4615063718147915776 : Fl)]) fun (zs182 : List Fl) =>
    some (Sum.inl (zs182, (IntKind.wrap .i64 (s158.2 + 1)))))
  else
  (some (Sum.inr s158.1))
noncomputable def tocsinlaw16_AggrBounds (a0 : List Fl) (a1 : List Int) (a2 : Int) : Option Bool :=
  Option.bind (aggr_Fold (⟨#[109, 105, 110]⟩ : ByteArray) a0 (some 0 : Fl)) fun (y1 : Fl × Int) =>
  Option.bind (aggr_Fold (⟨#[109, 97, 120]⟩ : ByteArray) a0 (some 0 : Fl)) fun (y8 : Fl × Int) =>
  bif ((a0.length : Int) == 0) then
  (Option.bind (bif (y1.2 == 5) then
      (bif (y8.2 == 5) then
        (Option.bind tocsinlaw16_awake fun (y23 : Bool) =>
          some y23)
        else
        (some false))
      else
      (some false)) fun (j16 : Bool) =>
    some j16)
  else
  (Option.bind (loopO (tocsinlaw16_AggrBounds_l41 a0 y1 y8) 0) fun (r29 : (Unit) ⊕ (Bool)) =>
    match r29 with
    | Sum.inl r37 => Option.bind (bif (decide ((a1.length : Int) > 100000)) then
        (Option.bind (lx a1 0 100000) fun (l71 : List Int) =>
          some l71)
        else
        (some a1)) fun (j61 : (List Int)) =>
      Option.bind (loopO (tocsinlaw16_AggrBounds_l102 j61) (0, [], 0)) fun (r83 : Int × (List Fl)) =>
      Option.bind ((bif (decide ((r83.2.length : Int) > 0)) then
        (Option.bind (aggr_Fold (⟨#[115, 117, 109]⟩ : ByteArray) r83.2 (some 0 : Fl)) fun (y134 : Fl × Int) =>
          Option.bind (bif (y134.2 != 0) then
            (some true)
            else
            (some (fcmp .neq y134.1 (some (FloatKind.nearest .f64 r83.1) : Fl)))) fun (j141 : Bool) =>
          bif j141 then
          (some (Sum.inr false))
          else
          (some (Sum.inl ())))
        else
        (some (Sum.inl ())) : Option ((Unit) ⊕ (Bool)))) fun (j123 : (Unit) ⊕ (Bool)) =>
      match j123 with
      | Sum.inl j125 => Option.bind (loopO (tocsinlaw16_AggrBounds_l175 a2) ([], 0)) fun (r156 : (List Fl)) =>
        Option.bind (aggr_Fold (⟨#[97, 118, 103]⟩ : ByteArray) r156 (some 0 : Fl)) fun (y192 : Fl × Int) =>
        Option.bind (bif (y192.2 == 0) then
          (bif (fcmp .eql y192.1 (some 4615063718147915776 : Fl)) then
            (Option.bind tocsinlaw16_awake fun (y206 : Bool) =>
              some y206)
            else
            (some false))
          else
          (some false)) fun (j199 : Bool) =>
        some j199
      | Sum.inr v208 => some v208
    | Sum.inr v209 => some v209)
theorem tocsinlaw16_AggrBounds_walk {a0 : List Fl} {A0_0 : Option Addr} {n0_0 : Nat} {a1 : List Int} {A1_0 : Option Addr} {n1_0 : Nat} {a2 : Int} {I : Imm} {r : Bool} (hG : Gl I)  (hf0_0 : RepS Kd.flt I A0_0 n0_0 a0)  (hf1_0 : RepS (Kd.int .i32) I A1_0 n1_0 a1) (hr : tocsinlaw16_AggrBounds a0 a1 a2 = some r) (L : Own) :
    CallsTo Tryz.prog 6 #[.slice A0_0 a0.length n0_0, .slice A1_0 a1.length n1_0, .int .i64 a2] I L (fun v I' L' => v = .bool r ∧ L = L') := by
  unfold tocsinlaw16_AggrBounds at hr
  refine callsTo_body (N := 124) Tryz.func6 (by kernel_rfl) (by kernel_rfl) (by kernel_rfl) ?_
  refine gk_pick [0, 1, 2] (K' := [(0, .slice A0_0 a0.length n0_0), (1, .slice A1_0 a1.length n1_0), (2, .int .i64 a2)]) (by kernel_rfl) ?_
  refine gk_seq (by kernel_rfl) ?_
  refine gk_region (by kernel_rfl) ?_
  refine gl_pure 1 [0, 1, 2] (K' := [(0, .slice A0_0 a0.length n0_0), (1, .slice A1_0 a1.length n1_0), (2, .int .i64 a2)]) (by kernel_rfl) ?_
  refine gl_atE (by kernel_rfl) ?_
  refine ge_seq ?_
  refine gk_seq (by kernel_rfl) ?_
  refine gk_region (by kernel_rfl) ?_
  refine gl_pure 1 [0, 1, 2, 24] (K' := [(0, .slice A0_0 a0.length n0_0), (1, .slice A1_0 a1.length n1_0), (2, .int .i64 a2), (24, .slice A0_0 a0.length n0_0)]) (by kernel_rfl) ?_
  obtain ⟨y1, hx2, hr⟩ := bind_some hr
  refine gl_call (by kernel_rfl) (aggr_Fold_walk (r := y1) hf0_0 (FRep.of 0) hx2 _) ?_
  rintro v I3 L4 hI5 ⟨z6, hO7, rfl, rfl⟩
  refine gl_pure 5 [0, 1, 2, 7, 8] (K' := [(0, .slice A0_0 a0.length n0_0), (1, .slice A1_0 a1.length n1_0), (2, .int .i64 a2), (7, .float .f64 z6), (8, .int .i64 y1.2)]) (by kernel_rfl) ?_
  refine gl_atE (by kernel_rfl) ?_
  refine ge_seq ?_
  refine gk_seq (by kernel_rfl) ?_
  refine gk_region (by kernel_rfl) ?_
  refine gl_pure 1 [0, 1, 2, 7, 8, 29] (K' := [(0, .slice A0_0 a0.length n0_0), (1, .slice A1_0 a1.length n1_0), (2, .int .i64 a2), (7, .float .f64 z6), (8, .int .i64 y1.2), (29, .slice A0_0 a0.length n0_0)]) (by kernel_rfl) ?_
  obtain ⟨y8, hx9, hr⟩ := bind_some hr
  refine gl_call (by kernel_rfl) (aggr_Fold_walk (r := y8) (hf0_0.mono hI5) (FRep.of 0) hx9 _) ?_
  rintro v I10 L11 hI12 ⟨z13, hO14, rfl, rfl⟩
  refine gl_pure 5 [0, 1, 2, 7, 8, 9, 10] (K' := [(0, .slice A0_0 a0.length n0_0), (1, .slice A1_0 a1.length n1_0), (2, .int .i64 a2), (7, .float .f64 z6), (8, .int .i64 y1.2), (9, .float .f64 z13), (10, .int .i64 y8.2)]) (by kernel_rfl) ?_
  refine gl_atE (by kernel_rfl) ?_
  refine ge_seq ?_
  refine gk_seq (by kernel_rfl) ?_
  refine gk_seq (by kernel_rfl) ?_
  refine gk_region (by kernel_rfl) ?_
  refine gl_pure 3 [0, 1, 2, 7, 8, 9, 10, 35] (K' := [(0, .slice A0_0 a0.length n0_0), (1, .slice A1_0 a1.length n1_0), (2, .int .i64 a2), (7, .float .f64 z6), (8, .int .i64 y1.2), (9, .float .f64 z13), (10, .int .i64 y8.2), (35, .bool ((a0.length : Int) == 0))]) (by kernel_rfl) ?_
  refine gl_atE (by kernel_rfl) ?_
  refine ge_seq ?_
  refine gk_cond (b := ((a0.length : Int) == 0)) (by kernel_rfl) (by kernel_rfl) (fun hc15 => ?_) (fun hc15 => ?_)
  · have hr := cond_t hc15 hr
    refine gk_seq (by kernel_rfl) ?_
    obtain ⟨j16, hj17, hr⟩ := bind_some hr
    refine gk_join (fun t I' L' => I10 ≤ I' ∧ L = L' ∧ Knows 124 [(6, .bool j16)] t) ?_ ?_
    · refine gk_region (by kernel_rfl) ?_
      refine gl_pure 3 [10, 38] (K' := [(10, .int .i64 y8.2), (38, .bool (y1.2 == 5))]) (by kernel_rfl) ?_
      refine gl_case 38 (b := (y1.2 == 5)) (by kernel_rfl) (fun hc21 => ?_) (fun hc21 => ?_)
      · have hj17 := cond_t hc21 hj17
        refine gl_pure 4 [42] (K' := [(42, .bool (y8.2 == 5))]) (by kernel_rfl) ?_
        refine gl_case 42 (b := (y8.2 == 5)) (by kernel_rfl) (fun hc22 => ?_) (fun hc22 => ?_)
        · have hj17 := cond_t hc22 hj17
          obtain ⟨y23, hx24, hj17⟩ := bind_some hj17
          refine gl_callQ (by kernel_rfl) (tocsinlaw16_awake_walk (r := y23) (hG.mono (Imm.trans hI5 hI12)) hx24 _) ?_
          refine gl_pure 2 [6] (K' := [(6, .bool y23)]) (by kernel_rfl) ?_
          refine gl_atE (by kernel_rfl) ?_
          obtain rfl := some_inj hj17
          exact ge_mid fun t ht => ⟨(Imm.refl _), rfl, ht.pick (l := [6]) (by kernel_rfl)⟩
        · have hj17 := cond_f hc22 hj17
          refine gl_pure 3 [6] (K' := [(6, .bool false)]) (by kernel_rfl) ?_
          refine gl_atE (by kernel_rfl) ?_
          obtain rfl := some_inj hj17
          exact ge_mid fun t ht => ⟨(Imm.refl _), rfl, ht.pick (l := [6]) (by kernel_rfl)⟩
      · have hj17 := cond_f hc21 hj17
        refine gl_pure 7 [6] (K' := [(6, .bool false)]) (by kernel_rfl) ?_
        refine gl_atE (by kernel_rfl) ?_
        obtain rfl := some_inj hj17
        exact ge_mid fun t ht => ⟨(Imm.refl _), rfl, ht.pick (l := [6]) (by kernel_rfl)⟩
    · rintro t I20 L' ⟨hI18, rfl, hK19⟩
      refine ge_at hK19 ?_
      refine ge_seq ?_
      refine gk_ret (by kernel_rfl) ?_
      refine ge_seq_ret ?_
      obtain rfl := some_inj hr
      exact ge_result trivial (ResOk.tmp (by kernel_rfl) ResOk.nil) (Imm.trans (Imm.trans hI5 hI12) hI18) ⟨rfl, rfl⟩
  · have hr := cond_f hc15 hr
    refine gk_skip (by kernel_rfl) ?_
    refine ge_seq ?_
    refine gk_seq (by kernel_rfl) ?_
    refine gk_seq (by kernel_rfl) ?_
    refine gk_region (by kernel_rfl) ?_
    refine gl_pure 3 [1, 2, 7, 9, 45, 46, 47] (K' := [(1, .slice A1_0 a1.length n1_0), (2, .int .i64 a2), (7, .float .f64 z6), (9, .float .f64 z13), (45, .slice A0_0 a0.length n0_0), (46, .int .i64 (a0.length : Int)), (47, .int .i64 0)]) (by kernel_rfl) ?_
    refine gl_atE (by kernel_rfl) ?_
    refine ge_seq ?_
    obtain ⟨r29, hl30, hr⟩ := bind_some hr
    refine gk_join (fun t I' L' => ∃ r37, r29 = Sum.inl r37 ∧ I10 ≤ I' ∧ L = L' ∧ Knows 124 [(1, .slice A1_0 a1.length n1_0), (2, .int .i64 a2)] t) ?_ ?_
    · refine gk_block (by kernel_rfl) ?_
      refine gk_pick [1, 2, 7, 9, 45, 46, 47] (K' := [(1, .slice A1_0 a1.length n1_0), (2, .int .i64 a2), (7, .float .f64 z6), (9, .float .f64 z13), (45, .slice A0_0 a0.length n0_0), (46, .int .i64 (a0.length : Int)), (47, .int .i64 0)]) (by kernel_rfl) ?_
      intro t hK
      refine gc_loop (tocsinlaw16_AggrBounds_l41 a0 y1 y8) (fun s31 t I' L' => I10 ≤ I' ∧ L = L' ∧ Knows 124 [(1, .slice A1_0 a1.length n1_0), (2, .int .i64 a2), (7, .float .f64 z6), (9, .float .f64 z13), (45, .slice A0_0 a0.length n0_0), (46, .int .i64 (a0.length : Int)), (47, .int .i64 s31)] t) (by kernel_rfl) ?_ hl30 ⟨(Imm.refl _), rfl, hK⟩
      rintro s31 o32 t I36 L' hb33 ⟨hI34, rfl, hK35⟩
      unfold tocsinlaw16_AggrBounds_l41 at hb33
      refine gk_at hK35 ?_
      refine gk_seq (by kernel_rfl) ?_
      refine gk_region (by kernel_rfl) ?_
      refine gl_pure 1 [1, 2, 7, 9, 45, 46, 47, 48] (K' := [(1, .slice A1_0 a1.length n1_0), (2, .int .i64 a2), (7, .float .f64 z6), (9, .float .f64 z13), (45, .slice A0_0 a0.length n0_0), (46, .int .i64 (a0.length : Int)), (47, .int .i64 s31), (48, .bool (decide (s31 < (a0.length : Int))))]) (by kernel_rfl) ?_
      refine gl_atE (by kernel_rfl) ?_
      refine ge_seq ?_
      refine gk_seq (by kernel_rfl) ?_
      refine gk_cond (b := (decide (s31 < (a0.length : Int)))) (by kernel_rfl) (by kernel_rfl) (fun hc43 => ?_) (fun hc43 => ?_)
      · have hb33 := cond_t hc43 hb33
        refine gk_skip (by kernel_rfl) ?_
        refine ge_seq ?_
        refine gk_seq (by kernel_rfl) ?_
        refine gk_block (by kernel_rfl) ?_
        refine gk_seq (by kernel_rfl) ?_
        refine gk_region (by kernel_rfl) ?_
        obtain ⟨x44, hx45, hb33⟩ := bind_some hb33
        obtain ⟨p46, cs47, hR48, hA49, ha50⟩ := RepS.ixAt hx45 (hf0_0.mono (Imm.trans (Imm.trans hI5 hI12) hI34))
        have hi51 := ix_some hx45
        obtain ⟨b52, rfl, hf53⟩ := hR48
        refine gl_indexAddrF (c := n0_0) (T' := 43) (e := 37) (xs := (.tmp 45)) (xi := (.tmp 47)) (kd := .i64) ha50 hi51.1 hi51.2.1 (by kernel_rfl) (by kernel_rfl) (by kernel_rfl) (by kernel_rfl) (by kernel_rfl) ?_
        refine gl_load (T' := 37) (xp := (.tmp 49)) (p := p46) (c := .float .f64 b52) (n := 1) (by kernel_rfl) (by kernel_rfl) (by kernel_rfl) (by kernel_rfl) hA49 ?_
        refine gl_pure 1 [1, 2, 7, 9, 12, 45, 46, 47] (K' := [(1, .slice A1_0 a1.length n1_0), (2, .int .i64 a2), (7, .float .f64 z6), (9, .float .f64 z13), (12, .float .f64 b52), (45, .slice A0_0 a0.length n0_0), (46, .int .i64 (a0.length : Int)), (47, .int .i64 s31)]) (by kernel_rfl) ?_
        refine gl_atE (by kernel_rfl) ?_
        refine ge_seq ?_
        refine gk_seq (by kernel_rfl) ?_
        obtain ⟨j54, hj55, hb33⟩ := bind_some hb33
        refine gk_join (fun t I' L' => I36 ≤ I' ∧ L = L' ∧ Knows 124 [(1, .slice A1_0 a1.length n1_0), (2, .int .i64 a2), (7, .float .f64 z6), (9, .float .f64 z13), (45, .slice A0_0 a0.length n0_0), (46, .int .i64 (a0.length : Int)), (47, .int .i64 s31), (58, .bool j54)] t) ?_ ?_
        · refine gk_region (by kernel_rfl) ?_
          refine gl_pure 2 [1, 2, 7, 9, 12, 45, 46, 47, 51, 52] (K' := [(1, .slice A1_0 a1.length n1_0), (2, .int .i64 a2), (7, .float .f64 z6), (9, .float .f64 z13), (12, .float .f64 b52), (45, .slice A0_0 a0.length n0_0), (46, .int .i64 (a0.length : Int)), (47, .int .i64 s31), (51, .float .f64 b52), (52, .float .f64 z6)]) (by kernel_rfl) ?_
          refine gl_fcmp (op := .lss) (t := 37) (t' := 37) (xx := (.tmp 51)) (yy := (.tmp 52)) hf53 hO7 (by kernel_rfl) (by kernel_rfl) rfl (by kernel_rfl) (by kernel_rfl) ?_
          refine gl_pure 1 [1, 2, 7, 9, 12, 45, 46, 47, 54] (K' := [(1, .slice A1_0 a1.length n1_0), (2, .int .i64 a2), (7, .float .f64 z6), (9, .float .f64 z13), (12, .float .f64 b52), (45, .slice A0_0 a0.length n0_0), (46, .int .i64 (a0.length : Int)), (47, .int .i64 s31), (54, .bool (fcmp .lss x44 y1.1))]) (by kernel_rfl) ?_
          refine gl_case 54 (b := (fcmp .lss x44 y1.1)) (by kernel_rfl) (fun hc59 => ?_) (fun hc59 => ?_)
          · have hj55 := cond_t hc59 hj55
            refine gl_pure 4 [1, 2, 7, 9, 45, 46, 47, 58] (K' := [(1, .slice A1_0 a1.length n1_0), (2, .int .i64 a2), (7, .float .f64 z6), (9, .float .f64 z13), (45, .slice A0_0 a0.length n0_0), (46, .int .i64 (a0.length : Int)), (47, .int .i64 s31), (58, .bool true)]) (by kernel_rfl) ?_
            refine gl_atE (by kernel_rfl) ?_
            obtain rfl := some_inj hj55
            exact ge_mid fun t ht => ⟨(Imm.refl _), rfl, ht.pick (l := [1, 2, 7, 9, 45, 46, 47, 58]) (by kernel_rfl)⟩
          · have hj55 := cond_f hc59 hj55
            refine gl_pure 2 [1, 2, 7, 9, 45, 46, 47, 54, 55, 56] (K' := [(1, .slice A1_0 a1.length n1_0), (2, .int .i64 a2), (7, .float .f64 z6), (9, .float .f64 z13), (45, .slice A0_0 a0.length n0_0), (46, .int .i64 (a0.length : Int)), (47, .int .i64 s31), (54, .bool false), (55, .float .f64 b52), (56, .float .f64 z13)]) (by kernel_rfl) ?_
            refine gl_fcmp (op := .gtr) (t := 37) (t' := 37) (xx := (.tmp 55)) (yy := (.tmp 56)) hf53 hO14 (by kernel_rfl) (by kernel_rfl) rfl (by kernel_rfl) (by kernel_rfl) ?_
            refine gl_pure 1 [1, 2, 7, 9, 45, 46, 47, 58] (K' := [(1, .slice A1_0 a1.length n1_0), (2, .int .i64 a2), (7, .float .f64 z6), (9, .float .f64 z13), (45, .slice A0_0 a0.length n0_0), (46, .int .i64 (a0.length : Int)), (47, .int .i64 s31), (58, .bool (fcmp .gtr x44 y8.1))]) (by kernel_rfl) ?_
            refine gl_atE (by kernel_rfl) ?_
            obtain rfl := some_inj hj55
            exact ge_mid fun t ht => ⟨(Imm.refl _), rfl, ht.pick (l := [1, 2, 7, 9, 45, 46, 47, 58]) (by kernel_rfl)⟩
        · rintro t I58 L' ⟨hI56, rfl, hK57⟩
          refine ge_at hK57 ?_
          refine ge_seq ?_
          refine gk_cond (b := j54) (by kernel_rfl) (by kernel_rfl) (fun hc60 => ?_) (fun hc60 => ?_)
          · have hb33 := cond_t hc60 hb33
            refine gk_seq (by kernel_rfl) ?_
            refine gk_region (by kernel_rfl) ?_
            refine gl_pure 1 [6] (K' := [(6, .bool false)]) (by kernel_rfl) ?_
            refine gl_atE (by kernel_rfl) ?_
            refine ge_seq ?_
            refine gk_ret (by kernel_rfl) ?_
            refine ge_block_ret ?_
            refine ge_seq_ret ?_
            obtain rfl := some_inj hb33
            refine ge_round_out (fun hrr => ?_) (by intro h; cases h)
            obtain rfl := hrr
            refine ge_block_ret ?_
            refine ge_seq_ret ?_
            refine ge_seq_ret ?_
            obtain rfl := some_inj hr
            exact ge_result trivial (ResOk.tmp (by kernel_rfl) ResOk.nil) (Imm.trans (Imm.trans (Imm.trans hI5 hI12) hI34) hI56) ⟨rfl, rfl⟩
          · have hb33 := cond_f hc60 hb33
            refine gk_skip (by kernel_rfl) ?_
            refine ge_block_normal ?_
            refine ge_seq ?_
            refine gk_region (by kernel_rfl) ?_
            refine gl_pure 2 [1, 2, 7, 9, 45, 46, 47] (K' := [(1, .slice A1_0 a1.length n1_0), (2, .int .i64 a2), (7, .float .f64 z6), (9, .float .f64 z13), (45, .slice A0_0 a0.length n0_0), (46, .int .i64 (a0.length : Int)), (47, .int .i64 (IntKind.wrap .i64 (s31 + 1)))]) (by kernel_rfl) ?_
            refine gl_atE (by kernel_rfl) ?_
            obtain rfl := some_inj hb33
            exact ge_round fun t ht => ⟨(Imm.trans hI34 hI56), rfl, ht.pick (l := [1, 2, 7, 9, 45, 46, 47]) (by kernel_rfl)⟩
      · have hb33 := cond_f hc43 hb33
        refine gk_exit (by kernel_rfl) ?_
        refine ge_seq_exit ?_
        obtain rfl := some_inj hb33
        refine ge_round_out (fun hrr => ?_) (by intro h; cases h)
        obtain rfl := hrr
        refine ge_block_hit (by kernel_rfl) ?_
        exact ge_mid fun t ht => ⟨_, rfl, hI34, rfl, ht.pick (l := [1, 2]) (by kernel_rfl)⟩
    · rintro t I40 L' ⟨r37, rfl, hI38, rfl, hK39⟩
      refine ge_at hK39 ?_
      refine ge_seq ?_
      refine gk_seq (by kernel_rfl) ?_
      refine gk_seq (by kernel_rfl) ?_
      refine gk_region (by kernel_rfl) ?_
      refine gl_pure 3 [1, 2, 62] (K' := [(1, .slice A1_0 a1.length n1_0), (2, .int .i64 a2), (62, .bool (decide ((a1.length : Int) > 100000)))]) (by kernel_rfl) ?_
      refine gl_atE (by kernel_rfl) ?_
      refine ge_seq ?_
      obtain ⟨j61, hj62, hr⟩ := bind_some hr
      refine gk_join (fun t I' L' => ∃ A64 n65, RepS (Kd.int .i32) I' A64 n65 j61 ∧ I40 ≤ I' ∧ L = L' ∧ Knows 124 [(1, .slice A64 j61.length n65), (2, .int .i64 a2)] t) ?_ ?_
      · refine gk_cond (b := (decide ((a1.length : Int) > 100000))) (by kernel_rfl) (by kernel_rfl) (fun hc69 => ?_) (fun hc69 => ?_)
        · have hj62 := cond_t hc69 hj62
          refine gk_region (by kernel_rfl) ?_
          refine gl_pure 1 [2, 63] (K' := [(2, .int .i64 a2), (63, .slice A1_0 a1.length n1_0)]) (by kernel_rfl) ?_
          obtain ⟨l71, hx70, hj62⟩ := bind_some hj62
          refine gl_sliceR (d := (Kd.int .i32)) (T' := 44) (e := 21) (xs := (.tmp 63)) (lo := none) (hi := (some (.const (.int .i64 100000)))) hx70 (hf1_0.mono (Imm.trans (Imm.trans hI5 hI12) hI38)) (by kernel_rfl) (by kernel_rfl) (by kernel_rfl) (by kernel_rfl) (by kernel_rfl) (by kernel_rfl) (fun A72 n73 hf74 => ?_)
          refine gl_pure 1 [1, 2] (K' := [(1, .slice A72 l71.length n73), (2, .int .i64 a2)]) (by kernel_rfl) ?_
          refine gl_atE (by kernel_rfl) ?_
          obtain rfl := some_inj hj62
          exact ge_mid fun t ht => ⟨A72, n73, hf74, (Imm.refl _), rfl, ht.pick (l := [1, 2]) (by kernel_rfl)⟩
        · have hj62 := cond_f hc69 hj62
          refine gk_skip (by kernel_rfl) ?_
          obtain rfl := some_inj hj62
          exact ge_mid fun t ht => ⟨A1_0, n1_0, (hf1_0.mono (Imm.trans (Imm.trans hI5 hI12) hI38)), (Imm.refl _), rfl, ht.pick (l := [1, 2]) (by kernel_rfl)⟩
      · rintro t I68 L' ⟨A64, n65, hf66, hI63, rfl, hK67⟩
        refine ge_at hK67 ?_
        refine ge_seq ?_
        refine gk_seq (by kernel_rfl) ?_
        refine gk_region (by kernel_rfl) ?_
        refine gl_pure 1 [1, 2, 13] (K' := [(1, .slice A64 j61.length n65), (2, .int .i64 a2), (13, .int .i64 0)]) (by kernel_rfl) ?_
        refine gl_atE (by kernel_rfl) ?_
        refine ge_seq ?_
        refine gk_seq (by kernel_rfl) ?_
        refine gk_region (by kernel_rfl) ?_
        refine gl_pure 1 [1, 2, 13, 14] (K' := [(1, .slice A64 j61.length n65), (2, .int .i64 a2), (13, .int .i64 0), (14, .slice none 0 0)]) (by kernel_rfl) ?_
        refine gl_atE (by kernel_rfl) ?_
        refine ge_seq ?_
        refine gk_seq (by kernel_rfl) ?_
        refine gk_seq (by kernel_rfl) ?_
        refine gk_region (by kernel_rfl) ?_
        refine gl_pure 3 [2, 13, 14, 65, 66, 67] (K' := [(2, .int .i64 a2), (13, .int .i64 0), (14, .slice none 0 0), (65, .slice A64 j61.length n65), (66, .int .i64 (j61.length : Int)), (67, .int .i64 0)]) (by kernel_rfl) ?_
        refine gl_atE (by kernel_rfl) ?_
        refine ge_seq ?_
        obtain ⟨r83, hl84, hr⟩ := bind_some hr
        refine gk_join (fun t I' L' => ∃ A96 n97 C98, OwnS Kd.flt 37 I' A96 n97 r83.2 C98 ∧ I68 ≤ I' ∧ C98 ++ L = L' ∧ Knows 124 [(2, .int .i64 a2), (13, .int .i64 r83.1), (14, .slice A96 r83.2.length n97)] t) ?_ ?_
        · refine gk_block (by kernel_rfl) ?_
          refine gk_pick [2, 13, 14, 65, 66, 67] (K' := [(2, .int .i64 a2), (13, .int .i64 0), (14, .slice none 0 0), (65, .slice A64 j61.length n65), (66, .int .i64 (j61.length : Int)), (67, .int .i64 0)]) (by kernel_rfl) ?_
          intro t hK
          refine gc_loop (tocsinlaw16_AggrBounds_l102 j61) (fun s85 t I' L' => ∃ A89 n90 C91, OwnS Kd.flt 37 I' A89 n90 s85.2.1 C91 ∧ I68 ≤ I' ∧ C91 ++ L = L' ∧ Knows 124 [(2, .int .i64 a2), (13, .int .i64 s85.1), (14, .slice A89 s85.2.1.length n90), (65, .slice A64 j61.length n65), (66, .int .i64 (j61.length : Int)), (67, .int .i64 s85.2.2)] t) (by kernel_rfl) ?_ hl84 ⟨none, 0, [], OwnS.nil _ _ _ _, (Imm.refl _), rfl, hK⟩
          rintro s85 o86 t I94 L' hb87 ⟨A89, n90, C91, hO92, hI88, rfl, hK93⟩
          unfold tocsinlaw16_AggrBounds_l102 at hb87
          refine gk_at hK93 ?_
          refine gk_seq (by kernel_rfl) ?_
          refine gk_region (by kernel_rfl) ?_
          refine gl_pure 1 [2, 13, 14, 65, 66, 67, 68] (K' := [(2, .int .i64 a2), (13, .int .i64 s85.1), (14, .slice A89 s85.2.1.length n90), (65, .slice A64 j61.length n65), (66, .int .i64 (j61.length : Int)), (67, .int .i64 s85.2.2), (68, .bool (decide (s85.2.2 < (j61.length : Int))))]) (by kernel_rfl) ?_
          refine gl_atE (by kernel_rfl) ?_
          refine ge_seq ?_
          refine gk_seq (by kernel_rfl) ?_
          refine gk_cond (b := (decide (s85.2.2 < (j61.length : Int)))) (by kernel_rfl) (by kernel_rfl) (fun hc104 => ?_) (fun hc104 => ?_)
          · have hb87 := cond_t hc104 hb87
            refine gk_skip (by kernel_rfl) ?_
            refine ge_seq ?_
            refine gk_seq (by kernel_rfl) ?_
            refine gk_block (by kernel_rfl) ?_
            refine gk_seq (by kernel_rfl) ?_
            refine gk_region (by kernel_rfl) ?_
            obtain ⟨x105, hx106, hb87⟩ := bind_some hb87
            obtain ⟨p107, cs108, hR109, hA110, ha111⟩ := RepS.ixAt hx106 (hf66.mono hI88)
            have hi112 := ix_some hx106
            obtain rfl := hR109
            refine gl_indexAddrF (c := n65) (T' := 44) (e := 21) (xs := (.tmp 65)) (xi := (.tmp 67)) (kd := .i64) ha111 hi112.1 hi112.2.1 (by kernel_rfl) (by kernel_rfl) (by kernel_rfl) (by kernel_rfl) (by kernel_rfl) ?_
            refine gl_load (T' := 21) (xp := (.tmp 69)) (p := p107) (c := .int .i32 x105) (n := 1) (by kernel_rfl) (by kernel_rfl) (by kernel_rfl) (by kernel_rfl) hA110 ?_
            refine gl_pure 1 [2, 13, 14, 16, 65, 66, 67] (K' := [(2, .int .i64 a2), (13, .int .i64 s85.1), (14, .slice A89 s85.2.1.length n90), (16, .int .i32 x105), (65, .slice A64 j61.length n65), (66, .int .i64 (j61.length : Int)), (67, .int .i64 s85.2.2)]) (by kernel_rfl) ?_
            refine gl_atE (by kernel_rfl) ?_
            refine ge_seq ?_
            refine gk_seq (by kernel_rfl) ?_
            refine gk_region (by kernel_rfl) ?_
            refine gl_pure 5 [2, 13, 14, 16, 65, 66, 67] (K' := [(2, .int .i64 a2), (13, .int .i64 (IntKind.wrap .i64 (s85.1 + (IntKind.wrap .i64 x105)))), (14, .slice A89 s85.2.1.length n90), (16, .int .i32 x105), (65, .slice A64 j61.length n65), (66, .int .i64 (j61.length : Int)), (67, .int .i64 s85.2.2)]) (by kernel_rfl) ?_
            refine gl_atE (by kernel_rfl) ?_
            refine ge_seq ?_
            refine gk_region (by kernel_rfl) ?_
            refine gl_pure 3 [2, 13, 65, 66, 67, 75, 77] (K' := [(2, .int .i64 a2), (13, .int .i64 (IntKind.wrap .i64 (s85.1 + (IntKind.wrap .i64 x105)))), (65, .slice A64 j61.length n65), (66, .int .i64 (j61.length : Int)), (67, .int .i64 s85.2.2), (75, .slice A89 s85.2.1.length n90), (77, .float .f64 (FloatKind.nearest .f64 x105))]) (by kernel_rfl) ?_
            refine gl_buildSlice (T' := 43) (e := 37) (n := 1) (len := 1) (parts := #[(0, (.tmp 77))]) (l := [(0, .float .f64 (FloatKind.nearest .f64 x105))]) (cs := #[.float .f64 (FloatKind.nearest .f64 x105)]) (by kernel_rfl) (by kernel_rfl) (by kernel_rfl) (by kernel_rfl) (by kernel_rfl) (fun g113 => ?_)
            have hO114 : OwnS Kd.flt 37 I94 (some ⟨g113, 0, none⟩) 1 [(some (FloatKind.nearest .f64 x105) : Fl)] [(g113, .cells #[.float .f64 (FloatKind.nearest .f64 x105)] 37)] := OwnS.lit (row_cons (l := [.float .f64 (FloatKind.nearest .f64 x105)]) ⟨_, rfl, (FRep.of (FloatKind.nearest .f64 x105))⟩ (row_nil _ _)) rfl rfl rfl
            refine gl_reord (D := [(g113, .cells #[.float .f64 (FloatKind.nearest .f64 x105)] 37)] ++ (C91 ++ L)) (Reord.refl _) ?_
            obtain ⟨zs117, hz118, hb87⟩ := bind_some hb87
            refine gl_append (xv := .slice (some ⟨g113, 0, none⟩) [(some (FloatKind.nearest .f64 x105) : Fl)].length 1) (d := Kd.flt) (t := 43) (tx := 43) (e := 37) (s := (.tmp 75)) (x := (.tmp 78)) (xs := s85.2.1) (fun X => [(g113, .cells #[.float .f64 (FloatKind.nearest .f64 x105)] 37)] ++ (X ++ L)) hz118 (by kernel_rfl) (by kernel_rfl) (by kernel_rfl) (by kernel_rfl) (by kernel_rfl) (by kernel_rfl) (fun X => (Upd.app _ (Upd.head _ X _))) hO92 (SrcOk.slice (c := 1) (e := 37) (n := 1) (OwnS.rd hO114 (Upd.selfC _ _)) (by kernel_rfl)) (fun A119 n120 C121 hO122 => ?_)
            refine gl_pure 1 [2, 13, 14, 65, 66, 67] (K' := [(2, .int .i64 a2), (13, .int .i64 (IntKind.wrap .i64 (s85.1 + (IntKind.wrap .i64 x105)))), (14, .slice A119 zs117.length n120), (65, .slice A64 j61.length n65), (66, .int .i64 (j61.length : Int)), (67, .int .i64 s85.2.2)]) (by kernel_rfl) ?_
            refine gl_atE (by kernel_rfl) ?_
            refine ge_block_normal ?_
            refine ge_seq ?_
            refine gk_region (by kernel_rfl) ?_
            refine gl_pure 2 [2, 13, 14, 65, 66, 67] (K' := [(2, .int .i64 a2), (13, .int .i64 (IntKind.wrap .i64 (s85.1 + (IntKind.wrap .i64 x105)))), (14, .slice A119 zs117.length n120), (65, .slice A64 j61.length n65), (66, .int .i64 (j61.length : Int)), (67, .int .i64 (IntKind.wrap .i64 (s85.2.2 + 1)))]) (by kernel_rfl) ?_
            refine gl_reord (D := C121 ++ L) (Reord.step (Upd.app _ (Upd.rmC _ _)) (Reord.skipC (Reord.refl _))) ?_
            refine gl_atE (by kernel_rfl) ?_
            obtain rfl := some_inj hb87
            exact ge_round fun t ht => ⟨A119, n120, C121, hO122, hI88, rfl, ht.pick (l := [2, 13, 14, 65, 66, 67]) (by kernel_rfl)⟩
          · have hb87 := cond_f hc104 hb87
            refine gk_exit (by kernel_rfl) ?_
            refine ge_seq_exit ?_
            obtain rfl := some_inj hb87
            refine ge_round_out (fun hrr => ?_) (by intro h; cases h)
            obtain rfl := hrr
            refine ge_block_hit (by kernel_rfl) ?_
            exact ge_mid fun t ht => ⟨A89, n90, C91, hO92, hI88, rfl, ht.pick (l := [2, 13, 14]) (by kernel_rfl)⟩
        · rintro t I101 L' ⟨A96, n97, C98, hO99, hI95, rfl, hK100⟩
          refine ge_at hK100 ?_
          refine ge_seq ?_
          refine gk_seq (by kernel_rfl) ?_
          refine gk_seq (by kernel_rfl) ?_
          refine gk_region (by kernel_rfl) ?_
          refine gl_pure 3 [2, 13, 14, 83] (K' := [(2, .int .i64 a2), (13, .int .i64 r83.1), (14, .slice A96 r83.2.length n97), (83, .bool (decide ((r83.2.length : Int) > 0)))]) (by kernel_rfl) ?_
          refine gl_atE (by kernel_rfl) ?_
          refine ge_seq ?_
          obtain ⟨j123, hj124, hr⟩ := bind_some hr
          refine gk_join (fun t I' L' => ∃ j125, j123 = Sum.inl j125 ∧ I101 ≤ I' ∧ L = L' ∧ Knows 124 [(2, .int .i64 a2)] t) ?_ ?_
          · refine gk_cond (b := (decide ((r83.2.length : Int) > 0))) (by kernel_rfl) (by kernel_rfl) (fun hc129 => ?_) (fun hc129 => ?_)
            · have hj124 := cond_t hc129 hj124
              refine gk_seq (by kernel_rfl) ?_
              refine gk_region (by kernel_rfl) ?_
              refine gl_pure 1 [2, 13, 85] (K' := [(2, .int .i64 a2), (13, .int .i64 r83.1), (85, .slice A96 r83.2.length n97)]) (by kernel_rfl) ?_
              refine gl_rest (Tk.step (Upd.rmC _ _) (Tk.nil _)) (fun J130 hJ131 hC132 => ?_)
              have hf133 := (OwnS.rest hO99 hJ131 hC132.left)
              obtain ⟨y134, hx135, hj124⟩ := bind_some hj124
              refine gl_call (by kernel_rfl) (aggr_Fold_walk (r := y134) hf133 (FRep.of 0) hx135 _) ?_
              rintro v I136 L137 hI138 ⟨z139, hO140, rfl, rfl⟩
              refine gl_pure 5 [2, 13, 17, 18] (K' := [(2, .int .i64 a2), (13, .int .i64 r83.1), (17, .float .f64 z139), (18, .int .i64 y134.2)]) (by kernel_rfl) ?_
              refine gl_atE (by kernel_rfl) ?_
              refine ge_seq ?_
              refine gk_seq (by kernel_rfl) ?_
              obtain ⟨j141, hj142, hj124⟩ := bind_some hj124
              refine gk_join (fun t I' L' => I136 ≤ I' ∧ L = L' ∧ Knows 124 [(2, .int .i64 a2), (96, .bool j141)] t) ?_ ?_
              · refine gk_region (by kernel_rfl) ?_
                refine gl_pure 3 [2, 13, 17, 91] (K' := [(2, .int .i64 a2), (13, .int .i64 r83.1), (17, .float .f64 z139), (91, .bool (y134.2 != 0))]) (by kernel_rfl) ?_
                refine gl_case 91 (b := (y134.2 != 0)) (by kernel_rfl) (fun hc146 => ?_) (fun hc146 => ?_)
                · have hj142 := cond_t hc146 hj142
                  refine gl_pure 5 [2, 96] (K' := [(2, .int .i64 a2), (96, .bool true)]) (by kernel_rfl) ?_
                  refine gl_atE (by kernel_rfl) ?_
                  obtain rfl := some_inj hj142
                  exact ge_mid fun t ht => ⟨(Imm.refl _), rfl, ht.pick (l := [2, 96]) (by kernel_rfl)⟩
                · have hj142 := cond_f hc146 hj142
                  refine gl_pure 3 [2, 91, 92, 94] (K' := [(2, .int .i64 a2), (91, .bool false), (92, .float .f64 z139), (94, .float .f64 (FloatKind.nearest .f64 r83.1))]) (by kernel_rfl) ?_
                  refine gl_fcmp (op := .neq) (t := 37) (t' := 37) (xx := (.tmp 92)) (yy := (.tmp 94)) hO140 (FRep.of (FloatKind.nearest .f64 r83.1)) (by kernel_rfl) (by kernel_rfl) rfl (by kernel_rfl) (by kernel_rfl) ?_
                  refine gl_pure 1 [2, 96] (K' := [(2, .int .i64 a2), (96, .bool (fcmp .neq y134.1 (some (FloatKind.nearest .f64 r83.1) : Fl)))]) (by kernel_rfl) ?_
                  refine gl_atE (by kernel_rfl) ?_
                  obtain rfl := some_inj hj142
                  exact ge_mid fun t ht => ⟨(Imm.refl _), rfl, ht.pick (l := [2, 96]) (by kernel_rfl)⟩
              · rintro t I145 L' ⟨hI143, rfl, hK144⟩
                refine ge_at hK144 ?_
                refine ge_seq ?_
                refine gk_cond (b := j141) (by kernel_rfl) (by kernel_rfl) (fun hc147 => ?_) (fun hc147 => ?_)
                · have hj124 := cond_t hc147 hj124
                  refine gk_seq (by kernel_rfl) ?_
                  refine gk_region (by kernel_rfl) ?_
                  refine gl_pure 1 [6] (K' := [(6, .bool false)]) (by kernel_rfl) ?_
                  refine gl_atE (by kernel_rfl) ?_
                  refine ge_seq ?_
                  refine gk_ret (by kernel_rfl) ?_
                  refine ge_seq_ret ?_
                  obtain rfl := some_inj hj124
                  refine ge_seq_ret ?_
                  obtain rfl := some_inj hr
                  exact ge_result trivial (ResOk.tmp (by kernel_rfl) ResOk.nil) (Imm.trans (Imm.trans (Imm.trans (Imm.trans (Imm.trans (Imm.trans (Imm.trans hI5 hI12) hI38) hI63) hI95) hJ131) hI138) hI143) ⟨rfl, rfl⟩
                · have hj124 := cond_f hc147 hj124
                  refine gk_skip (by kernel_rfl) ?_
                  obtain rfl := some_inj hj124
                  exact ge_mid fun t ht => ⟨_, rfl, (Imm.trans (Imm.trans hJ131 hI138) hI143), rfl, ht.pick (l := [2]) (by kernel_rfl)⟩
            · have hj124 := cond_f hc129 hj124
              refine gk_reord (D := L) (Reord.skipC (Reord.refl _)) ?_
              refine gk_skip (by kernel_rfl) ?_
              obtain rfl := some_inj hj124
              exact ge_mid fun t ht => ⟨_, rfl, (Imm.refl _), rfl, ht.pick (l := [2]) (by kernel_rfl)⟩
          · rintro t I128 L' ⟨j125, rfl, hI126, rfl, hK127⟩
            refine ge_at hK127 ?_
            refine ge_seq ?_
            refine gk_seq (by kernel_rfl) ?_
            refine gk_region (by kernel_rfl) ?_
            refine gl_pure 6 [2] (K' := [(2, .int .i64 (IntKind.wrap .i64 (1 + (Int.tmod (IntKind.wrap .i64 ((Int.tmod a2 1000) + 1000)) 1000))))]) (by kernel_rfl) ?_
            refine gl_atE (by kernel_rfl) ?_
            refine ge_seq ?_
            refine gk_seq (by kernel_rfl) ?_
            refine gk_region (by kernel_rfl) ?_
            refine gl_pure 1 [2, 19] (K' := [(2, .int .i64 (IntKind.wrap .i64 (1 + (Int.tmod (IntKind.wrap .i64 ((Int.tmod a2 1000) + 1000)) 1000)))), (19, .slice none 0 0)]) (by kernel_rfl) ?_
            refine gl_atE (by kernel_rfl) ?_
            refine ge_seq ?_
            refine gk_seq (by kernel_rfl) ?_
            refine gk_seq (by kernel_rfl) ?_
            refine gk_region (by kernel_rfl) ?_
            refine gl_pure 1 [2, 19, 20] (K' := [(2, .int .i64 (IntKind.wrap .i64 (1 + (Int.tmod (IntKind.wrap .i64 ((Int.tmod a2 1000) + 1000)) 1000)))), (19, .slice none 0 0), (20, .int .i64 0)]) (by kernel_rfl) ?_
            refine gl_atE (by kernel_rfl) ?_
            refine ge_seq ?_
            obtain ⟨r156, hl157, hr⟩ := bind_some hr
            refine gk_join (fun t I' L' => ∃ A169 n170 C171, OwnS Kd.flt 37 I' A169 n170 r156 C171 ∧ I128 ≤ I' ∧ C171 ++ L = L' ∧ Knows 124 [(19, .slice A169 r156.length n170)] t) ?_ ?_
            · refine gk_block (by kernel_rfl) ?_
              refine gk_pick [2, 19, 20] (K' := [(2, .int .i64 (IntKind.wrap .i64 (1 + (Int.tmod (IntKind.wrap .i64 ((Int.tmod a2 1000) + 1000)) 1000)))), (19, .slice none 0 0), (20, .int .i64 0)]) (by kernel_rfl) ?_
              intro t hK
              refine gc_loop (tocsinlaw16_AggrBounds_l175 a2) (fun s158 t I' L' => ∃ A162 n163 C164, OwnS Kd.flt 37 I' A162 n163 s158.1 C164 ∧ I128 ≤ I' ∧ C164 ++ L = L' ∧ Knows 124 [(2, .int .i64 (IntKind.wrap .i64 (1 + (Int.tmod (IntKind.wrap .i64 ((Int.tmod a2 1000) + 1000)) 1000)))), (19, .slice A162 s158.1.length n163), (20, .int .i64 s158.2)] t) (by kernel_rfl) ?_ hl157 ⟨none, 0, [], OwnS.nil _ _ _ _, (Imm.refl _), rfl, hK⟩
              rintro s158 o159 t I167 L' hb160 ⟨A162, n163, C164, hO165, hI161, rfl, hK166⟩
              unfold tocsinlaw16_AggrBounds_l175 at hb160
              refine gk_at hK166 ?_
              refine gk_seq (by kernel_rfl) ?_
              refine gk_seq (by kernel_rfl) ?_
              refine gk_region (by kernel_rfl) ?_
              refine gl_pure 3 [2, 19, 20, 104] (K' := [(2, .int .i64 (IntKind.wrap .i64 (1 + (Int.tmod (IntKind.wrap .i64 ((Int.tmod a2 1000) + 1000)) 1000)))), (19, .slice A162 s158.1.length n163), (20, .int .i64 s158.2), (104, .bool (decide (s158.2 < (IntKind.wrap .i64 (1 + (Int.tmod (IntKind.wrap .i64 ((Int.tmod a2 1000) + 1000)) 1000))))))]) (by kernel_rfl) ?_
              refine gl_atE (by kernel_rfl) ?_
              refine ge_seq ?_
              refine gk_cond (b := (decide (s158.2 < (IntKind.wrap .i64 (1 + (Int.tmod (IntKind.wrap .i64 ((Int.tmod a2 1000) + 1000)) 1000)))))) (by kernel_rfl) (by kernel_rfl) (fun hc177 => ?_) (fun hc177 => ?_)
              · have hb160 := cond_t hc177 hb160
                refine gk_skip (by kernel_rfl) ?_
                refine ge_seq ?_
                refine gk_seq (by kernel_rfl) ?_
                refine gk_block (by kernel_rfl) ?_
                refine gk_region (by kernel_rfl) ?_
                refine gl_pure 1 [2, 20, 107] (K' := [(2, .int .i64 (IntKind.wrap .i64 (1 + (Int.tmod (IntKind.wrap .i64 ((Int.tmod a2 1000) + 1000)) 1000)))), (20, .int .i64 s158.2), (107, .slice A162 s158.1.length n163)]) (by kernel_rfl) ?_
                refine gl_buildSlice (T' := 43) (e := 37) (n := 1) (len := 1) (parts := #[(0, (.const (.float .f64 4615063718147915776)))]) (l := [(0, .float .f64 4615063718147915776)]) (cs := #[.float .f64 4615063718147915776]) (by kernel_rfl) (by kernel_rfl) (by kernel_rfl) (by kernel_rfl) (by kernel_rfl) (fun g178 => ?_)
                have hO179 : OwnS Kd.flt 37 I167 (some ⟨g178, 0, none⟩) 1 [(some 4615063718147915776 : Fl)] [(g178, .cells #[.float .f64 4615063718147915776] 37)] := OwnS.lit (row_cons (l := [.float .f64 4615063718147915776]) ⟨_, rfl, (FRep.of 4615063718147915776)⟩ (row_nil _ _)) rfl rfl rfl
                refine gl_reord (D := [(g178, .cells #[.float .f64 4615063718147915776] 37)] ++ (C164 ++ L)) (Reord.refl _) ?_
                obtain ⟨zs182, hz183, hb160⟩ := bind_some hb160
                refine gl_append (xv := .slice (some ⟨g178, 0, none⟩) [(some 4615063718147915776 : Fl)].length 1) (d := Kd.flt) (t := 43) (tx := 43) (e := 37) (s := (.tmp 107)) (x := (.tmp 108)) (xs := s158.1) (fun X => [(g178, .cells #[.float .f64 4615063718147915776] 37)] ++ (X ++ L)) hz183 (by kernel_rfl) (by kernel_rfl) (by kernel_rfl) (by kernel_rfl) (by kernel_rfl) (by kernel_rfl) (fun X => (Upd.app _ (Upd.head _ X _))) hO165 (SrcOk.slice (c := 1) (e := 37) (n := 1) (OwnS.rd hO179 (Upd.selfC _ _)) (by kernel_rfl)) (fun A184 n185 C186 hO187 => ?_)
                refine gl_pure 1 [2, 19, 20] (K' := [(2, .int .i64 (IntKind.wrap .i64 (1 + (Int.tmod (IntKind.wrap .i64 ((Int.tmod a2 1000) + 1000)) 1000)))), (19, .slice A184 zs182.length n185), (20, .int .i64 s158.2)]) (by kernel_rfl) ?_
                refine gl_atE (by kernel_rfl) ?_
                refine ge_block_normal ?_
                refine ge_seq ?_
                refine gk_region (by kernel_rfl) ?_
                refine gl_pure 3 [2, 19, 20] (K' := [(2, .int .i64 (IntKind.wrap .i64 (1 + (Int.tmod (IntKind.wrap .i64 ((Int.tmod a2 1000) + 1000)) 1000)))), (19, .slice A184 zs182.length n185), (20, .int .i64 (IntKind.wrap .i64 (s158.2 + 1)))]) (by kernel_rfl) ?_
                refine gl_reord (D := C186 ++ L) (Reord.step (Upd.app _ (Upd.rmC _ _)) (Reord.skipC (Reord.refl _))) ?_
                refine gl_atE (by kernel_rfl) ?_
                obtain rfl := some_inj hb160
                exact ge_round fun t ht => ⟨A184, n185, C186, hO187, hI161, rfl, ht.pick (l := [2, 19, 20]) (by kernel_rfl)⟩
              · have hb160 := cond_f hc177 hb160
                refine gk_exit (by kernel_rfl) ?_
                refine ge_seq_exit ?_
                obtain rfl := some_inj hb160
                refine ge_round_out (fun hrr => ?_) (by intro h; cases h)
                obtain rfl := hrr
                refine ge_block_hit (by kernel_rfl) ?_
                exact ge_mid fun t ht => ⟨A162, n163, C164, hO165, hI161, rfl, ht.pick (l := [19]) (by kernel_rfl)⟩
            · rintro t I174 L' ⟨A169, n170, C171, hO172, hI168, rfl, hK173⟩
              refine ge_at hK173 ?_
              refine ge_seq ?_
              refine gk_seq (by kernel_rfl) ?_
              refine gk_region (by kernel_rfl) ?_
              refine gl_pure 1 [111] (K' := [(111, .slice A169 r156.length n170)]) (by kernel_rfl) ?_
              refine gl_rest (Tk.step (Upd.rmC _ _) (Tk.nil _)) (fun J188 hJ189 hC190 => ?_)
              have hf191 := (OwnS.rest hO172 hJ189 hC190.left)
              obtain ⟨y192, hx193, hr⟩ := bind_some hr
              refine gl_call (by kernel_rfl) (aggr_Fold_walk (r := y192) hf191 (FRep.of 0) hx193 _) ?_
              rintro v I194 L195 hI196 ⟨z197, hO198, rfl, rfl⟩
              refine gl_pure 5 [21, 22] (K' := [(21, .float .f64 z197), (22, .int .i64 y192.2)]) (by kernel_rfl) ?_
              refine gl_atE (by kernel_rfl) ?_
              refine ge_seq ?_
              refine gk_seq (by kernel_rfl) ?_
              obtain ⟨j199, hj200, hr⟩ := bind_some hr
              refine gk_join (fun t I' L' => I194 ≤ I' ∧ L = L' ∧ Knows 124 [(6, .bool j199)] t) ?_ ?_
              · refine gk_region (by kernel_rfl) ?_
                refine gl_pure 3 [21, 117] (K' := [(21, .float .f64 z197), (117, .bool (y192.2 == 0))]) (by kernel_rfl) ?_
                refine gl_case 117 (b := (y192.2 == 0)) (by kernel_rfl) (fun hc204 => ?_) (fun hc204 => ?_)
                · have hj200 := cond_t hc204 hj200
                  refine gl_pure 1 [117, 118] (K' := [(117, .bool true), (118, .float .f64 z197)]) (by kernel_rfl) ?_
                  refine gl_fcmp (op := .eql) (t := 37) (t' := 37) (xx := (.tmp 118)) (yy := (.const (.float .f64 4615063718147915776))) hO198 (FRep.of 4615063718147915776) (by kernel_rfl) (by kernel_rfl) rfl (by kernel_rfl) (by kernel_rfl) ?_
                  refine gl_pure 2 [121] (K' := [(121, .bool (fcmp .eql y192.1 (some 4615063718147915776 : Fl)))]) (by kernel_rfl) ?_
                  refine gl_case 121 (b := (fcmp .eql y192.1 (some 4615063718147915776 : Fl))) (by kernel_rfl) (fun hc205 => ?_) (fun hc205 => ?_)
                  · have hj200 := cond_t hc205 hj200
                    obtain ⟨y206, hx207, hj200⟩ := bind_some hj200
                    refine gl_callQ (by kernel_rfl) (tocsinlaw16_awake_walk (r := y206) (hG.mono (Imm.trans (Imm.trans (Imm.trans (Imm.trans (Imm.trans (Imm.trans (Imm.trans (Imm.trans hI5 hI12) hI38) hI63) hI95) hI126) hI168) hJ189) hI196)) hx207 _) ?_
                    refine gl_pure 2 [6] (K' := [(6, .bool y206)]) (by kernel_rfl) ?_
                    refine gl_atE (by kernel_rfl) ?_
                    obtain rfl := some_inj hj200
                    exact ge_mid fun t ht => ⟨(Imm.refl _), rfl, ht.pick (l := [6]) (by kernel_rfl)⟩
                  · have hj200 := cond_f hc205 hj200
                    refine gl_pure 3 [6] (K' := [(6, .bool false)]) (by kernel_rfl) ?_
                    refine gl_atE (by kernel_rfl) ?_
                    obtain rfl := some_inj hj200
                    exact ge_mid fun t ht => ⟨(Imm.refl _), rfl, ht.pick (l := [6]) (by kernel_rfl)⟩
                · have hj200 := cond_f hc204 hj200
                  refine gl_pure 7 [6] (K' := [(6, .bool false)]) (by kernel_rfl) ?_
                  refine gl_atE (by kernel_rfl) ?_
                  obtain rfl := some_inj hj200
                  exact ge_mid fun t ht => ⟨(Imm.refl _), rfl, ht.pick (l := [6]) (by kernel_rfl)⟩
              · rintro t I203 L' ⟨hI201, rfl, hK202⟩
                refine ge_at hK202 ?_
                refine ge_seq ?_
                refine gk_ret (by kernel_rfl) ?_
                obtain rfl := some_inj hr
                exact ge_result trivial (ResOk.tmp (by kernel_rfl) ResOk.nil) (Imm.trans (Imm.trans (Imm.trans (Imm.trans (Imm.trans (Imm.trans (Imm.trans (Imm.trans (Imm.trans hI5 hI12) hI38) hI63) hI95) hI126) hI168) hJ189) hI196) hI201) ⟨rfl, rfl⟩
end Go.Proofs.YtkjkkimnjpodiaaGreatDoor
