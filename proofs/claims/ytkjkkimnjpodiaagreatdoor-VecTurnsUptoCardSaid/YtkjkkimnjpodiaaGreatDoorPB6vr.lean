/- Plain laws: label sets in bytes. -/
import Derived.Test.YtkjkkimnjpodiaaGreatDoorV1cr
import Derived.Test.YtkjkkimnjpodiaaGreatDoorGB32r
import Derived.Test.YtkjkkimnjpodiaaGreatDoorRows
import Derived.Deep.Slices
import Derived.Below
import Derived.Lib.ValidLaws
import Derived.Lib.Bytealg
set_option linter.unusedVariables false
set_option linter.unusedSimpArgs false
set_option maxRecDepth 100000
namespace Go.Proofs.YtkjkkimnjpodiaaGreatDoor
open Go.GB
/-! 4 tocsinlaw15_VecTurns  -/
noncomputable def tocsinlaw15_VecTurns_l22 (a1 : List S38) (a2 : List S38) (a3 : S24) : Int → Option ((Int) ⊕ ((Unit) ⊕ (Bool))) := fun s12 =>
  bif (decide (s12 < ([1, 3].length : Int))) then
  (Option.bind (ix [1, 3] s12) fun (x25 : Int) =>
    Option.bind (vec_Binary x25 a1 a2 (⟨0, a3.f1, a3.f2, []⟩ : S24) false) fun (y34 : (List S38) × Int) =>
    Option.bind (vec_Binary x25 a2 a1 (⟨0, a3.f1, a3.f2, []⟩ : S24) false) fun (y43 : (List S38) × Int) =>
    Option.bind (bif (y34.2 == 0) then
      (bif (y43.2 == 0) then
        (Option.bind (tocsinref11_SamePoints y34.1 y43.1) fun (y59 : Bool) =>
          some (!y59))
        else
        (some false))
      else
      (some false)) fun (j52 : Bool) =>
    bif j52 then
    (some (Sum.inr (Sum.inr false)))
    else
    (some (Sum.inl (IntKind.wrap .i64 (s12 + 1)))))
  else
  (some (Sum.inr (Sum.inl ())))
noncomputable def tocsinlaw15_VecTurns_l135 (a1 : List S38) (y74 : (List S38) × Int) (s107 : Int) : (Bool × Int) → Option ((Bool × Int) ⊕ (Bool)) := fun s126 =>
  bif (decide (s126.2 < (a1.length : Int))) then
  (Option.bind (bif s126.1 then
      (some true)
      else
      (Option.bind (ix a1 s126.2) fun (x144 : S38) =>
        Option.bind (ix y74.1 s107) fun (x157 : S38) =>
        Option.bind (tocsinlaw15_bits x144.f1 x157.f1) fun (y171 : Bool) =>
        some y171)) fun (j138 : Bool) =>
    some (Sum.inl (j138, (IntKind.wrap .i64 (s126.2 + 1)))))
  else
  (some (Sum.inr s126.1))
noncomputable def tocsinlaw15_VecTurns_l117 (a1 : List S38) (y74 : (List S38) × Int) : Int → Option ((Int) ⊕ ((Unit) ⊕ (Bool))) := fun s107 =>
  bif (decide (s107 < (y74.1.length : Int))) then
  (Option.bind (loopO (tocsinlaw15_VecTurns_l135 a1 y74 s107) (false, 0)) fun (r124 : Bool) =>
    bif (!r124) then
    (some (Sum.inr (Sum.inr false)))
    else
    (some (Sum.inl (IntKind.wrap .i64 (s107 + 1)))))
  else
  (some (Sum.inr (Sum.inl ())))
noncomputable def tocsinlaw15_VecTurns_l190 (y83 : (List S38) × Int) : (Int × Int) → Option ((Int × Int) ⊕ ((Int) ⊕ (Bool))) := fun s180 =>
  bif (decide (s180.2 < (y83.1.length : Int))) then
  (Option.bind (ix y83.1 s180.2) fun (x193 : S38) =>
    Option.bind ((bif (fcmp .eql x193.f1 (some 4607182418800017408 : Fl)) then
      (some (Sum.inl (IntKind.wrap .i64 (s180.1 + 1))))
      else
      (Option.bind (ix y83.1 s180.2) fun (x214 : S38) =>
        bif (fcmp .neq x214.f1 (some 0 : Fl)) then
        (some (Sum.inr (Sum.inr (Sum.inr false))))
        else
        (some (Sum.inl s180.1))) : Option ((Int) ⊕ ((Int × Int) ⊕ ((Int) ⊕ (Bool)))))) fun (j207 : (Int) ⊕ ((Int × Int) ⊕ ((Int) ⊕ (Bool)))) =>
    match j207 with
    | Sum.inl j209 => some (Sum.inl (j209, (IntKind.wrap .i64 (s180.2 + 1))))
    | Sum.inr v229 => some v229)
  else
  (some (Sum.inr (Sum.inl s180.1)))
noncomputable def tocsinlaw15_VecTurns (a0 : Int) (a1 : List S38) (a2 : List S38) (a3 : S24) : Option Bool :=
  Option.bind (loopO (tocsinlaw15_VecTurns_l22 a1 a2 a3) 0) fun (r10 : (Unit) ⊕ (Bool)) =>
  match r10 with
  | Sum.inl r18 => Option.bind (bif ((decide (a0 < 7)) || (decide (a0 > 12))) then
      (some 9)
      else
      (some a0)) fun (j68 : Int) =>
    Option.bind (vec_Binary j68 a1 a2 (⟨0, a3.f1, a3.f2, []⟩ : S24) false) fun (y74 : (List S38) × Int) =>
    Option.bind (vec_Binary j68 a1 a2 (⟨0, a3.f1, a3.f2, []⟩ : S24) true) fun (y83 : (List S38) × Int) =>
    bif ((y74.2 != 0) || (y83.2 != 0)) then
    (Option.bind tocsinlaw15_known fun (y99 : Bool) =>
      some y99)
    else
    (Option.bind (loopO (tocsinlaw15_VecTurns_l117 a1 y74) 0) fun (r105 : (Unit) ⊕ (Bool)) =>
      match r105 with
      | Sum.inl r113 => Option.bind (loopO (tocsinlaw15_VecTurns_l190 y83) (0, 0)) fun (r178 : (Int) ⊕ (Bool)) =>
        match r178 with
        | Sum.inl r186 => Option.bind (bif (r186 == (y74.1.length : Int)) then
            (Option.bind tocsinlaw15_known fun (y236 : Bool) =>
              some y236)
            else
            (some false)) fun (j230 : Bool) =>
          some j230
        | Sum.inr v238 => some v238
      | Sum.inr v239 => some v239)
  | Sum.inr v240 => some v240
theorem tocsinlaw15_VecTurns_walk {a0 : Int} {a1 : List S38} {A1_0 : Option Addr} {n1_0 : Nat} {a2 : List S38} {A2_0 : Option Addr} {n2_0 : Nat} {a3 : S24} {A3_2 : Option Addr} {n3_2 : Nat} {A3_3 : Option Addr} {n3_3 : Nat} {I : Imm} {r : Bool} (hG : Gl I)  (hf1_0 : RepS kS38 I A1_0 n1_0 a1)  (hf2_0 : RepS kS38 I A2_0 n2_0 a2)  (hf3_2 : RepS Kd.str I A3_2 n3_2 a3.f2) (hf3_3 : RepS Kd.str I A3_3 n3_3 a3.f3) (hr : tocsinlaw15_VecTurns a0 a1 a2 a3 = some r) (L : Own) :
    CallsTo Tryz.prog 4 #[.int .i64 a0, .slice A1_0 a1.length n1_0, .slice A2_0 a2.length n2_0, .agg #[.int .i64 a3.f0, .bool a3.f1, .slice A3_2 a3.f2.length n3_2, .slice A3_3 a3.f3.length n3_3]] I L (fun v I' L' => v = .bool r ∧ L = L') := by
  unfold tocsinlaw15_VecTurns at hr
  refine callsTo_body (N := 145) Tryz.func4 (by kernel_rfl) (by kernel_rfl) (by kernel_rfl) ?_
  refine gk_pick [0, 1, 2, 3] (K' := [(0, .int .i64 a0), (1, .slice A1_0 a1.length n1_0), (2, .slice A2_0 a2.length n2_0), (3, .agg #[.int .i64 a3.f0, .bool a3.f1, .slice A3_2 a3.f2.length n3_2, .slice A3_3 a3.f3.length n3_3])]) (by kernel_rfl) ?_
  refine gk_seq (by kernel_rfl) ?_
  refine gk_region (by kernel_rfl) ?_
  refine gl_box (T' := 25) (x := (.tmp 3)) (v := .agg #[.int .i64 a3.f0, .bool a3.f1, .slice A3_2 a3.f2.length n3_2, .slice A3_3 a3.f3.length n3_3]) (cs := #[.int .i64 a3.f0, .bool a3.f1, .slice A3_2 a3.f2.length n3_2, .slice A3_3 a3.f3.length n3_3]) (by kernel_rfl) (by kernel_rfl) (by kernel_rfl) (by kernel_rfl) (fun gb1 => ?_)
  refine gl_pure 1 [0, 1, 2, 7] (K' := [(0, .int .i64 a0), (1, .slice A1_0 a1.length n1_0), (2, .slice A2_0 a2.length n2_0), (7, .pointer (some ⟨gb1, 0, none⟩))]) (by kernel_rfl) ?_
  refine gl_atE (by kernel_rfl) ?_
  refine ge_seq ?_
  refine gk_seq (by kernel_rfl) ?_
  refine gk_region (by kernel_rfl) ?_
  refine gl_pure 1 [0, 1, 2, 7, 24] (K' := [(0, .int .i64 a0), (1, .slice A1_0 a1.length n1_0), (2, .slice A2_0 a2.length n2_0), (7, .pointer (some ⟨gb1, 0, none⟩)), (24, .pointer (some ⟨gb1, 0, none⟩))]) (by kernel_rfl) ?_
  refine gl_storeB (T' := 3) (xp := (.tmp 24)) (xv := (.const (.int .i64 0))) (v := .int .i64 0) (g := gb1) (off := 0) (cs := #[.int .i64 a3.f0, .bool a3.f1, .slice A3_2 a3.f2.length n3_2, .slice A3_3 a3.f3.length n3_3]) (cs' := #[.int .i64 0, .bool a3.f1, .slice A3_2 a3.f2.length n3_2, .slice A3_3 a3.f3.length n3_3]) (by kernel_rfl) (by kernel_rfl) (by kernel_rfl) (by kernel_rfl) (by kernel_rfl) (Upd.set _ _ _ _) ?_ (by kernel_rfl)
  refine gl_atE (by kernel_rfl) ?_
  refine ge_seq ?_
  refine gk_seq (by kernel_rfl) ?_
  refine gk_region (by kernel_rfl) ?_
  refine gl_pure 1 [0, 1, 2, 7, 25] (K' := [(0, .int .i64 a0), (1, .slice A1_0 a1.length n1_0), (2, .slice A2_0 a2.length n2_0), (7, .pointer (some ⟨gb1, 0, none⟩)), (25, .pointer (some ⟨gb1, 3, none⟩))]) (by kernel_rfl) ?_
  refine gl_storeB (T' := 23) (xp := (.tmp 25)) (xv := (.const (.slice none 0 0))) (v := .slice none 0 0) (g := gb1) (off := 3) (cs := #[.int .i64 0, .bool a3.f1, .slice A3_2 a3.f2.length n3_2, .slice A3_3 a3.f3.length n3_3]) (cs' := #[.int .i64 0, .bool a3.f1, .slice A3_2 a3.f2.length n3_2, .slice none 0 0]) (by kernel_rfl) (by kernel_rfl) (by kernel_rfl) (by kernel_rfl) (by kernel_rfl) (Upd.set _ _ _ _) ?_ (by kernel_rfl)
  refine gl_atE (by kernel_rfl) ?_
  refine ge_seq ?_
  refine gk_seq (by kernel_rfl) ?_
  refine gk_seq (by kernel_rfl) ?_
  refine gk_region (by kernel_rfl) ?_
  refine gl_buildSlice (T' := 34) (e := 3) (n := 1) (len := 2) (parts := #[(0, (.const (.int .i64 1))), (1, (.const (.int .i64 3)))]) (l := [(0, .int .i64 1), (1, .int .i64 3)]) (cs := #[.int .i64 1, .int .i64 3]) (by kernel_rfl) (by kernel_rfl) (by kernel_rfl) (by kernel_rfl) (by kernel_rfl) (fun gb2 => ?_)
  have hO3 : OwnS (Kd.int .i64) 3 I (some ⟨gb2, 0, none⟩) 2 [1, 3] [(gb2, .cells #[.int .i64 1, .int .i64 3] 3)] := OwnS.lit (row_cons (l := [.int .i64 1]) rfl (row_cons (l := [.int .i64 3]) rfl (row_nil _ _))) rfl rfl rfl
  refine gl_reord (D := [(gb2, .cells #[.int .i64 1, .int .i64 3] 3)] ++ ((gb1, .cells #[.int .i64 0, .bool a3.f1, .slice A3_2 a3.f2.length n3_2, .slice none 0 0] 25) :: L)) (Reord.refl _) ?_
  refine gl_pure 2 [0, 1, 2, 7, 26, 27, 28] (K' := [(0, .int .i64 a0), (1, .slice A1_0 a1.length n1_0), (2, .slice A2_0 a2.length n2_0), (7, .pointer (some ⟨gb1, 0, none⟩)), (26, .slice (some ⟨gb2, 0, none⟩) [1, 3].length 2), (27, .int .i64 ([1, 3].length : Int)), (28, .int .i64 0)]) (by kernel_rfl) ?_
  refine gl_atE (by kernel_rfl) ?_
  refine ge_seq ?_
  obtain ⟨r10, hl11, hr⟩ := bind_some hr
  refine gk_join (fun t I' L' => ∃ r18, r10 = Sum.inl r18 ∧ I ≤ I' ∧ (gb1, .cells #[.int .i64 0, .bool a3.f1, .slice A3_2 a3.f2.length n3_2, .slice none 0 0] 25) :: L = L' ∧ Knows 145 [(0, .int .i64 a0), (1, .slice A1_0 a1.length n1_0), (2, .slice A2_0 a2.length n2_0), (7, .pointer (some ⟨gb1, 0, none⟩))] t) ?_ ?_
  · refine gk_block (by kernel_rfl) ?_
    refine gk_pick [0, 1, 2, 7, 26, 27, 28] (K' := [(0, .int .i64 a0), (1, .slice A1_0 a1.length n1_0), (2, .slice A2_0 a2.length n2_0), (7, .pointer (some ⟨gb1, 0, none⟩)), (26, .slice (some ⟨gb2, 0, none⟩) [1, 3].length 2), (27, .int .i64 ([1, 3].length : Int)), (28, .int .i64 0)]) (by kernel_rfl) ?_
    intro t hK
    refine gc_loop (tocsinlaw15_VecTurns_l22 a1 a2 a3) (fun s12 t I' L' => I ≤ I' ∧ [(gb2, .cells #[.int .i64 1, .int .i64 3] 3)] ++ ((gb1, .cells #[.int .i64 0, .bool a3.f1, .slice A3_2 a3.f2.length n3_2, .slice none 0 0] 25) :: L) = L' ∧ Knows 145 [(0, .int .i64 a0), (1, .slice A1_0 a1.length n1_0), (2, .slice A2_0 a2.length n2_0), (7, .pointer (some ⟨gb1, 0, none⟩)), (26, .slice (some ⟨gb2, 0, none⟩) [1, 3].length 2), (27, .int .i64 ([1, 3].length : Int)), (28, .int .i64 s12)] t) (by kernel_rfl) ?_ hl11 ⟨(Imm.refl _), rfl, hK⟩
    rintro s12 o13 t I17 L' hb14 ⟨hI15, rfl, hK16⟩
    unfold tocsinlaw15_VecTurns_l22 at hb14
    refine gk_at hK16 ?_
    refine gk_seq (by kernel_rfl) ?_
    refine gk_region (by kernel_rfl) ?_
    refine gl_pure 1 [0, 1, 2, 7, 26, 27, 28, 29] (K' := [(0, .int .i64 a0), (1, .slice A1_0 a1.length n1_0), (2, .slice A2_0 a2.length n2_0), (7, .pointer (some ⟨gb1, 0, none⟩)), (26, .slice (some ⟨gb2, 0, none⟩) [1, 3].length 2), (27, .int .i64 ([1, 3].length : Int)), (28, .int .i64 s12), (29, .bool (decide (s12 < ([1, 3].length : Int))))]) (by kernel_rfl) ?_
    refine gl_atE (by kernel_rfl) ?_
    refine ge_seq ?_
    refine gk_seq (by kernel_rfl) ?_
    refine gk_cond (b := (decide (s12 < ([1, 3].length : Int)))) (by kernel_rfl) (by kernel_rfl) (fun hc24 => ?_) (fun hc24 => ?_)
    · have hb14 := cond_t hc24 hb14
      refine gk_skip (by kernel_rfl) ?_
      refine ge_seq ?_
      refine gk_seq (by kernel_rfl) ?_
      refine gk_block (by kernel_rfl) ?_
      refine gk_seq (by kernel_rfl) ?_
      refine gk_region (by kernel_rfl) ?_
      obtain ⟨x25, hx26, hb14⟩ := bind_some hb14
      refine gl_indexAddrW (d := (Kd.int .i64)) (c := 2) (T' := 34) (e := 3) (xs := (.tmp 26)) (xi := (.tmp 28)) (kd := .i64) hx26 (hO3.mono hI15) (Upd.selfC _ _) (by kernel_rfl) (by kernel_rfl) (by kernel_rfl) (by kernel_rfl) (by kernel_rfl) (fun p27 cs28 hR29 hA30 hp33 => ?_)
      obtain rfl := hR29
      refine gl_loadO (T' := 3) (xp := (.tmp 30)) (p := p27) (c := .int .i64 x25) (n := 1) (by kernel_rfl) (by kernel_rfl) (by kernel_rfl) (by kernel_rfl) hA30 ?_
      refine gl_pure 1 [0, 1, 2, 7, 10, 26, 27, 28] (K' := [(0, .int .i64 a0), (1, .slice A1_0 a1.length n1_0), (2, .slice A2_0 a2.length n2_0), (7, .pointer (some ⟨gb1, 0, none⟩)), (10, .int .i64 x25), (26, .slice (some ⟨gb2, 0, none⟩) [1, 3].length 2), (27, .int .i64 ([1, 3].length : Int)), (28, .int .i64 s12)]) (by kernel_rfl) ?_
      refine gl_atE (by kernel_rfl) ?_
      refine ge_seq ?_
      refine gk_seq (by kernel_rfl) ?_
      refine gk_region (by kernel_rfl) ?_
      refine gl_pure 3 [0, 1, 2, 7, 10, 26, 27, 28, 33, 34, 35] (K' := [(0, .int .i64 a0), (1, .slice A1_0 a1.length n1_0), (2, .slice A2_0 a2.length n2_0), (7, .pointer (some ⟨gb1, 0, none⟩)), (10, .int .i64 x25), (26, .slice (some ⟨gb2, 0, none⟩) [1, 3].length 2), (27, .int .i64 ([1, 3].length : Int)), (28, .int .i64 s12), (33, .int .i64 x25), (34, .slice A1_0 a1.length n1_0), (35, .slice A2_0 a2.length n2_0)]) (by kernel_rfl) ?_
      refine gl_loadB (T' := 25) (xp := (.tmp 7)) (v := .agg #[.int .i64 0, .bool a3.f1, .slice A3_2 a3.f2.length n3_2, .slice none 0 0]) (g := gb1) (off := 0) (cs := #[.int .i64 0, .bool a3.f1, .slice A3_2 a3.f2.length n3_2, .slice none 0 0]) (e := 25) (fz := (0, 0)) (by kernel_rfl) (by kernel_rfl) (by kernel_rfl) (List.mem_append_right _ List.mem_cons_self) (by kernel_rfl) ?_
      obtain ⟨y34, hx35, hb14⟩ := bind_some hb14
      refine gl_call (by kernel_rfl) (vec_Binary_walk (r := y34) (a3 := (⟨0, a3.f1, a3.f2, []⟩ : S24)) (hG.mono hI15) (hf1_0.mono hI15) (hf2_0.mono hI15) (hf3_2.mono hI15) (RepS.nil _ _) hx35 _) ?_
      rintro v I36 L37 hI38 ⟨A39, c40, C41, hO42, rfl, rfl⟩
      refine gl_pure 5 [0, 1, 2, 7, 10, 11, 12, 26, 27, 28] (K' := [(0, .int .i64 a0), (1, .slice A1_0 a1.length n1_0), (2, .slice A2_0 a2.length n2_0), (7, .pointer (some ⟨gb1, 0, none⟩)), (10, .int .i64 x25), (11, .slice A39 y34.1.length c40), (12, .int .i64 y34.2), (26, .slice (some ⟨gb2, 0, none⟩) [1, 3].length 2), (27, .int .i64 ([1, 3].length : Int)), (28, .int .i64 s12)]) (by kernel_rfl) ?_
      refine gl_atE (by kernel_rfl) ?_
      refine ge_seq ?_
      refine gk_seq (by kernel_rfl) ?_
      refine gk_region (by kernel_rfl) ?_
      refine gl_pure 3 [0, 1, 2, 7, 11, 12, 26, 27, 28, 41, 42, 43] (K' := [(0, .int .i64 a0), (1, .slice A1_0 a1.length n1_0), (2, .slice A2_0 a2.length n2_0), (7, .pointer (some ⟨gb1, 0, none⟩)), (11, .slice A39 y34.1.length c40), (12, .int .i64 y34.2), (26, .slice (some ⟨gb2, 0, none⟩) [1, 3].length 2), (27, .int .i64 ([1, 3].length : Int)), (28, .int .i64 s12), (41, .int .i64 x25), (42, .slice A2_0 a2.length n2_0), (43, .slice A1_0 a1.length n1_0)]) (by kernel_rfl) ?_
      refine gl_loadB (T' := 25) (xp := (.tmp 7)) (v := .agg #[.int .i64 0, .bool a3.f1, .slice A3_2 a3.f2.length n3_2, .slice none 0 0]) (g := gb1) (off := 0) (cs := #[.int .i64 0, .bool a3.f1, .slice A3_2 a3.f2.length n3_2, .slice none 0 0]) (e := 25) (fz := (0, 0)) (by kernel_rfl) (by kernel_rfl) (by kernel_rfl) (List.mem_append_right _ (List.mem_append_right _ List.mem_cons_self)) (by kernel_rfl) ?_
      obtain ⟨y43, hx44, hb14⟩ := bind_some hb14
      refine gl_call (by kernel_rfl) (vec_Binary_walk (r := y43) (a3 := (⟨0, a3.f1, a3.f2, []⟩ : S24)) (hG.mono (Imm.trans hI15 hI38)) (hf2_0.mono (Imm.trans hI15 hI38)) (hf1_0.mono (Imm.trans hI15 hI38)) (hf3_2.mono (Imm.trans hI15 hI38)) (RepS.nil _ _) hx44 _) ?_
      rintro v I45 L46 hI47 ⟨A48, c49, C50, hO51, rfl, rfl⟩
      refine gl_pure 5 [0, 1, 2, 7, 11, 12, 13, 14, 26, 27, 28] (K' := [(0, .int .i64 a0), (1, .slice A1_0 a1.length n1_0), (2, .slice A2_0 a2.length n2_0), (7, .pointer (some ⟨gb1, 0, none⟩)), (11, .slice A39 y34.1.length c40), (12, .int .i64 y34.2), (13, .slice A48 y43.1.length c49), (14, .int .i64 y43.2), (26, .slice (some ⟨gb2, 0, none⟩) [1, 3].length 2), (27, .int .i64 ([1, 3].length : Int)), (28, .int .i64 s12)]) (by kernel_rfl) ?_
      refine gl_atE (by kernel_rfl) ?_
      refine ge_seq ?_
      refine gk_seq (by kernel_rfl) ?_
      obtain ⟨j52, hj53, hb14⟩ := bind_some hb14
      refine gk_join (fun t I' L' => I45 ≤ I' ∧ [(gb2, .cells #[.int .i64 1, .int .i64 3] 3)] ++ ((gb1, .cells #[.int .i64 0, .bool a3.f1, .slice A3_2 a3.f2.length n3_2, .slice none 0 0] 25) :: L) = L' ∧ Knows 145 [(0, .int .i64 a0), (1, .slice A1_0 a1.length n1_0), (2, .slice A2_0 a2.length n2_0), (7, .pointer (some ⟨gb1, 0, none⟩)), (26, .slice (some ⟨gb2, 0, none⟩) [1, 3].length 2), (27, .int .i64 ([1, 3].length : Int)), (28, .int .i64 s12), (59, .bool j52)] t) ?_ ?_
      · refine gk_region (by kernel_rfl) ?_
        refine gl_pure 3 [0, 1, 2, 7, 11, 13, 14, 26, 27, 28, 50] (K' := [(0, .int .i64 a0), (1, .slice A1_0 a1.length n1_0), (2, .slice A2_0 a2.length n2_0), (7, .pointer (some ⟨gb1, 0, none⟩)), (11, .slice A39 y34.1.length c40), (13, .slice A48 y43.1.length c49), (14, .int .i64 y43.2), (26, .slice (some ⟨gb2, 0, none⟩) [1, 3].length 2), (27, .int .i64 ([1, 3].length : Int)), (28, .int .i64 s12), (50, .bool (y34.2 == 0))]) (by kernel_rfl) ?_
        refine gl_case 50 (b := (y34.2 == 0)) (by kernel_rfl) (fun hc57 => ?_) (fun hc57 => ?_)
        · have hj53 := cond_t hc57 hj53
          refine gl_pure 4 [0, 1, 2, 7, 11, 13, 26, 27, 28, 54] (K' := [(0, .int .i64 a0), (1, .slice A1_0 a1.length n1_0), (2, .slice A2_0 a2.length n2_0), (7, .pointer (some ⟨gb1, 0, none⟩)), (11, .slice A39 y34.1.length c40), (13, .slice A48 y43.1.length c49), (26, .slice (some ⟨gb2, 0, none⟩) [1, 3].length 2), (27, .int .i64 ([1, 3].length : Int)), (28, .int .i64 s12), (54, .bool (y43.2 == 0))]) (by kernel_rfl) ?_
          refine gl_case 54 (b := (y43.2 == 0)) (by kernel_rfl) (fun hc58 => ?_) (fun hc58 => ?_)
          · have hj53 := cond_t hc58 hj53
            refine gl_pure 2 [0, 1, 2, 7, 26, 27, 28, 54, 55, 56] (K' := [(0, .int .i64 a0), (1, .slice A1_0 a1.length n1_0), (2, .slice A2_0 a2.length n2_0), (7, .pointer (some ⟨gb1, 0, none⟩)), (26, .slice (some ⟨gb2, 0, none⟩) [1, 3].length 2), (27, .int .i64 ([1, 3].length : Int)), (28, .int .i64 s12), (54, .bool true), (55, .slice A39 y34.1.length c40), (56, .slice A48 y43.1.length c49)]) (by kernel_rfl) ?_
            obtain ⟨y59, hx60, hj53⟩ := bind_some hj53
            refine gl_callB (r := .bool y59) (Tk.step (Upd.rmC _ _) (Tk.step (Upd.rmC _ _) (Tk.nil _))) (by kernel_rfl) (fun J hJ hC => tocsinref11_SamePoints_walk (r := y59) (OwnS.rest (hO42.mono hI47) hJ hC.right.left) (OwnS.rest hO51 hJ hC.left) hx60 _) ?_
            refine gl_pure 2 [0, 1, 2, 7, 26, 27, 28, 59] (K' := [(0, .int .i64 a0), (1, .slice A1_0 a1.length n1_0), (2, .slice A2_0 a2.length n2_0), (7, .pointer (some ⟨gb1, 0, none⟩)), (26, .slice (some ⟨gb2, 0, none⟩) [1, 3].length 2), (27, .int .i64 ([1, 3].length : Int)), (28, .int .i64 s12), (59, .bool (!y59))]) (by kernel_rfl) ?_
            refine gl_reord (D := [(gb2, .cells #[.int .i64 1, .int .i64 3] 3)] ++ ((gb1, .cells #[.int .i64 0, .bool a3.f1, .slice A3_2 a3.f2.length n3_2, .slice none 0 0] 25) :: L)) (Reord.step (Upd.app _ (Upd.app _ (Upd.rmC _ _))) (Reord.step1 (Upd.app _ (Upd.app _ (Upd.rm1 _ _))) (Reord.skipC (Reord.skipC (Reord.refl _))))) ?_
            refine gl_atE (by kernel_rfl) ?_
            obtain rfl := some_inj hj53
            exact ge_mid fun t ht => ⟨(Imm.refl _), rfl, ht.pick (l := [0, 1, 2, 7, 26, 27, 28, 59]) (by kernel_rfl)⟩
          · have hj53 := cond_f hc58 hj53
            refine gl_pure 5 [0, 1, 2, 7, 26, 27, 28, 59] (K' := [(0, .int .i64 a0), (1, .slice A1_0 a1.length n1_0), (2, .slice A2_0 a2.length n2_0), (7, .pointer (some ⟨gb1, 0, none⟩)), (26, .slice (some ⟨gb2, 0, none⟩) [1, 3].length 2), (27, .int .i64 ([1, 3].length : Int)), (28, .int .i64 s12), (59, .bool false)]) (by kernel_rfl) ?_
            refine gl_reord (D := [(gb2, .cells #[.int .i64 1, .int .i64 3] 3)] ++ ((gb1, .cells #[.int .i64 0, .bool a3.f1, .slice A3_2 a3.f2.length n3_2, .slice none 0 0] 25) :: L)) (Reord.step (Upd.app _ (Upd.app _ (Upd.rmC _ _))) (Reord.step1 (Upd.app _ (Upd.app _ (Upd.rm1 _ _))) (Reord.skipC (Reord.skipC (Reord.refl _))))) ?_
            refine gl_atE (by kernel_rfl) ?_
            obtain rfl := some_inj hj53
            exact ge_mid fun t ht => ⟨(Imm.refl _), rfl, ht.pick (l := [0, 1, 2, 7, 26, 27, 28, 59]) (by kernel_rfl)⟩
        · have hj53 := cond_f hc57 hj53
          refine gl_pure 9 [0, 1, 2, 7, 26, 27, 28, 59] (K' := [(0, .int .i64 a0), (1, .slice A1_0 a1.length n1_0), (2, .slice A2_0 a2.length n2_0), (7, .pointer (some ⟨gb1, 0, none⟩)), (26, .slice (some ⟨gb2, 0, none⟩) [1, 3].length 2), (27, .int .i64 ([1, 3].length : Int)), (28, .int .i64 s12), (59, .bool false)]) (by kernel_rfl) ?_
          refine gl_reord (D := [(gb2, .cells #[.int .i64 1, .int .i64 3] 3)] ++ ((gb1, .cells #[.int .i64 0, .bool a3.f1, .slice A3_2 a3.f2.length n3_2, .slice none 0 0] 25) :: L)) (Reord.step (Upd.app _ (Upd.app _ (Upd.rmC _ _))) (Reord.step1 (Upd.app _ (Upd.app _ (Upd.rm1 _ _))) (Reord.skipC (Reord.skipC (Reord.refl _))))) ?_
          refine gl_atE (by kernel_rfl) ?_
          obtain rfl := some_inj hj53
          exact ge_mid fun t ht => ⟨(Imm.refl _), rfl, ht.pick (l := [0, 1, 2, 7, 26, 27, 28, 59]) (by kernel_rfl)⟩
      · rintro t I56 L' ⟨hI54, rfl, hK55⟩
        refine ge_at hK55 ?_
        refine ge_seq ?_
        refine gk_cond (b := j52) (by kernel_rfl) (by kernel_rfl) (fun hc61 => ?_) (fun hc61 => ?_)
        · have hb14 := cond_t hc61 hb14
          refine gk_seq (by kernel_rfl) ?_
          refine gk_region (by kernel_rfl) ?_
          refine gl_pure 1 [8] (K' := [(8, .bool false)]) (by kernel_rfl) ?_
          refine gl_atE (by kernel_rfl) ?_
          refine ge_seq ?_
          refine gk_reord (D := L) (Reord.skipC (Reord.skip (Reord.refl _))) ?_
          refine gk_ret (by kernel_rfl) ?_
          refine ge_block_ret ?_
          refine ge_seq_ret ?_
          obtain rfl := some_inj hb14
          refine ge_round_out (fun hrr => ?_) (by intro h; cases h)
          obtain rfl := hrr
          refine ge_block_ret ?_
          refine ge_seq_ret ?_
          refine ge_seq_ret ?_
          obtain rfl := some_inj hr
          exact ge_result trivial (ResOk.tmp (by kernel_rfl) ResOk.nil) (Imm.trans (Imm.trans (Imm.trans hI15 hI38) hI47) hI54) ⟨rfl, rfl⟩
        · have hb14 := cond_f hc61 hb14
          refine gk_skip (by kernel_rfl) ?_
          refine ge_block_normal ?_
          refine ge_seq ?_
          refine gk_region (by kernel_rfl) ?_
          refine gl_pure 2 [0, 1, 2, 7, 26, 27, 28] (K' := [(0, .int .i64 a0), (1, .slice A1_0 a1.length n1_0), (2, .slice A2_0 a2.length n2_0), (7, .pointer (some ⟨gb1, 0, none⟩)), (26, .slice (some ⟨gb2, 0, none⟩) [1, 3].length 2), (27, .int .i64 ([1, 3].length : Int)), (28, .int .i64 (IntKind.wrap .i64 (s12 + 1)))]) (by kernel_rfl) ?_
          refine gl_atE (by kernel_rfl) ?_
          obtain rfl := some_inj hb14
          exact ge_round fun t ht => ⟨(Imm.trans (Imm.trans (Imm.trans hI15 hI38) hI47) hI54), rfl, ht.pick (l := [0, 1, 2, 7, 26, 27, 28]) (by kernel_rfl)⟩
    · have hb14 := cond_f hc24 hb14
      refine gk_reord (D := (gb1, .cells #[.int .i64 0, .bool a3.f1, .slice A3_2 a3.f2.length n3_2, .slice none 0 0] 25) :: L) (Reord.step1 (Upd.app _ (Upd.rm1 _ _)) (Reord.skipC (Reord.refl _))) ?_
      refine gk_exit (by kernel_rfl) ?_
      refine ge_seq_exit ?_
      obtain rfl := some_inj hb14
      refine ge_round_out (fun hrr => ?_) (by intro h; cases h)
      obtain rfl := hrr
      refine ge_block_hit (by kernel_rfl) ?_
      exact ge_mid fun t ht => ⟨_, rfl, hI15, rfl, ht.pick (l := [0, 1, 2, 7]) (by kernel_rfl)⟩
  · rintro t I21 L' ⟨r18, rfl, hI19, rfl, hK20⟩
    refine ge_at hK20 ?_
    refine ge_seq ?_
    refine gk_seq (by kernel_rfl) ?_
    refine gk_seq (by kernel_rfl) ?_
    obtain ⟨b64, hb65⟩ : ∃ z, z = ((decide (a0 < 7)) || (decide (a0 > 12))) := ⟨_, rfl⟩
    refine gk_join (fun t I' L' => I21 ≤ I' ∧ (gb1, .cells #[.int .i64 0, .bool a3.f1, .slice A3_2 a3.f2.length n3_2, .slice none 0 0] 25) :: L = L' ∧ Knows 145 [(0, .int .i64 a0), (1, .slice A1_0 a1.length n1_0), (2, .slice A2_0 a2.length n2_0), (7, .pointer (some ⟨gb1, 0, none⟩)), (66, .bool b64)] t) ?_ ?_
    · refine gk_region (by kernel_rfl) ?_
      refine gl_pure 3 [0, 1, 2, 7, 63] (K' := [(0, .int .i64 a0), (1, .slice A1_0 a1.length n1_0), (2, .slice A2_0 a2.length n2_0), (7, .pointer (some ⟨gb1, 0, none⟩)), (63, .bool (decide (a0 < 7)))]) (by kernel_rfl) ?_
      refine gl_case 63 (b := (decide (a0 < 7))) (by kernel_rfl) (fun hc67 => ?_) (fun hc67 => ?_)
      · refine gl_pure 3 [0, 1, 2, 7, 66] (K' := [(0, .int .i64 a0), (1, .slice A1_0 a1.length n1_0), (2, .slice A2_0 a2.length n2_0), (7, .pointer (some ⟨gb1, 0, none⟩)), (66, .bool true)]) (by kernel_rfl) ?_
        refine gl_atE (by kernel_rfl) ?_
        exact ge_mid fun t ht => ⟨(Imm.refl _), rfl, by rw [(show b64 = true from hb65.trans (by first | (rw [hc67]; done) | (rw [hc67]; rfl) | (simp [hc67]; done) | (simp only [hc67]; rfl) | (simp at *; omega)))]; exact ht.pick (l := [0, 1, 2, 7, 66]) (by kernel_rfl)⟩
      · refine gl_pure 3 [0, 1, 2, 7, 66] (K' := [(0, .int .i64 a0), (1, .slice A1_0 a1.length n1_0), (2, .slice A2_0 a2.length n2_0), (7, .pointer (some ⟨gb1, 0, none⟩)), (66, .bool (decide (a0 > 12)))]) (by kernel_rfl) ?_
        refine gl_atE (by kernel_rfl) ?_
        exact ge_mid fun t ht => ⟨(Imm.refl _), rfl, by rw [(show b64 = (decide (a0 > 12)) from hb65.trans (by first | (rw [hc67]; done) | (rw [hc67]; rfl) | (simp [hc67]; done) | (simp only [hc67]; rfl) | (simp at *; omega)))]; exact ht.pick (l := [0, 1, 2, 7, 66]) (by kernel_rfl)⟩
    · rintro t I66 L' ⟨hI62, rfl, hK63⟩
      subst hb65
      refine ge_at hK63 ?_
      refine ge_seq ?_
      obtain ⟨j68, hj69, hr⟩ := bind_some hr
      refine gk_join (fun t I' L' => I66 ≤ I' ∧ (gb1, .cells #[.int .i64 0, .bool a3.f1, .slice A3_2 a3.f2.length n3_2, .slice none 0 0] 25) :: L = L' ∧ Knows 145 [(0, .int .i64 j68), (1, .slice A1_0 a1.length n1_0), (2, .slice A2_0 a2.length n2_0), (7, .pointer (some ⟨gb1, 0, none⟩))] t) ?_ ?_
      · refine gk_cond (b := ((decide (a0 < 7)) || (decide (a0 > 12)))) (by kernel_rfl) (by kernel_rfl) (fun hc73 => ?_) (fun hc73 => ?_)
        · have hj69 := cond_t hc73 hj69
          refine gk_region (by kernel_rfl) ?_
          refine gl_pure 1 [0, 1, 2, 7] (K' := [(0, .int .i64 9), (1, .slice A1_0 a1.length n1_0), (2, .slice A2_0 a2.length n2_0), (7, .pointer (some ⟨gb1, 0, none⟩))]) (by kernel_rfl) ?_
          refine gl_atE (by kernel_rfl) ?_
          obtain rfl := some_inj hj69
          exact ge_mid fun t ht => ⟨(Imm.refl _), rfl, ht.pick (l := [0, 1, 2, 7]) (by kernel_rfl)⟩
        · have hj69 := cond_f hc73 hj69
          refine gk_skip (by kernel_rfl) ?_
          obtain rfl := some_inj hj69
          exact ge_mid fun t ht => ⟨(Imm.refl _), rfl, ht.pick (l := [0, 1, 2, 7]) (by kernel_rfl)⟩
      · rintro t I72 L' ⟨hI70, rfl, hK71⟩
        refine ge_at hK71 ?_
        refine ge_seq ?_
        refine gk_seq (by kernel_rfl) ?_
        refine gk_region (by kernel_rfl) ?_
        refine gl_pure 3 [0, 1, 2, 7, 68, 69, 70] (K' := [(0, .int .i64 j68), (1, .slice A1_0 a1.length n1_0), (2, .slice A2_0 a2.length n2_0), (7, .pointer (some ⟨gb1, 0, none⟩)), (68, .int .i64 j68), (69, .slice A1_0 a1.length n1_0), (70, .slice A2_0 a2.length n2_0)]) (by kernel_rfl) ?_
        refine gl_loadB (T' := 25) (xp := (.tmp 7)) (v := .agg #[.int .i64 0, .bool a3.f1, .slice A3_2 a3.f2.length n3_2, .slice none 0 0]) (g := gb1) (off := 0) (cs := #[.int .i64 0, .bool a3.f1, .slice A3_2 a3.f2.length n3_2, .slice none 0 0]) (e := 25) (fz := (0, 0)) (by kernel_rfl) (by kernel_rfl) (by kernel_rfl) List.mem_cons_self (by kernel_rfl) ?_
        obtain ⟨y74, hx75, hr⟩ := bind_some hr
        refine gl_call (by kernel_rfl) (vec_Binary_walk (r := y74) (a3 := (⟨0, a3.f1, a3.f2, []⟩ : S24)) (hG.mono (Imm.trans (Imm.trans hI19 hI62) hI70)) (hf1_0.mono (Imm.trans (Imm.trans hI19 hI62) hI70)) (hf2_0.mono (Imm.trans (Imm.trans hI19 hI62) hI70)) (hf3_2.mono (Imm.trans (Imm.trans hI19 hI62) hI70)) (RepS.nil _ _) hx75 _) ?_
        rintro v I76 L77 hI78 ⟨A79, c80, C81, hO82, rfl, rfl⟩
        refine gl_pure 5 [0, 1, 2, 7, 15, 16] (K' := [(0, .int .i64 j68), (1, .slice A1_0 a1.length n1_0), (2, .slice A2_0 a2.length n2_0), (7, .pointer (some ⟨gb1, 0, none⟩)), (15, .slice A79 y74.1.length c80), (16, .int .i64 y74.2)]) (by kernel_rfl) ?_
        refine gl_atE (by kernel_rfl) ?_
        refine ge_seq ?_
        refine gk_seq (by kernel_rfl) ?_
        refine gk_region (by kernel_rfl) ?_
        refine gl_pure 3 [1, 7, 15, 16, 76, 77, 78] (K' := [(1, .slice A1_0 a1.length n1_0), (7, .pointer (some ⟨gb1, 0, none⟩)), (15, .slice A79 y74.1.length c80), (16, .int .i64 y74.2), (76, .int .i64 j68), (77, .slice A1_0 a1.length n1_0), (78, .slice A2_0 a2.length n2_0)]) (by kernel_rfl) ?_
        refine gl_loadB (T' := 25) (xp := (.tmp 7)) (v := .agg #[.int .i64 0, .bool a3.f1, .slice A3_2 a3.f2.length n3_2, .slice none 0 0]) (g := gb1) (off := 0) (cs := #[.int .i64 0, .bool a3.f1, .slice A3_2 a3.f2.length n3_2, .slice none 0 0]) (e := 25) (fz := (0, 0)) (by kernel_rfl) (by kernel_rfl) (by kernel_rfl) (List.mem_append_right _ List.mem_cons_self) (by kernel_rfl) ?_
        obtain ⟨y83, hx84, hr⟩ := bind_some hr
        refine gl_call (by kernel_rfl) (vec_Binary_walk (r := y83) (a3 := (⟨0, a3.f1, a3.f2, []⟩ : S24)) (hG.mono (Imm.trans (Imm.trans (Imm.trans hI19 hI62) hI70) hI78)) (hf1_0.mono (Imm.trans (Imm.trans (Imm.trans hI19 hI62) hI70) hI78)) (hf2_0.mono (Imm.trans (Imm.trans (Imm.trans hI19 hI62) hI70) hI78)) (hf3_2.mono (Imm.trans (Imm.trans (Imm.trans hI19 hI62) hI70) hI78)) (RepS.nil _ _) hx84 _) ?_
        rintro v I85 L86 hI87 ⟨A88, c89, C90, hO91, rfl, rfl⟩
        refine gl_pure 5 [1, 15, 16, 17, 18] (K' := [(1, .slice A1_0 a1.length n1_0), (15, .slice A79 y74.1.length c80), (16, .int .i64 y74.2), (17, .slice A88 y83.1.length c89), (18, .int .i64 y83.2)]) (by kernel_rfl) ?_
        refine gl_atE (by kernel_rfl) ?_
        refine ge_seq ?_
        refine gk_seq (by kernel_rfl) ?_
        refine gk_seq (by kernel_rfl) ?_
        obtain ⟨b94, hb95⟩ : ∃ z, z = ((y74.2 != 0) || (y83.2 != 0)) := ⟨_, rfl⟩
        refine gk_join (fun t I' L' => I85 ≤ I' ∧ C90 ++ (C81 ++ ((gb1, .cells #[.int .i64 0, .bool a3.f1, .slice A3_2 a3.f2.length n3_2, .slice none 0 0] 25) :: L)) = L' ∧ Knows 145 [(1, .slice A1_0 a1.length n1_0), (15, .slice A79 y74.1.length c80), (17, .slice A88 y83.1.length c89), (88, .bool b94)] t) ?_ ?_
        · refine gk_region (by kernel_rfl) ?_
          refine gl_pure 3 [1, 15, 17, 18, 85] (K' := [(1, .slice A1_0 a1.length n1_0), (15, .slice A79 y74.1.length c80), (17, .slice A88 y83.1.length c89), (18, .int .i64 y83.2), (85, .bool (y74.2 != 0))]) (by kernel_rfl) ?_
          refine gl_case 85 (b := (y74.2 != 0)) (by kernel_rfl) (fun hc97 => ?_) (fun hc97 => ?_)
          · refine gl_pure 3 [1, 15, 17, 88] (K' := [(1, .slice A1_0 a1.length n1_0), (15, .slice A79 y74.1.length c80), (17, .slice A88 y83.1.length c89), (88, .bool true)]) (by kernel_rfl) ?_
            refine gl_atE (by kernel_rfl) ?_
            exact ge_mid fun t ht => ⟨(Imm.refl _), rfl, by rw [(show b94 = true from hb95.trans (by first | (rw [hc97]; done) | (rw [hc97]; rfl) | (simp [hc97]; done) | (simp only [hc97]; rfl) | (simp at *; omega)))]; exact ht.pick (l := [1, 15, 17, 88]) (by kernel_rfl)⟩
          · refine gl_pure 3 [1, 15, 17, 88] (K' := [(1, .slice A1_0 a1.length n1_0), (15, .slice A79 y74.1.length c80), (17, .slice A88 y83.1.length c89), (88, .bool (y83.2 != 0))]) (by kernel_rfl) ?_
            refine gl_atE (by kernel_rfl) ?_
            exact ge_mid fun t ht => ⟨(Imm.refl _), rfl, by rw [(show b94 = (y83.2 != 0) from hb95.trans (by first | (rw [hc97]; done) | (rw [hc97]; rfl) | (simp [hc97]; done) | (simp only [hc97]; rfl) | (simp at *; omega)))]; exact ht.pick (l := [1, 15, 17, 88]) (by kernel_rfl)⟩
        · rintro t I96 L' ⟨hI92, rfl, hK93⟩
          subst hb95
          refine ge_at hK93 ?_
          refine ge_seq ?_
          refine gk_cond (b := ((y74.2 != 0) || (y83.2 != 0))) (by kernel_rfl) (by kernel_rfl) (fun hc98 => ?_) (fun hc98 => ?_)
          · have hr := cond_t hc98 hr
            refine gk_seq (by kernel_rfl) ?_
            refine gk_region (by kernel_rfl) ?_
            obtain ⟨y99, hx100, hr⟩ := bind_some hr
            refine gl_callQ (by kernel_rfl) (tocsinlaw15_known_walk (r := y99) (hG.mono (Imm.trans (Imm.trans (Imm.trans (Imm.trans (Imm.trans hI19 hI62) hI70) hI78) hI87) hI92)) hx100 _) ?_
            refine gl_pure 1 [8] (K' := [(8, .bool y99)]) (by kernel_rfl) ?_
            refine gl_atE (by kernel_rfl) ?_
            refine ge_seq ?_
            refine gk_reord (D := L) (Reord.skipC (Reord.skipC (Reord.skip (Reord.refl _)))) ?_
            refine gk_ret (by kernel_rfl) ?_
            refine ge_seq_ret ?_
            obtain rfl := some_inj hr
            exact ge_result trivial (ResOk.tmp (by kernel_rfl) ResOk.nil) (Imm.trans (Imm.trans (Imm.trans (Imm.trans (Imm.trans hI19 hI62) hI70) hI78) hI87) hI92) ⟨rfl, rfl⟩
          · have hr := cond_f hc98 hr
            refine gk_skip (by kernel_rfl) ?_
            refine ge_seq ?_
            refine gk_seq (by kernel_rfl) ?_
            refine gk_seq (by kernel_rfl) ?_
            refine gk_region (by kernel_rfl) ?_
            refine gl_pure 1 [1, 15, 17, 19] (K' := [(1, .slice A1_0 a1.length n1_0), (15, .slice A79 y74.1.length c80), (17, .slice A88 y83.1.length c89), (19, .int .i64 0)]) (by kernel_rfl) ?_
            refine gl_atE (by kernel_rfl) ?_
            refine ge_seq ?_
            obtain ⟨r105, hl106, hr⟩ := bind_some hr
            refine gk_reord (D := C90 ++ (C81 ++ L)) (Reord.step (Upd.rmC _ _) (Reord.step (Upd.rmC _ _) (Reord.skip (Reord.refl _)))) ?_
            refine gk_join (fun t I' L' => ∃ r113, r105 = Sum.inl r113 ∧ I96 ≤ I' ∧ C90 ++ (C81 ++ L) = L' ∧ Knows 145 [(15, .slice A79 y74.1.length c80), (17, .slice A88 y83.1.length c89)] t) ?_ ?_
            · refine gk_block (by kernel_rfl) ?_
              refine gk_pick [1, 15, 17, 19] (K' := [(1, .slice A1_0 a1.length n1_0), (15, .slice A79 y74.1.length c80), (17, .slice A88 y83.1.length c89), (19, .int .i64 0)]) (by kernel_rfl) ?_
              intro t hK
              refine gc_loop (tocsinlaw15_VecTurns_l117 a1 y74) (fun s107 t I' L' => I96 ≤ I' ∧ C90 ++ (C81 ++ L) = L' ∧ Knows 145 [(1, .slice A1_0 a1.length n1_0), (15, .slice A79 y74.1.length c80), (17, .slice A88 y83.1.length c89), (19, .int .i64 s107)] t) (by kernel_rfl) ?_ hl106 ⟨(Imm.refl _), rfl, hK⟩
              rintro s107 o108 t I112 L' hb109 ⟨hI110, rfl, hK111⟩
              unfold tocsinlaw15_VecTurns_l117 at hb109
              refine gk_at hK111 ?_
              refine gk_seq (by kernel_rfl) ?_
              refine gk_seq (by kernel_rfl) ?_
              refine gk_region (by kernel_rfl) ?_
              refine gl_pure 4 [1, 15, 17, 19, 93] (K' := [(1, .slice A1_0 a1.length n1_0), (15, .slice A79 y74.1.length c80), (17, .slice A88 y83.1.length c89), (19, .int .i64 s107), (93, .bool (decide (s107 < (y74.1.length : Int))))]) (by kernel_rfl) ?_
              refine gl_atE (by kernel_rfl) ?_
              refine ge_seq ?_
              refine gk_cond (b := (decide (s107 < (y74.1.length : Int)))) (by kernel_rfl) (by kernel_rfl) (fun hc119 => ?_) (fun hc119 => ?_)
              · have hb109 := cond_t hc119 hb109
                refine gk_skip (by kernel_rfl) ?_
                refine ge_seq ?_
                refine gk_seq (by kernel_rfl) ?_
                refine gk_block (by kernel_rfl) ?_
                refine gk_seq (by kernel_rfl) ?_
                refine gk_region (by kernel_rfl) ?_
                refine gl_pure 1 [1, 15, 17, 19, 20] (K' := [(1, .slice A1_0 a1.length n1_0), (15, .slice A79 y74.1.length c80), (17, .slice A88 y83.1.length c89), (19, .int .i64 s107), (20, .bool false)]) (by kernel_rfl) ?_
                refine gl_atE (by kernel_rfl) ?_
                refine ge_seq ?_
                refine gk_seq (by kernel_rfl) ?_
                refine gk_seq (by kernel_rfl) ?_
                refine gk_region (by kernel_rfl) ?_
                refine gl_pure 1 [1, 15, 17, 19, 20, 21] (K' := [(1, .slice A1_0 a1.length n1_0), (15, .slice A79 y74.1.length c80), (17, .slice A88 y83.1.length c89), (19, .int .i64 s107), (20, .bool false), (21, .int .i64 0)]) (by kernel_rfl) ?_
                refine gl_atE (by kernel_rfl) ?_
                refine ge_seq ?_
                obtain ⟨r124, hl125, hb109⟩ := bind_some hb109
                refine gk_join (fun t I' L' => I112 ≤ I' ∧ C90 ++ (C81 ++ L) = L' ∧ Knows 145 [(1, .slice A1_0 a1.length n1_0), (15, .slice A79 y74.1.length c80), (17, .slice A88 y83.1.length c89), (19, .int .i64 s107), (20, .bool r124)] t) ?_ ?_
                · refine gk_block (by kernel_rfl) ?_
                  refine gk_pick [1, 15, 17, 19, 20, 21] (K' := [(1, .slice A1_0 a1.length n1_0), (15, .slice A79 y74.1.length c80), (17, .slice A88 y83.1.length c89), (19, .int .i64 s107), (20, .bool false), (21, .int .i64 0)]) (by kernel_rfl) ?_
                  intro t hK
                  refine gc_loop (tocsinlaw15_VecTurns_l135 a1 y74 s107) (fun s126 t I' L' => I112 ≤ I' ∧ C90 ++ (C81 ++ L) = L' ∧ Knows 145 [(1, .slice A1_0 a1.length n1_0), (15, .slice A79 y74.1.length c80), (17, .slice A88 y83.1.length c89), (19, .int .i64 s107), (20, .bool s126.1), (21, .int .i64 s126.2)] t) (by kernel_rfl) ?_ hl125 ⟨(Imm.refl _), rfl, hK⟩
                  rintro s126 o127 t I131 L' hb128 ⟨hI129, rfl, hK130⟩
                  unfold tocsinlaw15_VecTurns_l135 at hb128
                  refine gk_at hK130 ?_
                  refine gk_seq (by kernel_rfl) ?_
                  refine gk_seq (by kernel_rfl) ?_
                  refine gk_region (by kernel_rfl) ?_
                  refine gl_pure 4 [1, 15, 17, 19, 20, 21, 99] (K' := [(1, .slice A1_0 a1.length n1_0), (15, .slice A79 y74.1.length c80), (17, .slice A88 y83.1.length c89), (19, .int .i64 s107), (20, .bool s126.1), (21, .int .i64 s126.2), (99, .bool (decide (s126.2 < (a1.length : Int))))]) (by kernel_rfl) ?_
                  refine gl_atE (by kernel_rfl) ?_
                  refine ge_seq ?_
                  refine gk_cond (b := (decide (s126.2 < (a1.length : Int)))) (by kernel_rfl) (by kernel_rfl) (fun hc137 => ?_) (fun hc137 => ?_)
                  · have hb128 := cond_t hc137 hb128
                    refine gk_skip (by kernel_rfl) ?_
                    refine ge_seq ?_
                    refine gk_seq (by kernel_rfl) ?_
                    refine gk_block (by kernel_rfl) ?_
                    obtain ⟨j138, hj139, hb128⟩ := bind_some hb128
                    refine gk_join (fun t I' L' => I131 ≤ I' ∧ C90 ++ (C81 ++ L) = L' ∧ Knows 145 [(1, .slice A1_0 a1.length n1_0), (15, .slice A79 y74.1.length c80), (17, .slice A88 y83.1.length c89), (19, .int .i64 s107), (20, .bool j138), (21, .int .i64 s126.2)] t) ?_ ?_
                    · refine gk_draw 12 [(0, true), (1, true), (2, true), (3, true), (4, true), (5, true), (6, true), (7, true), (8, true), (9, true), (10, true), (11, true)] (C81 ++ []) (List.forall_mem_append.2 ⟨fun q hq => (List.mem_append_right _ (List.mem_append_left _ hq)), (fun p hp => by cases hp)⟩) (by kernel_rfl) (by kernel_rfl) (by kernel_rfl) ?_ (by kernel_rfl)
                      refine gd_pure 2 [1, 15, 17, 19, 20, 21, 103] (K' := [(1, .slice A1_0 a1.length n1_0), (15, .slice A79 y74.1.length c80), (17, .slice A88 y83.1.length c89), (19, .int .i64 s107), (20, .bool s126.1), (21, .int .i64 s126.2), (103, .bool s126.1)]) (s' := [(2, true), (3, true), (4, true), (5, true), (6, true), (7, true), (8, true), (9, true), (10, true), (11, true)]) (CC.refl (List.forall_mem_append.2 ⟨fun q hq => (List.mem_append_right _ (List.mem_append_left _ hq)), (fun p hp => by cases hp)⟩)) (by kernel_rfl) ?_
                      refine gd_case 103 (b := s126.1) (by kernel_rfl) (fun hc143 => ?_) (fun hc143 => ?_)
                      · have hj139 := cond_t hc143 hj139
                        refine gd_pure 10 [1, 15, 17, 19, 20, 21, 103, 108, 113] (K' := [(1, .slice A1_0 a1.length n1_0), (15, .slice A79 y74.1.length c80), (17, .slice A88 y83.1.length c89), (19, .int .i64 s107), (20, .bool s126.1), (21, .int .i64 s126.2), (103, .bool true), (108, undef), (113, undef)]) (s' := []) (CC.refl (List.forall_mem_append.2 ⟨fun q hq => (List.mem_append_right _ (List.mem_append_left _ hq)), (fun p hp => by cases hp)⟩)) (by kernel_rfl) ?_
                        refine gd_done ?_
                        refine gl_pure 3 [1, 15, 17, 19, 20, 21] (K' := [(1, .slice A1_0 a1.length n1_0), (15, .slice A79 y74.1.length c80), (17, .slice A88 y83.1.length c89), (19, .int .i64 s107), (20, .bool true), (21, .int .i64 s126.2)]) (by kernel_rfl) ?_
                        refine gl_atE (by kernel_rfl) ?_
                        obtain rfl := some_inj hj139
                        exact ge_mid fun t ht => ⟨(Imm.refl _), rfl, ht.pick (l := [1, 15, 17, 19, 20, 21]) (by kernel_rfl)⟩
                      · have hj139 := cond_f hc143 hj139
                        refine gd_pure 2 [1, 15, 17, 19, 20, 21, 103, 104, 105] (K' := [(1, .slice A1_0 a1.length n1_0), (15, .slice A79 y74.1.length c80), (17, .slice A88 y83.1.length c89), (19, .int .i64 s107), (20, .bool s126.1), (21, .int .i64 s126.2), (103, .bool false), (104, .slice A1_0 a1.length n1_0), (105, .int .i64 s126.2)]) (s' := [(4, true), (5, true), (6, true), (7, true), (8, true), (9, true), (10, true), (11, true)]) (CC.refl (List.forall_mem_append.2 ⟨fun q hq => (List.mem_append_right _ (List.mem_append_left _ hq)), (fun p hp => by cases hp)⟩)) (by kernel_rfl) ?_
                        obtain ⟨x144, hx145, hj139⟩ := bind_some hj139
                        obtain ⟨p146, cs147, hR148, hA149, ha150⟩ := RepS.ixAt hx145 (hf1_0.mono (Imm.trans (Imm.trans (Imm.trans (Imm.trans (Imm.trans (Imm.trans (Imm.trans hI19 hI62) hI70) hI78) hI87) hI92) hI110) hI129))
                        have hi151 := ix_some hx145
                        obtain ⟨A152, n153, b155, hf154, hf156, rfl⟩ := kS38_open hR148
                        refine gd_q (v := .pointer (some p146)) (by kernel_rfl) (by kernel_rfl) (CC.refl (List.forall_mem_append.2 ⟨fun q hq => (List.mem_append_right _ (List.mem_append_left _ hq)), (fun p hp => by cases hp)⟩)) (fun I' L' T hC kk => gl_indexAddrF (c := n1_0) (T' := 22) (e := 39) (xs := (.tmp 104)) (xi := (.tmp 105)) (kd := .i64) ha150 hi151.1 hi151.2.1 (by kernel_rfl) (by kernel_rfl) (by kernel_rfl) (by kernel_rfl) (by kernel_rfl) kk) ?_
                        refine gd_pure 1 [1, 15, 17, 19, 20, 21, 103, 107] (K' := [(1, .slice A1_0 a1.length n1_0), (15, .slice A79 y74.1.length c80), (17, .slice A88 y83.1.length c89), (19, .int .i64 s107), (20, .bool s126.1), (21, .int .i64 s126.2), (103, .bool false), (107, .pointer (some (p146.add 1)))]) (s' := [(6, true), (7, true), (8, true), (9, true), (10, true), (11, true)]) (CC.refl (List.forall_mem_append.2 ⟨fun q hq => (List.mem_append_right _ (List.mem_append_left _ hq)), (fun p hp => by cases hp)⟩)) (by kernel_rfl) ?_
                        refine gd_q (v := .float .f64 b155) (by kernel_rfl) (by kernel_rfl) (CC.refl (List.forall_mem_append.2 ⟨fun q hq => (List.mem_append_right _ (List.mem_append_left _ hq)), (fun p hp => by cases hp)⟩)) (fun I' L' T hC kk => gl_load (T' := 37) (xp := (.tmp 107)) (p := (p146.add 1)) (c := .float .f64 b155) (n := 1) (by kernel_rfl) (by kernel_rfl) (by kernel_rfl) (by kernel_rfl) ((hA149.drop 1).mono hC.le) kk) ?_
                        refine gd_pure 2 [1, 15, 17, 19, 20, 21, 103, 108, 109, 110] (K' := [(1, .slice A1_0 a1.length n1_0), (15, .slice A79 y74.1.length c80), (17, .slice A88 y83.1.length c89), (19, .int .i64 s107), (20, .bool s126.1), (21, .int .i64 s126.2), (103, .bool false), (108, .float .f64 b155), (109, .slice A79 y74.1.length c80), (110, .int .i64 s107)]) (s' := [(9, true), (10, true), (11, true)]) (CC.refl (List.forall_mem_append.2 ⟨fun q hq => (List.mem_append_right _ (List.mem_append_left _ hq)), (fun p hp => by cases hp)⟩)) (by kernel_rfl) ?_
                        obtain ⟨x157, hx158, hj139⟩ := bind_some hj139
                        obtain ⟨p159, cs160, hR161, hA162, ha163, hg170⟩ := OwnS.ixAtG hx158 (hO82.mono (Imm.trans (Imm.trans (Imm.trans hI87 hI92) hI110) hI129))
                        have hi164 := ix_some hx158
                        obtain ⟨A165, n166, b168, hf167, hf169, rfl⟩ := kS38_open hR161
                        refine gd_q (v := .pointer (some p159)) (by kernel_rfl) (by kernel_rfl) (CC.refl (List.forall_mem_append.2 ⟨fun q hq => (List.mem_append_right _ (List.mem_append_left _ hq)), (fun p hp => by cases hp)⟩)) (fun I' L' T hC kk => gl_indexAddrF (c := c80) (T' := 22) (e := 39) (xs := (.tmp 109)) (xi := (.tmp 110)) (kd := .i64) ha163 hi164.1 hi164.2.1 (by kernel_rfl) (by kernel_rfl) (by kernel_rfl) (by kernel_rfl) (by kernel_rfl) kk) ?_
                        refine gd_pure 1 [1, 15, 17, 19, 20, 21, 103, 108, 112] (K' := [(1, .slice A1_0 a1.length n1_0), (15, .slice A79 y74.1.length c80), (17, .slice A88 y83.1.length c89), (19, .int .i64 s107), (20, .bool s126.1), (21, .int .i64 s126.2), (103, .bool false), (108, .float .f64 b155), (112, .pointer (some (p159.add 1)))]) (s' := [(11, true)]) (CC.refl (List.forall_mem_append.2 ⟨fun q hq => (List.mem_append_right _ (List.mem_append_left _ hq)), (fun p hp => by cases hp)⟩)) (by kernel_rfl) ?_
                        refine gd_q (v := .float .f64 b168) (by kernel_rfl) (by kernel_rfl) (CC.refl (List.forall_mem_append.2 ⟨fun q hq => (List.mem_append_right _ (List.mem_append_left _ hq)), (fun p hp => by cases hp)⟩)) (fun I' L' T hC kk => gl_loadO (T' := 37) (xp := (.tmp 112)) (p := (p159.add 1)) (c := .float .f64 b168) (n := 1) (by kernel_rfl) (by kernel_rfl) (by kernel_rfl) (by kernel_rfl) ((fun I' L' h => (hA162 I' L' h).drop 1) _ _ (fun q hq => hC.sub _ (List.mem_append_left _ hq))) kk) ?_
                        refine gd_done ?_
                        obtain ⟨y171, hx172, hj139⟩ := bind_some hj139
                        refine gl_callQ (by kernel_rfl) (tocsinlaw15_bits_walk (r := y171) hf156 hf169 hx172 _) ?_
                        refine gl_pure 2 [1, 15, 17, 19, 20, 21] (K' := [(1, .slice A1_0 a1.length n1_0), (15, .slice A79 y74.1.length c80), (17, .slice A88 y83.1.length c89), (19, .int .i64 s107), (20, .bool y171), (21, .int .i64 s126.2)]) (by kernel_rfl) ?_
                        refine gl_atE (by kernel_rfl) ?_
                        obtain rfl := some_inj hj139
                        exact ge_mid fun t ht => ⟨(Imm.refl _), rfl, ht.pick (l := [1, 15, 17, 19, 20, 21]) (by kernel_rfl)⟩
                    · rintro t I142 L' ⟨hI140, rfl, hK141⟩
                      refine ge_at hK141 ?_
                      refine ge_block_normal ?_
                      refine ge_seq ?_
                      refine gk_region (by kernel_rfl) ?_
                      refine gl_pure 3 [1, 15, 17, 19, 20, 21] (K' := [(1, .slice A1_0 a1.length n1_0), (15, .slice A79 y74.1.length c80), (17, .slice A88 y83.1.length c89), (19, .int .i64 s107), (20, .bool j138), (21, .int .i64 (IntKind.wrap .i64 (s126.2 + 1)))]) (by kernel_rfl) ?_
                      refine gl_atE (by kernel_rfl) ?_
                      obtain rfl := some_inj hb128
                      exact ge_round fun t ht => ⟨(Imm.trans hI129 hI140), rfl, ht.pick (l := [1, 15, 17, 19, 20, 21]) (by kernel_rfl)⟩
                  · have hb128 := cond_f hc137 hb128
                    refine gk_exit (by kernel_rfl) ?_
                    refine ge_seq_exit ?_
                    obtain rfl := some_inj hb128
                    refine ge_round_out (fun hrr => ?_) (by intro h; cases h)
                    obtain rfl := hrr
                    refine ge_block_hit (by kernel_rfl) ?_
                    exact ge_mid fun t ht => ⟨hI129, rfl, ht.pick (l := [1, 15, 17, 19, 20]) (by kernel_rfl)⟩
                · rintro t I134 L' ⟨hI132, rfl, hK133⟩
                  refine ge_at hK133 ?_
                  refine ge_seq ?_
                  refine gk_seq (by kernel_rfl) ?_
                  refine gk_region (by kernel_rfl) ?_
                  refine gl_pure 2 [1, 15, 17, 19, 117] (K' := [(1, .slice A1_0 a1.length n1_0), (15, .slice A79 y74.1.length c80), (17, .slice A88 y83.1.length c89), (19, .int .i64 s107), (117, .bool (!r124))]) (by kernel_rfl) ?_
                  refine gl_atE (by kernel_rfl) ?_
                  refine ge_seq ?_
                  refine gk_cond (b := (!r124)) (by kernel_rfl) (by kernel_rfl) (fun hc173 => ?_) (fun hc173 => ?_)
                  · have hb109 := cond_t hc173 hb109
                    refine gk_seq (by kernel_rfl) ?_
                    refine gk_region (by kernel_rfl) ?_
                    refine gl_pure 1 [8] (K' := [(8, .bool false)]) (by kernel_rfl) ?_
                    refine gl_atE (by kernel_rfl) ?_
                    refine ge_seq ?_
                    refine gk_reord (D := L) (Reord.skipC (Reord.skipC (Reord.refl _))) ?_
                    refine gk_ret (by kernel_rfl) ?_
                    refine ge_block_ret ?_
                    refine ge_seq_ret ?_
                    obtain rfl := some_inj hb109
                    refine ge_round_out (fun hrr => ?_) (by intro h; cases h)
                    obtain rfl := hrr
                    refine ge_block_ret ?_
                    refine ge_seq_ret ?_
                    refine ge_seq_ret ?_
                    obtain rfl := some_inj hr
                    exact ge_result trivial (ResOk.tmp (by kernel_rfl) ResOk.nil) (Imm.trans (Imm.trans (Imm.trans (Imm.trans (Imm.trans (Imm.trans (Imm.trans hI19 hI62) hI70) hI78) hI87) hI92) hI110) hI132) ⟨rfl, rfl⟩
                  · have hb109 := cond_f hc173 hb109
                    refine gk_skip (by kernel_rfl) ?_
                    refine ge_block_normal ?_
                    refine ge_seq ?_
                    refine gk_region (by kernel_rfl) ?_
                    refine gl_pure 3 [1, 15, 17, 19] (K' := [(1, .slice A1_0 a1.length n1_0), (15, .slice A79 y74.1.length c80), (17, .slice A88 y83.1.length c89), (19, .int .i64 (IntKind.wrap .i64 (s107 + 1)))]) (by kernel_rfl) ?_
                    refine gl_atE (by kernel_rfl) ?_
                    obtain rfl := some_inj hb109
                    exact ge_round fun t ht => ⟨(Imm.trans hI110 hI132), rfl, ht.pick (l := [1, 15, 17, 19]) (by kernel_rfl)⟩
              · have hb109 := cond_f hc119 hb109
                refine gk_exit (by kernel_rfl) ?_
                refine ge_seq_exit ?_
                obtain rfl := some_inj hb109
                refine ge_round_out (fun hrr => ?_) (by intro h; cases h)
                obtain rfl := hrr
                refine ge_block_hit (by kernel_rfl) ?_
                exact ge_mid fun t ht => ⟨_, rfl, hI110, rfl, ht.pick (l := [15, 17]) (by kernel_rfl)⟩
            · rintro t I116 L' ⟨r113, rfl, hI114, rfl, hK115⟩
              refine ge_at hK115 ?_
              refine ge_seq ?_
              refine gk_seq (by kernel_rfl) ?_
              refine gk_region (by kernel_rfl) ?_
              refine gl_pure 1 [15, 17, 22] (K' := [(15, .slice A79 y74.1.length c80), (17, .slice A88 y83.1.length c89), (22, .int .i64 0)]) (by kernel_rfl) ?_
              refine gl_atE (by kernel_rfl) ?_
              refine ge_seq ?_
              refine gk_seq (by kernel_rfl) ?_
              refine gk_seq (by kernel_rfl) ?_
              refine gk_region (by kernel_rfl) ?_
              refine gl_pure 1 [15, 17, 22, 23] (K' := [(15, .slice A79 y74.1.length c80), (17, .slice A88 y83.1.length c89), (22, .int .i64 0), (23, .int .i64 0)]) (by kernel_rfl) ?_
              refine gl_atE (by kernel_rfl) ?_
              refine ge_seq ?_
              obtain ⟨r178, hl179, hr⟩ := bind_some hr
              refine gk_join (fun t I' L' => ∃ r186, r178 = Sum.inl r186 ∧ I116 ≤ I' ∧ C81 ++ L = L' ∧ Knows 145 [(15, .slice A79 y74.1.length c80), (22, .int .i64 r186)] t) ?_ ?_
              · refine gk_block (by kernel_rfl) ?_
                refine gk_pick [15, 17, 22, 23] (K' := [(15, .slice A79 y74.1.length c80), (17, .slice A88 y83.1.length c89), (22, .int .i64 0), (23, .int .i64 0)]) (by kernel_rfl) ?_
                intro t hK
                refine gc_loop (tocsinlaw15_VecTurns_l190 y83) (fun s180 t I' L' => I116 ≤ I' ∧ C90 ++ (C81 ++ L) = L' ∧ Knows 145 [(15, .slice A79 y74.1.length c80), (17, .slice A88 y83.1.length c89), (22, .int .i64 s180.1), (23, .int .i64 s180.2)] t) (by kernel_rfl) ?_ hl179 ⟨(Imm.refl _), rfl, hK⟩
                rintro s180 o181 t I185 L' hb182 ⟨hI183, rfl, hK184⟩
                unfold tocsinlaw15_VecTurns_l190 at hb182
                refine gk_at hK184 ?_
                refine gk_seq (by kernel_rfl) ?_
                refine gk_seq (by kernel_rfl) ?_
                refine gk_region (by kernel_rfl) ?_
                refine gl_pure 4 [15, 17, 22, 23, 121] (K' := [(15, .slice A79 y74.1.length c80), (17, .slice A88 y83.1.length c89), (22, .int .i64 s180.1), (23, .int .i64 s180.2), (121, .bool (decide (s180.2 < (y83.1.length : Int))))]) (by kernel_rfl) ?_
                refine gl_atE (by kernel_rfl) ?_
                refine ge_seq ?_
                refine gk_cond (b := (decide (s180.2 < (y83.1.length : Int)))) (by kernel_rfl) (by kernel_rfl) (fun hc192 => ?_) (fun hc192 => ?_)
                · have hb182 := cond_t hc192 hb182
                  refine gk_skip (by kernel_rfl) ?_
                  refine ge_seq ?_
                  refine gk_seq (by kernel_rfl) ?_
                  refine gk_block (by kernel_rfl) ?_
                  refine gk_seq (by kernel_rfl) ?_
                  refine gk_region (by kernel_rfl) ?_
                  refine gl_pure 2 [15, 17, 22, 23, 124, 125] (K' := [(15, .slice A79 y74.1.length c80), (17, .slice A88 y83.1.length c89), (22, .int .i64 s180.1), (23, .int .i64 s180.2), (124, .slice A88 y83.1.length c89), (125, .int .i64 s180.2)]) (by kernel_rfl) ?_
                  obtain ⟨x193, hx194, hb182⟩ := bind_some hb182
                  refine gl_indexAddrW (d := kS38) (c := c89) (T' := 22) (e := 39) (xs := (.tmp 124)) (xi := (.tmp 125)) (kd := .i64) hx194 (hO91.mono (Imm.trans (Imm.trans hI92 hI114) hI183)) (Upd.selfC _ _) (by kernel_rfl) (by kernel_rfl) (by kernel_rfl) (by kernel_rfl) (by kernel_rfl) (fun p195 cs196 hR197 hA198 hp206 => ?_)
                  obtain ⟨A201, n202, b204, hf203, hf205, rfl⟩ := kS38_open hR197
                  refine gl_pure 1 [15, 17, 22, 23, 127] (K' := [(15, .slice A79 y74.1.length c80), (17, .slice A88 y83.1.length c89), (22, .int .i64 s180.1), (23, .int .i64 s180.2), (127, .pointer (some (p195.add 1)))]) (by kernel_rfl) ?_
                  refine gl_loadO (T' := 37) (xp := (.tmp 127)) (p := (p195.add 1)) (c := .float .f64 b204) (n := 1) (by kernel_rfl) (by kernel_rfl) (by kernel_rfl) (by kernel_rfl) (hA198.drop 1) ?_
                  refine gl_fcmp (op := .eql) (t := 37) (t' := 37) (xx := (.tmp 128)) (yy := (.const (.float .f64 4607182418800017408))) hf205 (FRep.of 4607182418800017408) (by kernel_rfl) (by kernel_rfl) rfl (by kernel_rfl) (by kernel_rfl) ?_
                  refine gl_atE (by kernel_rfl) ?_
                  refine ge_seq ?_
                  obtain ⟨j207, hj208, hb182⟩ := bind_some hb182
                  refine gk_join (fun t I' L' => ∃ j209, j207 = Sum.inl j209 ∧ I185 ≤ I' ∧ C90 ++ (C81 ++ L) = L' ∧ Knows 145 [(15, .slice A79 y74.1.length c80), (17, .slice A88 y83.1.length c89), (22, .int .i64 j209), (23, .int .i64 s180.2)] t) ?_ ?_
                  · refine gk_cond (b := (fcmp .eql x193.f1 (some 4607182418800017408 : Fl))) (by kernel_rfl) (by kernel_rfl) (fun hc213 => ?_) (fun hc213 => ?_)
                    · have hj208 := cond_t hc213 hj208
                      refine gk_region (by kernel_rfl) ?_
                      refine gl_pure 3 [15, 17, 22, 23] (K' := [(15, .slice A79 y74.1.length c80), (17, .slice A88 y83.1.length c89), (22, .int .i64 (IntKind.wrap .i64 (s180.1 + 1))), (23, .int .i64 s180.2)]) (by kernel_rfl) ?_
                      refine gl_atE (by kernel_rfl) ?_
                      obtain rfl := some_inj hj208
                      exact ge_mid fun t ht => ⟨_, rfl, (Imm.refl _), rfl, ht.pick (l := [15, 17, 22, 23]) (by kernel_rfl)⟩
                    · have hj208 := cond_f hc213 hj208
                      refine gk_seq (by kernel_rfl) ?_
                      refine gk_region (by kernel_rfl) ?_
                      refine gl_pure 2 [15, 17, 22, 23, 132, 133] (K' := [(15, .slice A79 y74.1.length c80), (17, .slice A88 y83.1.length c89), (22, .int .i64 s180.1), (23, .int .i64 s180.2), (132, .slice A88 y83.1.length c89), (133, .int .i64 s180.2)]) (by kernel_rfl) ?_
                      obtain ⟨x214, hx215, hj208⟩ := bind_some hj208
                      refine gl_indexAddrW (d := kS38) (c := c89) (T' := 22) (e := 39) (xs := (.tmp 132)) (xi := (.tmp 133)) (kd := .i64) hx215 (hO91.mono (Imm.trans (Imm.trans hI92 hI114) hI183)) (Upd.selfC _ _) (by kernel_rfl) (by kernel_rfl) (by kernel_rfl) (by kernel_rfl) (by kernel_rfl) (fun p216 cs217 hR218 hA219 hp227 => ?_)
                      obtain ⟨A222, n223, b225, hf224, hf226, rfl⟩ := kS38_open hR218
                      refine gl_pure 1 [15, 17, 22, 23, 135] (K' := [(15, .slice A79 y74.1.length c80), (17, .slice A88 y83.1.length c89), (22, .int .i64 s180.1), (23, .int .i64 s180.2), (135, .pointer (some (p216.add 1)))]) (by kernel_rfl) ?_
                      refine gl_loadO (T' := 37) (xp := (.tmp 135)) (p := (p216.add 1)) (c := .float .f64 b225) (n := 1) (by kernel_rfl) (by kernel_rfl) (by kernel_rfl) (by kernel_rfl) (hA219.drop 1) ?_
                      refine gl_fcmp (op := .neq) (t := 37) (t' := 37) (xx := (.tmp 136)) (yy := (.const (.float .f64 0))) hf226 (FRep.of 0) (by kernel_rfl) (by kernel_rfl) rfl (by kernel_rfl) (by kernel_rfl) ?_
                      refine gl_atE (by kernel_rfl) ?_
                      refine ge_seq ?_
                      refine gk_cond (b := (fcmp .neq x214.f1 (some 0 : Fl))) (by kernel_rfl) (by kernel_rfl) (fun hc228 => ?_) (fun hc228 => ?_)
                      · have hj208 := cond_t hc228 hj208
                        refine gk_seq (by kernel_rfl) ?_
                        refine gk_region (by kernel_rfl) ?_
                        refine gl_pure 1 [8] (K' := [(8, .bool false)]) (by kernel_rfl) ?_
                        refine gl_atE (by kernel_rfl) ?_
                        refine ge_seq ?_
                        refine gk_reord (D := L) (Reord.skipC (Reord.skipC (Reord.refl _))) ?_
                        refine gk_ret (by kernel_rfl) ?_
                        refine ge_seq_ret ?_
                        obtain rfl := some_inj hj208
                        refine ge_block_ret ?_
                        refine ge_seq_ret ?_
                        obtain rfl := some_inj hb182
                        refine ge_round_out (fun hrr => ?_) (by intro h; cases h)
                        obtain rfl := hrr
                        refine ge_block_ret ?_
                        refine ge_seq_ret ?_
                        refine ge_seq_ret ?_
                        obtain rfl := some_inj hr
                        exact ge_result trivial (ResOk.tmp (by kernel_rfl) ResOk.nil) (Imm.trans (Imm.trans (Imm.trans (Imm.trans (Imm.trans (Imm.trans (Imm.trans hI19 hI62) hI70) hI78) hI87) hI92) hI114) hI183) ⟨rfl, rfl⟩
                      · have hj208 := cond_f hc228 hj208
                        refine gk_skip (by kernel_rfl) ?_
                        obtain rfl := some_inj hj208
                        exact ge_mid fun t ht => ⟨_, rfl, (Imm.refl _), rfl, ht.pick (l := [15, 17, 22, 23]) (by kernel_rfl)⟩
                  · rintro t I212 L' ⟨j209, rfl, hI210, rfl, hK211⟩
                    refine ge_at hK211 ?_
                    refine ge_block_normal ?_
                    refine ge_seq ?_
                    refine gk_region (by kernel_rfl) ?_
                    refine gl_pure 3 [15, 17, 22, 23] (K' := [(15, .slice A79 y74.1.length c80), (17, .slice A88 y83.1.length c89), (22, .int .i64 j209), (23, .int .i64 (IntKind.wrap .i64 (s180.2 + 1)))]) (by kernel_rfl) ?_
                    refine gl_atE (by kernel_rfl) ?_
                    obtain rfl := some_inj hb182
                    exact ge_round fun t ht => ⟨(Imm.trans hI183 hI210), rfl, ht.pick (l := [15, 17, 22, 23]) (by kernel_rfl)⟩
                · have hb182 := cond_f hc192 hb182
                  refine gk_reord (D := C81 ++ L) (Reord.step (Upd.app _ (Upd.rmC _ _)) (Reord.skipC (Reord.refl _))) ?_
                  refine gk_exit (by kernel_rfl) ?_
                  refine ge_seq_exit ?_
                  obtain rfl := some_inj hb182
                  refine ge_round_out (fun hrr => ?_) (by intro h; cases h)
                  obtain rfl := hrr
                  refine ge_block_hit (by kernel_rfl) ?_
                  exact ge_mid fun t ht => ⟨_, rfl, hI183, rfl, ht.pick (l := [15, 22]) (by kernel_rfl)⟩
              · rintro t I189 L' ⟨r186, rfl, hI187, rfl, hK188⟩
                refine ge_at hK188 ?_
                refine ge_seq ?_
                refine gk_seq (by kernel_rfl) ?_
                obtain ⟨j230, hj231, hr⟩ := bind_some hr
                refine gk_join (fun t I' L' => I189 ≤ I' ∧ L = L' ∧ Knows 145 [(8, .bool j230)] t) ?_ ?_
                · refine gk_region (by kernel_rfl) ?_
                  refine gl_pure 5 [142] (K' := [(142, .bool (r186 == (y74.1.length : Int)))]) (by kernel_rfl) ?_
                  refine gl_case 142 (b := (r186 == (y74.1.length : Int))) (by kernel_rfl) (fun hc235 => ?_) (fun hc235 => ?_)
                  · have hj231 := cond_t hc235 hj231
                    obtain ⟨y236, hx237, hj231⟩ := bind_some hj231
                    refine gl_callQ (by kernel_rfl) (tocsinlaw15_known_walk (r := y236) (hG.mono (Imm.trans (Imm.trans (Imm.trans (Imm.trans (Imm.trans (Imm.trans (Imm.trans hI19 hI62) hI70) hI78) hI87) hI92) hI114) hI187)) hx237 _) ?_
                    refine gl_pure 2 [8] (K' := [(8, .bool y236)]) (by kernel_rfl) ?_
                    refine gl_reord (D := L) (Reord.skipC (Reord.refl _)) ?_
                    refine gl_atE (by kernel_rfl) ?_
                    obtain rfl := some_inj hj231
                    exact ge_mid fun t ht => ⟨(Imm.refl _), rfl, ht.pick (l := [8]) (by kernel_rfl)⟩
                  · have hj231 := cond_f hc235 hj231
                    refine gl_pure 3 [8] (K' := [(8, .bool false)]) (by kernel_rfl) ?_
                    refine gl_reord (D := L) (Reord.skipC (Reord.refl _)) ?_
                    refine gl_atE (by kernel_rfl) ?_
                    obtain rfl := some_inj hj231
                    exact ge_mid fun t ht => ⟨(Imm.refl _), rfl, ht.pick (l := [8]) (by kernel_rfl)⟩
                · rintro t I234 L' ⟨hI232, rfl, hK233⟩
                  refine ge_at hK233 ?_
                  refine ge_seq ?_
                  refine gk_ret (by kernel_rfl) ?_
                  obtain rfl := some_inj hr
                  exact ge_result trivial (ResOk.tmp (by kernel_rfl) ResOk.nil) (Imm.trans (Imm.trans (Imm.trans (Imm.trans (Imm.trans (Imm.trans (Imm.trans (Imm.trans hI19 hI62) hI70) hI78) hI87) hI92) hI114) hI187) hI232) ⟨rfl, rfl⟩
end Go.Proofs.YtkjkkimnjpodiaaGreatDoor

/- From data that are read to what the walks ask: rows. -/
set_option linter.unusedVariables false
set_option linter.unusedSimpArgs false
namespace Go.GB
open Go Go.RowKit
open Go.Proofs.YtkjkkimnjpodiaaGreatDoor.Rows (uptoBulk uptoBulkAll)

def immOf (W : World) : Imm := ⟨fun b => W.heap[b]?, W.os, W.tape, W.output, 0⟩
theorem holds_immOf (W : World) : Holds (immOf W) [] W := ⟨fun _ _ h => h, by simp, by simp, by simp, rfl, rfl, rfl, Nat.zero_le _⟩
theorem below_of {I' : Imm} {L' : Own} {W W' : World} (h : Holds I' L' W') (hI : immOf W ≤ I') : Below W.heap.size W W' := by
  refine ⟨by rw [h.os, hI.os]; rfl, by rw [h.tape, hI.tape]; rfl, by rw [h.out, hI.out]; rfl, ?_, fun k hk => ?_⟩
  · rcases Nat.eq_zero_or_pos W.heap.size with h0 | h0
    · omega
    · have : W.heap[W.heap.size - 1]? = some (W.heap[W.heap.size - 1]'(by omega)) := Array.getElem?_eq_getElem _
      have := lt_of_heap (h.imm _ _ (hI.h _ _ this))
      omega
  · have : W.heap[k]? = some (W.heap[k]) := Array.getElem?_eq_getElem hk
    rw [this]; exact h.imm _ _ (hI.h _ _ this)
theorem imm_cell {W : World} {a : Addr} {v : Value} (h : W.cell? a = some v) : (immOf W).cell a = some v := h
theorem run_of_cells {W : World} {a : Addr} {n : Nat} {cs : List Value} (h : W.cells? 0 a n = some cs) : RunAt (immOf W) a cs := fun j v hj => by
  unfold World.cells? at h
  rw [if_pos (Nat.zero_le _)] at h
  have hl := mapM_some_length h
  have hj' : j < n := by have := (List.getElem?_eq_some_iff.1 hj).1; simpa [hl] using this
  have := mapM_some_get h j j (by simp [hj'])
  exact imm_cell (this.trans hj)

def Reads {α : Type} (P : Program) (T : TypeId) (d : Kd α) (w : α → Nat → Prop) : Prop := ∀ {H : Type} {enc : TypeId × Value → H} {W : World} {spare : Nat → Bool} {held : Bool} {fuel : Nat} {cs : List Value} {x : DataW H × List MemPlace},
  DataW.trod enc P W 0 spare held fuel T cs = some x → uptoBulk x.1 ≤ 1048576 → ∃ y, d.R (immOf W) y cs ∧ w y (uptoBulk x.1)
theorem reads_int {P : Program} {T : TypeId} {k : IntKind} (h : P.underlying T = some (.int k)) : Reads P T (Kd.int k) (wInt k) := fun ht _ => by
  obtain ⟨n, rfl, _, hw⟩ := DataW.trod_int h ht
  simp only [Lit.wf, Bool.and_eq_true, decide_eq_true_eq] at hw
  exact ⟨n, rfl, hw⟩
theorem reads_bool {P : Program} {T : TypeId} (h : P.underlying T = some .bool) : Reads P T Kd.bool wBool := fun ht _ => by
  obtain ⟨n, rfl, _⟩ := DataW.trod_bool h ht
  exact ⟨n, rfl, trivial⟩
theorem reads_str {P : Program} {T : TypeId} (h : P.underlying T = some .string) : Reads P T Kd.str wStr := fun ht _ => by
  obtain ⟨n, rfl, rfl, _⟩ := DataW.trod_string h ht
  exact ⟨n, rfl, by simp [uptoBulk, wStr]⟩
theorem bulk_pos {H : Type} (d : DataW H) : 1 ≤ uptoBulk d := by
  cases d with
  | lit l => cases l <;> simp [uptoBulk]
  | _ => simp [uptoBulk]
theorem bulkAll_ge {H : Type} : ∀ (l : List (DataW H)), l.length ≤ uptoBulkAll l
  | [] => by simp
  | d :: r => by have := bulk_pos d; have := bulkAll_ge r; simp only [uptoBulkAll, List.length_cons]; omega
theorem bulkAll_mem {H : Type} {d : DataW H} : ∀ {l : List (DataW H)}, d ∈ l → uptoBulk d ≤ uptoBulkAll l
  | [], h => by cases h
  | e :: r, h => by
    simp only [uptoBulkAll]
    rcases List.mem_cons.1 h with rfl | h
    · omega
    · have := bulkAll_mem h; omega
theorem choose_list {α : Type} {p : Nat → α → Prop} : ∀ (n : Nat), (∀ i, i < n → ∃ y, p i y) → ∃ xs : List α, xs.length = n ∧ ∀ i x, xs[i]? = some x → p i x
  | 0, _ => ⟨[], rfl, fun i x h => by simp at h⟩
  | m + 1, key => by
    obtain ⟨xs, hxl, hx⟩ := choose_list m (fun i hi => key i (by omega))
    obtain ⟨y, hy⟩ := key m (by omega)
    refine ⟨xs ++ [y], by simp [hxl], fun i x h => ?_⟩
    rcases Nat.lt_or_ge i m with hi | hi
    · rw [List.getElem?_append_left (by omega)] at h; exact hx i x h
    · rw [List.getElem?_append_right (by omega), hxl] at h
      have hi0 : i - m = 0 := by have := (List.getElem?_eq_some_iff.1 h).1; simpa using this
      rw [hi0] at h
      simp only [List.getElem?_cons_zero, Option.some.injEq] at h
      subst h
      rw [show i = m from by omega]
      exact hy
theorem wSl_of {α H : Type} {w : α → Nat → Prop} : ∀ (xs : List α) (es : List (DataW H)), xs.length = es.length → (∀ (i : Nat) (x : α) (e : DataW H), xs[i]? = some x → es[i]? = some e → w x (uptoBulk e)) → wSl w xs (uptoBulkAll es)
  | [], _, _, _ => trivial
  | x :: r, [], h, _ => by simp at h
  | x :: r, e :: es, h, hw => ⟨uptoBulk e, uptoBulkAll es, hw 0 x e rfl rfl, wSl_of r es (by simpa using h) (fun i x' e' h1 h2 => hw (i + 1) x' e' (by simpa using h1) (by simpa using h2)), by simp [uptoBulkAll], bulk_pos e⟩
theorem reads_slice {α : Type} {P : Program} {T e : TypeId} {d : Kd α} {w : α → Nat → Prop} (hu : P.underlying T = some (.slice e)) (hn : P.cellsOf e = d.n) (hr : Reads P e d w) : Reads P T (Kd.sl d) (wSl w) := by
  intro H enc W spare held fuel cs x ht hb
  rcases DataW.trod_slice hu ht with ⟨rfl, rfl⟩ | ⟨a, len, cap, elems, rest, n, rfl, rfl, rfl, _, hlc, hcm, hel, hat, _, _⟩
  · exact ⟨[], ⟨none, 0, rfl, RepS.nil _ _⟩, trivial⟩
  · simp only [uptoBulk] at hb
    have hlen := bulkAll_ge (elems.map (·.1))
    rw [List.length_map, hel] at hlen
    have key : ∀ i, i < len → ∃ y, (∃ cs', d.R (immOf W) y cs' ∧ RunAt (immOf W) (a.add (i * d.n)) cs') ∧ ∀ e, (elems.map (·.1))[i]? = some e → w y (uptoBulk e) := fun i hi => by
      have h1 := hat i hi
      have hie : i < elems.length := by omega
      rw [List.getElem?_eq_getElem hie] at h1
      simp only [Option.bind_eq_some_iff] at h1
      obtain ⟨cs', h2, h3⟩ := h1
      obtain ⟨y, hy, hw⟩ := hr h3 (by
        have := bulkAll_mem (l := elems.map (·.1)) (List.mem_map_of_mem (List.getElem_mem hie))
        omega)
      refine ⟨y, ⟨cs', hy, ?_⟩, fun e he => ?_⟩
      · rw [← hn]
        exact run_of_cells h2
      · rw [List.getElem?_map, List.getElem?_eq_getElem hie] at he
        cases he; exact hw
    have hex := choose_list (p := fun i y => (∃ cs', d.R (immOf W) y cs' ∧ RunAt (immOf W) (a.add (i * d.n)) cs') ∧ ∀ e, (elems.map (·.1))[i]? = some e → w y (uptoBulk e)) len key
    obtain ⟨xs, hxl, hx⟩ := hex
    refine ⟨xs, ⟨some a, cap, by rw [hxl], by omega, by unfold maxLen'; omega, fun i x h => ?_⟩, ?_⟩
    · obtain ⟨⟨cs', h1, h2⟩, _⟩ := hx i x h
      exact ⟨a, cs', rfl, h1, h2⟩
    · exact (wSl_of xs (elems.map (·.1)) (by simp [hxl, hel]) (fun i x e h1 h2 => (hx i x h1).2 e h2)).le (by simp only [uptoBulk]; omega)
theorem pairR {α β : Type} {a : Kd α} {b : Kd β} {I : Imm} {x : α} {y : β} {cs : List Value} {o n m : Nat} (h0 : a.R I x ((cs.drop o).take n)) (h1 : b.R I y (cs.drop m)) (hm : m = o + n) : (Kd.pair a b).R I (x, y) (cs.drop o) := by
  subst hm
  exact ⟨(cs.drop o).take n, (cs.drop o).drop n, (List.take_append_drop _ _).symm, h0, by rw [List.drop_drop]; exact h1⟩
theorem lastR {α : Type} {a : Kd α} {I : Imm} {x : α} {cs : List Value} {o n : Nat} (h : a.R I x ((cs.drop o).take n)) (hl : cs.length = o + n) : a.R I x (cs.drop o) := by
  rwa [List.take_of_length_le (by rw [List.length_drop]; omega)] at h
def fieldD (P : Program) (T : TypeId) (i : Nat) : Field := (P.fieldsOf T).getD i default
/-- A field of a struct that is read. -/
theorem field_read {α : Type} {H : Type} {enc : TypeId × Value → H} {P : Program} {W : World} {spare : Nat → Bool} {held : Bool} {m : Nat} {T t : TypeId} {d : Kd α} {w : α → Nat → Prop} {cs : List Value} {xs : List (DataW H × List MemPlace)} {x : DataW H × List MemPlace} {i o n : Nat}
    (hf : ∀ (i : Nat) (f : Field), (P.fieldsOf T)[i]? = some f → DataW.trod enc P W 0 spare held m f.type ((cs.drop f.offset).take (P.cellsOf f.type)) = xs[i]?)
    (hx : xs[i]? = some x) (h1 : (P.fieldsOf T)[i]? = some (fieldD P T i)) (h2 : (fieldD P T i).type = t) (h3 : (fieldD P T i).offset = o) (h4 : P.cellsOf t = n) (hr : Reads P t d w) (hb : uptoBulk x.1 ≤ 1048576) : ∃ y, d.R (immOf W) y ((cs.drop o).take n) ∧ w y (uptoBulk x.1) := by
  have := hf i _ h1
  rw [hx, h2, h3, h4] at this
  exact hr this hb
theorem calls_of {P : Program} {f : FuncId} {args : Array Value} {W : World} {b : Value} (h : CallsTo P f args (immOf W) [] (fun v I' L' => v = b ∧ [] = L')) : Calls P f args W fun e W' => e = .returned b ∧ Below W.heap.size W W' :=
  (h W (holds_immOf W)).mono fun e W' ⟨v, I', L', he, hI, hh, hv, _⟩ => ⟨by rw [he, hv], below_of hh hI⟩
end Go.GB

/- Floats that are read. -/
set_option linter.unusedVariables false
set_option linter.unusedSimpArgs false
namespace Go.GB
open Go Go.RowKit
theorem trod_float {H : Type} {enc : TypeId × Value → H} {P : Program} {w : World} {base : Nat} {spare : Nat → Bool} {held : Bool} {fuel : Nat} {t : TypeId} {cs : List Value} {x : DataW H × List MemPlace} {k : FloatKind} (ht : P.underlying t = some (.float k)) (h : DataW.trod enc P w base spare held fuel t cs = some x) :
    ∃ b, cs = [.float k b] ∧ x = (.lit (.float k b), []) ∧ (Lit.float k b).wf = true := by
  cases fuel with
  | zero => simp [DataW.trod] at h
  | succ n =>
    unfold DataW.trod at h
    rw [ht] at h
    split at h <;> simp_all
theorem reads_flt {P : Program} {T : TypeId} (h : P.underlying T = some (.float .f64)) : Reads P T Kd.flt wFlt := fun ht _ => by
  obtain ⟨b, rfl, _, hw⟩ := trod_float h ht
  simp only [Lit.wf, decide_eq_true_eq] at hw
  exact ⟨some b, ⟨b, rfl, rfl⟩, b, rfl, hw⟩
end Go.GB

/- What plain functions come to: a calculus for 'it answers, and its answer is ..'. -/
set_option linter.unusedVariables false
set_option linter.unusedSimpArgs false
namespace Go.GB
theorem wrap_up {i : Nat} (h : i < 4294967296) : IntKind.wrap .i64 ((i : Int) + 1) = ((i + 1 : Nat) : Int) := by rw [wrap64 (by omega) (by omega)]; omega
theorem ix_nat {α : Type} (xs : List α) (i : Nat) : ix xs (i : Int) = xs[i]? := by simp [ix]
theorem size_zero_iff {s : ByteArray} : (s.toList == (⟨#[]⟩ : ByteArray).toList) = decide (s.size = 0) := by
  rw [ByteArray.toList_eq, ByteArray.toList_eq]
  obtain ⟨⟨l⟩⟩ := s
  cases l <;> rfl
theorem toList_inj {a b : ByteArray} : (a.toList == b.toList) = true ↔ a = b := by
  rw [ByteArray.toList_eq, ByteArray.toList_eq]
  obtain ⟨⟨x⟩⟩ := a
  obtain ⟨⟨y⟩⟩ := b
  simp
end Go.GB

/- Plain laws, base: loops that are alike; searches; words of bits. -/
set_option linter.unusedVariables false
set_option linter.unusedSimpArgs false
namespace Go.GB
/-- One round. -/
theorem loopO_step {σ ρ : Type} {b : σ → Option (σ ⊕ ρ)} {s s' : σ} (h : b s = some (.inl s')) : loopO b s = loopO b s' := by rw [loopO_eq, h]; rfl
theorem loopO_done {σ ρ : Type} {b : σ → Option (σ ⊕ ρ)} {s : σ} {r : ρ} (h : b s = some (.inr r)) : loopO b s = some r := by rw [loopO_eq, h]; rfl
/-- A search that goes up: the first place at which there is something to tell. -/
theorem up_find {ρ : Type} {body : Int → Option (Int ⊕ (Unit ⊕ ρ))} {n : Nat} (p : Nat → Option ρ) (h : ∀ i : Nat, i < n → body i = some (match p i with | some r => .inr (.inr r) | none => .inl ((i + 1 : Nat) : Int))) (he : body n = some (.inr (.inl ()))) :
    loopO body 0 = some (match (List.range n).findSome? p with | some r => .inr r | none => .inl ()) := by
  have key : ∀ d i : Nat, i + d = n → loopO body i = some (match (List.range' i d).findSome? p with | some r => .inr r | none => .inl ()) := by
    intro d
    induction d with
    | zero =>
      intro i hi
      have : i = n := by omega
      subst this
      simp [loopO_done he]
    | succ d ih =>
      intro i hi
      have h1 := h i (by omega)
      rw [List.range'_succ, List.findSome?_cons]
      cases hp : p i with
      | some r => rw [hp] at h1; rw [loopO_done h1]
      | none => rw [hp] at h1; rw [loopO_step h1]; exact ih (i + 1) (by omega)
  have := key n 0 (by omega)
  rw [List.range_eq_range']
  exact this
/-- All of a list, by a loop that goes up. -/
theorem up_all {body : Int → Option (Int ⊕ (Unit ⊕ Bool))} {n : Nat} (q : Nat → Bool) (h : ∀ i : Nat, i < n → body i = some (bif q i then .inl ((i + 1 : Nat) : Int) else .inr (.inr false))) (he : body n = some (.inr (.inl ()))) :
    loopO body 0 = some (if (List.range n).all q then .inl () else .inr false) := by
  rw [up_find (fun i => if q i then none else some false) (fun i hi => by rw [h i hi]; cases q i <;> rfl) he]
  congr 1
  by_cases ha : (List.range n).all q = true
  · rw [if_pos ha]
    have : (List.range n).findSome? (fun i => if q i then none else some false) = none := by
      rw [List.findSome?_eq_none_iff]
      intro i hi
      rw [if_pos (List.all_eq_true.1 ha i hi)]
    rw [this]
  · rw [if_neg ha]
    have hx : (List.range n).all q = false := by simpa using ha
    rw [List.all_eq_false] at hx
    obtain ⟨i, hi, hq⟩ := hx
    cases hf : (List.range n).findSome? (fun i => if q i then none else some false) with
    | none =>
      rw [List.findSome?_eq_none_iff] at hf
      have := hf i hi
      rw [if_neg hq] at this; cases this
    | some b =>
      obtain ⟨j, _, hj⟩ := List.exists_of_findSome?_eq_some hf
      split at hj <;> cases hj
      rfl
theorem wrapU8 {x : Int} (h : 0 ≤ x) (h' : x < 256) : IntKind.wrap .u8 x = x := by
  unfold IntKind.wrap
  simp [IntKind.bits, IntKind.signed]
  omega
theorem wrapU64 {x : Int} (h : 0 ≤ x) (h' : x < 18446744073709551616) : IntKind.wrap .u64 x = x := by
  unfold IntKind.wrap
  simp [IntKind.bits, IntKind.signed]
  omega
theorem wrapU8_eq (x : Int) : IntKind.wrap .u8 x = x % 256 := by
  unfold IntKind.wrap
  simp [IntKind.bits, IntKind.signed]
theorem or128 : ∀ c : Fin 256, bitOr .u8 ((c.val : Nat) : Int) 128 = ((c.val % 128 + 128 : Nat) : Int) := by decide +kernel
theorem bx_at {s : ByteArray} {i : Nat} (h : i < s.size) : bx s (i : Int) = some (((s.data.toList.getD i 0).toNat : Nat) : Int) := by
  unfold bx
  rw [if_pos ⟨by omega, by omega⟩]
  unfold byteAt
  rw [Int.toNat_natCast]
  simp [List.getD_eq_getElem?_getD]
theorem size_list (s : ByteArray) : s.data.toList.length = s.size := by rw [Array.length_toList]; rfl
theorem nil_size (s : ByteArray) : (s.toList == (⟨#[]⟩ : ByteArray).toList) = decide (s.size = 0) := size_zero_iff
end Go.GB

/- Plain laws: the document's Utf8 is the library's. -/
set_option linter.unusedVariables false
set_option linter.unusedSimpArgs false
set_option maxRecDepth 100000
namespace Go.Proofs.YtkjkkimnjpodiaaGreatDoor
open Go.GB Go.Lib
/-- The byte at a place, 0 behind the end. -/
def bat (s : ByteArray) (i : Nat) : Nat := (s.data.toList.getD i 0).toNat
theorem bx_bat {s : ByteArray} {i : Nat} (h : i < s.size) : bx s (i : Int) = some ((bat s i : Nat) : Int) := bx_at h
theorem fin_and {P : Nat → Prop} (h : ∀ c : Fin 256, P c.val) {n : Nat} (hn : n < 256) : P n := h ⟨n, hn⟩
theorem valid_eq {s : ByteArray} (hs : s.size < 4611686018427387904) : utf8_ValidString s = some (validD s.data.toList) := by
  unfold utf8_ValidString
  rw [if_pos (by omega)]
end Go.Proofs.YtkjkkimnjpodiaaGreatDoor

/- Plain laws, base: the order of texts. -/
set_option linter.unusedVariables false
set_option linter.unusedSimpArgs false
namespace Go.GB
open Go.Lib
theorem cb_self : ∀ a : List UInt8, compareBytes a a = 0
  | [] => rfl
  | a :: xs => by unfold compareBytes; rw [if_neg (UInt8.lt_irrefl a), if_neg (UInt8.lt_irrefl a)]; exact cb_self xs
theorem cb_swap : ∀ a b : List UInt8, compareBytes b a = - compareBytes a b
  | [], [] => rfl
  | [], _ :: _ => rfl
  | _ :: _, [] => rfl
  | a :: xs, b :: ys => by
    unfold compareBytes
    by_cases h1 : a < b
    · have h2 : ¬ b < a := fun h => UInt8.lt_irrefl a (UInt8.lt_trans h1 h)
      rw [if_pos h1, if_neg h2, if_pos h1]; rfl
    · by_cases h2 : b < a
      · rw [if_pos h2, if_neg h1, if_pos h2]
      · rw [if_neg h2, if_neg h1, if_neg h1, if_neg h2]; exact cb_swap xs ys
theorem u8_eq {a b : UInt8} (h1 : ¬ a < b) (h2 : ¬ b < a) : a = b := UInt8.le_antisymm (UInt8.not_lt.1 h2) (UInt8.not_lt.1 h1)
theorem cb_zero : ∀ a b : List UInt8, compareBytes a b = 0 → a = b
  | [], [], _ => rfl
  | [], _ :: _, h => by simp [compareBytes] at h
  | _ :: _, [], h => by simp [compareBytes] at h
  | a :: xs, b :: ys, h => by
    unfold compareBytes at h
    by_cases h1 : a < b
    · rw [if_pos h1] at h; cases h
    · by_cases h2 : b < a
      · rw [if_neg h1, if_pos h2] at h; cases h
      · rw [if_neg h1, if_neg h2] at h
        rw [cb_zero xs ys h, u8_eq h1 h2]
theorem cb_range : ∀ a b : List UInt8, compareBytes a b = -1 ∨ compareBytes a b = 0 ∨ compareBytes a b = 1
  | [], [] => by simp [compareBytes]
  | [], _ :: _ => by simp [compareBytes]
  | _ :: _, [] => by simp [compareBytes]
  | a :: xs, b :: ys => by
    unfold compareBytes
    split
    · simp
    · split
      · simp
      · exact cb_range xs ys
theorem cb_less : ∀ a b : List UInt8, Op.bytesLess a b = decide (compareBytes a b = -1)
  | [], [] => by simp [compareBytes, Op.bytesLess]
  | [], _ :: _ => by simp [compareBytes, Op.bytesLess]
  | _ :: _, [] => by simp [compareBytes, Op.bytesLess]
  | a :: xs, b :: ys => by
    unfold compareBytes Op.bytesLess
    by_cases h1 : a < b
    · simp [h1]
    · by_cases h2 : b < a
      · have h3 : (a == b) = false := by
          rw [beq_eq_false_iff_ne]; rintro rfl; exact h1 h2
        simp [h1, h2, h3]
      · have h3 := u8_eq h1 h2
        subst h3
        simp [h1, cb_less xs ys]
theorem cb_trans : ∀ a b c : List UInt8, compareBytes a b = -1 → compareBytes b c = -1 → compareBytes a c = -1
  | [], [], _, h, _ => by simp [compareBytes] at h
  | [], _ :: _, [], _, h => by simp [compareBytes] at h
  | [], _ :: _, _ :: _, _, _ => by simp [compareBytes]
  | _ :: _, [], _, h, _ => by simp [compareBytes] at h
  | _ :: _, _ :: _, [], _, h => by simp [compareBytes] at h
  | a :: xs, b :: ys, c :: zs, h, k => by
    unfold compareBytes at h k ⊢
    by_cases h1 : a < b
    · by_cases h3 : b < c
      · rw [if_pos (UInt8.lt_trans h1 h3)]
      · by_cases h4 : c < b
        · rw [if_neg h3, if_pos h4] at k; cases k
        · rw [← u8_eq h3 h4, if_pos h1]
    · by_cases h2 : b < a
      · rw [if_neg h1, if_pos h2] at h; cases h
      · have e := u8_eq h1 h2
        subst e
        rw [if_neg h1, if_neg h1] at h
        by_cases h3 : a < c
        · rw [if_pos h3]
        · by_cases h4 : c < a
          · rw [if_neg h3, if_pos h4] at k; cases k
          · rw [if_neg h3, if_neg h4] at k
            rw [if_neg h3, if_neg h4]
            exact cb_trans xs ys zs h k
def cmpS (a b : ByteArray) : Int := compareBytes a.data.toList b.data.toList
theorem cmpS_self (a : ByteArray) : cmpS a a = 0 := cb_self _
theorem cmpS_swap (a b : ByteArray) : cmpS b a = - cmpS a b := cb_swap _ _
theorem ba_eq {a b : ByteArray} (h : a.data.toList = b.data.toList) : a = b := by
  obtain ⟨⟨x⟩⟩ := a
  obtain ⟨⟨y⟩⟩ := b
  simpa using h
theorem cmpS_zero {a b : ByteArray} (h : cmpS a b = 0) : a = b := ba_eq (cb_zero _ _ h)
theorem cmpS_range (a b : ByteArray) : cmpS a b = -1 ∨ cmpS a b = 0 ∨ cmpS a b = 1 := cb_range _ _
theorem cmpS_trans {a b c : ByteArray} (h : cmpS a b = -1) (k : cmpS b c = -1) : cmpS a c = -1 := cb_trans _ _ _ h k
theorem toList_eq (a : ByteArray) : a.toList = a.data.toList := ByteArray.toList_eq a
theorem less_eq (a b : ByteArray) : Op.bytesLess a.toList b.toList = decide (cmpS a b = -1) := by rw [toList_eq, toList_eq]; exact cb_less _ _
theorem beq_eq (a b : ByteArray) : (a.toList == b.toList) = decide (cmpS a b = 0) := by
  rw [Bool.eq_iff_iff, toList_inj, decide_eq_true_iff]
  exact ⟨fun h => by rw [h]; exact cmpS_self _, cmpS_zero⟩
end Go.GB

/- Plain laws: names, values, label sets: the program's are the document's. -/
set_option linter.unusedVariables false
set_option linter.unusedSimpArgs false
set_option maxRecDepth 100000
namespace Go.Proofs.YtkjkkimnjpodiaaGreatDoor
open Go.GB Go.Lib
theorem ix_bytes {s : ByteArray} {i : Nat} (h : i < s.size) : ix (bytesOf s) (i : Int) = some ((bat s i : Nat) : Int) := by
  rw [ix_nat]
  unfold bytesOf bat
  have : i < s.data.toList.length := by rw [size_list]; exact h
  rw [List.getElem?_map, List.getElem?_eq_getElem this, List.getD_eq_getElem?_getD, List.getElem?_eq_getElem this]
  rfl
noncomputable def namedB (s : ByteArray) (most : Nat) (colon : Bool) : Bool := decide (s.size ≠ 0) && (decide (s.size ≤ most) && (!labels_digit (bat s 0) && (List.range s.size).all fun i => labels_letter (bat s i) || (labels_digit (bat s i) || (colon && ((bat s i : Nat) : Int) == 58))))
theorem named_eq (s : ByteArray) {most : Nat} (hm : most ≤ 2147483648) (colon : Bool) : labels_named s (most : Int) colon = some (namedB s most colon) := by
  unfold labels_named namedB
  rw [nil_size]
  by_cases h0 : s.size = 0
  · simp [h0]
  · by_cases h1 : s.size ≤ most
    · have e1 : decide ((s.size : Int) > (most : Int)) = false := decide_eq_false (by omega)
      have e2 : bx s 0 = some ((bat s 0 : Nat) : Int) := bx_bat (i := 0) (by omega)
      simp only [h0, decide_false, cond_false, e1, e2, Option.bind_some, not_false_eq_true, ne_eq, decide_true, h1, Bool.true_and]
      cases hd : labels_digit ((bat s 0 : Nat) : Int) with
      | true => simp
      | false =>
        have e3 : sb s = some (bytesOf s) := by unfold sb maxLen'; rw [if_pos (by omega)]
        simp only [cond_false, e3, Option.bind_some, Bool.not_false, Bool.true_and]
        rw [up_all (n := s.size) (fun i => labels_letter (bat s i) || (labels_digit (bat s i) || (colon && ((bat s i : Nat) : Int) == 58))) (fun i hi => ?_) ?_]
        · simp only [Option.bind_some]
          cases (List.range s.size).all fun i => labels_letter (bat s i) || (labels_digit (bat s i) || (colon && ((bat s i : Nat) : Int) == 58)) <;> rfl
        · unfold labels_named_l33
          rw [show decide ((s.size : Int) < ((bytesOf s).length : Int)) = false from decide_eq_false (by rw [bytesOf_length]; omega)]
          rfl
        · unfold labels_named_l33
          rw [show decide ((i : Int) < ((bytesOf s).length : Int)) = true from decide_eq_true (by rw [bytesOf_length]; omega)]
          simp only [cond_true, ix_bytes hi, Option.bind_some, wrap_up (show i < 4294967296 by omega)]
          cases labels_letter ((bat s i : Nat) : Int) <;> cases labels_digit ((bat s i : Nat) : Int) <;> cases (colon && ((bat s i : Nat) : Int) == 58) <;> rfl
    · have e1 : decide ((s.size : Int) > (most : Int)) = true := decide_eq_true (by omega)
      simp only [h0, h1, decide_false, decide_true, cond_false, e1, cond_true, Option.bind_some, ne_eq, not_false_eq_true, Bool.false_and, Bool.and_false]
theorem Name_eq (s : ByteArray) : labels_Name s = some (namedB s 64 false) := by
  unfold labels_Name
  rw [show (64 : Int) = ((64 : Nat) : Int) from rfl, named_eq s (by omega) false]
  rfl
noncomputable def valueE (s : ByteArray) : Int := if s.size = 0 then 41 else if s.size > 256 then 4 else if validD s.data.toList then 0 else 12
theorem value_eq (s : ByteArray) : labels_value s = some (valueE s) := by
  unfold labels_value valueE
  rw [nil_size]
  by_cases h0 : s.size = 0
  · simp [h0]
  · by_cases h1 : s.size > 256
    · simp [h0, h1, show decide ((s.size : Int) > 256) = true from decide_eq_true (by omega)]
    · have e1 : decide ((s.size : Int) > 256) = false := decide_eq_false (by omega)
      simp only [h0, decide_false, cond_false, e1, valid_eq (show s.size < 4611686018427387904 by omega), Option.bind_some, if_false, h1]
      cases validD s.data.toList <;> rfl
noncomputable def oneE (x : S76) : Int := if namedB x.f0 64 false then valueE x.f1 else 40
/-- The first fault of a label set, at a place. -/
noncomputable def faultAt (l : List S76) (i : Nat) : Option (Int × Int) := match l[i]? with
  | none => none
  | some x => if oneE x ≠ 0 then some (oneE x, (i : Int)) else if i = 0 then none else match l[i - 1]? with
    | none => none
    | some y => if cmpS y.f0 x.f0 = -1 then none else some (3, (i : Int))
noncomputable def rightE (l : List S76) : Int × Int := if l.length > 16 then (8, 0) else ((List.range l.length).findSome? (faultAt l)).getD (0, 0)
theorem oneE_ne {x : S76} (h : namedB x.f0 64 false = false) : oneE x = 40 := by unfold oneE; rw [h]; rfl
theorem ix_prev {α : Type} {l : List α} {i : Nat} (h0 : 0 < i) (hi : i < 4294967296) : ix l (IntKind.wrap .i64 ((i : Int) - 1)) = l[i - 1]? := by
  rw [wrap64 (by omega) (by omega), show (i : Int) - 1 = ((i - 1 : Nat) : Int) by omega, ix_nat]
theorem Right_eq (l : List S76) : labels_Right l = some (rightE l) := by
  unfold labels_Right rightE
  by_cases hl : l.length > 16
  · simp [hl, show decide ((l.length : Int) > 16) = true from decide_eq_true (by omega)]
  · rw [show decide ((l.length : Int) > 16) = false from decide_eq_false (by omega), if_neg hl]
    simp only [cond_false]
    rw [up_find (n := l.length) (faultAt l) (fun i hi => ?_) ?_]
    · simp only [Option.bind_some]
      cases (List.range l.length).findSome? (faultAt l) <;> rfl
    · unfold labels_Right_l18
      rw [show decide ((l.length : Int) < (l.length : Int)) = false from decide_eq_false (by omega)]
      rfl
    · unfold labels_Right_l18 faultAt
      have hx : l[i]? = some l[i] := List.getElem?_eq_getElem hi
      rw [show decide ((i : Int) < (l.length : Int)) = true from decide_eq_true (by omega)]
      simp only [cond_true, ix_nat, hx, Option.bind_some, Name_eq, value_eq]
      cases hn : namedB l[i].f0 64 false with
      | false => rw [oneE_ne hn]; rfl
      | true =>
        have ho : oneE l[i] = valueE l[i].f1 := by unfold oneE; rw [hn]; rfl
        rw [ho]
        simp only [Bool.not_true, cond_false]
        by_cases hv : valueE l[i].f1 = 0
        · have e2 : (valueE l[i].f1 != 0) = false := by simp [hv]
          rw [if_neg (by simpa using hv)]
          simp only [e2, cond_false, wrap_up (show i < 4294967296 by omega)]
          by_cases hi0 : i = 0
          · subst hi0
            simp
          · have e3 : decide ((i : Int) > 0) = true := decide_eq_true (by omega)
            have hy : l[i - 1]? = some (l[i - 1]'(by omega)) := List.getElem?_eq_getElem (by omega)
            rw [if_neg hi0]
            simp only [e3, cond_true, ix_prev (show 0 < i by omega) (show i < 4294967296 by omega), hy, Option.bind_some, less_eq, beq_eq]
            have hs := cmpS_swap (l[i - 1]'(by omega)).f0 l[i].f0
            have hr := cmpS_range (l[i - 1]'(by omega)).f0 l[i].f0
            by_cases hc : cmpS (l[i - 1]'(by omega)).f0 l[i].f0 = -1
            · rw [if_pos hc]
              have : (decide (cmpS l[i].f0 (l[i - 1]'(by omega)).f0 = -1) || decide (cmpS l[i].f0 (l[i - 1]'(by omega)).f0 = 0)) = false := by
                rw [Bool.eq_false_iff]; simp only [ne_eq, Bool.or_eq_true, decide_eq_true_eq]; omega
              rw [this]; rfl
            · rw [if_neg hc]
              have : (decide (cmpS l[i].f0 (l[i - 1]'(by omega)).f0 = -1) || decide (cmpS l[i].f0 (l[i - 1]'(by omega)).f0 = 0)) = true := by
                simp only [Bool.or_eq_true, decide_eq_true_eq]; omega
              rw [this]; rfl
        · have e2 : (valueE l[i].f1 != 0) = true := by simpa using hv
          rw [if_pos hv]
          simp only [e2, cond_true]
end Go.Proofs.YtkjkkimnjpodiaaGreatDoor

/- Plain laws, base: words of bits; numbers in few bytes. -/
set_option linter.unusedVariables false
set_option linter.unusedSimpArgs false
namespace Go.GB
theorem shr_nat (k : IntKind) (a n : Nat) (hn : n ≤ k.bits) : shr k (a : Int) (n : Int) = ((a / 2 ^ n : Nat) : Int) := by
  unfold shr
  rw [Int.toNat_natCast, Nat.min_eq_left hn, Int.fdiv_eq_ediv_of_nonneg _ (by exact Int.pow_nonneg (by omega))]
  norm_cast
def uvF : Nat → Nat → List Int
  | 0, _ => []
  | f + 1, n => if n < 128 then [(n : Int)] else ((n % 128 + 128 : Nat) : Int) :: uvF f (n / 128)
/-- A number in few bytes. -/
def uv (n : Nat) : List Int := uvF 10 n
theorem uvF_len : ∀ f n : Nat, (uvF f n).length ≤ f
  | 0, _ => by simp [uvF]
  | f + 1, n => by
    unfold uvF
    split
    · simp
    · have := uvF_len f (n / 128); simp; omega
theorem uv_len (n : Nat) : (uv n).length ≤ 10 := uvF_len 10 n
theorem uv_byte : ∀ f n : Nat, ∀ x ∈ uvF f n, 0 ≤ x ∧ x < 256
  | 0, _, x, h => by simp [uvF] at h
  | f + 1, n, x, h => by
    unfold uvF at h
    split at h
    · simp at h; omega
    · rcases List.mem_cons.1 h with rfl | h
      · omega
      · exact uv_byte f _ x h
/-- A loop that lays a number's bytes. -/
theorem putu_loop {body : Int × List Int → Option ((Int × List Int) ⊕ (Int × List Int))} (h : ∀ (n : Nat) (acc : List Int), n < 18446744073709551616 → body ((n : Int), acc) = if n < 128 then some (.inr ((n : Int), acc)) else Option.bind (app acc [((n % 128 + 128 : Nat) : Int)]) fun z => some (.inl (((n / 128 : Nat) : Int), z))) :
    ∀ (f n : Nat) (acc : List Int), n < 128 ^ f → n < 18446744073709551616 → acc.length + f ≤ 2147483648 → 0 < f → ∃ (m : Nat) (acc' : List Int), m < 128 ∧ loopO body ((n : Int), acc) = some ((m : Int), acc') ∧ acc' ++ [(m : Int)] = acc ++ uvF f n ∧ acc'.length + 1 ≤ acc.length + f := by
  intro f
  induction f with
  | zero => intro n acc _ _ _ h0; omega
  | succ f ih =>
    intro n acc hn hn2 hl _
    have hb := h n acc hn2
    by_cases hlt : n < 128
    · rw [if_pos hlt] at hb
      exact ⟨n, acc, hlt, loopO_done hb, by unfold uvF; rw [if_pos hlt], by omega⟩
    · rw [if_neg hlt] at hb
      have ha : app acc [((n % 128 + 128 : Nat) : Int)] = some (acc ++ [((n % 128 + 128 : Nat) : Int)]) := by unfold app maxLen'; rw [if_pos (by simp; omega)]
      rw [ha, Option.bind_some] at hb
      have hf : 0 < f := by
        rcases Nat.eq_zero_or_pos f with rfl | h0
        · simp at hn; omega
        · exact h0
      obtain ⟨m, acc', h1, h2, h3, h4⟩ := ih (n / 128) (acc ++ [((n % 128 + 128 : Nat) : Int)]) (by rw [Nat.pow_succ] at hn; omega) (by omega) (by simp; omega) hf
      refine ⟨m, acc', h1, by rw [loopO_step hb]; exact h2, ?_, by simp at h4; omega⟩
      rw [h3]
      conv => rhs; unfold uvF
      rw [if_neg hlt]; simp
theorem app_eq {α : Type} {xs ys : List α} (h : xs.length + ys.length ≤ 2147483648) : app xs ys = some (xs ++ ys) := by unfold app maxLen'; rw [if_pos (by simpa using h)]
theorem sb_eq {s : ByteArray} (h : s.size ≤ 2147483648) : sb s = some (bytesOf s) := by unfold sb maxLen'; rw [if_pos h]
def Bytes (l : List Int) : Prop := ∀ x ∈ l, 0 ≤ x ∧ x < 256
theorem bytesOf_bytes (s : ByteArray) : Bytes (bytesOf s) := fun x hx => by
  unfold bytesOf at hx
  obtain ⟨b, _, rfl⟩ := List.mem_map.1 hx
  have := b.toNat_lt
  omega
theorem ofBytes_toList (l : List Int) : (ofBytes l).data.toList = l.map (fun n => UInt8.ofNat n.toNat) := by
  unfold ofBytes
  have key : ∀ (l : List Int) (r : ByteArray), (l.foldl (fun r n => r.push (UInt8.ofNat n.toNat)) r).data.toList = r.data.toList ++ l.map (fun n => UInt8.ofNat n.toNat) := by
    intro l
    induction l with
    | nil => intro r; simp
    | cons x l ih => intro r; rw [List.foldl_cons, ih]; simp [ByteArray.push]
  rw [key]; simp
theorem ofBytes_bytesOf (s : ByteArray) : ofBytes (bytesOf s) = s := by
  refine ba_eq ?_
  rw [ofBytes_toList]
  unfold bytesOf
  rw [List.map_map]
  conv => rhs; rw [← List.map_id s.data.toList]
  refine List.map_congr_left fun b _ => ?_
  show UInt8.ofNat ((b.toNat : Nat) : Int).toNat = b
  rw [Int.toNat_natCast, UInt8.ofNat_toNat]
theorem bytesOf_ofBytes {l : List Int} (h : Bytes l) : bytesOf (ofBytes l) = l := by
  unfold bytesOf
  rw [ofBytes_toList, List.map_map]
  conv => rhs; rw [← List.map_id l]
  refine List.map_congr_left fun x hx => ?_
  have := h x hx
  show (((UInt8.ofNat x.toNat).toNat : Nat) : Int) = x
  rw [UInt8.toNat_ofNat']
  omega
end Go.GB

/- Stable sorting: what is a stable sort of a list, and that there is one alone. -/
set_option linter.unusedVariables false
set_option linter.unusedSimpArgs false
namespace Go.GB
section
variable {α : Type}
/-- A strict weak order. -/
structure Swo (lt : α → α → Bool) : Prop where
  asymm : ∀ a b, lt a b = true → lt b a = false
  trans : ∀ a b c, lt b a = false → lt c b = false → lt c a = false
variable {lt : α → α → Bool}
theorem Swo.irrefl (h : Swo lt) (a : α) : lt a a = false := by
  cases e : lt a a with
  | false => rfl
  | true => have := h.asymm a a e; rw [e] at this; exact this
def eqv (lt : α → α → Bool) (k x : α) : Bool := !lt k x && !lt x k
theorem eqv_iff {k x : α} : eqv lt k x = true ↔ lt k x = false ∧ lt x k = false := by simp [eqv]
theorem Swo.eqv_self (h : Swo lt) (a : α) : eqv lt a a = true := by simp [eqv, h.irrefl]
def Sorted (lt : α → α → Bool) (l : List α) : Prop := l.Pairwise fun a b => lt b a = false
def FE (lt : α → α → Bool) (l m : List α) : Prop := ∀ k, l.filter (eqv lt k) = m.filter (eqv lt k)
theorem FE.refl (l : List α) : FE lt l l := fun _ => rfl
theorem FE.symm {l m : List α} (h : FE lt l m) : FE lt m l := fun k => (h k).symm
theorem FE.trans {l m n : List α} (h : FE lt l m) (h' : FE lt m n) : FE lt l n := fun k => (h k).trans (h' k)
theorem FE.append {l m l' m' : List α} (h : FE lt l m) (h' : FE lt l' m') : FE lt (l ++ l') (m ++ m') := fun k => by rw [List.filter_append, List.filter_append, h k, h' k]
theorem FE.mem (hs : Swo lt) {l m : List α} (h : FE lt l m) {x : α} (hx : x ∈ l) : x ∈ m := by
  have : x ∈ l.filter (eqv lt x) := List.mem_filter.2 ⟨hx, hs.eqv_self x⟩
  rw [h x] at this
  exact (List.mem_filter.1 this).1
/-- Two parts of which one stands all below the other change places. -/
theorem FE.swap (hs : Swo lt) {X Y : List α} (h : ∀ x ∈ X, ∀ y ∈ Y, lt y x = true) : FE lt (X ++ Y) (Y ++ X) := fun k => by
  rw [List.filter_append, List.filter_append]
  by_cases hx : X.filter (eqv lt k) = []
  · rw [hx]; simp
  · have hy : Y.filter (eqv lt k) = [] := by
      rw [List.filter_eq_nil_iff]
      intro y hy hk
      obtain ⟨x, hx'⟩ := List.exists_mem_of_ne_nil _ hx
      obtain ⟨hxX, hxk⟩ := List.mem_filter.1 hx'
      have h1 := h x hxX y hy
      have h2 := hs.trans x k y (eqv_iff.1 hxk).1 (eqv_iff.1 hk).2
      rw [h1] at h2; cases h2
    rw [hy]; simp
/-- m is l, stably sorted. -/
def StS (lt : α → α → Bool) (l m : List α) : Prop := FE lt m l ∧ Sorted lt m
theorem FE.length (hs : Swo lt) : ∀ (n : Nat) {a b : List α}, a.length = n → FE lt a b → b.length = n
  | 0, a, b, hn, h => by
    cases b with
    | nil => rfl
    | cons y b => have := h.symm.mem hs (x := y) (by simp); rw [List.length_eq_zero_iff.1 hn] at this; cases this
  | n + 1, a, b, hn, h => by
    cases a with
    | nil => cases hn
    | cons x a =>
      have hx := h.mem hs (x := x) (by simp)
      have hne : b.filter (eqv lt x) ≠ [] := fun e => by
        have : x ∈ b.filter (eqv lt x) := List.mem_filter.2 ⟨hx, hs.eqv_self x⟩
        rw [e] at this; cases this
      -- the first of x's class in b is x
      have e1 := h x
      rw [List.filter_cons_of_pos (hs.eqv_self x)] at e1
      obtain ⟨b1, b2, hb, hb1⟩ : ∃ b1 b2, b = b1 ++ x :: b2 ∧ ∀ z ∈ b1, eqv lt x z = false := by
        clear hn h hx hne
        induction b with
        | nil => cases e1
        | cons z b ih =>
          by_cases hz : eqv lt x z = true
          · rw [List.filter_cons_of_pos hz] at e1
            simp only [List.cons.injEq] at e1
            obtain ⟨rfl, _⟩ := e1
            exact ⟨[], b, rfl, fun z hz => by cases hz⟩
          · rw [List.filter_cons_of_neg hz] at e1
            obtain ⟨b1, b2, rfl, h1⟩ := ih e1
            exact ⟨z :: b1, b2, rfl, fun w hw => by
              rcases List.mem_cons.1 hw with rfl | hw
              · simpa using hz
              · exact h1 w hw⟩
      have h2 : FE lt a (b1 ++ b2) := fun k => by
        have e2 := h k
        rw [hb, List.filter_append] at e2
        rw [List.filter_append]
        by_cases hk : eqv lt k x = true
        · rw [List.filter_cons_of_pos hk, List.filter_cons_of_pos hk] at e2
          have h0 : b1.filter (eqv lt k) = [] := by
            rw [List.filter_eq_nil_iff]
            intro z hz hkz
            have h1 := hb1 z hz
            have h3 := eqv_iff.1 hk
            have h4 := eqv_iff.1 hkz
            have : eqv lt x z = true := eqv_iff.2 ⟨hs.trans z k x h4.1 h3.2, hs.trans x k z h3.1 h4.2⟩
            rw [this] at h1; cases h1
          rw [h0] at e2 ⊢
          simpa using e2
        · rw [List.filter_cons_of_neg hk, List.filter_cons_of_neg hk] at e2
          exact e2
      have := FE.length hs n (by simpa using hn) h2
      rw [hb]; simp at this ⊢; omega
end
end Go.GB

/- Stable sorting: the library's swaps, rotations and binary searches. -/
set_option linter.unusedVariables false
set_option linter.unusedSimpArgs false
namespace Go.GB
section
variable {α : Type} {cf : α → α → Int}
end
end Go.GB

/- Stable sorting: the library's insertion sort and merge. -/
set_option linter.unusedVariables false
set_option linter.unusedSimpArgs false
namespace Go.GB
section
variable {α : Type} {lt : α → α → Bool}
theorem Sorted.last {A : List α} {z : α} (h : Sorted lt (A ++ [z])) : ∀ a ∈ A, lt z a = false := fun a ha => (List.pairwise_append.1 h).2.2 a ha z (by simp)
theorem Sorted.head {B : List α} {y : α} (h : Sorted lt (y :: B)) : ∀ b ∈ B, lt b y = false := (List.pairwise_cons.1 h).1
theorem Sorted.left {A B : List α} (h : Sorted lt (A ++ B)) : Sorted lt A := (List.pairwise_append.1 h).1
theorem Sorted.right {A B : List α} (h : Sorted lt (A ++ B)) : Sorted lt B := (List.pairwise_append.1 h).2.1
theorem Sorted.append {A B : List α} (h : Sorted lt A) (h' : Sorted lt B) (hc : ∀ a ∈ A, ∀ b ∈ B, lt b a = false) : Sorted lt (A ++ B) := List.pairwise_append.2 ⟨h, h', hc⟩
theorem StS.self {A : List α} (h : Sorted lt A) : StS lt A A := ⟨FE.refl A, h⟩
end
section
variable {α : Type} {cf : α → α → Int}
end
end Go.GB

/- Stable sorting: the library's merge in place. -/
set_option linter.unusedVariables false
set_option linter.unusedSimpArgs false
namespace Go.GB
section
variable {α : Type} {cf : α → α → Int}
end
end Go.GB

/- Stable sorting: the whole of it. -/
set_option linter.unusedVariables false
set_option linter.unusedSimpArgs false
namespace Go.GB
section
variable {α : Type}
/-- Full runs of k elements, each sorted. -/
inductive Full (lt : α → α → Bool) (k : Nat) : List α → Prop
  | nil : Full lt k []
  | snoc {D x : List α} : Full lt k D → x.length = k → Sorted lt x → Full lt k (D ++ x)
/-- Runs of k elements, the last one may be shorter. -/
inductive Runs (lt : α → α → Bool) (k : Nat) : List α → Prop
  | last {x : List α} : x.length ≤ k → Sorted lt x → Runs lt k x
  | cons {x R : List α} : x.length = k → Sorted lt x → Runs lt k R → Runs lt k (x ++ R)
variable {lt : α → α → Bool} {k : Nat}
theorem Runs.sorted {R : List α} (h : Runs lt k R) (hk : R.length ≤ k) (hk0 : 0 < k) : Sorted lt R := by
  cases h with
  | last h1 h2 => exact h2
  | @cons x R h1 h2 h3 =>
    rw [List.length_append] at hk
    have : R = [] := List.length_eq_zero_iff.1 (by omega)
    rw [this, List.append_nil]; exact h2
theorem Runs.one {R : List α} (h : Runs lt k R) (h1 : k < R.length) (h2 : R.length < k + k) : ∃ x y, R = x ++ y ∧ x.length = k ∧ Sorted lt x ∧ Sorted lt y := by
  cases h with
  | last h3 h4 => omega
  | @cons x R h3 h4 h5 =>
    rw [List.length_append] at h1 h2
    exact ⟨x, R, rfl, h3, h4, h5.sorted (by omega) (by omega)⟩
end
section
variable {α : Type} {cf : α → α → Int}
end
end Go.GB

/- Plain laws of chapter 4: lists alike, lists that are gathered, label sets that are sorted. -/
set_option linter.unusedVariables false
set_option linter.unusedSimpArgs false
set_option maxRecDepth 100000
namespace Go.Proofs.YtkjkkimnjpodiaaGreatDoor
open Go.GB Go.Lib
abbrev LB := S76
/-- A loop over a list that gathers. -/
theorem fold_up {α β ρ : Type} {body : β × Int → Option ((β × Int) ⊕ ρ)} (l : List α) (f : β → α → β) (g : β → ρ) (Inv : β → Nat → Prop)
    (h : ∀ (acc : β) (i : Nat) (hi : i < l.length), Inv acc i → body (acc, (i : Int)) = some (.inl (f acc l[i], ((i + 1 : Nat) : Int))) ∧ Inv (f acc l[i]) (i + 1))
    (he : ∀ acc, Inv acc l.length → body (acc, (l.length : Int)) = some (.inr (g acc))) :
    ∀ (d i : Nat) (acc : β), l.length - i = d → i ≤ l.length → Inv acc i → loopO body (acc, (i : Int)) = some (g ((l.drop i).foldl f acc)) := by
  intro d
  induction d with
  | zero =>
    intro i acc hd hi hI
    obtain rfl : i = l.length := by omega
    rw [List.drop_length]
    exact loopO_done (he acc hI)
  | succ d ih =>
    intro i acc hd hi hI
    have hlt : i < l.length := by omega
    obtain ⟨h1, h2⟩ := h acc i hlt hI
    rw [List.drop_eq_getElem_cons hlt, List.foldl_cons, loopO_step h1]
    exact ih (i + 1) _ (by omega) (by omega) h2
theorem fold_filter {α : Type} (p : α → Bool) : ∀ (l acc : List α), l.foldl (fun acc x => bif p x then acc ++ [x] else acc) acc = acc ++ l.filter p
  | [], acc => by simp
  | x :: l, acc => by
    rw [List.foldl_cons, fold_filter p l]
    cases h : p x <;> simp [h]
/-- A loop that gathers those of a kind. -/
theorem filter_up {α ρ : Type} {body : List α × Int → Option ((List α × Int) ⊕ ρ)} (l : List α) (p : α → Bool) (g : List α → ρ) (hl : l.length ≤ 2147483648)
    (h : ∀ (acc : List α) (i : Nat) (hi : i < l.length), acc.length ≤ i → body (acc, (i : Int)) = some (.inl ((bif p l[i] then acc ++ [l[i]] else acc), ((i + 1 : Nat) : Int))))
    (he : ∀ acc, body (acc, (l.length : Int)) = some (.inr (g acc))) : loopO body ([], 0) = some (g (l.filter p)) := by
  have := fold_up (body := body) l (fun acc x => bif p x then acc ++ [x] else acc) g (fun acc i => acc.length ≤ i) (fun acc i hi hI => ⟨h acc i hi hI, by cases p l[i] <;> simp <;> omega⟩) (fun acc _ => he acc) l.length 0 [] (by omega) (by omega) (by simp)
  rw [List.drop_zero, fold_filter, List.nil_append] at this
  exact this
/-- Is there one of a kind? -/
theorem up_any {ρ : Type} {body : Int → Option (Int ⊕ (Unit ⊕ ρ))} {n : Nat} (q : Nat → Bool) (v : ρ) (h : ∀ i : Nat, i < n → body i = some (bif q i then .inr (.inr v) else .inl ((i + 1 : Nat) : Int))) (he : body n = some (.inr (.inl ()))) :
    loopO body 0 = some (bif (List.range n).any q then .inr v else .inl ()) := by
  rw [up_find (fun i => if q i then some v else none) (fun i hi => by rw [h i hi]; cases q i <;> rfl) he]
  congr 1
  cases ha : (List.range n).any q with
  | true =>
    obtain ⟨i, hi, hq⟩ := List.any_eq_true.1 ha
    cases hf : (List.range n).findSome? (fun i => if q i then some v else none) with
    | none =>
      rw [List.findSome?_eq_none_iff] at hf
      have := hf i hi
      rw [if_pos hq] at this; cases this
    | some b =>
      obtain ⟨j, _, hj⟩ := List.exists_of_findSome?_eq_some hf
      split at hj
      · cases hj; rfl
      · cases hj
  | false =>
    rw [List.any_eq_false] at ha
    have : (List.range n).findSome? (fun i => if q i then some v else none) = none := by
      rw [List.findSome?_eq_none_iff]
      intro i hi
      rw [if_neg (ha i hi)]
    rw [this]; rfl
theorem any_range {α : Type} (l : List α) (f : α → Bool) : ((List.range l.length).any fun i => (l[i]?).any f) = l.any f := by
  rw [Bool.eq_iff_iff, List.any_eq_true, List.any_eq_true]
  constructor
  · rintro ⟨i, hi, h⟩
    have hi' := List.mem_range.1 hi
    rw [List.getElem?_eq_getElem hi', Option.any_some] at h
    exact ⟨l[i], List.getElem_mem hi', h⟩
  · rintro ⟨x, hx, h⟩
    obtain ⟨i, hi, rfl⟩ := List.getElem_of_mem hx
    exact ⟨i, List.mem_range.2 hi, by rw [List.getElem?_eq_getElem hi, Option.any_some]; exact h⟩
end Go.Proofs.YtkjkkimnjpodiaaGreatDoor

/- Plain laws: what a right label set is made of. -/
set_option linter.unusedVariables false
set_option linter.unusedSimpArgs false
set_option maxRecDepth 100000
namespace Go.Proofs.YtkjkkimnjpodiaaGreatDoor
open Go.GB Go.Lib
theorem faultAt_ne {l : List S76} {i : Nat} {v : Int × Int} (h : faultAt l i = some v) : v.1 ≠ 0 := by
  unfold faultAt at h
  split at h
  · cases h
  · rename_i x _
    by_cases h1 : oneE x ≠ 0
    · rw [if_pos h1] at h; cases h; exact h1
    · rw [if_neg h1] at h
      split at h
      · cases h
      · split at h
        · cases h
        · split at h
          · cases h
          · cases h; show (3 : Int) ≠ 0; decide
theorem right_none {l : List S76} (h : (rightE l).1 = 0) : l.length ≤ 16 ∧ ∀ i, i < l.length → faultAt l i = none := by
  unfold rightE at h
  split at h
  · cases h
  · refine ⟨by omega, fun i hi => ?_⟩
    cases hf : (List.range l.length).findSome? (faultAt l) with
    | some v =>
      rw [hf] at h
      obtain ⟨j, _, hj⟩ := List.exists_of_findSome?_eq_some hf
      exact absurd h (faultAt_ne hj)
    | none => rw [List.findSome?_eq_none_iff] at hf; exact hf i (List.mem_range.2 hi)
theorem one_parts {x : S76} (h : oneE x = 0) : namedB x.f0 64 false = true ∧ x.f1.size ≠ 0 ∧ x.f1.size ≤ 256 ∧ validD x.f1.data.toList = true := by
  unfold oneE at h
  cases hn : namedB x.f0 64 false with
  | false => rw [hn] at h; cases h
  | true =>
    rw [hn] at h
    simp only [if_true] at h
    unfold valueE at h
    by_cases h0 : x.f1.size = 0
    · rw [if_pos h0] at h; cases h
    · rw [if_neg h0] at h
      by_cases h1 : x.f1.size > 256
      · rw [if_pos h1] at h; cases h
      · rw [if_neg h1] at h
        cases hv : validD x.f1.data.toList with
        | false => rw [hv] at h; cases h
        | true => exact ⟨rfl, h0, by omega, rfl⟩
theorem named_valid {s : ByteArray} {most : Nat} {c : Bool} (h : namedB s most c = true) : s.size ≤ most ∧ s.size ≠ 0 ∧ validD s.data.toList = true := by
  unfold namedB at h
  simp only [Bool.and_eq_true, decide_eq_true_eq, List.all_eq_true, Bool.not_eq_true'] at h
  obtain ⟨h0, h1, _, h2⟩ := h
  refine ⟨h1, h0, ?_⟩
  have := validD_ascii s.data.toList.length s.data.toList (fun b hb => by
    rw [List.take_length] at hb
    obtain ⟨i, hi, rfl⟩ := List.getElem_of_mem hb
    have h3 := h2 i (List.mem_range.2 (by rw [← size_list]; exact hi))
    have e : bat s i = (s.data.toList[i]).toNat := by
      unfold bat
      rw [List.getD_eq_getElem?_getD, List.getElem?_eq_getElem hi]; rfl
    rw [e] at h3
    unfold labels_letter labels_digit at h3
    simp only [Bool.or_eq_true, Bool.and_eq_true, decide_eq_true_eq, beq_iff_eq] at h3
    omega)
  rw [this, List.drop_length]
  rfl
theorem right_parts {l : List S76} (h : (rightE l).1 = 0) : l.length ≤ 16 ∧ ∀ x ∈ l, oneE x = 0 := by
  obtain ⟨h1, h2⟩ := right_none h
  refine ⟨h1, fun x hx => ?_⟩
  obtain ⟨i, hi, rfl⟩ := List.getElem_of_mem hx
  have := h2 i hi
  unfold faultAt at this
  rw [List.getElem?_eq_getElem hi] at this
  simp only at this
  by_cases h0 : oneE l[i] ≠ 0
  · rw [if_pos h0] at this; cases this
  · simpa using h0
end Go.Proofs.YtkjkkimnjpodiaaGreatDoor

/- Plain laws: labels whose names are among some: Keep, Without, Pick. -/
set_option linter.unusedVariables false
set_option linter.unusedSimpArgs false
set_option maxRecDepth 100000
namespace Go.Proofs.YtkjkkimnjpodiaaGreatDoor
open Go.GB Go.Lib
theorem right_eq (l : List LB) : labels_right l = some (rightE l).1 := by unfold labels_right; rw [Right_eq]; rfl
/-- The labels whose names are, are not, among some. -/
def hasB (names : List ByteArray) (s : ByteArray) : Bool := names.any fun x => (x.toList == s.toList)
theorem Contains_eq (names : List ByteArray) (s : ByteArray) (hn : names.length < 2147483648) : slices_Contains names s = some (hasB names s) := by
  unfold slices_Contains slices_Index hasB
  rw [up_find (n := names.length) (fun j => match names[j]? with | some y => if (s.toList == y.toList) = true then some (j : Int) else none | none => none) (fun j hj => ?_) ?_]
  · simp only [Option.bind_some]
    cases hf : (List.range names.length).findSome? (fun j => match names[j]? with | some y => if (s.toList == y.toList) = true then some (j : Int) else none | none => none) with
    | none =>
      rw [List.findSome?_eq_none_iff] at hf
      rw [show (names.any fun x => (x.toList == s.toList)) = false from by
        rw [List.any_eq_false]
        intro x hx
        obtain ⟨j, hj, rfl⟩ := List.getElem_of_mem hx
        have := hf j (List.mem_range.2 hj)
        rw [List.getElem?_eq_getElem hj] at this
        simp only at this
        split at this
        · cases this
        · rename_i h; intro e; exact h (toList_inj.2 (toList_inj.1 e).symm)]
      rfl
    | some b =>
      obtain ⟨j, hj, hjb⟩ := List.exists_of_findSome?_eq_some hf
      have hj' := List.mem_range.1 hj
      rw [List.getElem?_eq_getElem hj'] at hjb
      simp only at hjb
      split at hjb <;> try (cases hjb; done)
      rename_i h
      simp only [Option.some.injEq] at hjb
      subst hjb
      rw [show (names.any fun x => (x.toList == s.toList)) = true from List.any_eq_true.2 ⟨names[j], List.getElem_mem hj', toList_inj.2 (toList_inj.1 h).symm⟩]
      simp
  · unfold slices_Index_l17
    rw [show decide ((names.length : Int) < (names.length : Int)) = false from decide_eq_false (by omega)]; rfl
  · unfold slices_Index_l17
    rw [show decide ((j : Int) < (names.length : Int)) = true from decide_eq_true (by omega)]
    simp only [cond_true, ix_nat, List.getElem?_eq_getElem hj, Option.bind_some, wrap_up (show j < 4294967296 by omega)]
    cases (s.toList == names[j].toList) <;> rfl
theorem pick_eq (l : List LB) (b : Bool) (names : List ByteArray) (hl : l.length < 2147483648) (hn : names.length < 2147483648) : labels_pick l b names = some (l.filter fun x => (hasB names x.f0 == b)) := by
  unfold labels_pick
  rw [filter_up l (fun x => (hasB names x.f0 == b)) id (by omega) (fun acc i hi ha => ?_) (fun acc => ?_)]
  · rfl
  · unfold labels_pick_l28
    rw [show decide ((i : Int) < (l.length : Int)) = true from decide_eq_true (by omega)]
    simp only [cond_true, ix_nat, List.getElem?_eq_getElem hi, Option.bind_some, wrap_up (show i < 4294967296 by omega), Contains_eq names _ hn]
    rw [app_eq (by simp; omega)]
    cases (hasB names l[i].f0 == b) <;> rfl
  · unfold labels_pick_l28
    rw [show decide ((l.length : Int) < (l.length : Int)) = false from decide_eq_false (by omega)]; rfl
/-- What Keep and Without answer. -/
noncomputable def keepE (l : List LB) (names : List ByteArray) (b : Bool) : List LB × Int := bif (rightE l).1 != 0 then ([], (rightE l).1) else (l.filter fun x => (hasB names x.f0 == b), 0)
theorem Without_eq (l : List LB) (names : List ByteArray) (hl : l.length < 2147483640) (hn : names.length < 2147483640) : labels_Without l names = some (keepE l names false) := by
  unfold labels_Without keepE
  simp only [right_eq, Option.bind_some, pick_eq l false names (by omega) (by omega)]
  cases (rightE l).1 != 0 <;> rfl
theorem Keep_eq (l : List LB) (names : List ByteArray) (hl : l.length < 2147483640) (hn : names.length < 2147483640) : labels_Keep l names = some (keepE l names true) := by
  unfold labels_Keep keepE
  simp only [right_eq, Option.bind_some, pick_eq l true names (by omega) (by omega)]
  cases (rightE l).1 != 0 <;> rfl
theorem keepE_right {l : List LB} (h : (rightE l).1 = 0) (names : List ByteArray) (b : Bool) : keepE l names b = (l.filter fun x => (hasB names x.f0 == b), 0) := by
  unfold keepE
  rw [h]; rfl
end Go.Proofs.YtkjkkimnjpodiaaGreatDoor

/- Plain laws: label sets compared. -/
set_option linter.unusedVariables false
set_option linter.unusedSimpArgs false
set_option maxRecDepth 100000
namespace Go.Proofs.YtkjkkimnjpodiaaGreatDoor
open Go.GB Go.Lib
def cmpX (x y : S76) : Int := if cmpS x.f0 y.f0 ≠ 0 then cmpS x.f0 y.f0 else cmpS x.f1 y.f1
def cmpL : List S76 → List S76 → Int
  | [], [] => 0
  | [], _ :: _ => -1
  | _ :: _, [] => 1
  | x :: xs, y :: ys => if cmpX x y ≠ 0 then cmpX x y else cmpL xs ys
theorem strCmp_eq (a b : ByteArray) : strings_Compare a b = cmpS a b := rfl
theorem side_eq (a b : ByteArray) : tocsinref04_side a b = cmpS a b := by
  unfold tocsinref04_side
  rw [less_eq, beq_eq]
  rcases cmpS_range a b with h | h | h <;> rw [h] <;> rfl
theorem cmp1_eq (x y : S76) : labels_Compare_1 x y = cmpX x y := by
  unfold labels_Compare_1 cmpX
  rw [strCmp_eq, strCmp_eq]
  by_cases h : cmpS x.f0 y.f0 = 0
  · rw [if_neg (by simpa using h), show (cmpS x.f0 y.f0 != 0) = false by simp [h]]; rfl
  · rw [if_pos h, show (cmpS x.f0 y.f0 != 0) = true by simpa using h]; rfl
theorem cmpX_range (x y : S76) : cmpX x y = -1 ∨ cmpX x y = 0 ∨ cmpX x y = 1 := by unfold cmpX; split <;> exact cmpS_range _ _
theorem cmpX_self (x : S76) : cmpX x x = 0 := by unfold cmpX; rw [cmpS_self, cmpS_self]; rfl
theorem cmpX_swap (x y : S76) : cmpX y x = - cmpX x y := by
  unfold cmpX
  rw [cmpS_swap x.f0 y.f0, cmpS_swap x.f1 y.f1]
  by_cases h : cmpS x.f0 y.f0 = 0
  · rw [if_neg (by simp [h]), if_neg (by simp [h])]
  · rw [if_pos (by simp [h]), if_pos h]
theorem cmpX_zero {x y : S76} (h : cmpX x y = 0) : x = y := by
  unfold cmpX at h
  obtain ⟨x0, x1⟩ := x
  obtain ⟨y0, y1⟩ := y
  by_cases h1 : cmpS x0 y0 = 0
  · rw [if_neg (by simpa using h1)] at h
    have e1 : x0 = y0 := cmpS_zero h1
    have e2 : x1 = y1 := cmpS_zero h
    rw [e1, e2]
  · rw [if_pos h1] at h; exact absurd h h1
theorem cmpX_trans {x y z : S76} (h : cmpX x y = -1) (k : cmpX y z = -1) : cmpX x z = -1 := by
  unfold cmpX at h k ⊢
  by_cases h1 : cmpS x.f0 y.f0 = 0
  · rw [if_neg (by simpa using h1)] at h
    have e := cmpS_zero h1
    rw [e]
    by_cases h2 : cmpS y.f0 z.f0 = 0
    · rw [if_neg (by simpa using h2)] at k ⊢
      exact cmpS_trans h k
    · rw [if_pos h2] at k ⊢; exact k
  · rw [if_pos h1] at h
    by_cases h2 : cmpS y.f0 z.f0 = 0
    · have e := cmpS_zero h2
      rw [← e, if_pos h1]; exact h
    · rw [if_pos h2] at k
      have := cmpS_trans h k
      rw [if_pos (by omega)]; exact this
theorem cmpL_range : ∀ a b : List S76, cmpL a b = -1 ∨ cmpL a b = 0 ∨ cmpL a b = 1
  | [], [] => by simp [cmpL]
  | [], _ :: _ => by simp [cmpL]
  | _ :: _, [] => by simp [cmpL]
  | x :: xs, y :: ys => by
    unfold cmpL
    split
    · exact cmpX_range _ _
    · exact cmpL_range xs ys
theorem cmpL_self : ∀ a : List S76, cmpL a a = 0
  | [] => rfl
  | x :: xs => by unfold cmpL; rw [if_neg (by simp [cmpX_self])]; exact cmpL_self xs
theorem cmpL_swap : ∀ a b : List S76, cmpL b a = - cmpL a b
  | [], [] => rfl
  | [], _ :: _ => rfl
  | _ :: _, [] => rfl
  | x :: xs, y :: ys => by
    unfold cmpL
    rw [cmpX_swap x y]
    by_cases h : cmpX x y = 0
    · rw [if_neg (by simp [h]), if_neg (by simp [h])]; exact cmpL_swap xs ys
    · rw [if_pos (by simp [h]), if_pos h]
theorem cmpL_zero : ∀ {a b : List S76}, cmpL a b = 0 → a = b
  | [], [], _ => rfl
  | [], _ :: _, h => by simp [cmpL] at h
  | _ :: _, [], h => by simp [cmpL] at h
  | x :: xs, y :: ys, h => by
    unfold cmpL at h
    by_cases h1 : cmpX x y = 0
    · rw [if_neg (by simpa using h1)] at h
      rw [cmpX_zero h1, cmpL_zero h]
    · rw [if_pos h1] at h; exact absurd h h1
theorem cmpL_trans : ∀ {a b c : List S76}, cmpL a b = -1 → cmpL b c = -1 → cmpL a c = -1
  | [], [], _, h, _ => by simp [cmpL] at h
  | [], _ :: _, [], _, h => by simp [cmpL] at h
  | [], _ :: _, _ :: _, _, _ => rfl
  | _ :: _, [], _, h, _ => by simp [cmpL] at h
  | _ :: _, _ :: _, [], _, h => by simp [cmpL] at h
  | x :: xs, y :: ys, z :: zs, h, k => by
    unfold cmpL at h k ⊢
    by_cases h1 : cmpX x y = 0
    · have e := cmpX_zero h1
      rw [if_neg (by simpa using h1)] at h
      rw [e]
      by_cases h2 : cmpX y z = 0
      · rw [if_neg (by simpa using h2)] at k ⊢
        exact cmpL_trans h k
      · rw [if_pos h2] at k ⊢; exact k
    · rw [if_pos h1] at h
      by_cases h2 : cmpX y z = 0
      · rw [← cmpX_zero h2, if_pos h1]; exact h
      · rw [if_pos h2] at k
        have := cmpX_trans h k
        rw [if_pos (by omega)]; exact this
/-- What a loop over both finds. -/
theorem compare_eq (a b : List S76) (ha : a.length ≤ 2147483648) : labels_Compare a b = some (cmpL a b) := by
  unfold labels_Compare slices_CompareFunc
  have key : ∀ d i : Nat, a.length - i = d → i ≤ a.length → i ≤ b.length →
      (Option.bind (loopO (slices_CompareFunc_l17 a b (fun x0 x1 => some (labels_Compare_1 x0 x1))) (i : Int)) fun (r5 : (Unit) ⊕ (Int)) =>
        match r5 with
        | Sum.inl r13 => bif (decide ((a.length : Int) < (b.length : Int))) then (some (-1)) else (some 0)
        | Sum.inr v43 => some v43) = some (cmpL (a.drop i) (b.drop i)) := by
    intro d
    induction d with
    | zero =>
      intro i hd hia hib
      have hi : i = a.length := by omega
      subst hi
      rw [loopO_done (r := .inl ()) (by
        unfold slices_CompareFunc_l17
        rw [show decide ((a.length : Int) < (a.length : Int)) = false from decide_eq_false (by omega)]; rfl)]
      rw [List.drop_length]
      by_cases hlt : a.length < b.length
      · rw [List.drop_eq_getElem_cons hlt]
        simp [hlt, cmpL]
      · rw [List.drop_eq_nil_of_le (by omega)]
        simp [hlt, cmpL]
    | succ d ih =>
      intro i hd hia hib
      have hlt : i < a.length := by omega
      have hx : ix a (i : Int) = some a[i] := by rw [ix_nat, List.getElem?_eq_getElem hlt]
      rw [List.drop_eq_getElem_cons hlt]
      by_cases hb : i < b.length
      · have hy : ix b (i : Int) = some b[i] := by rw [ix_nat, List.getElem?_eq_getElem hb]
        rw [List.drop_eq_getElem_cons hb]
        unfold cmpL
        have hbody : slices_CompareFunc_l17 a b (fun x0 x1 => some (labels_Compare_1 x0 x1)) (i : Int) = some (if cmpX a[i] b[i] ≠ 0 then .inr (.inr (cmpX a[i] b[i])) else .inl ((i + 1 : Nat) : Int)) := by
          unfold slices_CompareFunc_l17
          rw [show decide ((i : Int) < (a.length : Int)) = true from decide_eq_true (by omega), show decide ((i : Int) ≥ (b.length : Int)) = false from decide_eq_false (by omega)]
          simp only [cond_true, hx, hy, Option.bind_some, cond_false, cmp1_eq, wrap_up (show i < 4294967296 by omega)]
          by_cases h : cmpX a[i] b[i] = 0
          · simp [h]
          · rw [if_pos h, show (cmpX a[i] b[i] != 0) = true by simpa using h]; rfl
        by_cases h : cmpX a[i] b[i] = 0
        · rw [if_neg (by simpa using h)] at hbody ⊢
          rw [loopO_step hbody]
          exact ih (i + 1) (by omega) (by omega) (by omega)
        · rw [if_pos h] at hbody ⊢
          rw [loopO_done hbody]; rfl
      · rw [List.drop_eq_nil_of_le (show b.length ≤ i by omega)]
        have hbody : slices_CompareFunc_l17 a b (fun x0 x1 => some (labels_Compare_1 x0 x1)) (i : Int) = some (.inr (.inr 1)) := by
          unfold slices_CompareFunc_l17
          rw [show decide ((i : Int) < (a.length : Int)) = true from decide_eq_true (by omega), show decide ((i : Int) ≥ (b.length : Int)) = true from decide_eq_true (by omega)]
          simp only [cond_true, hx, Option.bind_some]
        rw [loopO_done hbody]; rfl
  have := key a.length 0 (by omega) (by omega) (by omega)
  rw [show ((0 : Nat) : Int) = 0 from rfl] at this
  exact (congrArg (fun X => Option.bind X (fun (y1 : Int) => some y1)) this).trans rfl
theorem refCompare_eq (a b : List S76) (ha : a.length ≤ 2147483648) : tocsinref04_Compare a b = some (cmpL a b) := by
  unfold tocsinref04_Compare
  have key : ∀ d i : Nat, a.length - i = d → i ≤ a.length → i ≤ b.length →
      (Option.bind (loopO (tocsinref04_Compare_l17 a b) (i : Int)) fun (r5 : (Unit) ⊕ (Int)) =>
        match r5 with
        | Sum.inl r13 => bif (decide ((a.length : Int) < (b.length : Int))) then (some (-1)) else (bif (decide ((a.length : Int) > (b.length : Int))) then (some 1) else (some 0))
        | Sum.inr v62 => some v62) = some (cmpL (a.drop i) (b.drop i)) := by
    intro d
    induction d with
    | zero =>
      intro i hd hia hib
      have hi : i = a.length := by omega
      subst hi
      rw [loopO_done (r := .inl ()) (by
        unfold tocsinref04_Compare_l17
        rw [show decide ((a.length : Int) < (a.length : Int)) = false from decide_eq_false (by omega)]; rfl)]
      rw [List.drop_length]
      by_cases hlt : a.length < b.length
      · rw [List.drop_eq_getElem_cons hlt]
        simp [hlt, cmpL]
      · rw [List.drop_eq_nil_of_le (by omega)]
        have h2 : ¬ b.length < a.length := by omega
        simp [hlt, h2, cmpL]
    | succ d ih =>
      intro i hd hia hib
      have hlt : i < a.length := by omega
      have hx : ix a (i : Int) = some a[i] := by rw [ix_nat, List.getElem?_eq_getElem hlt]
      rw [List.drop_eq_getElem_cons hlt]
      by_cases hb : i < b.length
      · have hy : ix b (i : Int) = some b[i] := by rw [ix_nat, List.getElem?_eq_getElem hb]
        rw [List.drop_eq_getElem_cons hb]
        unfold cmpL
        have hbody : tocsinref04_Compare_l17 a b (i : Int) = some (if cmpX a[i] b[i] ≠ 0 then .inr (.inr (cmpX a[i] b[i])) else .inl ((i + 1 : Nat) : Int)) := by
          unfold tocsinref04_Compare_l17
          rw [show decide ((i : Int) < (a.length : Int)) = true from decide_eq_true (by omega), show decide ((i : Int) < (b.length : Int)) = true from decide_eq_true (by omega)]
          simp only [Bool.and_self, cond_true, hx, hy, Option.bind_some, side_eq, wrap_up (show i < 4294967296 by omega)]
          unfold cmpX
          by_cases h : cmpS a[i].f0 b[i].f0 = 0
          · have h' : ¬ (cmpS a[i].f0 b[i].f0 ≠ 0) := by simpa using h
            simp only [if_neg h', show (cmpS a[i].f0 b[i].f0 != 0) = false by simp [h], cond_false]
            by_cases h2 : cmpS a[i].f1 b[i].f1 = 0
            · simp [h2]
            · rw [if_pos h2, show (cmpS a[i].f1 b[i].f1 != 0) = true by simpa using h2]; rfl
          · have h' : cmpS a[i].f0 b[i].f0 ≠ 0 := h
            simp only [if_pos h', show (cmpS a[i].f0 b[i].f0 != 0) = true by simpa using h, cond_true]
        by_cases h : cmpX a[i] b[i] = 0
        · rw [if_neg (by simpa using h)] at hbody ⊢
          rw [loopO_step hbody]
          exact ih (i + 1) (by omega) (by omega) (by omega)
        · rw [if_pos h] at hbody ⊢
          rw [loopO_done hbody]; rfl
      · rw [List.drop_eq_nil_of_le (show b.length ≤ i by omega)]
        have hbody : tocsinref04_Compare_l17 a b (i : Int) = some (.inr (.inl ())) := by
          unfold tocsinref04_Compare_l17
          rw [show decide ((i : Int) < (a.length : Int)) = true from decide_eq_true (by omega), show decide ((i : Int) < (b.length : Int)) = false from decide_eq_false (by omega)]
          rfl
        rw [loopO_done hbody]
        have h1 : ¬ a.length < b.length := by omega
        have h2 : b.length < a.length := by omega
        simp [h1, h2, cmpL]
  have := key a.length 0 (by omega) (by omega) (by omega)
  rw [show ((0 : Nat) : Int) = 0 from rfl] at this
  exact this
theorem refSame_eq (a b : List S76) (ha : a.length ≤ 2147483648) : tocsinref04_Same a b = some (decide (cmpL a b = 0)) := by
  unfold tocsinref04_Same
  rw [refCompare_eq a b ha]
  rfl
end Go.Proofs.YtkjkkimnjpodiaaGreatDoor

/- Plain laws: Vector: points, rising, each label set once. -/
set_option linter.unusedVariables false
set_option linter.unusedSimpArgs false
set_option maxRecDepth 100000
namespace Go.Proofs.YtkjkkimnjpodiaaGreatDoor
open Go.GB Go.Lib
abbrev PT := S38
def cmpP (x y : PT) : Int := cmpL x.f0 y.f0
theorem cmpP_self (x : PT) : cmpP x x = 0 := cmpL_self _
theorem cmpP_swap (x y : PT) : cmpP y x = - cmpP x y := cmpL_swap _ _
theorem cmpP_range (x y : PT) : cmpP x y = -1 ∨ cmpP x y = 0 ∨ cmpP x y = 1 := cmpL_range _ _
theorem cmpP_zero {x y : PT} (h : cmpP x y = 0) : x.f0 = y.f0 := cmpL_zero h
theorem cmpP_neg {x y : PT} : cmpP x y < 0 ↔ cmpP x y = -1 := ⟨fun h => by rcases cmpP_range x y with e | e | e <;> omega, fun h => by omega⟩
theorem cmpP_trans {x y z : PT} (h : cmpP x y < 0) (k : cmpP y z < 0) : cmpP x z < 0 := cmpP_neg.2 (cmpL_trans (cmpP_neg.1 h) (cmpP_neg.1 k))
theorem cmpP_ntrans {x y z : PT} (h : ¬ cmpP x y < 0) (k : ¬ cmpP y z < 0) : ¬ cmpP x z < 0 := fun e => by
  have h1 := cmpP_swap x y
  rcases cmpP_range y x with q | q | q
  · exact k (cmpP_trans (by omega) e)
  · have : y.f0 = x.f0 := cmpP_zero q
    apply k
    unfold cmpP at e ⊢
    rw [this]; exact e
  · omega
theorem swoP : Go.Sort.SWO (fun x y : PT => decide (cmpP x y < 0)) :=
  ⟨fun x => by simp [cmpP_self], fun x y z h k => by simp only [decide_eq_true_eq] at *; exact cmpP_trans h k, fun x y z h k => by simp only [decide_eq_false_iff_not] at *; exact cmpP_ntrans h k⟩
/-- No label set twice. -/
def DistP (l : List PT) : Prop := l.Pairwise fun x y => x.f0 ≠ y.f0
def RiseP (l : List PT) : Prop := l.Pairwise fun x y => cmpP x y < 0
theorem DistP.perm {l m : List PT} (h : DistP l) (p : l.Perm m) : DistP m := p.pairwise h (fun hab => Ne.symm hab)
theorem DistP.eq {l : List PT} (h : DistP l) {x y : PT} (hx : x ∈ l) (hy : y ∈ l) (e : x.f0 = y.f0) : x = y := by
  induction l with
  | nil => cases hx
  | cons z l ih =>
    obtain ⟨h1, h2⟩ := List.pairwise_cons.1 h
    rcases List.mem_cons.1 hx with rfl | hx1
    · rcases List.mem_cons.1 hy with rfl | hy1
      · rfl
      · exact absurd e (h1 y hy1)
    · rcases List.mem_cons.1 hy with rfl | hy1
      · exact absurd e.symm (h1 x hx1)
      · exact ih h2 hx1 hy1
theorem RiseP.dist {l : List PT} (h : RiseP l) : DistP l := h.imp fun {a b} hab e => by
  unfold cmpP at hab
  rw [e, cmpL_self] at hab; omega
noncomputable def vsort (l : List PT) : List PT := l.mergeSort (fun x y => !(decide (cmpP y x < 0)))
theorem vsort_perm (l : List PT) : (vsort l).Perm l := List.mergeSort_perm _ _
theorem vsort_sorted (l : List PT) : (vsort l).Pairwise fun x y => ¬ cmpP y x < 0 := by
  refine (List.pairwise_mergeSort (le := fun x y => !(decide (cmpP y x < 0))) ?_ ?_ l).imp (fun h => by simpa using h)
  · intro a b c h1 h2
    simp only [Bool.not_eq_true', decide_eq_false_iff_not] at h1 h2 ⊢
    exact cmpP_ntrans h2 h1
  · intro a b
    simp only [Bool.or_eq_true, Bool.not_eq_true', decide_eq_false_iff_not]
    have := cmpP_swap a b
    omega
theorem vsort_len (l : List PT) : (vsort l).length = l.length := (vsort_perm l).length_eq
theorem sorted_dist {l : List PT} (h : l.Pairwise fun x y => ¬ cmpP y x < 0) (hd : DistP l) : RiseP l := by
  refine (h.and hd).imp fun {a b} ⟨h1, h2⟩ => ?_
  have := cmpP_swap a b
  rcases cmpP_range a b with e | e | e
  · omega
  · exact absurd (cmpP_zero e) h2
  · omega
theorem vsort_rise {l : List PT} (h : DistP l) : RiseP (vsort l) := sorted_dist (vsort_sorted l) (h.perm (vsort_perm l).symm)
theorem sorted_unique {l r r' : List PT} (hd : DistP l) (p : r.Perm l) (p' : r'.Perm l) (h : r.Pairwise fun x y => ¬ cmpP y x < 0) (h' : r'.Pairwise fun x y => ¬ cmpP y x < 0) : r = r' := by
  refine (p.trans p'.symm).eq_of_pairwise (le := fun x y => ¬ cmpP y x < 0) (fun a b ha hb q1 q2 => ?_) h h'
  refine hd.eq (p.mem_iff.1 ha) (p'.mem_iff.1 hb) (cmpP_zero ?_)
  have := cmpP_swap a b
  omega
theorem rise_unique {r r' : List PT} (p : r.Perm r') (h : RiseP r) (h' : RiseP r') : r = r' :=
  sorted_unique (l := r') h'.dist p (.refl _) (h.imp fun {a b} q => by have := cmpP_swap a b; omega) (h'.imp fun {a b} q => by have := cmpP_swap a b; omega)
theorem adj_rise : ∀ {l : List PT}, (∀ i, (h : i + 1 < l.length) → cmpP l[i] l[i + 1] < 0) → RiseP l
  | [], _ => .nil
  | [x], _ => List.pairwise_singleton _ _
  | x :: y :: l, h => by
    have h2 : RiseP (y :: l) := adj_rise fun i hi => h (i + 1) (by simpa using hi)
    refine List.pairwise_cons.2 ⟨fun z hz => ?_, h2⟩
    have h0 := h 0 (by simp)
    simp only [List.getElem_cons_zero, Nat.zero_add, List.getElem_cons_succ] at h0
    rcases List.mem_cons.1 hz with rfl | hz1
    · exact h0
    · exact cmpP_trans h0 ((List.pairwise_cons.1 h2).1 z hz1)
/-- A loop that goes up from one. -/
theorem up_one {ρ : Type} {body : Int → Option (Int ⊕ (Unit ⊕ ρ))} {n : Nat} (q : Nat → Bool) (v : ρ) (h : ∀ i : Nat, 1 ≤ i → i < n → body i = some (bif q i then .inr (.inr v) else .inl ((i + 1 : Nat) : Int))) (he : ∀ i : Nat, 1 ≤ i → n ≤ i → body i = some (.inr (.inl ()))) :
    ((∀ i, 1 ≤ i → i < n → q i = false) → loopO body 1 = some (.inl ())) ∧ ((∃ i, 1 ≤ i ∧ i < n ∧ q i = true) → loopO body 1 = some (.inr v)) := by
  have key : ∀ d i : Nat, n - i = d → 1 ≤ i → ((∀ j, i ≤ j → j < n → q j = false) → loopO body (i : Int) = some (.inl ())) ∧ ((∃ j, i ≤ j ∧ j < n ∧ q j = true) → loopO body (i : Int) = some (.inr v)) := by
    intro d
    induction d with
    | zero => exact fun i hd hi => ⟨fun _ => loopO_done (he i hi (by omega)), fun ⟨j, h1, h2, _⟩ => by omega⟩
    | succ d ih =>
      intro i hd hi
      have hb := h i hi (by omega)
      cases hq : q i with
      | true =>
        rw [hq] at hb
        exact ⟨fun hall => (by have := hall i (Nat.le_refl _) (by omega); rw [hq] at this; cases this), fun _ => loopO_done hb⟩
      | false =>
        rw [hq] at hb
        obtain ⟨h1, h2⟩ := ih (i + 1) (by omega) (by omega)
        rw [loopO_step hb]
        refine ⟨fun hall => h1 fun j hj hn => hall j (by omega) hn, fun ⟨j, hj, hn, hqj⟩ => h2 ⟨j, ?_, hn, hqj⟩⟩
        rcases Nat.lt_or_ge i j with hlt | hge
        · omega
        · obtain rfl : j = i := by omega
          rw [hq] at hqj; cases hqj
  exact key (n - 1) 1 rfl (Nat.le_refl _)
open Classical in
/-- What Vector answers. -/
noncomputable def vecE (l : List PT) : List PT × Int := if l.length > 1000 then ([], 7) else if (l.any fun p => (rightE p.f0).1 != 0) = true then ([], 41) else if DistP l then (vsort l, 0) else ([], 150)
theorem all_right {l : List PT} (h : ¬ (l.any fun p => (rightE p.f0).1 != 0) = true) : ∀ p ∈ l, (rightE p.f0).1 = 0 := fun p hp => by
  rw [List.any_eq_true] at h
  exact Decidable.byContradiction fun hn => h ⟨p, hp, by simpa using hn⟩
theorem Vector_eq (l : List PT) : vec_Vector l = some (vecE l) := by
  unfold vec_Vector vecE
  by_cases hlen : l.length > 1000
  · rw [if_pos hlen, show decide ((l.length : Int) > 1000) = true from decide_eq_true (by omega)]; rfl
  rw [if_neg hlen, show decide ((l.length : Int) > 1000) = false from decide_eq_false (by omega)]
  simp only [cond_false]
  rw [up_any (n := l.length) (fun j => (l[j]?).any fun p => (rightE p.f0).1 != 0) (([], 41) : List PT × Int) (fun j hj => ?_) ?_, any_range]
  rotate_left
  · unfold vec_Vector_l18
    rw [show decide ((l.length : Int) < (l.length : Int)) = false from decide_eq_false (by omega)]; rfl
  · unfold vec_Vector_l18
    rw [show decide ((j : Int) < (l.length : Int)) = true from decide_eq_true (by omega)]
    simp only [cond_true, ix_nat, List.getElem?_eq_getElem hj, Option.bind_some, wrap_up (show j < 4294967296 by omega), Right_eq, Option.any_some]
    cases (rightE l[j].f0).1 != 0 <;> rfl
  by_cases hr : (l.any fun p => (rightE p.f0).1 != 0) = true
  · rw [if_pos hr, hr]; rfl
  rw [if_neg hr, show (l.any fun p => (rightE p.f0).1 != 0) = false by simpa using hr]
  have hall := all_right hr
  simp only [cond_false, Option.bind_some]
  rw [filter_up l (fun _ => true) id (by omega) (fun acc i hi ha => ?_) (fun acc => ?_)]
  rotate_left
  · unfold vec_Vector_l65
    have h16 := (right_parts (hall l[i] (List.getElem_mem hi))).1
    rw [show decide ((i : Int) < (l.length : Int)) = true from decide_eq_true (by omega)]
    simp only [cond_true, ix_nat, List.getElem?_eq_getElem hi, Option.bind_some, wrap_up (show i < 4294967296 by omega)]
    unfold slices_Clone
    rw [app_eq (by simp; omega)]
    simp only [Option.bind_some, List.nil_append]
    rw [app_eq (by simp; omega)]
    rfl
  · unfold vec_Vector_l65
    rw [show decide ((l.length : Int) < (l.length : Int)) = false from decide_eq_false (by omega)]; rfl
  rw [show l.filter (fun _ => true) = l from List.filter_eq_self.2 fun _ _ => rfl]
  simp only [Option.bind_some, id]
  have hcmp : ∀ x ∈ l, ∀ y : PT, vec_Vector_1 x y = some (cmpP x y) := fun x hx y => by
    have := (right_parts (hall x hx)).1
    unfold vec_Vector_1
    rw [compare_eq _ _ (by omega)]; rfl
  refine sortBind_of ⟨cmpP, fun x hx y _ => hcmp x hx y, swoP⟩ fun r hrel => ?_
  have hp := hrel.1
  have hs := hrel.2 cmpP fun x hx y _ => hcmp x hx y
  have hrl := hp.length_eq
  obtain ⟨g1, g2⟩ := up_one (body := vec_Vector_l131 r) (n := r.length) (fun i => match r[i - 1]?, r[i]? with | some x, some y => cmpP x y == 0 | _, _ => false) (([], 150) : List PT × Int) (fun i h1 hi => by
      unfold vec_Vector_l131
      rw [show decide ((i : Int) < (r.length : Int)) = true from decide_eq_true (by omega)]
      have hx := hcmp r[i - 1] (hp.mem_iff.1 (List.getElem_mem (by omega))) r[i]
      unfold vec_Vector_1 at hx
      simp only [cond_true, ix_prev (show 0 < i by omega) (show i < 4294967296 by omega), ix_nat, List.getElem?_eq_getElem hi, List.getElem?_eq_getElem (show i - 1 < r.length by omega), Option.bind_some, wrap_up (show i < 4294967296 by omega)]
      rw [compare_eq _ _ (by have := (right_parts (hall r[i - 1] (hp.mem_iff.1 (List.getElem_mem (by omega))))).1; omega)]
      simp only [Option.bind_some]
      show _ = some (bif cmpL r[i - 1].f0 r[i].f0 == 0 then _ else _)
      cases cmpL r[i - 1].f0 r[i].f0 == 0 <;> rfl)
    (fun i h1 hi => by
      unfold vec_Vector_l131
      rw [show decide ((i : Int) < (r.length : Int)) = false from decide_eq_false (by omega)]; rfl)
  by_cases hd : DistP l
  · rw [if_pos hd, g1 fun i h1 hi => ?_]
    · rw [sorted_unique hd hp (vsort_perm l) hs (vsort_sorted l)]; rfl
    · have hdr := hd.perm hp.symm
      have hri := sorted_dist hs hdr
      have := List.pairwise_iff_getElem.1 hri (i - 1) i (by omega) hi (by omega)
      simp only [List.getElem?_eq_getElem hi, List.getElem?_eq_getElem (show i - 1 < r.length by omega)]
      simp; omega
  · rw [if_neg hd, g2 ?_]
    · rfl
    · refine Classical.byContradiction fun hn => hd (DistP.perm (RiseP.dist (adj_rise (l := r) fun i hi => ?_)) hp)
      have hnot := List.pairwise_iff_getElem.1 hs i (i + 1) (by omega) hi (by omega)
      have hsw := cmpP_swap r[i] r[i + 1]
      rcases cmpP_range r[i] r[i + 1] with e | e | e
      · omega
      · refine absurd ⟨i + 1, by omega, hi, ?_⟩ hn
        simp only [Nat.add_sub_cancel, List.getElem?_eq_getElem hi, List.getElem?_eq_getElem (show i < r.length by omega), e]; rfl
      · omega
theorem vecE_ok {l : List PT} (h : (vecE l).2 = 0) : l.length ≤ 1000 ∧ (∀ p ∈ l, (rightE p.f0).1 = 0) ∧ DistP l ∧ (vecE l).1 = vsort l := by
  unfold vecE at h ⊢
  split at h
  · cases h
  · rename_i h1
    split at h
    · cases h
    · rename_i h2
      split at h
      · rename_i h3
        rw [if_neg h1, if_neg h2, if_pos h3]
        exact ⟨by omega, all_right h2, h3, rfl⟩
      · cases h
end Go.Proofs.YtkjkkimnjpodiaaGreatDoor

/- Plain laws: numbers and texts in bytes: the program's are the document's. -/
set_option linter.unusedVariables false
set_option linter.unusedSimpArgs false
set_option maxRecDepth 100000
namespace Go.Proofs.YtkjkkimnjpodiaaGreatDoor
open Go.GB Go.Lib
theorem joined_eq {a b : List Int} (h : a.length + b.length ≤ 2147483648) : vint_joined a b = some (a ++ b) := by
  unfold vint_joined
  have e : mkrow (0 : Int) 0 (IntKind.wrap .i64 ((a.length : Int) + (b.length : Int))) = some [] := by
    unfold mkrow
    rw [wrap64 (by omega) (by omega), if_pos ⟨by omega, by omega, by omega⟩]; rfl
  rw [e]
  simp only [Option.bind_some]
  rw [app_eq (by simp; omega)]
  simp only [Option.bind_some, List.nil_append]
  rw [app_eq h]; rfl
theorem PutU_eq {a : List Int} {n : Nat} (hn : n < 18446744073709551616) (h : a.length + 10 ≤ 2147483648) : vint_PutU a (n : Int) = some (a ++ uv n) := by
  unfold vint_PutU
  obtain ⟨m, acc, h1, h2, h3, h4⟩ := putu_loop (body := vint_PutU_l28) (fun n acc hn => by
    unfold vint_PutU_l28
    by_cases hlt : n < 128
    · rw [if_pos hlt, show decide ((((n : Nat) : Int), acc).1 ≥ 128) = false from decide_eq_false (by show ¬ ((n : Int) ≥ 128); omega)]; rfl
    · rw [if_neg hlt, show decide ((((n : Nat) : Int), acc).1 ≥ 128) = true from decide_eq_true (by show (n : Int) ≥ 128; omega)]
      have e1 : bitOr .u8 (IntKind.wrap .u8 (n : Int)) 128 = ((n % 128 + 128 : Nat) : Int) := by
        have := fin_and (P := fun c => bitOr .u8 ((c : Nat) : Int) 128 = ((c % 128 + 128 : Nat) : Int)) or128 (n := n % 256) (by omega)
        rw [wrapU8_eq, show (n : Int) % 256 = ((n % 256 : Nat) : Int) by omega, this]; omega
      have e2 : shr .u64 (n : Int) 7 = ((n / 128 : Nat) : Int) := shr_nat .u64 n 7 (by decide)
      simp only [cond_true, e1, e2]) 10 n [] (by omega) hn (by simp) (by omega)
  rw [show ((n : Int), ([] : List Int)) = ((n : Int), []) from rfl, h2]
  simp only [Option.bind_some]
  rw [wrapU8 (by omega) (by omega), app_eq (by simp at h4 ⊢; omega), h3]
  simp only [Option.bind_some, List.nil_append]
  rw [joined_eq (by have := uv_len n; unfold uv at this; omega)]
  rfl
theorem PutText_eq {a : List Int} {s : ByteArray} (h : a.length + 10 + s.size ≤ 2147483648) : vint_PutText a s = some (a ++ uv s.size ++ bytesOf s) := by
  unfold vint_PutText
  rw [wrapU64 (by omega) (by omega), PutU_eq (by omega) (by omega)]
  simp only [Option.bind_some]
  rw [sb_eq (by omega)]
  simp only [Option.bind_some]
  rw [joined_eq (by have := uv_len s.size; simp [bytesOf_length]; omega)]
  rfl
end Go.Proofs.YtkjkkimnjpodiaaGreatDoor

/- Plain laws: what is written in few bytes is read back. -/
set_option linter.unusedVariables false
set_option linter.unusedSimpArgs false
set_option maxRecDepth 100000
namespace Go.Proofs.YtkjkkimnjpodiaaGreatDoor
open Go.GB Go.Lib
end Go.Proofs.YtkjkkimnjpodiaaGreatDoor

set_option linter.unusedVariables false
set_option linter.unusedSimpArgs false
set_option maxRecDepth 100000
namespace Go.Proofs.YtkjkkimnjpodiaaGreatDoor
open Go.GB Go.Lib
def encLab (x : S76) : List Int := (uv x.f0.size ++ bytesOf x.f0) ++ (uv x.f1.size ++ bytesOf x.f1)
def encLabs (l : List S76) : List Int := l.flatMap encLab
def encL (l : List S76) : List Int := uv l.length ++ encLabs l
theorem encLab_len {x : S76} (h : oneE x = 0) : (encLab x).length ≤ 340 := by
  obtain ⟨h1, _, h2, _⟩ := one_parts h
  have h3 := (named_valid h1).1
  have := uv_len x.f0.size
  have := uv_len x.f1.size
  simp [encLab, bytesOf_length]
  omega
theorem encLabs_len : ∀ {l : List S76}, (∀ x ∈ l, oneE x = 0) → (encLabs l).length ≤ 340 * l.length
  | [], _ => by simp [encLabs]
  | x :: r, h => by
    have h1 := encLab_len (h x (by simp))
    have h2 := encLabs_len (l := r) (fun y hy => h y (by simp [hy]))
    unfold encLabs at h2 ⊢
    simp only [List.flatMap_cons, List.length_append, List.length_cons]
    omega
theorem encLabs_take {l : List S76} {i : Nat} (hi : i < l.length) : encLabs (l.take (i + 1)) = encLabs (l.take i) ++ encLab l[i] := by
  unfold encLabs
  rw [List.take_add_one, List.getElem?_eq_getElem hi]
  simp only [Option.toList_some, List.flatMap_append, List.flatMap_cons, List.flatMap_nil, List.append_nil]
theorem Put_eq {a : List Int} {l : List S76} (ha : a.length ≤ 2147470000) : labels_Put a l = some (if (rightE l).1 = 0 then a ++ encL l else [], (rightE l).1) := by
  unfold labels_Put labels_right
  rw [Right_eq]
  simp only [Option.bind_some]
  by_cases h : (rightE l).1 = 0
  · obtain ⟨h1, h2⟩ := right_parts h
    rw [if_pos h, show ((rightE l).1 != 0) = false by simp [h]]
    simp only [cond_false]
    rw [wrapU64 (by omega) (by omega), PutU_eq (by omega) (by omega)]
    simp only [Option.bind_some]
    have hl := uv_len l.length
    have hloop := up_inv (body := labels_Put_l40 l) (fun i => (a ++ uv l.length ++ encLabs (l.take i), (i : Int))) (n := l.length) (r := a ++ uv l.length ++ encLabs l) (fun i hi => by
      unfold labels_Put_l40
      have hx : ix l (i : Int) = some l[i] := by rw [ix_nat, List.getElem?_eq_getElem hi]
      have h3 := encLabs_len (l := l.take i) (fun x hx => h2 x (List.mem_of_mem_take hx))
      have h4 := h2 l[i] (List.getElem_mem hi)
      obtain ⟨k1, _, k2, _⟩ := one_parts h4
      have k3 := (named_valid k1).1
      have k4 := uv_len l[i].f0.size
      have hti : (l.take i).length ≤ 16 := by rw [List.length_take]; omega
      rw [show decide ((a ++ uv l.length ++ encLabs (l.take i), (i : Int)).2 < (l.length : Int)) = true from decide_eq_true (by show (i : Int) < _; omega)]
      simp only [cond_true, hx, Option.bind_some]
      rw [PutText_eq (by simp only [List.length_append]; omega)]
      simp only [Option.bind_some]
      rw [PutText_eq (by simp only [List.length_append, bytesOf_length]; omega)]
      simp only [Option.bind_some, wrap_up (show i < 4294967296 by omega)]
      rw [encLabs_take hi]
      simp [encLab]) (by
      unfold labels_Put_l40
      rw [show decide ((a ++ uv l.length ++ encLabs (l.take l.length), (l.length : Int)).2 < (l.length : Int)) = false from decide_eq_false (by show ¬ ((l.length : Int) < _); omega)]
      rw [List.take_length]; rfl) 0 (Nat.zero_le _)
    simp only [List.take_zero, encLabs, List.flatMap_nil, List.append_nil, Int.ofNat_zero, Int.natCast_zero] at hloop
    rw [hloop]
    simp [h, encL, encLabs]
  · rw [if_neg h, show ((rightE l).1 != 0) = true by simpa using h]
    rfl
end Go.Proofs.YtkjkkimnjpodiaaGreatDoor
