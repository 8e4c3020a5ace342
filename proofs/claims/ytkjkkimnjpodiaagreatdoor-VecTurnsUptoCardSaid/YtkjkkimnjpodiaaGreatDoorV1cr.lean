/- Parts: V1c. -/
import Derived.Test.YtkjkkimnjpodiaaGreatDoorV1br
set_option linter.unusedVariables false
set_option linter.unusedSimpArgs false
set_option maxRecDepth 100000
namespace Go.Proofs.YtkjkkimnjpodiaaGreatDoor
open Go.GB
/-! 12 vec_Binary  -/
noncomputable def vec_Binary_l99 (a3 : S24) (j60 : (List S38) × (List S38)) : ((List (ByteArray × S38)) × Int) → Option (((List (ByteArray × S38)) × Int) ⊕ (((List (ByteArray × S38))) ⊕ ((List S38) × Int))) := fun s85 =>
  bif (decide (s85.2 < (j60.2.length : Int))) then
  (Option.bind (ix j60.2 s85.2) fun (x102 : S38) =>
    Option.bind (vec_signature x102.f0 a3) fun (y117 : ByteArray) =>
    Option.bind (some ((mget Ky.str s85.1 y117).getD (⟨[], (some 0 : Fl)⟩ : S38))) fun (y121 : S38) =>
    bif (mget Ky.str s85.1 y117).isSome then
    (some (Sum.inr (Sum.inr ([], 150))))
    else
    (some (Sum.inl ((mput Ky.str s85.1 y117 x102), (IntKind.wrap .i64 (s85.2 + 1))))))
  else
  (some (Sum.inr (Sum.inl s85.1)))
noncomputable def vec_Binary_l169 (a0 : Int) (a3 : S24) (a4 : Bool) (j60 : (List S38) × (List S38)) (r93 : (List (ByteArray × S38))) : ((List (ByteArray × Bool)) × (List S38) × Int) → Option (((List (ByteArray × Bool)) × (List S38) × Int) ⊕ (((List S38)) ⊕ ((List S38) × Int))) := fun s149 =>
  bif (decide (s149.2.2 < (j60.1.length : Int))) then
  (Option.bind ((Option.bind (ix j60.1 s149.2.2) fun (x184 : S38) =>
      Option.bind (vec_signature x184.f0 a3) fun (y199 : ByteArray) =>
      Option.bind (some ((mget Ky.str r93 y199).getD (⟨[], (some 0 : Fl)⟩ : S38))) fun (y203 : S38) =>
      bif (!((mget Ky.str r93 y199).isSome)) then
      (some (Sum.inl (s149.1, s149.2.1)))
      else
      (Option.bind (bif (a3.f0 == 2) then
          (some (y203.f1, x184.f1))
          else
          (some (x184.f1, y203.f1))) fun (j213 : Fl × Fl) =>
        Option.bind (vec_result a0 j213.1 j213.2 x184.f0 j213.1 a4) fun (y223 : S38 × Bool) =>
        bif (!y223.2) then
        (some (Sum.inl (s149.1, s149.2.1)))
        else
        (Option.bind (bif (a3.f0 == 0) then
            (some ((mget Ky.str s149.1 y199).getD false))
            else
            (some false)) fun (j235 : Bool) =>
          bif j235 then
          (some (Sum.inr (Sum.inr (Sum.inr ([], 150)))))
          else
          (Option.bind (vec_shown y223.1 y203 a3) fun (y244 : (List S76)) =>
            Option.bind (app s149.2.1 [(⟨y244, y223.1.f1⟩ : S38)]) fun (zs261 : List S38) =>
            some (Sum.inl ((mput Ky.str s149.1 y199 true), zs261))))) : Option (((List (ByteArray × Bool)) × (List S38)) ⊕ (((List (ByteArray × Bool)) × (List S38) × Int) ⊕ (((List S38)) ⊕ ((List S38) × Int)))))) fun (j172 : ((List (ByteArray × Bool)) × (List S38)) ⊕ (((List (ByteArray × Bool)) × (List S38) × Int) ⊕ (((List S38)) ⊕ ((List S38) × Int)))) =>
    match j172 with
    | Sum.inl j174 => some (Sum.inl (j174.1, j174.2, (IntKind.wrap .i64 (s149.2.2 + 1))))
    | Sum.inr v268 => some v268)
  else
  (some (Sum.inr (Sum.inl s149.2.1)))
noncomputable def vec_Binary (a0 : Int) (a1 : List S38) (a2 : List S38) (a3 : S24) (a4 : Bool) : Option ((List S38) × Int) :=
  bif ((decide (a0 < 1)) || (decide (a0 > 15))) then
  (some ([], 60))
  else
  (Option.bind (vec_wrong a0 a3) fun (y9 : Int) =>
    bif (y9 != 0) then
    (some ([], y9))
    else
    (Option.bind (vec_Vector a1) fun (y12 : (List S38) × Int) =>
      bif (y12.2 != 0) then
      (some ([], y12.2))
      else
      (Option.bind (vec_Vector a2) fun (y22 : (List S38) × Int) =>
        bif (y22.2 != 0) then
        (some ([], y22.2))
        else
        (bif (decide (a0 ≥ 13)) then
          (Option.bind (vec_sets a0 y12.1 y22.1 a3) fun (y38 : (List S38)) =>
            Option.bind (vec_Vector y38) fun (y51 : (List S38) × Int) =>
            some (y51.1, y51.2))
          else
          (Option.bind (bif (a3.f0 == 2) then
              (some (y22.1, y12.1))
              else
              (some (y12.1, y22.1))) fun (j60 : (List S38) × (List S38)) =>
            Option.bind (loopO (vec_Binary_l99 a3 j60) (([] : List (ByteArray × S38)), 0)) fun (r83 : ((List (ByteArray × S38))) ⊕ ((List S38) × Int)) =>
            match r83 with
            | Sum.inl r93 => Option.bind (loopO (vec_Binary_l169 a0 a3 a4 j60 r93) (([] : List (ByteArray × Bool)), [], 0)) fun (r147 : ((List S38)) ⊕ ((List S38) × Int)) =>
              match r147 with
              | Sum.inl r161 => Option.bind (vec_Vector r161) fun (y273 : (List S38) × Int) =>
                some (y273.1, y273.2)
              | Sum.inr v282 => some v282
            | Sum.inr v283 => some v283)))))
theorem vec_Binary_walk {a0 : Int} {a1 : List S38} {A1_0 : Option Addr} {n1_0 : Nat} {a2 : List S38} {A2_0 : Option Addr} {n2_0 : Nat} {a3 : S24} {A3_2 : Option Addr} {n3_2 : Nat} {A3_3 : Option Addr} {n3_3 : Nat} {a4 : Bool} {I : Imm} {r : (List S38) × Int} (hG : Gl I)  (hf1_0 : RepS kS38 I A1_0 n1_0 a1)  (hf2_0 : RepS kS38 I A2_0 n2_0 a2)  (hf3_2 : RepS Kd.str I A3_2 n3_2 a3.f2) (hf3_3 : RepS Kd.str I A3_3 n3_3 a3.f3) (hr : vec_Binary a0 a1 a2 a3 a4 = some r) (L : Own) :
    CallsTo Tryz.prog 12 #[.int .i64 a0, .slice A1_0 a1.length n1_0, .slice A2_0 a2.length n2_0, .agg #[.int .i64 a3.f0, .bool a3.f1, .slice A3_2 a3.f2.length n3_2, .slice A3_3 a3.f3.length n3_3], .bool a4] I L (fun v I' L' => ∃ A0 c0 C0, OwnS kS38 39 I' A0 c0 r.1 C0 ∧ v = .tuple #[.slice A0 r.1.length c0, .int .i64 r.2] ∧ C0 ++ L = L') := by
  unfold vec_Binary at hr
  refine callsTo_body (N := 164) Tryz.func12 (by kernel_rfl) (by kernel_rfl) (by kernel_rfl) ?_
  refine gk_pick [0, 1, 2, 3, 4] (K' := [(0, .int .i64 a0), (1, .slice A1_0 a1.length n1_0), (2, .slice A2_0 a2.length n2_0), (3, .agg #[.int .i64 a3.f0, .bool a3.f1, .slice A3_2 a3.f2.length n3_2, .slice A3_3 a3.f3.length n3_3]), (4, .bool a4)]) (by kernel_rfl) ?_
  refine gk_seq (by kernel_rfl) ?_
  refine gk_region (by kernel_rfl) ?_
  refine gl_box (T' := 25) (x := (.tmp 3)) (v := .agg #[.int .i64 a3.f0, .bool a3.f1, .slice A3_2 a3.f2.length n3_2, .slice A3_3 a3.f3.length n3_3]) (cs := #[.int .i64 a3.f0, .bool a3.f1, .slice A3_2 a3.f2.length n3_2, .slice A3_3 a3.f3.length n3_3]) (by kernel_rfl) (by kernel_rfl) (by kernel_rfl) (by kernel_rfl) (fun gb1 => ?_)
  refine gl_pure 2 [0, 1, 2, 4, 8] (K' := [(0, .int .i64 a0), (1, .slice A1_0 a1.length n1_0), (2, .slice A2_0 a2.length n2_0), (4, .bool a4), (8, .pointer (some ⟨gb1, 0, none⟩))]) (by kernel_rfl) ?_
  refine gl_atE (by kernel_rfl) ?_
  refine ge_seq ?_
  refine gk_seq (by kernel_rfl) ?_
  refine gk_seq (by kernel_rfl) ?_
  obtain ⟨b4, hb5⟩ : ∃ z, z = ((decide (a0 < 1)) || (decide (a0 > 15))) := ⟨_, rfl⟩
  refine gk_join (fun t I' L' => I ≤ I' ∧ (gb1, .cells #[.int .i64 a3.f0, .bool a3.f1, .slice A3_2 a3.f2.length n3_2, .slice A3_3 a3.f3.length n3_3] 25) :: L = L' ∧ Knows 164 [(0, .int .i64 a0), (1, .slice A1_0 a1.length n1_0), (2, .slice A2_0 a2.length n2_0), (4, .bool a4), (8, .pointer (some ⟨gb1, 0, none⟩)), (37, .bool b4)] t) ?_ ?_
  · refine gk_region (by kernel_rfl) ?_
    refine gl_pure 3 [0, 1, 2, 4, 8, 34] (K' := [(0, .int .i64 a0), (1, .slice A1_0 a1.length n1_0), (2, .slice A2_0 a2.length n2_0), (4, .bool a4), (8, .pointer (some ⟨gb1, 0, none⟩)), (34, .bool (decide (a0 < 1)))]) (by kernel_rfl) ?_
    refine gl_case 34 (b := (decide (a0 < 1))) (by kernel_rfl) (fun hc7 => ?_) (fun hc7 => ?_)
    · refine gl_pure 3 [0, 1, 2, 4, 8, 37] (K' := [(0, .int .i64 a0), (1, .slice A1_0 a1.length n1_0), (2, .slice A2_0 a2.length n2_0), (4, .bool a4), (8, .pointer (some ⟨gb1, 0, none⟩)), (37, .bool true)]) (by kernel_rfl) ?_
      refine gl_atE (by kernel_rfl) ?_
      exact ge_mid fun t ht => ⟨(Imm.refl _), rfl, by rw [(show b4 = true from hb5.trans (by first | (rw [hc7]; done) | (rw [hc7]; rfl) | (simp [hc7]; done) | (simp only [hc7]; rfl) | (simp at *; omega)))]; exact ht.pick (l := [0, 1, 2, 4, 8, 37]) (by kernel_rfl)⟩
    · refine gl_pure 3 [0, 1, 2, 4, 8, 37] (K' := [(0, .int .i64 a0), (1, .slice A1_0 a1.length n1_0), (2, .slice A2_0 a2.length n2_0), (4, .bool a4), (8, .pointer (some ⟨gb1, 0, none⟩)), (37, .bool (decide (a0 > 15)))]) (by kernel_rfl) ?_
      refine gl_atE (by kernel_rfl) ?_
      exact ge_mid fun t ht => ⟨(Imm.refl _), rfl, by rw [(show b4 = (decide (a0 > 15)) from hb5.trans (by first | (rw [hc7]; done) | (rw [hc7]; rfl) | (simp [hc7]; done) | (simp only [hc7]; rfl) | (simp at *; omega)))]; exact ht.pick (l := [0, 1, 2, 4, 8, 37]) (by kernel_rfl)⟩
  · rintro t I6 L' ⟨hI2, rfl, hK3⟩
    subst hb5
    refine ge_at hK3 ?_
    refine ge_seq ?_
    refine gk_cond (b := ((decide (a0 < 1)) || (decide (a0 > 15)))) (by kernel_rfl) (by kernel_rfl) (fun hc8 => ?_) (fun hc8 => ?_)
    · have hr := cond_t hc8 hr
      refine gk_seq (by kernel_rfl) ?_
      refine gk_region (by kernel_rfl) ?_
      refine gl_pure 2 [10, 11] (K' := [(10, .slice none 0 0), (11, .int .i64 60)]) (by kernel_rfl) ?_
      refine gl_atE (by kernel_rfl) ?_
      refine ge_seq ?_
      refine gk_reord (D := L) (Reord.skip (Reord.refl _)) ?_
      refine gk_ret (by kernel_rfl) ?_
      refine ge_seq_ret ?_
      obtain rfl := some_inj hr
      exact ge_result trivial (ResOk.tmp (by kernel_rfl) (ResOk.tmp (by kernel_rfl) ResOk.nil)) hI2 ⟨none, 0, [], OwnS.nil _ _ _ _, rfl, rfl⟩
    · have hr := cond_f hc8 hr
      refine gk_skip (by kernel_rfl) ?_
      refine ge_seq ?_
      refine gk_seq (by kernel_rfl) ?_
      refine gk_seq (by kernel_rfl) ?_
      refine gk_region (by kernel_rfl) ?_
      refine gl_pure 1 [0, 1, 2, 4, 8, 38] (K' := [(0, .int .i64 a0), (1, .slice A1_0 a1.length n1_0), (2, .slice A2_0 a2.length n2_0), (4, .bool a4), (8, .pointer (some ⟨gb1, 0, none⟩)), (38, .int .i64 a0)]) (by kernel_rfl) ?_
      refine gl_loadB (T' := 25) (xp := (.tmp 8)) (v := .agg #[.int .i64 a3.f0, .bool a3.f1, .slice A3_2 a3.f2.length n3_2, .slice A3_3 a3.f3.length n3_3]) (g := gb1) (off := 0) (cs := #[.int .i64 a3.f0, .bool a3.f1, .slice A3_2 a3.f2.length n3_2, .slice A3_3 a3.f3.length n3_3]) (e := 25) (fz := (0, 0)) (by kernel_rfl) (by kernel_rfl) (by kernel_rfl) List.mem_cons_self (by kernel_rfl) ?_
      obtain ⟨y9, hx10, hr⟩ := bind_some hr
      refine gl_callQ (by kernel_rfl) (vec_wrong_walk (r := y9) (hf3_2.mono hI2) (hf3_3.mono hI2) hx10 _) ?_
      refine gl_pure 1 [0, 1, 2, 4, 8, 12] (K' := [(0, .int .i64 a0), (1, .slice A1_0 a1.length n1_0), (2, .slice A2_0 a2.length n2_0), (4, .bool a4), (8, .pointer (some ⟨gb1, 0, none⟩)), (12, .int .i64 y9)]) (by kernel_rfl) ?_
      refine gl_atE (by kernel_rfl) ?_
      refine ge_seq ?_
      refine gk_seq (by kernel_rfl) ?_
      refine gk_region (by kernel_rfl) ?_
      refine gl_pure 2 [0, 1, 2, 4, 8, 12, 42] (K' := [(0, .int .i64 a0), (1, .slice A1_0 a1.length n1_0), (2, .slice A2_0 a2.length n2_0), (4, .bool a4), (8, .pointer (some ⟨gb1, 0, none⟩)), (12, .int .i64 y9), (42, .bool (y9 != 0))]) (by kernel_rfl) ?_
      refine gl_atE (by kernel_rfl) ?_
      refine ge_seq ?_
      refine gk_cond (b := (y9 != 0)) (by kernel_rfl) (by kernel_rfl) (fun hc11 => ?_) (fun hc11 => ?_)
      · have hr := cond_t hc11 hr
        refine gk_seq (by kernel_rfl) ?_
        refine gk_region (by kernel_rfl) ?_
        refine gl_pure 3 [10, 11] (K' := [(10, .slice none 0 0), (11, .int .i64 y9)]) (by kernel_rfl) ?_
        refine gl_atE (by kernel_rfl) ?_
        refine ge_seq ?_
        refine gk_reord (D := L) (Reord.skip (Reord.refl _)) ?_
        refine gk_ret (by kernel_rfl) ?_
        refine ge_seq_ret ?_
        obtain rfl := some_inj hr
        exact ge_result trivial (ResOk.tmp (by kernel_rfl) (ResOk.tmp (by kernel_rfl) ResOk.nil)) hI2 ⟨none, 0, [], OwnS.nil _ _ _ _, rfl, rfl⟩
      · have hr := cond_f hc11 hr
        refine gk_skip (by kernel_rfl) ?_
        refine ge_seq ?_
        refine gk_seq (by kernel_rfl) ?_
        refine gk_region (by kernel_rfl) ?_
        refine gl_pure 1 [0, 2, 4, 8, 45] (K' := [(0, .int .i64 a0), (2, .slice A2_0 a2.length n2_0), (4, .bool a4), (8, .pointer (some ⟨gb1, 0, none⟩)), (45, .slice A1_0 a1.length n1_0)]) (by kernel_rfl) ?_
        obtain ⟨y12, hx13, hr⟩ := bind_some hr
        refine gl_call (by kernel_rfl) (vec_Vector_walk (r := y12) (hG.mono hI2) (hf1_0.mono hI2) hx13 _) ?_
        rintro v I14 L15 hI16 ⟨A17, c18, C19, hO20, rfl, rfl⟩
        refine gl_pure 5 [0, 1, 2, 4, 8, 13] (K' := [(0, .int .i64 a0), (1, .slice A17 y12.1.length c18), (2, .slice A2_0 a2.length n2_0), (4, .bool a4), (8, .pointer (some ⟨gb1, 0, none⟩)), (13, .int .i64 y12.2)]) (by kernel_rfl) ?_
        refine gl_atE (by kernel_rfl) ?_
        refine ge_seq ?_
        refine gk_seq (by kernel_rfl) ?_
        refine gk_seq (by kernel_rfl) ?_
        refine gk_region (by kernel_rfl) ?_
        refine gl_pure 2 [0, 1, 2, 4, 8, 13, 50] (K' := [(0, .int .i64 a0), (1, .slice A17 y12.1.length c18), (2, .slice A2_0 a2.length n2_0), (4, .bool a4), (8, .pointer (some ⟨gb1, 0, none⟩)), (13, .int .i64 y12.2), (50, .bool (y12.2 != 0))]) (by kernel_rfl) ?_
        refine gl_atE (by kernel_rfl) ?_
        refine ge_seq ?_
        refine gk_cond (b := (y12.2 != 0)) (by kernel_rfl) (by kernel_rfl) (fun hc21 => ?_) (fun hc21 => ?_)
        · have hr := cond_t hc21 hr
          refine gk_seq (by kernel_rfl) ?_
          refine gk_region (by kernel_rfl) ?_
          refine gl_pure 3 [10, 11] (K' := [(10, .slice none 0 0), (11, .int .i64 y12.2)]) (by kernel_rfl) ?_
          refine gl_atE (by kernel_rfl) ?_
          refine ge_seq ?_
          refine gk_reord (D := L) (Reord.skipC (Reord.skip (Reord.refl _))) ?_
          refine gk_ret (by kernel_rfl) ?_
          refine ge_seq_ret ?_
          obtain rfl := some_inj hr
          exact ge_result trivial (ResOk.tmp (by kernel_rfl) (ResOk.tmp (by kernel_rfl) ResOk.nil)) (Imm.trans hI2 hI16) ⟨none, 0, [], OwnS.nil _ _ _ _, rfl, rfl⟩
        · have hr := cond_f hc21 hr
          refine gk_skip (by kernel_rfl) ?_
          refine ge_seq ?_
          refine gk_seq (by kernel_rfl) ?_
          refine gk_region (by kernel_rfl) ?_
          refine gl_pure 1 [0, 1, 4, 8, 53] (K' := [(0, .int .i64 a0), (1, .slice A17 y12.1.length c18), (4, .bool a4), (8, .pointer (some ⟨gb1, 0, none⟩)), (53, .slice A2_0 a2.length n2_0)]) (by kernel_rfl) ?_
          obtain ⟨y22, hx23, hr⟩ := bind_some hr
          refine gl_call (by kernel_rfl) (vec_Vector_walk (r := y22) (hG.mono (Imm.trans hI2 hI16)) (hf2_0.mono (Imm.trans hI2 hI16)) hx23 _) ?_
          rintro v I24 L25 hI26 ⟨A27, c28, C29, hO30, rfl, rfl⟩
          refine gl_pure 5 [0, 1, 2, 4, 8, 13] (K' := [(0, .int .i64 a0), (1, .slice A17 y12.1.length c18), (2, .slice A27 y22.1.length c28), (4, .bool a4), (8, .pointer (some ⟨gb1, 0, none⟩)), (13, .int .i64 y22.2)]) (by kernel_rfl) ?_
          refine gl_atE (by kernel_rfl) ?_
          refine ge_seq ?_
          refine gk_seq (by kernel_rfl) ?_
          refine gk_seq (by kernel_rfl) ?_
          refine gk_region (by kernel_rfl) ?_
          refine gl_pure 2 [0, 1, 2, 4, 8, 13, 58] (K' := [(0, .int .i64 a0), (1, .slice A17 y12.1.length c18), (2, .slice A27 y22.1.length c28), (4, .bool a4), (8, .pointer (some ⟨gb1, 0, none⟩)), (13, .int .i64 y22.2), (58, .bool (y22.2 != 0))]) (by kernel_rfl) ?_
          refine gl_atE (by kernel_rfl) ?_
          refine ge_seq ?_
          refine gk_cond (b := (y22.2 != 0)) (by kernel_rfl) (by kernel_rfl) (fun hc31 => ?_) (fun hc31 => ?_)
          · have hr := cond_t hc31 hr
            refine gk_seq (by kernel_rfl) ?_
            refine gk_region (by kernel_rfl) ?_
            refine gl_pure 3 [10, 11] (K' := [(10, .slice none 0 0), (11, .int .i64 y22.2)]) (by kernel_rfl) ?_
            refine gl_atE (by kernel_rfl) ?_
            refine ge_seq ?_
            refine gk_reord (D := L) (Reord.skipC (Reord.skipC (Reord.skip (Reord.refl _)))) ?_
            refine gk_ret (by kernel_rfl) ?_
            refine ge_seq_ret ?_
            obtain rfl := some_inj hr
            exact ge_result trivial (ResOk.tmp (by kernel_rfl) (ResOk.tmp (by kernel_rfl) ResOk.nil)) (Imm.trans (Imm.trans hI2 hI16) hI26) ⟨none, 0, [], OwnS.nil _ _ _ _, rfl, rfl⟩
          · have hr := cond_f hc31 hr
            refine gk_skip (by kernel_rfl) ?_
            refine ge_seq ?_
            refine gk_seq (by kernel_rfl) ?_
            refine gk_seq (by kernel_rfl) ?_
            refine gk_region (by kernel_rfl) ?_
            refine gl_pure 2 [0, 1, 2, 4, 8, 61] (K' := [(0, .int .i64 a0), (1, .slice A17 y12.1.length c18), (2, .slice A27 y22.1.length c28), (4, .bool a4), (8, .pointer (some ⟨gb1, 0, none⟩)), (61, .bool (decide (a0 ≥ 13)))]) (by kernel_rfl) ?_
            refine gl_atE (by kernel_rfl) ?_
            refine ge_seq ?_
            refine gk_cond (b := (decide (a0 ≥ 13))) (by kernel_rfl) (by kernel_rfl) (fun hc32 => ?_) (fun hc32 => ?_)
            · have hr := cond_t hc32 hr
              refine gk_seq (by kernel_rfl) ?_
              refine gk_region (by kernel_rfl) ?_
              refine gl_pure 3 [8, 62, 63, 64] (K' := [(8, .pointer (some ⟨gb1, 0, none⟩)), (62, .int .i64 a0), (63, .slice A17 y12.1.length c18), (64, .slice A27 y22.1.length c28)]) (by kernel_rfl) ?_
              refine gl_loadB (T' := 25) (xp := (.tmp 8)) (v := .agg #[.int .i64 a3.f0, .bool a3.f1, .slice A3_2 a3.f2.length n3_2, .slice A3_3 a3.f3.length n3_3]) (g := gb1) (off := 0) (cs := #[.int .i64 a3.f0, .bool a3.f1, .slice A3_2 a3.f2.length n3_2, .slice A3_3 a3.f3.length n3_3]) (e := 25) (fz := (0, 0)) (by kernel_rfl) (by kernel_rfl) (by kernel_rfl) (List.mem_append_right _ (List.mem_append_right _ List.mem_cons_self)) (by kernel_rfl) ?_
              refine gl_rest (Tk.step (Upd.rmC _ _) (Tk.step (Upd.rmC _ _) (Tk.nil _))) (fun J33 hJ34 hC35 => ?_)
              have hf36 := (OwnS.rest hO30 hJ34 hC35.left)
              have hf37 := (OwnS.rest (hO20.mono hI26) hJ34 hC35.right.left)
              obtain ⟨y38, hx39, hr⟩ := bind_some hr
              refine gl_call (by kernel_rfl) (vec_sets_walk (r := y38) (hG.mono (Imm.trans (Imm.trans (Imm.trans hI2 hI16) hI26) hJ34)) hf37 hf36 (hf3_2.mono (Imm.trans (Imm.trans (Imm.trans hI2 hI16) hI26) hJ34)) (hf3_3.mono (Imm.trans (Imm.trans (Imm.trans hI2 hI16) hI26) hJ34)) hx39 _) ?_
              rintro v I40 L41 hI42 ⟨A43, c44, C45, hO46, rfl, rfl⟩
              refine gl_rest (Tk.step (Upd.rmC _ _) (Tk.nil _)) (fun J47 hJ48 hC49 => ?_)
              have hf50 := (OwnS.rest hO46 hJ48 hC49.left)
              obtain ⟨y51, hx52, hr⟩ := bind_some hr
              refine gl_call (by kernel_rfl) (vec_Vector_walk (r := y51) (hG.mono (Imm.trans (Imm.trans (Imm.trans (Imm.trans (Imm.trans hI2 hI16) hI26) hJ34) hI42) hJ48)) hf50 hx52 _) ?_
              rintro v I53 L54 hI55 ⟨A56, c57, C58, hO59, rfl, rfl⟩
              refine gl_pure 4 [10, 11] (K' := [(10, .slice A56 y51.1.length c57), (11, .int .i64 y51.2)]) (by kernel_rfl) ?_
              refine gl_atE (by kernel_rfl) ?_
              refine ge_seq ?_
              refine gk_reord (D := C58 ++ L) (Reord.step (Upd.rmC _ _) (Reord.skip (Reord.refl _))) ?_
              refine gk_ret (by kernel_rfl) ?_
              refine ge_seq_ret ?_
              obtain rfl := some_inj hr
              exact ge_result trivial (ResOk.tmp (by kernel_rfl) (ResOk.tmp (by kernel_rfl) ResOk.nil)) (Imm.trans (Imm.trans (Imm.trans (Imm.trans (Imm.trans (Imm.trans hI2 hI16) hI26) hJ34) hI42) hJ48) hI55) ⟨A56, c57, C58, hO59, rfl, rfl⟩
            · have hr := cond_f hc32 hr
              refine gk_skip (by kernel_rfl) ?_
              refine ge_seq ?_
              refine gk_seq (by kernel_rfl) ?_
              refine gk_region (by kernel_rfl) ?_
              refine gl_pure 4 [0, 1, 2, 4, 8, 14, 15] (K' := [(0, .int .i64 a0), (1, .slice A17 y12.1.length c18), (2, .slice A27 y22.1.length c28), (4, .bool a4), (8, .pointer (some ⟨gb1, 0, none⟩)), (14, .slice A17 y12.1.length c18), (15, .slice A27 y22.1.length c28)]) (by kernel_rfl) ?_
              refine gl_atE (by kernel_rfl) ?_
              refine ge_seq ?_
              refine gk_seq (by kernel_rfl) ?_
              refine gk_seq (by kernel_rfl) ?_
              refine gk_region (by kernel_rfl) ?_
              refine gl_pure 1 [0, 1, 2, 4, 8, 14, 15, 72] (K' := [(0, .int .i64 a0), (1, .slice A17 y12.1.length c18), (2, .slice A27 y22.1.length c28), (4, .bool a4), (8, .pointer (some ⟨gb1, 0, none⟩)), (14, .slice A17 y12.1.length c18), (15, .slice A27 y22.1.length c28), (72, .pointer (some ⟨gb1, 0, none⟩))]) (by kernel_rfl) ?_
              refine gl_loadB (T' := 3) (xp := (.tmp 72)) (v := .int .i64 a3.f0) (g := gb1) (off := 0) (cs := #[.int .i64 a3.f0, .bool a3.f1, .slice A3_2 a3.f2.length n3_2, .slice A3_3 a3.f3.length n3_3]) (e := 25) (fz := (0, 0)) (by kernel_rfl) (by kernel_rfl) (by kernel_rfl) (List.mem_append_right _ (List.mem_append_right _ List.mem_cons_self)) (by kernel_rfl) ?_
              refine gl_pure 1 [0, 1, 2, 4, 8, 14, 15, 74] (K' := [(0, .int .i64 a0), (1, .slice A17 y12.1.length c18), (2, .slice A27 y22.1.length c28), (4, .bool a4), (8, .pointer (some ⟨gb1, 0, none⟩)), (14, .slice A17 y12.1.length c18), (15, .slice A27 y22.1.length c28), (74, .bool (a3.f0 == 2))]) (by kernel_rfl) ?_
              refine gl_atE (by kernel_rfl) ?_
              refine ge_seq ?_
              obtain ⟨j60, hj61, hr⟩ := bind_some hr
              refine gk_join (fun t I' L' => ∃ A63 n64 C65 A67 n68 C69, OwnS kS38 39 I' A63 n64 j60.1 C65 ∧ OwnS kS38 39 I' A67 n68 j60.2 C69 ∧ I24 ≤ I' ∧ C65 ++ (C69 ++ ((gb1, .cells #[.int .i64 a3.f0, .bool a3.f1, .slice A3_2 a3.f2.length n3_2, .slice A3_3 a3.f3.length n3_3] 25) :: L)) = L' ∧ Knows 164 [(0, .int .i64 a0), (4, .bool a4), (8, .pointer (some ⟨gb1, 0, none⟩)), (14, .slice A63 j60.1.length n64), (15, .slice A67 j60.2.length n68)] t) ?_ ?_
              · refine gk_cond (b := (a3.f0 == 2)) (by kernel_rfl) (by kernel_rfl) (fun hc73 => ?_) (fun hc73 => ?_)
                · have hj61 := cond_t hc73 hj61
                  refine gk_region (by kernel_rfl) ?_
                  refine gl_pure 4 [0, 4, 8, 14, 15] (K' := [(0, .int .i64 a0), (4, .bool a4), (8, .pointer (some ⟨gb1, 0, none⟩)), (14, .slice A27 y22.1.length c28), (15, .slice A17 y12.1.length c18)]) (by kernel_rfl) ?_
                  refine gl_atE (by kernel_rfl) ?_
                  obtain rfl := some_inj hj61
                  exact ge_mid fun t ht => ⟨A27, c28, C29, A17, c18, C19, hO30, (hO20.mono hI26), (Imm.refl _), rfl, ht.pick (l := [0, 4, 8, 14, 15]) (by kernel_rfl)⟩
                · have hj61 := cond_f hc73 hj61
                  refine gk_reord (D := C19 ++ (C29 ++ ((gb1, .cells #[.int .i64 a3.f0, .bool a3.f1, .slice A3_2 a3.f2.length n3_2, .slice A3_3 a3.f3.length n3_3] 25) :: L))) (Reord.step (Upd.app _ (Upd.rmC _ _)) (Reord.step (Upd.rmC _ _) (Reord.step1 (Upd.rm1 _ _) (Reord.refl _)))) ?_
                  refine gk_skip (by kernel_rfl) ?_
                  obtain rfl := some_inj hj61
                  exact ge_mid fun t ht => ⟨A17, c18, C19, A27, c28, C29, (hO20.mono hI26), hO30, (Imm.refl _), rfl, ht.pick (l := [0, 4, 8, 14, 15]) (by kernel_rfl)⟩
              · rintro t I72 L' ⟨A63, n64, C65, A67, n68, C69, hO66, hO70, hI62, rfl, hK71⟩
                refine ge_at hK71 ?_
                refine ge_seq ?_
                refine gk_seq (by kernel_rfl) ?_
                refine gk_region (by kernel_rfl) ?_
                refine gl_makeMap (ky := Ky.str) (d := kS38) (agg := true) (T' := 70) (by kernel_rfl) (by kernel_rfl) (fun g74 C75 hO76 => ?_)
                refine gl_pure 1 [0, 4, 8, 14, 15, 16] (K' := [(0, .int .i64 a0), (4, .bool a4), (8, .pointer (some ⟨gb1, 0, none⟩)), (14, .slice A63 j60.1.length n64), (15, .slice A67 j60.2.length n68), (16, .map (some g74))]) (by kernel_rfl) ?_
                refine gl_atE (by kernel_rfl) ?_
                refine ge_seq ?_
                refine gk_seq (by kernel_rfl) ?_
                refine gk_seq (by kernel_rfl) ?_
                refine gk_region (by kernel_rfl) ?_
                refine gl_pure 3 [0, 4, 8, 14, 16, 78, 79, 80] (K' := [(0, .int .i64 a0), (4, .bool a4), (8, .pointer (some ⟨gb1, 0, none⟩)), (14, .slice A63 j60.1.length n64), (16, .map (some g74)), (78, .slice A67 j60.2.length n68), (79, .int .i64 (j60.2.length : Int)), (80, .int .i64 0)]) (by kernel_rfl) ?_
                refine gl_atE (by kernel_rfl) ?_
                refine ge_seq ?_
                obtain ⟨r83, hl84, hr⟩ := bind_some hr
                refine gk_join (fun t I' L' => ∃ r93, r83 = Sum.inl r93 ∧ ∃ C95, OwnM Ky.str kS38 true I' g74 r93 C95 ∧ I72 ≤ I' ∧ C95 ++ (C65 ++ ((gb1, .cells #[.int .i64 a3.f0, .bool a3.f1, .slice A3_2 a3.f2.length n3_2, .slice A3_3 a3.f3.length n3_3] 25) :: L)) = L' ∧ Knows 164 [(0, .int .i64 a0), (4, .bool a4), (8, .pointer (some ⟨gb1, 0, none⟩)), (14, .slice A63 j60.1.length n64), (16, .map (some g74))] t) ?_ ?_
                · refine gk_block (by kernel_rfl) ?_
                  refine gk_pick [0, 4, 8, 14, 16, 78, 79, 80] (K' := [(0, .int .i64 a0), (4, .bool a4), (8, .pointer (some ⟨gb1, 0, none⟩)), (14, .slice A63 j60.1.length n64), (16, .map (some g74)), (78, .slice A67 j60.2.length n68), (79, .int .i64 (j60.2.length : Int)), (80, .int .i64 0)]) (by kernel_rfl) ?_
                  intro t hK
                  refine gc_loop (vec_Binary_l99 a3 j60) (fun s85 t I' L' => ∃ C89, OwnM Ky.str kS38 true I' g74 s85.1 C89 ∧ I72 ≤ I' ∧ C89 ++ (C65 ++ (C69 ++ ((gb1, .cells #[.int .i64 a3.f0, .bool a3.f1, .slice A3_2 a3.f2.length n3_2, .slice A3_3 a3.f3.length n3_3] 25) :: L))) = L' ∧ Knows 164 [(0, .int .i64 a0), (4, .bool a4), (8, .pointer (some ⟨gb1, 0, none⟩)), (14, .slice A63 j60.1.length n64), (16, .map (some g74)), (78, .slice A67 j60.2.length n68), (79, .int .i64 (j60.2.length : Int)), (80, .int .i64 s85.2)] t) (by kernel_rfl) ?_ hl84 ⟨C75, hO76, (Imm.refl _), rfl, hK⟩
                  rintro s85 o86 t I92 L' hb87 ⟨C89, hO90, hI88, rfl, hK91⟩
                  unfold vec_Binary_l99 at hb87
                  refine gk_at hK91 ?_
                  refine gk_seq (by kernel_rfl) ?_
                  refine gk_region (by kernel_rfl) ?_
                  refine gl_pure 1 [0, 4, 8, 14, 16, 78, 79, 80, 81] (K' := [(0, .int .i64 a0), (4, .bool a4), (8, .pointer (some ⟨gb1, 0, none⟩)), (14, .slice A63 j60.1.length n64), (16, .map (some g74)), (78, .slice A67 j60.2.length n68), (79, .int .i64 (j60.2.length : Int)), (80, .int .i64 s85.2), (81, .bool (decide (s85.2 < (j60.2.length : Int))))]) (by kernel_rfl) ?_
                  refine gl_atE (by kernel_rfl) ?_
                  refine ge_seq ?_
                  refine gk_seq (by kernel_rfl) ?_
                  refine gk_cond (b := (decide (s85.2 < (j60.2.length : Int)))) (by kernel_rfl) (by kernel_rfl) (fun hc101 => ?_) (fun hc101 => ?_)
                  · have hb87 := cond_t hc101 hb87
                    refine gk_skip (by kernel_rfl) ?_
                    refine ge_seq ?_
                    refine gk_seq (by kernel_rfl) ?_
                    refine gk_block (by kernel_rfl) ?_
                    refine gk_seq (by kernel_rfl) ?_
                    refine gk_region (by kernel_rfl) ?_
                    obtain ⟨x102, hx103, hb87⟩ := bind_some hb87
                    refine gl_indexAddrW (d := kS38) (c := n68) (T' := 22) (e := 39) (xs := (.tmp 78)) (xi := (.tmp 80)) (kd := .i64) hx103 (hO70.mono hI88) (Upd.app _ (Upd.app _ (Upd.selfC _ _))) (by kernel_rfl) (by kernel_rfl) (by kernel_rfl) (by kernel_rfl) (by kernel_rfl) (fun p104 cs105 hR106 hA107 hp115 => ?_)
                    obtain ⟨A110, n111, b113, hf112, hf114, rfl⟩ := kS38_open hR106
                    refine gl_loadOA (T' := 39) (xp := (.tmp 82)) (p := p104) (cs := [.slice A110 x102.f0.length n111, .float .f64 b113]) (by kernel_rfl) (by kernel_rfl) (by kernel_rfl) (by kernel_rfl) (hA107.take 2) ?_
                    refine gl_alloc (T' := 39) (cs := #[.slice none 0 0, .float .f64 0]) (by kernel_rfl) (by kernel_rfl) (by kernel_rfl) (fun g116 => ?_)
                    refine gl_storeB (T' := 39) (xp := (.tmp 18)) (xv := (.tmp 83)) (v := .agg #[.slice A110 x102.f0.length n111, .float .f64 b113]) (g := g116) (off := 0) (cs := #[.slice none 0 0, .float .f64 0]) (cs' := #[.slice A110 x102.f0.length n111, .float .f64 b113]) (by kernel_rfl) (by kernel_rfl) (by kernel_rfl) (by kernel_rfl) (by kernel_rfl) (Upd.set _ _ _ _) ?_ (by kernel_rfl)
                    refine gl_atE (by kernel_rfl) ?_
                    refine ge_seq ?_
                    refine gk_seq (by kernel_rfl) ?_
                    refine gk_region (by kernel_rfl) ?_
                    refine gl_pure 1 [0, 4, 8, 14, 16, 18, 78, 79, 80, 84] (K' := [(0, .int .i64 a0), (4, .bool a4), (8, .pointer (some ⟨gb1, 0, none⟩)), (14, .slice A63 j60.1.length n64), (16, .map (some g74)), (18, .pointer (some ⟨g116, 0, none⟩)), (78, .slice A67 j60.2.length n68), (79, .int .i64 (j60.2.length : Int)), (80, .int .i64 s85.2), (84, .pointer (some ⟨g116, 0, none⟩))]) (by kernel_rfl) ?_
                    refine gl_loadB (T' := 36) (xp := (.tmp 84)) (v := .slice A110 x102.f0.length n111) (g := g116) (off := 0) (cs := #[.slice A110 x102.f0.length n111, .float .f64 b113]) (e := 39) (fz := (0, 0)) (by kernel_rfl) (by kernel_rfl) (by kernel_rfl) List.mem_cons_self (by kernel_rfl) ?_
                    refine gl_loadB (T' := 25) (xp := (.tmp 8)) (v := .agg #[.int .i64 a3.f0, .bool a3.f1, .slice A3_2 a3.f2.length n3_2, .slice A3_3 a3.f3.length n3_3]) (g := gb1) (off := 0) (cs := #[.int .i64 a3.f0, .bool a3.f1, .slice A3_2 a3.f2.length n3_2, .slice A3_3 a3.f3.length n3_3]) (e := 25) (fz := (0, 0)) (by kernel_rfl) (by kernel_rfl) (by kernel_rfl) (List.mem_cons_of_mem _ (List.mem_append_right _ (List.mem_append_right _ (List.mem_append_right _ List.mem_cons_self)))) (by kernel_rfl) ?_
                    obtain ⟨y117, hx118, hb87⟩ := bind_some hb87
                    refine gl_callQ (by kernel_rfl) (vec_signature_walk (r := y117) (hG.mono (Imm.trans (Imm.trans (Imm.trans (Imm.trans hI2 hI16) hI26) hI62) hI88)) hf112 (hf3_2.mono (Imm.trans (Imm.trans (Imm.trans (Imm.trans hI2 hI16) hI26) hI62) hI88)) (hf3_3.mono (Imm.trans (Imm.trans (Imm.trans (Imm.trans hI2 hI16) hI26) hI62) hI88)) hx118 _) ?_
                    refine gl_pure 1 [0, 4, 8, 14, 16, 18, 19, 78, 79, 80] (K' := [(0, .int .i64 a0), (4, .bool a4), (8, .pointer (some ⟨gb1, 0, none⟩)), (14, .slice A63 j60.1.length n64), (16, .map (some g74)), (18, .pointer (some ⟨g116, 0, none⟩)), (19, .string y117), (78, .slice A67 j60.2.length n68), (79, .int .i64 (j60.2.length : Int)), (80, .int .i64 s85.2)]) (by kernel_rfl) ?_
                    refine gl_atE (by kernel_rfl) ?_
                    refine ge_seq ?_
                    refine gk_seq (by kernel_rfl) ?_
                    refine gk_seq (by kernel_rfl) ?_
                    refine gk_region (by kernel_rfl) ?_
                    refine gl_pure 2 [0, 4, 8, 14, 16, 18, 19, 78, 79, 80, 89, 90] (K' := [(0, .int .i64 a0), (4, .bool a4), (8, .pointer (some ⟨gb1, 0, none⟩)), (14, .slice A63 j60.1.length n64), (16, .map (some g74)), (18, .pointer (some ⟨g116, 0, none⟩)), (19, .string y117), (78, .slice A67 j60.2.length n68), (79, .int .i64 (j60.2.length : Int)), (80, .int .i64 s85.2), (89, .map (some g74)), (90, .string y117)]) (by kernel_rfl) ?_
                    obtain ⟨y121, hy133, hb87⟩ := bind_some hb87
                    refine gl_lookup (a := 9) (b := 39) (ds := .string) (ok := true) (T' := 70) (xm := (.tmp 89)) (xk := (.tmp 90)) (x := y117) (z := (⟨[], (some 0 : Fl)⟩ : S38)) (uz := .agg #[.slice none 0 0, .float .f64 0]) hO90 (fun q hq => (List.mem_cons_of_mem _ (List.mem_append_left _ hq))) (by kernel_rfl) (by kernel_rfl) (by kernel_rfl) (by kernel_rfl) (by kernel_rfl) (by kernel_rfl) (by kernel_rfl) ⟨_, rfl, (kS38_mk (x := (⟨[], (some 0 : Fl)⟩ : S38)) (RepS.nil _ _) (FRep.of 0))⟩ (fun u119 hu120 => ?_)
                    rw [some_inj hy133] at hu120
                    obtain ⟨cs122, rfl, hR123⟩ := hu120
                    obtain ⟨A124, n125, b127, hf126, hf128, rfl⟩ := kS38_open hR123
                    refine gl_pure 3 [0, 4, 8, 14, 16, 18, 19, 78, 79, 80, 92, 93] (K' := [(0, .int .i64 a0), (4, .bool a4), (8, .pointer (some ⟨gb1, 0, none⟩)), (14, .slice A63 j60.1.length n64), (16, .map (some g74)), (18, .pointer (some ⟨g116, 0, none⟩)), (19, .string y117), (78, .slice A67 j60.2.length n68), (79, .int .i64 (j60.2.length : Int)), (80, .int .i64 s85.2), (92, .agg #[.slice A124 y121.f0.length n125, .float .f64 b127]), (93, .bool ((mget Ky.str s85.1 y117).isSome))]) (by kernel_rfl) ?_
                    refine gl_alloc (T' := 39) (cs := #[.slice none 0 0, .float .f64 0]) (by kernel_rfl) (by kernel_rfl) (by kernel_rfl) (fun g129 => ?_)
                    refine gl_storeB (T' := 39) (xp := (.tmp 20)) (xv := (.tmp 92)) (v := .agg #[.slice A124 y121.f0.length n125, .float .f64 b127]) (g := g129) (off := 0) (cs := #[.slice none 0 0, .float .f64 0]) (cs' := #[.slice A124 y121.f0.length n125, .float .f64 b127]) (by kernel_rfl) (by kernel_rfl) (by kernel_rfl) (by kernel_rfl) (by kernel_rfl) (Upd.set _ _ _ _) ?_ (by kernel_rfl)
                    refine gl_pure 1 [0, 4, 8, 14, 16, 18, 19, 21, 78, 79, 80] (K' := [(0, .int .i64 a0), (4, .bool a4), (8, .pointer (some ⟨gb1, 0, none⟩)), (14, .slice A63 j60.1.length n64), (16, .map (some g74)), (18, .pointer (some ⟨g116, 0, none⟩)), (19, .string y117), (21, .bool ((mget Ky.str s85.1 y117).isSome)), (78, .slice A67 j60.2.length n68), (79, .int .i64 (j60.2.length : Int)), (80, .int .i64 s85.2)]) (by kernel_rfl) ?_
                    refine gl_atE (by kernel_rfl) ?_
                    refine ge_seq ?_
                    refine gk_seq (by kernel_rfl) ?_
                    refine gk_region (by kernel_rfl) ?_
                    refine gl_pure 1 [0, 4, 8, 14, 16, 18, 19, 78, 79, 80, 94] (K' := [(0, .int .i64 a0), (4, .bool a4), (8, .pointer (some ⟨gb1, 0, none⟩)), (14, .slice A63 j60.1.length n64), (16, .map (some g74)), (18, .pointer (some ⟨g116, 0, none⟩)), (19, .string y117), (78, .slice A67 j60.2.length n68), (79, .int .i64 (j60.2.length : Int)), (80, .int .i64 s85.2), (94, .bool ((mget Ky.str s85.1 y117).isSome))]) (by kernel_rfl) ?_
                    refine gl_atE (by kernel_rfl) ?_
                    refine ge_seq ?_
                    refine gk_cond (b := (mget Ky.str s85.1 y117).isSome) (by kernel_rfl) (by kernel_rfl) (fun hc130 => ?_) (fun hc130 => ?_)
                    · have hb87 := cond_t hc130 hb87
                      refine gk_seq (by kernel_rfl) ?_
                      refine gk_region (by kernel_rfl) ?_
                      refine gl_pure 2 [10, 11] (K' := [(10, .slice none 0 0), (11, .int .i64 150)]) (by kernel_rfl) ?_
                      refine gl_atE (by kernel_rfl) ?_
                      refine ge_seq ?_
                      refine gk_reord (D := L) (Reord.skip (Reord.skip (Reord.skipC (Reord.skipC (Reord.skipC (Reord.skip (Reord.refl _))))))) ?_
                      refine gk_ret (by kernel_rfl) ?_
                      refine ge_seq_ret ?_
                      refine ge_block_ret ?_
                      refine ge_seq_ret ?_
                      obtain rfl := some_inj hb87
                      refine ge_round_out (fun hrr => ?_) (by intro h; cases h)
                      obtain rfl := hrr
                      refine ge_block_ret ?_
                      refine ge_seq_ret ?_
                      refine ge_seq_ret ?_
                      obtain rfl := some_inj hr
                      exact ge_result trivial (ResOk.tmp (by kernel_rfl) (ResOk.tmp (by kernel_rfl) ResOk.nil)) (Imm.trans (Imm.trans (Imm.trans (Imm.trans hI2 hI16) hI26) hI62) hI88) ⟨none, 0, [], OwnS.nil _ _ _ _, rfl, rfl⟩
                    · have hb87 := cond_f hc130 hb87
                      refine gk_skip (by kernel_rfl) ?_
                      refine ge_seq ?_
                      refine gk_region (by kernel_rfl) ?_
                      refine gl_pure 2 [0, 4, 8, 14, 16, 18, 78, 79, 80, 95, 96] (K' := [(0, .int .i64 a0), (4, .bool a4), (8, .pointer (some ⟨gb1, 0, none⟩)), (14, .slice A63 j60.1.length n64), (16, .map (some g74)), (18, .pointer (some ⟨g116, 0, none⟩)), (78, .slice A67 j60.2.length n68), (79, .int .i64 (j60.2.length : Int)), (80, .int .i64 s85.2), (95, .map (some g74)), (96, .string y117)]) (by kernel_rfl) ?_
                      refine gl_loadB (T' := 39) (xp := (.tmp 18)) (v := .agg #[.slice A110 x102.f0.length n111, .float .f64 b113]) (g := g116) (off := 0) (cs := #[.slice A110 x102.f0.length n111, .float .f64 b113]) (e := 39) (fz := (0, 0)) (by kernel_rfl) (by kernel_rfl) (by kernel_rfl) (List.mem_cons_of_mem _ List.mem_cons_self) (by kernel_rfl) ?_
                      refine gl_mapUpdate (a := 9) (b := 39) (ds := .string) (T' := 70) (xm := (.tmp 95)) (xk := (.tmp 96)) (xv := (.tmp 97)) (x := y117) (v := x102) (u := .agg #[.slice A110 x102.f0.length n111, .float .f64 b113]) (fun X => (g129, .cells #[.slice A124 y121.f0.length n125, .float .f64 b127] 39) :: ((g116, .cells #[.slice A110 x102.f0.length n111, .float .f64 b113] 39) :: (X ++ (C65 ++ (C69 ++ ((gb1, .cells #[.int .i64 a3.f0, .bool a3.f1, .slice A3_2 a3.f2.length n3_2, .slice A3_3 a3.f3.length n3_3] 25) :: L)))))) hO90 (fun X => (Upd.one _ (Upd.one _ (Upd.head _ X _)))) (by kernel_rfl) (by kernel_rfl) (by kernel_rfl) (by kernel_rfl) (by kernel_rfl) (by kernel_rfl) (by kernel_rfl) ⟨_, rfl, (kS38_mk (x := x102) hf112 hf114)⟩ (by kernel_rfl) (fun C131 hO132 => ?_)
                      refine gl_atE (by kernel_rfl) ?_
                      refine ge_block_normal ?_
                      refine ge_seq ?_
                      refine gk_region (by kernel_rfl) ?_
                      refine gl_pure 2 [0, 4, 8, 14, 16, 78, 79, 80] (K' := [(0, .int .i64 a0), (4, .bool a4), (8, .pointer (some ⟨gb1, 0, none⟩)), (14, .slice A63 j60.1.length n64), (16, .map (some g74)), (78, .slice A67 j60.2.length n68), (79, .int .i64 (j60.2.length : Int)), (80, .int .i64 (IntKind.wrap .i64 (s85.2 + 1)))]) (by kernel_rfl) ?_
                      refine gl_reord (D := C131 ++ (C65 ++ (C69 ++ ((gb1, .cells #[.int .i64 a3.f0, .bool a3.f1, .slice A3_2 a3.f2.length n3_2, .slice A3_3 a3.f3.length n3_3] 25) :: L)))) (Reord.step (Upd.one _ (Upd.one _ (Upd.rmC _ _))) (Reord.step (Upd.one _ (Upd.one _ (Upd.rmC _ _))) (Reord.step (Upd.one _ (Upd.one _ (Upd.rmC _ _))) (Reord.step1 (Upd.one _ (Upd.one _ (Upd.rm1 _ _))) (Reord.skip (Reord.skip (Reord.refl _))))))) ?_
                      refine gl_atE (by kernel_rfl) ?_
                      obtain rfl := some_inj hb87
                      exact ge_round fun t ht => ⟨C131, hO132, hI88, rfl, ht.pick (l := [0, 4, 8, 14, 16, 78, 79, 80]) (by kernel_rfl)⟩
                  · have hb87 := cond_f hc101 hb87
                    refine gk_reord (D := C89 ++ (C65 ++ ((gb1, .cells #[.int .i64 a3.f0, .bool a3.f1, .slice A3_2 a3.f2.length n3_2, .slice A3_3 a3.f3.length n3_3] 25) :: L))) (Reord.step (Upd.rmC _ _) (Reord.step (Upd.rmC _ _) (Reord.step1 (Upd.app _ (Upd.rm1 _ _)) (Reord.skipC (Reord.refl _))))) ?_
                    refine gk_exit (by kernel_rfl) ?_
                    refine ge_seq_exit ?_
                    obtain rfl := some_inj hb87
                    refine ge_round_out (fun hrr => ?_) (by intro h; cases h)
                    obtain rfl := hrr
                    refine ge_block_hit (by kernel_rfl) ?_
                    exact ge_mid fun t ht => ⟨_, rfl, C89, hO90, hI88, rfl, ht.pick (l := [0, 4, 8, 14, 16]) (by kernel_rfl)⟩
                · rintro t I98 L' ⟨r93, rfl, C95, hO96, hI94, rfl, hK97⟩
                  refine ge_at hK97 ?_
                  refine ge_seq ?_
                  refine gk_seq (by kernel_rfl) ?_
                  refine gk_region (by kernel_rfl) ?_
                  refine gl_makeMap (ky := Ky.str) (d := Kd.bool) (agg := false) (T' := 73) (by kernel_rfl) (by kernel_rfl) (fun g134 C135 hO136 => ?_)
                  refine gl_pure 1 [0, 4, 8, 14, 16, 22] (K' := [(0, .int .i64 a0), (4, .bool a4), (8, .pointer (some ⟨gb1, 0, none⟩)), (14, .slice A63 j60.1.length n64), (16, .map (some g74)), (22, .map (some g134))]) (by kernel_rfl) ?_
                  refine gl_atE (by kernel_rfl) ?_
                  refine ge_seq ?_
                  refine gk_seq (by kernel_rfl) ?_
                  refine gk_region (by kernel_rfl) ?_
                  refine gl_pure 1 [0, 4, 8, 14, 16, 22, 23] (K' := [(0, .int .i64 a0), (4, .bool a4), (8, .pointer (some ⟨gb1, 0, none⟩)), (14, .slice A63 j60.1.length n64), (16, .map (some g74)), (22, .map (some g134)), (23, .slice none 0 0)]) (by kernel_rfl) ?_
                  refine gl_atE (by kernel_rfl) ?_
                  refine ge_seq ?_
                  refine gk_seq (by kernel_rfl) ?_
                  refine gk_seq (by kernel_rfl) ?_
                  refine gk_region (by kernel_rfl) ?_
                  refine gl_pure 3 [0, 4, 8, 16, 22, 23, 100, 101, 102] (K' := [(0, .int .i64 a0), (4, .bool a4), (8, .pointer (some ⟨gb1, 0, none⟩)), (16, .map (some g74)), (22, .map (some g134)), (23, .slice none 0 0), (100, .slice A63 j60.1.length n64), (101, .int .i64 (j60.1.length : Int)), (102, .int .i64 0)]) (by kernel_rfl) ?_
                  refine gl_atE (by kernel_rfl) ?_
                  refine ge_seq ?_
                  obtain ⟨r147, hl148, hr⟩ := bind_some hr
                  refine gk_join (fun t I' L' => ∃ r161, r147 = Sum.inl r161 ∧ ∃ A163 n164 C165, OwnS kS38 39 I' A163 n164 r161 C165 ∧ I98 ≤ I' ∧ C165 ++ L = L' ∧ Knows 164 [(23, .slice A163 r161.length n164)] t) ?_ ?_
                  · refine gk_block (by kernel_rfl) ?_
                    refine gk_pick [0, 4, 8, 16, 22, 23, 100, 101, 102] (K' := [(0, .int .i64 a0), (4, .bool a4), (8, .pointer (some ⟨gb1, 0, none⟩)), (16, .map (some g74)), (22, .map (some g134)), (23, .slice none 0 0), (100, .slice A63 j60.1.length n64), (101, .int .i64 (j60.1.length : Int)), (102, .int .i64 0)]) (by kernel_rfl) ?_
                    intro t hK
                    refine gc_loop (vec_Binary_l169 a0 a3 a4 j60 r93) (fun s149 t I' L' => ∃ C153 A155 n156 C157, OwnM Ky.str Kd.bool false I' g134 s149.1 C153 ∧ OwnS kS38 39 I' A155 n156 s149.2.1 C157 ∧ I98 ≤ I' ∧ C153 ++ (C157 ++ (C95 ++ (C65 ++ ((gb1, .cells #[.int .i64 a3.f0, .bool a3.f1, .slice A3_2 a3.f2.length n3_2, .slice A3_3 a3.f3.length n3_3] 25) :: L)))) = L' ∧ Knows 164 [(0, .int .i64 a0), (4, .bool a4), (8, .pointer (some ⟨gb1, 0, none⟩)), (16, .map (some g74)), (22, .map (some g134)), (23, .slice A155 s149.2.1.length n156), (100, .slice A63 j60.1.length n64), (101, .int .i64 (j60.1.length : Int)), (102, .int .i64 s149.2.2)] t) (by kernel_rfl) ?_ hl148 ⟨C135, none, 0, [], hO136, OwnS.nil _ _ _ _, (Imm.refl _), rfl, hK⟩
                    rintro s149 o150 t I160 L' hb151 ⟨C153, A155, n156, C157, hO154, hO158, hI152, rfl, hK159⟩
                    unfold vec_Binary_l169 at hb151
                    refine gk_at hK159 ?_
                    refine gk_seq (by kernel_rfl) ?_
                    refine gk_region (by kernel_rfl) ?_
                    refine gl_pure 1 [0, 4, 8, 16, 22, 23, 100, 101, 102, 103] (K' := [(0, .int .i64 a0), (4, .bool a4), (8, .pointer (some ⟨gb1, 0, none⟩)), (16, .map (some g74)), (22, .map (some g134)), (23, .slice A155 s149.2.1.length n156), (100, .slice A63 j60.1.length n64), (101, .int .i64 (j60.1.length : Int)), (102, .int .i64 s149.2.2), (103, .bool (decide (s149.2.2 < (j60.1.length : Int))))]) (by kernel_rfl) ?_
                    refine gl_atE (by kernel_rfl) ?_
                    refine ge_seq ?_
                    refine gk_seq (by kernel_rfl) ?_
                    refine gk_cond (b := (decide (s149.2.2 < (j60.1.length : Int)))) (by kernel_rfl) (by kernel_rfl) (fun hc171 => ?_) (fun hc171 => ?_)
                    · have hb151 := cond_t hc171 hb151
                      refine gk_skip (by kernel_rfl) ?_
                      refine ge_seq ?_
                      refine gk_seq (by kernel_rfl) ?_
                      obtain ⟨j172, hj173, hb151⟩ := bind_some hb151
                      refine gk_join (fun t I' L' => ∃ j174, j172 = Sum.inl j174 ∧ ∃ C176 A178 n179 C180, OwnM Ky.str Kd.bool false I' g134 j174.1 C176 ∧ OwnS kS38 39 I' A178 n179 j174.2 C180 ∧ I160 ≤ I' ∧ C176 ++ (C180 ++ (C95 ++ (C65 ++ ((gb1, .cells #[.int .i64 a3.f0, .bool a3.f1, .slice A3_2 a3.f2.length n3_2, .slice A3_3 a3.f3.length n3_3] 25) :: L)))) = L' ∧ Knows 164 [(0, .int .i64 a0), (4, .bool a4), (8, .pointer (some ⟨gb1, 0, none⟩)), (16, .map (some g74)), (22, .map (some g134)), (23, .slice A178 j174.2.length n179), (100, .slice A63 j60.1.length n64), (101, .int .i64 (j60.1.length : Int)), (102, .int .i64 s149.2.2)] t) ?_ ?_
                      · refine gk_block (by kernel_rfl) ?_
                        refine gk_seq (by kernel_rfl) ?_
                        refine gk_region (by kernel_rfl) ?_
                        obtain ⟨x184, hx185, hj173⟩ := bind_some hj173
                        refine gl_indexAddrW (d := kS38) (c := n64) (T' := 22) (e := 39) (xs := (.tmp 100)) (xi := (.tmp 102)) (kd := .i64) hx185 (hO66.mono (Imm.trans hI94 hI152)) (Upd.app _ (Upd.app _ (Upd.app _ (Upd.selfC _ _)))) (by kernel_rfl) (by kernel_rfl) (by kernel_rfl) (by kernel_rfl) (by kernel_rfl) (fun p186 cs187 hR188 hA189 hp197 => ?_)
                        obtain ⟨A192, n193, b195, hf194, hf196, rfl⟩ := kS38_open hR188
                        refine gl_loadOA (T' := 39) (xp := (.tmp 104)) (p := p186) (cs := [.slice A192 x184.f0.length n193, .float .f64 b195]) (by kernel_rfl) (by kernel_rfl) (by kernel_rfl) (by kernel_rfl) (hA189.take 2) ?_
                        refine gl_alloc (T' := 39) (cs := #[.slice none 0 0, .float .f64 0]) (by kernel_rfl) (by kernel_rfl) (by kernel_rfl) (fun g198 => ?_)
                        refine gl_storeB (T' := 39) (xp := (.tmp 25)) (xv := (.tmp 105)) (v := .agg #[.slice A192 x184.f0.length n193, .float .f64 b195]) (g := g198) (off := 0) (cs := #[.slice none 0 0, .float .f64 0]) (cs' := #[.slice A192 x184.f0.length n193, .float .f64 b195]) (by kernel_rfl) (by kernel_rfl) (by kernel_rfl) (by kernel_rfl) (by kernel_rfl) (Upd.set _ _ _ _) ?_ (by kernel_rfl)
                        refine gl_atE (by kernel_rfl) ?_
                        refine ge_seq ?_
                        refine gk_seq (by kernel_rfl) ?_
                        refine gk_region (by kernel_rfl) ?_
                        refine gl_pure 1 [0, 4, 8, 16, 22, 23, 25, 100, 101, 102, 106] (K' := [(0, .int .i64 a0), (4, .bool a4), (8, .pointer (some ⟨gb1, 0, none⟩)), (16, .map (some g74)), (22, .map (some g134)), (23, .slice A155 s149.2.1.length n156), (25, .pointer (some ⟨g198, 0, none⟩)), (100, .slice A63 j60.1.length n64), (101, .int .i64 (j60.1.length : Int)), (102, .int .i64 s149.2.2), (106, .pointer (some ⟨g198, 0, none⟩))]) (by kernel_rfl) ?_
                        refine gl_loadB (T' := 36) (xp := (.tmp 106)) (v := .slice A192 x184.f0.length n193) (g := g198) (off := 0) (cs := #[.slice A192 x184.f0.length n193, .float .f64 b195]) (e := 39) (fz := (0, 0)) (by kernel_rfl) (by kernel_rfl) (by kernel_rfl) List.mem_cons_self (by kernel_rfl) ?_
                        refine gl_loadB (T' := 25) (xp := (.tmp 8)) (v := .agg #[.int .i64 a3.f0, .bool a3.f1, .slice A3_2 a3.f2.length n3_2, .slice A3_3 a3.f3.length n3_3]) (g := gb1) (off := 0) (cs := #[.int .i64 a3.f0, .bool a3.f1, .slice A3_2 a3.f2.length n3_2, .slice A3_3 a3.f3.length n3_3]) (e := 25) (fz := (0, 0)) (by kernel_rfl) (by kernel_rfl) (by kernel_rfl) (List.mem_cons_of_mem _ (List.mem_append_right _ (List.mem_append_right _ (List.mem_append_right _ (List.mem_append_right _ List.mem_cons_self))))) (by kernel_rfl) ?_
                        obtain ⟨y199, hx200, hj173⟩ := bind_some hj173
                        refine gl_callQ (by kernel_rfl) (vec_signature_walk (r := y199) (hG.mono (Imm.trans (Imm.trans (Imm.trans (Imm.trans (Imm.trans hI2 hI16) hI26) hI62) hI94) hI152)) hf194 (hf3_2.mono (Imm.trans (Imm.trans (Imm.trans (Imm.trans (Imm.trans hI2 hI16) hI26) hI62) hI94) hI152)) (hf3_3.mono (Imm.trans (Imm.trans (Imm.trans (Imm.trans (Imm.trans hI2 hI16) hI26) hI62) hI94) hI152)) hx200 _) ?_
                        refine gl_pure 1 [0, 4, 8, 16, 22, 23, 25, 26, 100, 101, 102] (K' := [(0, .int .i64 a0), (4, .bool a4), (8, .pointer (some ⟨gb1, 0, none⟩)), (16, .map (some g74)), (22, .map (some g134)), (23, .slice A155 s149.2.1.length n156), (25, .pointer (some ⟨g198, 0, none⟩)), (26, .string y199), (100, .slice A63 j60.1.length n64), (101, .int .i64 (j60.1.length : Int)), (102, .int .i64 s149.2.2)]) (by kernel_rfl) ?_
                        refine gl_atE (by kernel_rfl) ?_
                        refine ge_seq ?_
                        refine gk_seq (by kernel_rfl) ?_
                        refine gk_region (by kernel_rfl) ?_
                        refine gl_pure 2 [0, 4, 8, 16, 22, 23, 25, 26, 100, 101, 102, 111, 112] (K' := [(0, .int .i64 a0), (4, .bool a4), (8, .pointer (some ⟨gb1, 0, none⟩)), (16, .map (some g74)), (22, .map (some g134)), (23, .slice A155 s149.2.1.length n156), (25, .pointer (some ⟨g198, 0, none⟩)), (26, .string y199), (100, .slice A63 j60.1.length n64), (101, .int .i64 (j60.1.length : Int)), (102, .int .i64 s149.2.2), (111, .map (some g74)), (112, .string y199)]) (by kernel_rfl) ?_
                        obtain ⟨y203, hy267, hj173⟩ := bind_some hj173
                        refine gl_lookup (a := 9) (b := 39) (ds := .string) (ok := true) (T' := 70) (xm := (.tmp 111)) (xk := (.tmp 112)) (x := y199) (z := (⟨[], (some 0 : Fl)⟩ : S38)) (uz := .agg #[.slice none 0 0, .float .f64 0]) (hO96.mono hI152) (fun q hq => (List.mem_cons_of_mem _ (List.mem_append_right _ (List.mem_append_right _ (List.mem_append_left _ hq))))) (by kernel_rfl) (by kernel_rfl) (by kernel_rfl) (by kernel_rfl) (by kernel_rfl) (by kernel_rfl) (by kernel_rfl) ⟨_, rfl, (kS38_mk (x := (⟨[], (some 0 : Fl)⟩ : S38)) (RepS.nil _ _) (FRep.of 0))⟩ (fun u201 hu202 => ?_)
                        rw [some_inj hy267] at hu202
                        obtain ⟨cs204, rfl, hR205⟩ := hu202
                        obtain ⟨A206, n207, b209, hf208, hf210, rfl⟩ := kS38_open hR205
                        refine gl_pure 3 [0, 4, 8, 16, 22, 23, 25, 26, 100, 101, 102, 114, 115] (K' := [(0, .int .i64 a0), (4, .bool a4), (8, .pointer (some ⟨gb1, 0, none⟩)), (16, .map (some g74)), (22, .map (some g134)), (23, .slice A155 s149.2.1.length n156), (25, .pointer (some ⟨g198, 0, none⟩)), (26, .string y199), (100, .slice A63 j60.1.length n64), (101, .int .i64 (j60.1.length : Int)), (102, .int .i64 s149.2.2), (114, .agg #[.slice A206 y203.f0.length n207, .float .f64 b209]), (115, .bool ((mget Ky.str r93 y199).isSome))]) (by kernel_rfl) ?_
                        refine gl_alloc (T' := 39) (cs := #[.slice none 0 0, .float .f64 0]) (by kernel_rfl) (by kernel_rfl) (by kernel_rfl) (fun g211 => ?_)
                        refine gl_storeB (T' := 39) (xp := (.tmp 27)) (xv := (.tmp 114)) (v := .agg #[.slice A206 y203.f0.length n207, .float .f64 b209]) (g := g211) (off := 0) (cs := #[.slice none 0 0, .float .f64 0]) (cs' := #[.slice A206 y203.f0.length n207, .float .f64 b209]) (by kernel_rfl) (by kernel_rfl) (by kernel_rfl) (by kernel_rfl) (by kernel_rfl) (Upd.set _ _ _ _) ?_ (by kernel_rfl)
                        refine gl_pure 1 [0, 4, 8, 16, 22, 23, 25, 26, 27, 28, 100, 101, 102] (K' := [(0, .int .i64 a0), (4, .bool a4), (8, .pointer (some ⟨gb1, 0, none⟩)), (16, .map (some g74)), (22, .map (some g134)), (23, .slice A155 s149.2.1.length n156), (25, .pointer (some ⟨g198, 0, none⟩)), (26, .string y199), (27, .pointer (some ⟨g211, 0, none⟩)), (28, .bool ((mget Ky.str r93 y199).isSome)), (100, .slice A63 j60.1.length n64), (101, .int .i64 (j60.1.length : Int)), (102, .int .i64 s149.2.2)]) (by kernel_rfl) ?_
                        refine gl_atE (by kernel_rfl) ?_
                        refine ge_seq ?_
                        refine gk_seq (by kernel_rfl) ?_
                        refine gk_seq (by kernel_rfl) ?_
                        refine gk_region (by kernel_rfl) ?_
                        refine gl_pure 2 [0, 4, 8, 16, 22, 23, 25, 26, 27, 100, 101, 102, 117] (K' := [(0, .int .i64 a0), (4, .bool a4), (8, .pointer (some ⟨gb1, 0, none⟩)), (16, .map (some g74)), (22, .map (some g134)), (23, .slice A155 s149.2.1.length n156), (25, .pointer (some ⟨g198, 0, none⟩)), (26, .string y199), (27, .pointer (some ⟨g211, 0, none⟩)), (100, .slice A63 j60.1.length n64), (101, .int .i64 (j60.1.length : Int)), (102, .int .i64 s149.2.2), (117, .bool (!((mget Ky.str r93 y199).isSome)))]) (by kernel_rfl) ?_
                        refine gl_atE (by kernel_rfl) ?_
                        refine ge_seq ?_
                        refine gk_cond (b := (!((mget Ky.str r93 y199).isSome))) (by kernel_rfl) (by kernel_rfl) (fun hc212 => ?_) (fun hc212 => ?_)
                        · have hj173 := cond_t hc212 hj173
                          refine gk_reord (D := C153 ++ (C157 ++ (C95 ++ (C65 ++ ((gb1, .cells #[.int .i64 a3.f0, .bool a3.f1, .slice A3_2 a3.f2.length n3_2, .slice A3_3 a3.f3.length n3_3] 25) :: L))))) (Reord.step (Upd.one _ (Upd.one _ (Upd.rmC _ _))) (Reord.step (Upd.one _ (Upd.one _ (Upd.rmC _ _))) (Reord.step (Upd.one _ (Upd.one _ (Upd.rmC _ _))) (Reord.step (Upd.one _ (Upd.one _ (Upd.rmC _ _))) (Reord.step1 (Upd.one _ (Upd.one _ (Upd.rm1 _ _))) (Reord.skip (Reord.skip (Reord.refl _)))))))) ?_
                          refine gk_exit (by kernel_rfl) ?_
                          refine ge_seq_exit ?_
                          refine ge_block_hit (by kernel_rfl) ?_
                          obtain rfl := some_inj hj173
                          exact ge_mid fun t ht => ⟨_, rfl, C153, A155, n156, C157, hO154, hO158, (Imm.refl _), rfl, ht.pick (l := [0, 4, 8, 16, 22, 23, 100, 101, 102]) (by kernel_rfl)⟩
                        · have hj173 := cond_f hc212 hj173
                          refine gk_skip (by kernel_rfl) ?_
                          refine ge_seq ?_
                          refine gk_seq (by kernel_rfl) ?_
                          refine gk_draw 6 [(0, true), (1, true), (2, true), (3, true), (4, true), (5, true)] [(g211, .cells #[.slice A206 y203.f0.length n207, .float .f64 b209] 39), (g198, .cells #[.slice A192 x184.f0.length n193, .float .f64 b195] 39), (gb1, .cells #[.int .i64 a3.f0, .bool a3.f1, .slice A3_2 a3.f2.length n3_2, .slice A3_3 a3.f3.length n3_3] 25)] (List.forall_mem_cons.2 ⟨List.mem_cons_self, (List.forall_mem_cons.2 ⟨(List.mem_cons_of_mem _ List.mem_cons_self), (List.forall_mem_cons.2 ⟨(List.mem_cons_of_mem _ (List.mem_cons_of_mem _ (List.mem_append_right _ (List.mem_append_right _ (List.mem_append_right _ (List.mem_append_right _ List.mem_cons_self)))))), (fun p hp => by cases hp)⟩)⟩)⟩) (by kernel_rfl) (by kernel_rfl) (by kernel_rfl) ?_ (by kernel_rfl)
                          refine gd_pure 1 [0, 4, 8, 16, 22, 23, 25, 26, 27, 100, 101, 102, 118] (K' := [(0, .int .i64 a0), (4, .bool a4), (8, .pointer (some ⟨gb1, 0, none⟩)), (16, .map (some g74)), (22, .map (some g134)), (23, .slice A155 s149.2.1.length n156), (25, .pointer (some ⟨g198, 0, none⟩)), (26, .string y199), (27, .pointer (some ⟨g211, 0, none⟩)), (100, .slice A63 j60.1.length n64), (101, .int .i64 (j60.1.length : Int)), (102, .int .i64 s149.2.2), (118, .pointer (some ⟨g198, 1, none⟩))]) (s' := [(1, true), (2, true), (3, true), (4, true), (5, true)]) (CC.refl (List.forall_mem_cons.2 ⟨List.mem_cons_self, (List.forall_mem_cons.2 ⟨(List.mem_cons_of_mem _ List.mem_cons_self), (List.forall_mem_cons.2 ⟨(List.mem_cons_of_mem _ (List.mem_cons_of_mem _ (List.mem_append_right _ (List.mem_append_right _ (List.mem_append_right _ (List.mem_append_right _ List.mem_cons_self)))))), (fun p hp => by cases hp)⟩)⟩)⟩)) (by kernel_rfl) ?_
                          refine gd_q (v := .float .f64 b195) (by kernel_rfl) (by kernel_rfl) (CC.refl (List.forall_mem_cons.2 ⟨List.mem_cons_self, (List.forall_mem_cons.2 ⟨(List.mem_cons_of_mem _ List.mem_cons_self), (List.forall_mem_cons.2 ⟨(List.mem_cons_of_mem _ (List.mem_cons_of_mem _ (List.mem_append_right _ (List.mem_append_right _ (List.mem_append_right _ (List.mem_append_right _ List.mem_cons_self)))))), (fun p hp => by cases hp)⟩)⟩)⟩)) (fun I' L' T hC kk => gl_loadB (T' := 37) (xp := (.tmp 118)) (v := .float .f64 b195) (g := g198) (off := 1) (cs := #[.slice A192 x184.f0.length n193, .float .f64 b195]) (e := 39) (fz := (0, 0)) (by kernel_rfl) (by kernel_rfl) (by kernel_rfl) (hC.sub _ (List.mem_cons_of_mem _ List.mem_cons_self)) (by kernel_rfl) kk) ?_
                          refine gd_pure 1 [0, 4, 8, 16, 22, 23, 25, 26, 27, 100, 101, 102, 119, 120] (K' := [(0, .int .i64 a0), (4, .bool a4), (8, .pointer (some ⟨gb1, 0, none⟩)), (16, .map (some g74)), (22, .map (some g134)), (23, .slice A155 s149.2.1.length n156), (25, .pointer (some ⟨g198, 0, none⟩)), (26, .string y199), (27, .pointer (some ⟨g211, 0, none⟩)), (100, .slice A63 j60.1.length n64), (101, .int .i64 (j60.1.length : Int)), (102, .int .i64 s149.2.2), (119, .float .f64 b195), (120, .pointer (some ⟨g211, 1, none⟩))]) (s' := [(3, true), (4, true), (5, true)]) (CC.refl (List.forall_mem_cons.2 ⟨List.mem_cons_self, (List.forall_mem_cons.2 ⟨(List.mem_cons_of_mem _ List.mem_cons_self), (List.forall_mem_cons.2 ⟨(List.mem_cons_of_mem _ (List.mem_cons_of_mem _ (List.mem_append_right _ (List.mem_append_right _ (List.mem_append_right _ (List.mem_append_right _ List.mem_cons_self)))))), (fun p hp => by cases hp)⟩)⟩)⟩)) (by kernel_rfl) ?_
                          refine gd_q (v := .float .f64 b209) (by kernel_rfl) (by kernel_rfl) (CC.refl (List.forall_mem_cons.2 ⟨List.mem_cons_self, (List.forall_mem_cons.2 ⟨(List.mem_cons_of_mem _ List.mem_cons_self), (List.forall_mem_cons.2 ⟨(List.mem_cons_of_mem _ (List.mem_cons_of_mem _ (List.mem_append_right _ (List.mem_append_right _ (List.mem_append_right _ (List.mem_append_right _ List.mem_cons_self)))))), (fun p hp => by cases hp)⟩)⟩)⟩)) (fun I' L' T hC kk => gl_loadB (T' := 37) (xp := (.tmp 120)) (v := .float .f64 b209) (g := g211) (off := 1) (cs := #[.slice A206 y203.f0.length n207, .float .f64 b209]) (e := 39) (fz := (0, 0)) (by kernel_rfl) (by kernel_rfl) (by kernel_rfl) (hC.sub _ List.mem_cons_self) (by kernel_rfl) kk) ?_
                          refine gd_pure 2 [0, 4, 8, 16, 22, 23, 25, 26, 27, 29, 30, 100, 101, 102] (K' := [(0, .int .i64 a0), (4, .bool a4), (8, .pointer (some ⟨gb1, 0, none⟩)), (16, .map (some g74)), (22, .map (some g134)), (23, .slice A155 s149.2.1.length n156), (25, .pointer (some ⟨g198, 0, none⟩)), (26, .string y199), (27, .pointer (some ⟨g211, 0, none⟩)), (29, .float .f64 b195), (30, .float .f64 b209), (100, .slice A63 j60.1.length n64), (101, .int .i64 (j60.1.length : Int)), (102, .int .i64 s149.2.2)]) (s' := []) (CC.refl (List.forall_mem_cons.2 ⟨List.mem_cons_self, (List.forall_mem_cons.2 ⟨(List.mem_cons_of_mem _ List.mem_cons_self), (List.forall_mem_cons.2 ⟨(List.mem_cons_of_mem _ (List.mem_cons_of_mem _ (List.mem_append_right _ (List.mem_append_right _ (List.mem_append_right _ (List.mem_append_right _ List.mem_cons_self)))))), (fun p hp => by cases hp)⟩)⟩)⟩)) (by kernel_rfl) ?_
                          refine gd_done ?_
                          refine gl_atE (by kernel_rfl) ?_
                          refine ge_seq ?_
                          refine gk_seq (by kernel_rfl) ?_
                          refine gk_seq (by kernel_rfl) ?_
                          refine gk_region (by kernel_rfl) ?_
                          refine gl_pure 1 [0, 4, 8, 16, 22, 23, 25, 26, 27, 29, 30, 100, 101, 102, 122] (K' := [(0, .int .i64 a0), (4, .bool a4), (8, .pointer (some ⟨gb1, 0, none⟩)), (16, .map (some g74)), (22, .map (some g134)), (23, .slice A155 s149.2.1.length n156), (25, .pointer (some ⟨g198, 0, none⟩)), (26, .string y199), (27, .pointer (some ⟨g211, 0, none⟩)), (29, .float .f64 b195), (30, .float .f64 b209), (100, .slice A63 j60.1.length n64), (101, .int .i64 (j60.1.length : Int)), (102, .int .i64 s149.2.2), (122, .pointer (some ⟨gb1, 0, none⟩))]) (by kernel_rfl) ?_
                          refine gl_loadB (T' := 3) (xp := (.tmp 122)) (v := .int .i64 a3.f0) (g := gb1) (off := 0) (cs := #[.int .i64 a3.f0, .bool a3.f1, .slice A3_2 a3.f2.length n3_2, .slice A3_3 a3.f3.length n3_3]) (e := 25) (fz := (0, 0)) (by kernel_rfl) (by kernel_rfl) (by kernel_rfl) (List.mem_cons_of_mem _ (List.mem_cons_of_mem _ (List.mem_append_right _ (List.mem_append_right _ (List.mem_append_right _ (List.mem_append_right _ List.mem_cons_self)))))) (by kernel_rfl) ?_
                          refine gl_pure 1 [0, 4, 8, 16, 22, 23, 25, 26, 27, 29, 30, 100, 101, 102, 124] (K' := [(0, .int .i64 a0), (4, .bool a4), (8, .pointer (some ⟨gb1, 0, none⟩)), (16, .map (some g74)), (22, .map (some g134)), (23, .slice A155 s149.2.1.length n156), (25, .pointer (some ⟨g198, 0, none⟩)), (26, .string y199), (27, .pointer (some ⟨g211, 0, none⟩)), (29, .float .f64 b195), (30, .float .f64 b209), (100, .slice A63 j60.1.length n64), (101, .int .i64 (j60.1.length : Int)), (102, .int .i64 s149.2.2), (124, .bool (a3.f0 == 2))]) (by kernel_rfl) ?_
                          refine gl_atE (by kernel_rfl) ?_
                          refine ge_seq ?_
                          obtain ⟨j213, hj214, hj173⟩ := bind_some hj173
                          refine gk_join (fun t I' L' => ∃ b216 b218, FRep j213.1 b216 ∧ FRep j213.2 b218 ∧ I160 ≤ I' ∧ (g211, .cells #[.slice A206 y203.f0.length n207, .float .f64 b209] 39) :: ((g198, .cells #[.slice A192 x184.f0.length n193, .float .f64 b195] 39) :: (C153 ++ (C157 ++ (C95 ++ (C65 ++ ((gb1, .cells #[.int .i64 a3.f0, .bool a3.f1, .slice A3_2 a3.f2.length n3_2, .slice A3_3 a3.f3.length n3_3] 25) :: L)))))) = L' ∧ Knows 164 [(0, .int .i64 a0), (4, .bool a4), (8, .pointer (some ⟨gb1, 0, none⟩)), (16, .map (some g74)), (22, .map (some g134)), (23, .slice A155 s149.2.1.length n156), (25, .pointer (some ⟨g198, 0, none⟩)), (26, .string y199), (27, .pointer (some ⟨g211, 0, none⟩)), (29, .float .f64 b216), (30, .float .f64 b218), (100, .slice A63 j60.1.length n64), (101, .int .i64 (j60.1.length : Int)), (102, .int .i64 s149.2.2)] t) ?_ ?_
                          · refine gk_cond (b := (a3.f0 == 2)) (by kernel_rfl) (by kernel_rfl) (fun hc222 => ?_) (fun hc222 => ?_)
                            · have hj214 := cond_t hc222 hj214
                              refine gk_region (by kernel_rfl) ?_
                              refine gl_pure 4 [0, 4, 8, 16, 22, 23, 25, 26, 27, 29, 30, 100, 101, 102] (K' := [(0, .int .i64 a0), (4, .bool a4), (8, .pointer (some ⟨gb1, 0, none⟩)), (16, .map (some g74)), (22, .map (some g134)), (23, .slice A155 s149.2.1.length n156), (25, .pointer (some ⟨g198, 0, none⟩)), (26, .string y199), (27, .pointer (some ⟨g211, 0, none⟩)), (29, .float .f64 b209), (30, .float .f64 b195), (100, .slice A63 j60.1.length n64), (101, .int .i64 (j60.1.length : Int)), (102, .int .i64 s149.2.2)]) (by kernel_rfl) ?_
                              refine gl_atE (by kernel_rfl) ?_
                              obtain rfl := some_inj hj214
                              exact ge_mid fun t ht => ⟨b209, b195, hf210, hf196, (Imm.refl _), rfl, ht.pick (l := [0, 4, 8, 16, 22, 23, 25, 26, 27, 29, 30, 100, 101, 102]) (by kernel_rfl)⟩
                            · have hj214 := cond_f hc222 hj214
                              refine gk_skip (by kernel_rfl) ?_
                              obtain rfl := some_inj hj214
                              exact ge_mid fun t ht => ⟨b195, b209, hf196, hf210, (Imm.refl _), rfl, ht.pick (l := [0, 4, 8, 16, 22, 23, 25, 26, 27, 29, 30, 100, 101, 102]) (by kernel_rfl)⟩
                          · rintro t I221 L' ⟨b216, b218, hb217, hb219, hI215, rfl, hK220⟩
                            refine ge_at hK220 ?_
                            refine ge_seq ?_
                            refine gk_seq (by kernel_rfl) ?_
                            refine gk_region (by kernel_rfl) ?_
                            refine gl_pure 4 [0, 4, 8, 16, 22, 23, 26, 27, 29, 100, 101, 102, 128, 129, 130, 131] (K' := [(0, .int .i64 a0), (4, .bool a4), (8, .pointer (some ⟨gb1, 0, none⟩)), (16, .map (some g74)), (22, .map (some g134)), (23, .slice A155 s149.2.1.length n156), (26, .string y199), (27, .pointer (some ⟨g211, 0, none⟩)), (29, .float .f64 b216), (100, .slice A63 j60.1.length n64), (101, .int .i64 (j60.1.length : Int)), (102, .int .i64 s149.2.2), (128, .int .i64 a0), (129, .float .f64 b216), (130, .float .f64 b218), (131, .pointer (some ⟨g198, 0, none⟩))]) (by kernel_rfl) ?_
                            refine gl_loadB (T' := 36) (xp := (.tmp 131)) (v := .slice A192 x184.f0.length n193) (g := g198) (off := 0) (cs := #[.slice A192 x184.f0.length n193, .float .f64 b195]) (e := 39) (fz := (0, 0)) (by kernel_rfl) (by kernel_rfl) (by kernel_rfl) (List.mem_cons_of_mem _ List.mem_cons_self) (by kernel_rfl) ?_
                            refine gl_pure 2 [0, 4, 8, 16, 22, 23, 26, 27, 100, 101, 102, 128, 129, 130, 132, 133, 134] (K' := [(0, .int .i64 a0), (4, .bool a4), (8, .pointer (some ⟨gb1, 0, none⟩)), (16, .map (some g74)), (22, .map (some g134)), (23, .slice A155 s149.2.1.length n156), (26, .string y199), (27, .pointer (some ⟨g211, 0, none⟩)), (100, .slice A63 j60.1.length n64), (101, .int .i64 (j60.1.length : Int)), (102, .int .i64 s149.2.2), (128, .int .i64 a0), (129, .float .f64 b216), (130, .float .f64 b218), (132, .slice A192 x184.f0.length n193), (133, .float .f64 b216), (134, .bool a4)]) (by kernel_rfl) ?_
                            obtain ⟨y223, hx224, hj173⟩ := bind_some hj173
                            refine gl_call (by kernel_rfl) (vec_result_walk (r := y223) (hG.mono (Imm.trans (Imm.trans (Imm.trans (Imm.trans (Imm.trans (Imm.trans hI2 hI16) hI26) hI62) hI94) hI152) hI215)) hb217 hb219 (hf194.mono hI215) hb217 hx224 _) ?_
                            rintro v I225 L226 hI227 ⟨A228, c229, z230, hf231, hO232, rfl, rfl⟩
                            refine gl_pure 3 [0, 4, 8, 16, 22, 23, 26, 27, 100, 101, 102, 136, 137] (K' := [(0, .int .i64 a0), (4, .bool a4), (8, .pointer (some ⟨gb1, 0, none⟩)), (16, .map (some g74)), (22, .map (some g134)), (23, .slice A155 s149.2.1.length n156), (26, .string y199), (27, .pointer (some ⟨g211, 0, none⟩)), (100, .slice A63 j60.1.length n64), (101, .int .i64 (j60.1.length : Int)), (102, .int .i64 s149.2.2), (136, .agg #[.slice A228 y223.1.f0.length c229, .float .f64 z230]), (137, .bool y223.2)]) (by kernel_rfl) ?_
                            refine gl_alloc (T' := 39) (cs := #[.slice none 0 0, .float .f64 0]) (by kernel_rfl) (by kernel_rfl) (by kernel_rfl) (fun g233 => ?_)
                            refine gl_storeB (T' := 39) (xp := (.tmp 31)) (xv := (.tmp 136)) (v := .agg #[.slice A228 y223.1.f0.length c229, .float .f64 z230]) (g := g233) (off := 0) (cs := #[.slice none 0 0, .float .f64 0]) (cs' := #[.slice A228 y223.1.f0.length c229, .float .f64 z230]) (by kernel_rfl) (by kernel_rfl) (by kernel_rfl) (by kernel_rfl) (by kernel_rfl) (Upd.set _ _ _ _) ?_ (by kernel_rfl)
                            refine gl_pure 1 [0, 4, 8, 16, 22, 23, 26, 27, 28, 31, 100, 101, 102] (K' := [(0, .int .i64 a0), (4, .bool a4), (8, .pointer (some ⟨gb1, 0, none⟩)), (16, .map (some g74)), (22, .map (some g134)), (23, .slice A155 s149.2.1.length n156), (26, .string y199), (27, .pointer (some ⟨g211, 0, none⟩)), (28, .bool y223.2), (31, .pointer (some ⟨g233, 0, none⟩)), (100, .slice A63 j60.1.length n64), (101, .int .i64 (j60.1.length : Int)), (102, .int .i64 s149.2.2)]) (by kernel_rfl) ?_
                            refine gl_atE (by kernel_rfl) ?_
                            refine ge_seq ?_
                            refine gk_seq (by kernel_rfl) ?_
                            refine gk_seq (by kernel_rfl) ?_
                            refine gk_region (by kernel_rfl) ?_
                            refine gl_pure 2 [0, 4, 8, 16, 22, 23, 26, 27, 31, 100, 101, 102, 139] (K' := [(0, .int .i64 a0), (4, .bool a4), (8, .pointer (some ⟨gb1, 0, none⟩)), (16, .map (some g74)), (22, .map (some g134)), (23, .slice A155 s149.2.1.length n156), (26, .string y199), (27, .pointer (some ⟨g211, 0, none⟩)), (31, .pointer (some ⟨g233, 0, none⟩)), (100, .slice A63 j60.1.length n64), (101, .int .i64 (j60.1.length : Int)), (102, .int .i64 s149.2.2), (139, .bool (!y223.2))]) (by kernel_rfl) ?_
                            refine gl_atE (by kernel_rfl) ?_
                            refine ge_seq ?_
                            refine gk_cond (b := (!y223.2)) (by kernel_rfl) (by kernel_rfl) (fun hc234 => ?_) (fun hc234 => ?_)
                            · have hj173 := cond_t hc234 hj173
                              refine gk_reord (D := C153 ++ (C157 ++ (C95 ++ (C65 ++ ((gb1, .cells #[.int .i64 a3.f0, .bool a3.f1, .slice A3_2 a3.f2.length n3_2, .slice A3_3 a3.f3.length n3_3] 25) :: L))))) (Reord.step (Upd.one _ (Upd.one _ (Upd.one _ (Upd.rmC _ _)))) (Reord.step (Upd.one _ (Upd.one _ (Upd.one _ (Upd.rmC _ _)))) (Reord.step (Upd.one _ (Upd.one _ (Upd.one _ (Upd.rmC _ _)))) (Reord.step (Upd.one _ (Upd.one _ (Upd.one _ (Upd.rmC _ _)))) (Reord.step1 (Upd.one _ (Upd.one _ (Upd.one _ (Upd.rm1 _ _)))) (Reord.skip (Reord.skip (Reord.skip (Reord.refl _))))))))) ?_
                              refine gk_exit (by kernel_rfl) ?_
                              refine ge_seq_exit ?_
                              refine ge_block_hit (by kernel_rfl) ?_
                              obtain rfl := some_inj hj173
                              exact ge_mid fun t ht => ⟨_, rfl, C153, A155, n156, C157, (hO154.mono (Imm.trans hI215 hI227)), (hO158.mono (Imm.trans hI215 hI227)), (Imm.trans hI215 hI227), rfl, ht.pick (l := [0, 4, 8, 16, 22, 23, 100, 101, 102]) (by kernel_rfl)⟩
                            · have hj173 := cond_f hc234 hj173
                              refine gk_skip (by kernel_rfl) ?_
                              refine ge_seq ?_
                              refine gk_seq (by kernel_rfl) ?_
                              refine gk_seq (by kernel_rfl) ?_
                              obtain ⟨j235, hj236, hj173⟩ := bind_some hj173
                              refine gk_join (fun t I' L' => I225 ≤ I' ∧ (g233, .cells #[.slice A228 y223.1.f0.length c229, .float .f64 z230] 39) :: ((g211, .cells #[.slice A206 y203.f0.length n207, .float .f64 b209] 39) :: (C153 ++ (C157 ++ (C95 ++ (C65 ++ ((gb1, .cells #[.int .i64 a3.f0, .bool a3.f1, .slice A3_2 a3.f2.length n3_2, .slice A3_3 a3.f3.length n3_3] 25) :: L)))))) = L' ∧ Knows 164 [(0, .int .i64 a0), (4, .bool a4), (8, .pointer (some ⟨gb1, 0, none⟩)), (16, .map (some g74)), (22, .map (some g134)), (23, .slice A155 s149.2.1.length n156), (26, .string y199), (27, .pointer (some ⟨g211, 0, none⟩)), (31, .pointer (some ⟨g233, 0, none⟩)), (100, .slice A63 j60.1.length n64), (101, .int .i64 (j60.1.length : Int)), (102, .int .i64 s149.2.2), (147, .bool j235)] t) ?_ ?_
                              · refine gk_region (by kernel_rfl) ?_
                                refine gl_pure 1 [0, 4, 8, 16, 22, 23, 26, 27, 31, 100, 101, 102, 140] (K' := [(0, .int .i64 a0), (4, .bool a4), (8, .pointer (some ⟨gb1, 0, none⟩)), (16, .map (some g74)), (22, .map (some g134)), (23, .slice A155 s149.2.1.length n156), (26, .string y199), (27, .pointer (some ⟨g211, 0, none⟩)), (31, .pointer (some ⟨g233, 0, none⟩)), (100, .slice A63 j60.1.length n64), (101, .int .i64 (j60.1.length : Int)), (102, .int .i64 s149.2.2), (140, .pointer (some ⟨gb1, 0, none⟩))]) (by kernel_rfl) ?_
                                refine gl_loadB (T' := 3) (xp := (.tmp 140)) (v := .int .i64 a3.f0) (g := gb1) (off := 0) (cs := #[.int .i64 a3.f0, .bool a3.f1, .slice A3_2 a3.f2.length n3_2, .slice A3_3 a3.f3.length n3_3]) (e := 25) (fz := (0, 0)) (by kernel_rfl) (by kernel_rfl) (by kernel_rfl) (List.mem_cons_of_mem _ (List.mem_cons_of_mem _ (List.mem_cons_of_mem _ (List.mem_append_right _ (List.mem_append_right _ (List.mem_append_right _ (List.mem_append_right _ List.mem_cons_self))))))) (by kernel_rfl) ?_
                                refine gl_pure 2 [0, 4, 8, 16, 22, 23, 26, 27, 31, 100, 101, 102, 143] (K' := [(0, .int .i64 a0), (4, .bool a4), (8, .pointer (some ⟨gb1, 0, none⟩)), (16, .map (some g74)), (22, .map (some g134)), (23, .slice A155 s149.2.1.length n156), (26, .string y199), (27, .pointer (some ⟨g211, 0, none⟩)), (31, .pointer (some ⟨g233, 0, none⟩)), (100, .slice A63 j60.1.length n64), (101, .int .i64 (j60.1.length : Int)), (102, .int .i64 s149.2.2), (143, .bool (a3.f0 == 0))]) (by kernel_rfl) ?_
                                refine gl_case 143 (b := (a3.f0 == 0)) (by kernel_rfl) (fun hc240 => ?_) (fun hc240 => ?_)
                                · have hj236 := cond_t hc240 hj236
                                  refine gl_pure 2 [0, 4, 8, 16, 22, 23, 26, 27, 31, 100, 101, 102, 143, 144, 145] (K' := [(0, .int .i64 a0), (4, .bool a4), (8, .pointer (some ⟨gb1, 0, none⟩)), (16, .map (some g74)), (22, .map (some g134)), (23, .slice A155 s149.2.1.length n156), (26, .string y199), (27, .pointer (some ⟨g211, 0, none⟩)), (31, .pointer (some ⟨g233, 0, none⟩)), (100, .slice A63 j60.1.length n64), (101, .int .i64 (j60.1.length : Int)), (102, .int .i64 s149.2.2), (143, .bool true), (144, .map (some g134)), (145, .string y199)]) (by kernel_rfl) ?_
                                  refine gl_lookupS (a := 9) (b := 4) (ds := .string) (ok := false) (T' := 73) (xm := (.tmp 144)) (xk := (.tmp 145)) (x := y199) (z := false) (uz := .bool false) (fun x => .bool x) valR_bool (hO154.mono (Imm.trans hI215 hI227)) (fun q hq => (List.mem_cons_of_mem _ (List.mem_cons_of_mem _ (List.mem_cons_of_mem _ (List.mem_append_left _ hq))))) (by kernel_rfl) (by kernel_rfl) (by kernel_rfl) (by kernel_rfl) (by kernel_rfl) (by kernel_rfl) (by kernel_rfl) rfl ?_
                                  refine gl_pure 1 [0, 4, 8, 16, 22, 23, 26, 27, 31, 100, 101, 102, 147] (K' := [(0, .int .i64 a0), (4, .bool a4), (8, .pointer (some ⟨gb1, 0, none⟩)), (16, .map (some g74)), (22, .map (some g134)), (23, .slice A155 s149.2.1.length n156), (26, .string y199), (27, .pointer (some ⟨g211, 0, none⟩)), (31, .pointer (some ⟨g233, 0, none⟩)), (100, .slice A63 j60.1.length n64), (101, .int .i64 (j60.1.length : Int)), (102, .int .i64 s149.2.2), (147, .bool ((mget Ky.str s149.1 y199).getD false))]) (by kernel_rfl) ?_
                                  refine gl_reord (D := (g233, .cells #[.slice A228 y223.1.f0.length c229, .float .f64 z230] 39) :: ((g211, .cells #[.slice A206 y203.f0.length n207, .float .f64 b209] 39) :: (C153 ++ (C157 ++ (C95 ++ (C65 ++ ((gb1, .cells #[.int .i64 a3.f0, .bool a3.f1, .slice A3_2 a3.f2.length n3_2, .slice A3_3 a3.f3.length n3_3] 25) :: L))))))) (Reord.step1 (Upd.rm1 _ _) (Reord.step1 (Upd.rm1 _ _) (Reord.step (Upd.one _ (Upd.rmC _ _)) (Reord.step (Upd.one _ (Upd.rmC _ _)) (Reord.step (Upd.one _ (Upd.rmC _ _)) (Reord.step (Upd.one _ (Upd.rmC _ _)) (Reord.step1 (Upd.one _ (Upd.rm1 _ _)) (Reord.skip (Reord.refl _))))))))) ?_
                                  refine gl_atE (by kernel_rfl) ?_
                                  obtain rfl := some_inj hj236
                                  exact ge_mid fun t ht => ⟨(Imm.refl _), rfl, ht.pick (l := [0, 4, 8, 16, 22, 23, 26, 27, 31, 100, 101, 102, 147]) (by kernel_rfl)⟩
                                · have hj236 := cond_f hc240 hj236
                                  refine gl_pure 4 [0, 4, 8, 16, 22, 23, 26, 27, 31, 100, 101, 102, 147] (K' := [(0, .int .i64 a0), (4, .bool a4), (8, .pointer (some ⟨gb1, 0, none⟩)), (16, .map (some g74)), (22, .map (some g134)), (23, .slice A155 s149.2.1.length n156), (26, .string y199), (27, .pointer (some ⟨g211, 0, none⟩)), (31, .pointer (some ⟨g233, 0, none⟩)), (100, .slice A63 j60.1.length n64), (101, .int .i64 (j60.1.length : Int)), (102, .int .i64 s149.2.2), (147, .bool false)]) (by kernel_rfl) ?_
                                  refine gl_reord (D := (g233, .cells #[.slice A228 y223.1.f0.length c229, .float .f64 z230] 39) :: ((g211, .cells #[.slice A206 y203.f0.length n207, .float .f64 b209] 39) :: (C153 ++ (C157 ++ (C95 ++ (C65 ++ ((gb1, .cells #[.int .i64 a3.f0, .bool a3.f1, .slice A3_2 a3.f2.length n3_2, .slice A3_3 a3.f3.length n3_3] 25) :: L))))))) (Reord.step1 (Upd.rm1 _ _) (Reord.step1 (Upd.rm1 _ _) (Reord.step (Upd.one _ (Upd.rmC _ _)) (Reord.step (Upd.one _ (Upd.rmC _ _)) (Reord.step (Upd.one _ (Upd.rmC _ _)) (Reord.step (Upd.one _ (Upd.rmC _ _)) (Reord.step1 (Upd.one _ (Upd.rm1 _ _)) (Reord.skip (Reord.refl _))))))))) ?_
                                  refine gl_atE (by kernel_rfl) ?_
                                  obtain rfl := some_inj hj236
                                  exact ge_mid fun t ht => ⟨(Imm.refl _), rfl, ht.pick (l := [0, 4, 8, 16, 22, 23, 26, 27, 31, 100, 101, 102, 147]) (by kernel_rfl)⟩
                              · rintro t I239 L' ⟨hI237, rfl, hK238⟩
                                refine ge_at hK238 ?_
                                refine ge_seq ?_
                                refine gk_cond (b := j235) (by kernel_rfl) (by kernel_rfl) (fun hc241 => ?_) (fun hc241 => ?_)
                                · have hj173 := cond_t hc241 hj173
                                  refine gk_seq (by kernel_rfl) ?_
                                  refine gk_region (by kernel_rfl) ?_
                                  refine gl_pure 2 [10, 11] (K' := [(10, .slice none 0 0), (11, .int .i64 150)]) (by kernel_rfl) ?_
                                  refine gl_atE (by kernel_rfl) ?_
                                  refine ge_seq ?_
                                  refine gk_reord (D := L) (Reord.skip (Reord.skip (Reord.skipC (Reord.skipC (Reord.skipC (Reord.skipC (Reord.skip (Reord.refl _)))))))) ?_
                                  refine gk_ret (by kernel_rfl) ?_
                                  refine ge_seq_ret ?_
                                  refine ge_block_ret ?_
                                  refine ge_seq_ret ?_
                                  obtain rfl := some_inj hj173
                                  refine ge_seq_ret ?_
                                  obtain rfl := some_inj hb151
                                  refine ge_round_out (fun hrr => ?_) (by intro h; cases h)
                                  obtain rfl := hrr
                                  refine ge_block_ret ?_
                                  refine ge_seq_ret ?_
                                  refine ge_seq_ret ?_
                                  obtain rfl := some_inj hr
                                  exact ge_result trivial (ResOk.tmp (by kernel_rfl) (ResOk.tmp (by kernel_rfl) ResOk.nil)) (Imm.trans (Imm.trans (Imm.trans (Imm.trans (Imm.trans (Imm.trans (Imm.trans (Imm.trans hI2 hI16) hI26) hI62) hI94) hI152) hI215) hI227) hI237) ⟨none, 0, [], OwnS.nil _ _ _ _, rfl, rfl⟩
                                · have hj173 := cond_f hc241 hj173
                                  refine gk_skip (by kernel_rfl) ?_
                                  refine ge_seq ?_
                                  refine gk_seq (by kernel_rfl) ?_
                                  refine gk_region (by kernel_rfl) ?_
                                  refine gl_pure 2 [0, 4, 8, 16, 22, 23, 27, 31, 100, 101, 102, 148, 149] (K' := [(0, .int .i64 a0), (4, .bool a4), (8, .pointer (some ⟨gb1, 0, none⟩)), (16, .map (some g74)), (22, .map (some g134)), (23, .slice A155 s149.2.1.length n156), (27, .pointer (some ⟨g211, 0, none⟩)), (31, .pointer (some ⟨g233, 0, none⟩)), (100, .slice A63 j60.1.length n64), (101, .int .i64 (j60.1.length : Int)), (102, .int .i64 s149.2.2), (148, .map (some g134)), (149, .string y199)]) (by kernel_rfl) ?_
                                  refine gl_mapUpdate (a := 9) (b := 4) (ds := .string) (T' := 73) (xm := (.tmp 148)) (xk := (.tmp 149)) (xv := (.const (.bool true))) (x := y199) (v := true) (u := .bool true) (fun X => (g233, .cells #[.slice A228 y223.1.f0.length c229, .float .f64 z230] 39) :: ((g211, .cells #[.slice A206 y203.f0.length n207, .float .f64 b209] 39) :: (X ++ (C157 ++ (C95 ++ (C65 ++ ((gb1, .cells #[.int .i64 a3.f0, .bool a3.f1, .slice A3_2 a3.f2.length n3_2, .slice A3_3 a3.f3.length n3_3] 25) :: L))))))) (hO154.mono (Imm.trans (Imm.trans hI215 hI227) hI237)) (fun X => (Upd.one _ (Upd.one _ (Upd.head _ X _)))) (by kernel_rfl) (by kernel_rfl) (by kernel_rfl) (by kernel_rfl) (by kernel_rfl) (by kernel_rfl) (by kernel_rfl) rfl (by kernel_rfl) (fun C242 hO243 => ?_)
                                  refine gl_atE (by kernel_rfl) ?_
                                  refine ge_seq ?_
                                  refine gk_seq (by kernel_rfl) ?_
                                  refine gk_region (by kernel_rfl) ?_
                                  refine gl_loadB (T' := 39) (xp := (.tmp 31)) (v := .agg #[.slice A228 y223.1.f0.length c229, .float .f64 z230]) (g := g233) (off := 0) (cs := #[.slice A228 y223.1.f0.length c229, .float .f64 z230]) (e := 39) (fz := (0, 0)) (by kernel_rfl) (by kernel_rfl) (by kernel_rfl) List.mem_cons_self (by kernel_rfl) ?_
                                  refine gl_loadB (T' := 39) (xp := (.tmp 27)) (v := .agg #[.slice A206 y203.f0.length n207, .float .f64 b209]) (g := g211) (off := 0) (cs := #[.slice A206 y203.f0.length n207, .float .f64 b209]) (e := 39) (fz := (0, 0)) (by kernel_rfl) (by kernel_rfl) (by kernel_rfl) (List.mem_cons_of_mem _ List.mem_cons_self) (by kernel_rfl) ?_
                                  refine gl_loadB (T' := 25) (xp := (.tmp 8)) (v := .agg #[.int .i64 a3.f0, .bool a3.f1, .slice A3_2 a3.f2.length n3_2, .slice A3_3 a3.f3.length n3_3]) (g := gb1) (off := 0) (cs := #[.int .i64 a3.f0, .bool a3.f1, .slice A3_2 a3.f2.length n3_2, .slice A3_3 a3.f3.length n3_3]) (e := 25) (fz := (0, 0)) (by kernel_rfl) (by kernel_rfl) (by kernel_rfl) (List.mem_cons_of_mem _ (List.mem_cons_of_mem _ (List.mem_append_right _ (List.mem_append_right _ (List.mem_append_right _ (List.mem_append_right _ List.mem_cons_self)))))) (by kernel_rfl) ?_
                                  obtain ⟨y244, hx245, hj173⟩ := bind_some hj173
                                  refine gl_call (by kernel_rfl) (vec_shown_walk (r := y244) (hG.mono (Imm.trans (Imm.trans (Imm.trans (Imm.trans (Imm.trans (Imm.trans (Imm.trans (Imm.trans hI2 hI16) hI26) hI62) hI94) hI152) hI215) hI227) hI237)) (hf231.mono hI237) hO232 (hf208.mono (Imm.trans (Imm.trans hI215 hI227) hI237)) hf210 (hf3_2.mono (Imm.trans (Imm.trans (Imm.trans (Imm.trans (Imm.trans (Imm.trans (Imm.trans (Imm.trans hI2 hI16) hI26) hI62) hI94) hI152) hI215) hI227) hI237)) (hf3_3.mono (Imm.trans (Imm.trans (Imm.trans (Imm.trans (Imm.trans (Imm.trans (Imm.trans (Imm.trans hI2 hI16) hI26) hI62) hI94) hI152) hI215) hI227) hI237)) hx245 _) ?_
                                  rintro v I246 L247 hI248 ⟨A249, c250, C251, hO252, rfl, rfl⟩
                                  refine gl_pure 1 [0, 4, 8, 16, 22, 23, 31, 100, 101, 102, 153, 154] (K' := [(0, .int .i64 a0), (4, .bool a4), (8, .pointer (some ⟨gb1, 0, none⟩)), (16, .map (some g74)), (22, .map (some g134)), (23, .slice A155 s149.2.1.length n156), (31, .pointer (some ⟨g233, 0, none⟩)), (100, .slice A63 j60.1.length n64), (101, .int .i64 (j60.1.length : Int)), (102, .int .i64 s149.2.2), (153, .slice A249 y244.length c250), (154, .pointer (some ⟨g233, 0, none⟩))]) (by kernel_rfl) ?_
                                  refine gl_storeB (T' := 36) (xp := (.tmp 154)) (xv := (.tmp 153)) (v := .slice A249 y244.length c250) (g := g233) (off := 0) (cs := #[.slice A228 y223.1.f0.length c229, .float .f64 z230]) (cs' := #[.slice A249 y244.length c250, .float .f64 z230]) (by kernel_rfl) (by kernel_rfl) (by kernel_rfl) (by kernel_rfl) (by kernel_rfl) (Upd.app _ (Upd.set _ _ _ _)) ?_ (by kernel_rfl)
                                  refine gl_atE (by kernel_rfl) ?_
                                  refine ge_seq ?_
                                  refine gk_region (by kernel_rfl) ?_
                                  refine gl_pure 1 [0, 4, 8, 16, 22, 31, 100, 101, 102, 155] (K' := [(0, .int .i64 a0), (4, .bool a4), (8, .pointer (some ⟨gb1, 0, none⟩)), (16, .map (some g74)), (22, .map (some g134)), (31, .pointer (some ⟨g233, 0, none⟩)), (100, .slice A63 j60.1.length n64), (101, .int .i64 (j60.1.length : Int)), (102, .int .i64 s149.2.2), (155, .slice A155 s149.2.1.length n156)]) (by kernel_rfl) ?_
                                  refine gl_loadB (T' := 39) (xp := (.tmp 31)) (v := .agg #[.slice A249 y244.length c250, .float .f64 z230]) (g := g233) (off := 0) (cs := #[.slice A249 y244.length c250, .float .f64 z230]) (e := 39) (fz := (0, 0)) (by kernel_rfl) (by kernel_rfl) (by kernel_rfl) (List.mem_append_right _ List.mem_cons_self) (by kernel_rfl) ?_
                                  refine gl_rest (Tk.step (Upd.rmC _ _) (Tk.nil _)) (fun J253 hJ254 hC255 => ?_)
                                  have hf256 := (OwnS.rest hO252 hJ254 hC255.left)
                                  refine gl_buildSlice (T' := 22) (e := 39) (n := 2) (len := 1) (parts := #[(0, (.tmp 156))]) (l := [(0, .agg #[.slice A249 y244.length c250, .float .f64 z230])]) (cs := #[.slice A249 y244.length c250, .float .f64 z230]) (by kernel_rfl) (by kernel_rfl) (by kernel_rfl) (by kernel_rfl) (by kernel_rfl) (fun g257 => ?_)
                                  have hO258 : OwnS kS38 39 J253 (some ⟨g257, 0, none⟩) 1 [(⟨y244, y223.1.f1⟩ : S38)] [(g257, .cells #[.slice A249 y244.length c250, .float .f64 z230] 39)] := OwnS.lit (row_cons (l := [.slice A249 y244.length c250, .float .f64 z230]) (kS38_mk (x := (⟨y244, y223.1.f1⟩ : S38)) hf256 hO232) (row_nil _ _)) rfl rfl rfl
                                  refine gl_reord (D := [(g257, .cells #[.slice A249 y244.length c250, .float .f64 z230] 39)] ++ ((g233, .cells #[.slice A249 y244.length c250, .float .f64 z230] 39) :: ((g211, .cells #[.slice A206 y203.f0.length n207, .float .f64 b209] 39) :: (C242 ++ (C157 ++ (C95 ++ (C65 ++ ((gb1, .cells #[.int .i64 a3.f0, .bool a3.f1, .slice A3_2 a3.f2.length n3_2, .slice A3_3 a3.f3.length n3_3] 25) :: L)))))))) (Reord.refl _) ?_
                                  obtain ⟨zs261, hz262, hj173⟩ := bind_some hj173
                                  refine gl_append (xv := .slice (some ⟨g257, 0, none⟩) [(⟨y244, y223.1.f1⟩ : S38)].length 1) (d := kS38) (t := 22) (tx := 22) (e := 39) (s := (.tmp 155)) (x := (.tmp 157)) (xs := s149.2.1) (fun X => [(g257, .cells #[.slice A249 y244.length c250, .float .f64 z230] 39)] ++ ((g233, .cells #[.slice A249 y244.length c250, .float .f64 z230] 39) :: ((g211, .cells #[.slice A206 y203.f0.length n207, .float .f64 b209] 39) :: (C242 ++ (X ++ (C95 ++ (C65 ++ ((gb1, .cells #[.int .i64 a3.f0, .bool a3.f1, .slice A3_2 a3.f2.length n3_2, .slice A3_3 a3.f3.length n3_3] 25) :: L)))))))) hz262 (by kernel_rfl) (by kernel_rfl) (by kernel_rfl) (by kernel_rfl) (by kernel_rfl) (by kernel_rfl) (fun X => (Upd.app _ (Upd.one _ (Upd.one _ (Upd.app _ (Upd.head _ X _)))))) (hO158.mono (Imm.trans (Imm.trans (Imm.trans (Imm.trans hI215 hI227) hI237) hI248) hJ254)) (SrcOk.slice (c := 1) (e := 39) (n := 2) (OwnS.rd hO258 (Upd.selfC _ _)) (by kernel_rfl)) (fun A263 n264 C265 hO266 => ?_)
                                  refine gl_pure 1 [0, 4, 8, 16, 22, 23, 100, 101, 102] (K' := [(0, .int .i64 a0), (4, .bool a4), (8, .pointer (some ⟨gb1, 0, none⟩)), (16, .map (some g74)), (22, .map (some g134)), (23, .slice A263 zs261.length n264), (100, .slice A63 j60.1.length n64), (101, .int .i64 (j60.1.length : Int)), (102, .int .i64 s149.2.2)]) (by kernel_rfl) ?_
                                  refine gl_reord (D := C242 ++ (C265 ++ (C95 ++ (C65 ++ ((gb1, .cells #[.int .i64 a3.f0, .bool a3.f1, .slice A3_2 a3.f2.length n3_2, .slice A3_3 a3.f3.length n3_3] 25) :: L))))) (Reord.step (Upd.app _ (Upd.one _ (Upd.one _ (Upd.rmC _ _)))) (Reord.step (Upd.app _ (Upd.one _ (Upd.one _ (Upd.rmC _ _)))) (Reord.step (Upd.app _ (Upd.one _ (Upd.one _ (Upd.rmC _ _)))) (Reord.step (Upd.app _ (Upd.one _ (Upd.one _ (Upd.rmC _ _)))) (Reord.step1 (Upd.app _ (Upd.one _ (Upd.one _ (Upd.rm1 _ _)))) (Reord.skipC (Reord.skip (Reord.skip (Reord.refl _))))))))) ?_
                                  refine gl_atE (by kernel_rfl) ?_
                                  refine ge_block_normal ?_
                                  obtain rfl := some_inj hj173
                                  exact ge_mid fun t ht => ⟨_, rfl, C242, A263, n264, C265, (hO243.mono (Imm.trans hI248 hJ254)), hO266, (Imm.trans (Imm.trans (Imm.trans (Imm.trans hI215 hI227) hI237) hI248) hJ254), rfl, ht.pick (l := [0, 4, 8, 16, 22, 23, 100, 101, 102]) (by kernel_rfl)⟩
                      · rintro t I183 L' ⟨j174, rfl, C176, A178, n179, C180, hO177, hO181, hI175, rfl, hK182⟩
                        refine ge_at hK182 ?_
                        refine ge_seq ?_
                        refine gk_region (by kernel_rfl) ?_
                        refine gl_pure 2 [0, 4, 8, 16, 22, 23, 100, 101, 102] (K' := [(0, .int .i64 a0), (4, .bool a4), (8, .pointer (some ⟨gb1, 0, none⟩)), (16, .map (some g74)), (22, .map (some g134)), (23, .slice A178 j174.2.length n179), (100, .slice A63 j60.1.length n64), (101, .int .i64 (j60.1.length : Int)), (102, .int .i64 (IntKind.wrap .i64 (s149.2.2 + 1)))]) (by kernel_rfl) ?_
                        refine gl_atE (by kernel_rfl) ?_
                        obtain rfl := some_inj hb151
                        exact ge_round fun t ht => ⟨C176, A178, n179, C180, hO177, hO181, (Imm.trans hI152 hI175), rfl, ht.pick (l := [0, 4, 8, 16, 22, 23, 100, 101, 102]) (by kernel_rfl)⟩
                    · have hb151 := cond_f hc171 hb151
                      refine gk_reord (D := C157 ++ L) (Reord.step (Upd.app _ (Upd.rmC _ _)) (Reord.skipC (Reord.skipC (Reord.skipC (Reord.skip (Reord.refl _)))))) ?_
                      refine gk_exit (by kernel_rfl) ?_
                      refine ge_seq_exit ?_
                      obtain rfl := some_inj hb151
                      refine ge_round_out (fun hrr => ?_) (by intro h; cases h)
                      obtain rfl := hrr
                      refine ge_block_hit (by kernel_rfl) ?_
                      exact ge_mid fun t ht => ⟨_, rfl, A155, n156, C157, hO158, hI152, rfl, ht.pick (l := [23]) (by kernel_rfl)⟩
                  · rintro t I168 L' ⟨r161, rfl, A163, n164, C165, hO166, hI162, rfl, hK167⟩
                    refine ge_at hK167 ?_
                    refine ge_seq ?_
                    refine gk_seq (by kernel_rfl) ?_
                    refine gk_region (by kernel_rfl) ?_
                    refine gl_pure 1 [160] (K' := [(160, .slice A163 r161.length n164)]) (by kernel_rfl) ?_
                    refine gl_rest (Tk.step (Upd.rmC _ _) (Tk.nil _)) (fun J269 hJ270 hC271 => ?_)
                    have hf272 := (OwnS.rest hO166 hJ270 hC271.left)
                    obtain ⟨y273, hx274, hr⟩ := bind_some hr
                    refine gl_call (by kernel_rfl) (vec_Vector_walk (r := y273) (hG.mono (Imm.trans (Imm.trans (Imm.trans (Imm.trans (Imm.trans (Imm.trans hI2 hI16) hI26) hI62) hI94) hI162) hJ270)) hf272 hx274 _) ?_
                    rintro v I275 L276 hI277 ⟨A278, c279, C280, hO281, rfl, rfl⟩
                    refine gl_pure 4 [10, 11] (K' := [(10, .slice A278 y273.1.length c279), (11, .int .i64 y273.2)]) (by kernel_rfl) ?_
                    refine gl_atE (by kernel_rfl) ?_
                    refine ge_seq ?_
                    refine gk_ret (by kernel_rfl) ?_
                    obtain rfl := some_inj hr
                    exact ge_result trivial (ResOk.tmp (by kernel_rfl) (ResOk.tmp (by kernel_rfl) ResOk.nil)) (Imm.trans (Imm.trans (Imm.trans (Imm.trans (Imm.trans (Imm.trans (Imm.trans hI2 hI16) hI26) hI62) hI94) hI162) hJ270) hI277) ⟨A278, c279, C280, hO281, rfl, rfl⟩
/-! 111 tocsinref04_side  -/
noncomputable def tocsinref04_side (a0 : ByteArray) (a1 : ByteArray) : Int :=
  bif (Op.bytesLess a0.toList a1.toList) then
  ((-1))
  else
  (bif (!((Op.bytesLess a0.toList a1.toList) || (a0.toList == a1.toList))) then
    (1)
    else
    (0))
theorem tocsinref04_side_walk {a0 : ByteArray} {a1 : ByteArray} {I : Imm} {r : Int}  (hr : tocsinref04_side a0 a1 = r) (L : Own) :
    CallsTo Tryz.prog 111 #[.string a0, .string a1] I L (fun v I' L' => v = .int .i64 r ∧ L = L') := by
  replace hr : some (tocsinref04_side a0 a1) = some r := congrArg some hr
  unfold tocsinref04_side at hr
  refine callsTo_body (N := 11) Tryz.func111 (by kernel_rfl) (by kernel_rfl) (by kernel_rfl) ?_
  refine gk_pick [0, 1] (K' := [(0, .string a0), (1, .string a1)]) (by kernel_rfl) ?_
  refine gk_seq (by kernel_rfl) ?_
  refine gk_region (by kernel_rfl) ?_
  refine gl_pure 1 [0, 1] (K' := [(0, .string a0), (1, .string a1)]) (by kernel_rfl) ?_
  refine gl_atE (by kernel_rfl) ?_
  refine ge_seq ?_
  refine gk_seq (by kernel_rfl) ?_
  refine gk_seq (by kernel_rfl) ?_
  refine gk_region (by kernel_rfl) ?_
  refine gl_pure 3 [0, 1, 7] (K' := [(0, .string a0), (1, .string a1), (7, .bool (Op.bytesLess a0.toList a1.toList))]) (by kernel_rfl) ?_
  refine gl_atE (by kernel_rfl) ?_
  refine ge_seq ?_
  refine gk_cond (b := (Op.bytesLess a0.toList a1.toList)) (by kernel_rfl) (by kernel_rfl) (fun hc1 => ?_) (fun hc1 => ?_)
  · have hr := scond_t hc1 hr
    refine gk_seq (by kernel_rfl) ?_
    refine gk_region (by kernel_rfl) ?_
    refine gl_pure 1 [4] (K' := [(4, .int .i64 (-1))]) (by kernel_rfl) ?_
    refine gl_atE (by kernel_rfl) ?_
    refine ge_seq ?_
    refine gk_ret (by kernel_rfl) ?_
    refine ge_seq_ret ?_
    obtain rfl := some_inj hr
    exact ge_result trivial (ResOk.tmp (by kernel_rfl) ResOk.nil) (Imm.refl _) ⟨rfl, rfl⟩
  · have hr := scond_f hc1 hr
    refine gk_skip (by kernel_rfl) ?_
    refine ge_seq ?_
    refine gk_seq (by kernel_rfl) ?_
    refine gk_seq (by kernel_rfl) ?_
    refine gk_region (by kernel_rfl) ?_
    refine gl_pure 3 [10] (K' := [(10, .bool (!((Op.bytesLess a0.toList a1.toList) || (a0.toList == a1.toList))))]) (by kernel_rfl) ?_
    refine gl_atE (by kernel_rfl) ?_
    refine ge_seq ?_
    refine gk_cond (b := (!((Op.bytesLess a0.toList a1.toList) || (a0.toList == a1.toList)))) (by kernel_rfl) (by kernel_rfl) (fun hc2 => ?_) (fun hc2 => ?_)
    · have hr := scond_t hc2 hr
      refine gk_seq (by kernel_rfl) ?_
      refine gk_region (by kernel_rfl) ?_
      refine gl_pure 1 [4] (K' := [(4, .int .i64 1)]) (by kernel_rfl) ?_
      refine gl_atE (by kernel_rfl) ?_
      refine ge_seq ?_
      refine gk_ret (by kernel_rfl) ?_
      refine ge_seq_ret ?_
      obtain rfl := some_inj hr
      exact ge_result trivial (ResOk.tmp (by kernel_rfl) ResOk.nil) (Imm.refl _) ⟨rfl, rfl⟩
    · have hr := scond_f hc2 hr
      refine gk_skip (by kernel_rfl) ?_
      refine ge_seq ?_
      refine gk_seq (by kernel_rfl) ?_
      refine gk_region (by kernel_rfl) ?_
      refine gl_pure 1 [4] (K' := [(4, .int .i64 0)]) (by kernel_rfl) ?_
      refine gl_atE (by kernel_rfl) ?_
      refine ge_seq ?_
      refine gk_ret (by kernel_rfl) ?_
      obtain rfl := some_inj hr
      exact ge_result trivial (ResOk.tmp (by kernel_rfl) ResOk.nil) (Imm.refl _) ⟨rfl, rfl⟩
/-! 59 tocsinref04_Compare  -/
noncomputable def tocsinref04_Compare_l17 (a0 : List S76) (a1 : List S76) : Int → Option ((Int) ⊕ ((Unit) ⊕ (Int))) := fun s7 =>
  bif ((decide (s7 < (a0.length : Int))) && (decide (s7 < (a1.length : Int)))) then
  (Option.bind (ix a0 s7) fun (x26 : S76) =>
    Option.bind (ix a1 s7) fun (x34 : S76) =>
    bif ((tocsinref04_side x26.f0 x34.f0) != 0) then
    (some (Sum.inr (Sum.inr (tocsinref04_side x26.f0 x34.f0))))
    else
    (Option.bind (ix a0 s7) fun (x43 : S76) =>
      Option.bind (ix a1 s7) fun (x51 : S76) =>
      bif ((tocsinref04_side x43.f1 x51.f1) != 0) then
      (some (Sum.inr (Sum.inr (tocsinref04_side x43.f1 x51.f1))))
      else
      (some (Sum.inl (IntKind.wrap .i64 (s7 + 1))))))
  else
  (some (Sum.inr (Sum.inl ())))
noncomputable def tocsinref04_Compare (a0 : List S76) (a1 : List S76) : Option Int :=
  Option.bind (loopO (tocsinref04_Compare_l17 a0 a1) 0) fun (r5 : (Unit) ⊕ (Int)) =>
  match r5 with
  | Sum.inl r13 => bif (decide ((a0.length : Int) < (a1.length : Int))) then
    (some (-1))
    else
    (bif (decide ((a0.length : Int) > (a1.length : Int))) then
      (some 1)
      else
      (some 0))
  | Sum.inr v62 => some v62
theorem tocsinref04_Compare_walk {a0 : List S76} {A0_0 : Option Addr} {n0_0 : Nat} {a1 : List S76} {A1_0 : Option Addr} {n1_0 : Nat} {I : Imm} {r : Int}  (hf0_0 : RepS kS76 I A0_0 n0_0 a0)  (hf1_0 : RepS kS76 I A1_0 n1_0 a1) (hr : tocsinref04_Compare a0 a1 = some r) (L : Own) :
    CallsTo Tryz.prog 59 #[.slice A0_0 a0.length n0_0, .slice A1_0 a1.length n1_0] I L (fun v I' L' => v = .int .i64 r ∧ L = L') := by
  unfold tocsinref04_Compare at hr
  refine callsTo_body (N := 58) Tryz.func59 (by kernel_rfl) (by kernel_rfl) (by kernel_rfl) ?_
  refine gk_pick [0, 1] (K' := [(0, .slice A0_0 a0.length n0_0), (1, .slice A1_0 a1.length n1_0)]) (by kernel_rfl) ?_
  refine gk_seq (by kernel_rfl) ?_
  refine gk_region (by kernel_rfl) ?_
  refine gl_pure 1 [0, 1] (K' := [(0, .slice A0_0 a0.length n0_0), (1, .slice A1_0 a1.length n1_0)]) (by kernel_rfl) ?_
  refine gl_atE (by kernel_rfl) ?_
  refine ge_seq ?_
  refine gk_seq (by kernel_rfl) ?_
  refine gk_seq (by kernel_rfl) ?_
  refine gk_region (by kernel_rfl) ?_
  refine gl_pure 1 [0, 1, 5] (K' := [(0, .slice A0_0 a0.length n0_0), (1, .slice A1_0 a1.length n1_0), (5, .int .i64 0)]) (by kernel_rfl) ?_
  refine gl_atE (by kernel_rfl) ?_
  refine ge_seq ?_
  obtain ⟨r5, hl6, hr⟩ := bind_some hr
  refine gk_join (fun t I' L' => ∃ r13, r5 = Sum.inl r13 ∧ I ≤ I' ∧ L = L' ∧ Knows 58 [(0, .slice A0_0 a0.length n0_0), (1, .slice A1_0 a1.length n1_0)] t) ?_ ?_
  · refine gk_block (by kernel_rfl) ?_
    refine gk_pick [0, 1, 5] (K' := [(0, .slice A0_0 a0.length n0_0), (1, .slice A1_0 a1.length n1_0), (5, .int .i64 0)]) (by kernel_rfl) ?_
    intro t hK
    refine gc_loop (tocsinref04_Compare_l17 a0 a1) (fun s7 t I' L' => I ≤ I' ∧ L = L' ∧ Knows 58 [(0, .slice A0_0 a0.length n0_0), (1, .slice A1_0 a1.length n1_0), (5, .int .i64 s7)] t) (by kernel_rfl) ?_ hl6 ⟨(Imm.refl _), rfl, hK⟩
    rintro s7 o8 t I12 L' hb9 ⟨hI10, rfl, hK11⟩
    unfold tocsinref04_Compare_l17 at hb9
    refine gk_at hK11 ?_
    refine gk_seq (by kernel_rfl) ?_
    refine gk_seq (by kernel_rfl) ?_
    obtain ⟨b21, hb22⟩ : ∃ z, z = ((decide (s7 < (a0.length : Int))) && (decide (s7 < (a1.length : Int)))) := ⟨_, rfl⟩
    refine gk_join (fun t I' L' => I12 ≤ I' ∧ L = L' ∧ Knows 58 [(0, .slice A0_0 a0.length n0_0), (1, .slice A1_0 a1.length n1_0), (5, .int .i64 s7), (17, .bool b21)] t) ?_ ?_
    · refine gk_region (by kernel_rfl) ?_
      refine gl_pure 5 [0, 1, 5, 12] (K' := [(0, .slice A0_0 a0.length n0_0), (1, .slice A1_0 a1.length n1_0), (5, .int .i64 s7), (12, .bool (decide (s7 < (a0.length : Int))))]) (by kernel_rfl) ?_
      refine gl_case 12 (b := (decide (s7 < (a0.length : Int)))) (by kernel_rfl) (fun hc24 => ?_) (fun hc24 => ?_)
      · refine gl_pure 5 [0, 1, 5, 17] (K' := [(0, .slice A0_0 a0.length n0_0), (1, .slice A1_0 a1.length n1_0), (5, .int .i64 s7), (17, .bool (decide (s7 < (a1.length : Int))))]) (by kernel_rfl) ?_
        refine gl_atE (by kernel_rfl) ?_
        exact ge_mid fun t ht => ⟨(Imm.refl _), rfl, by rw [(show b21 = (decide (s7 < (a1.length : Int))) from hb22.trans (by first | (rw [hc24]; done) | (rw [hc24]; rfl) | (simp [hc24]; done) | (simp only [hc24]; rfl) | (simp at *; omega)))]; exact ht.pick (l := [0, 1, 5, 17]) (by kernel_rfl)⟩
      · refine gl_pure 5 [0, 1, 5, 17] (K' := [(0, .slice A0_0 a0.length n0_0), (1, .slice A1_0 a1.length n1_0), (5, .int .i64 s7), (17, .bool false)]) (by kernel_rfl) ?_
        refine gl_atE (by kernel_rfl) ?_
        exact ge_mid fun t ht => ⟨(Imm.refl _), rfl, by rw [(show b21 = false from hb22.trans (by first | (rw [hc24]; done) | (rw [hc24]; rfl) | (simp [hc24]; done) | (simp only [hc24]; rfl) | (simp at *; omega)))]; exact ht.pick (l := [0, 1, 5, 17]) (by kernel_rfl)⟩
    · rintro t I23 L' ⟨hI19, rfl, hK20⟩
      subst hb22
      refine ge_at hK20 ?_
      refine ge_seq ?_
      refine gk_cond (b := ((decide (s7 < (a0.length : Int))) && (decide (s7 < (a1.length : Int))))) (by kernel_rfl) (by kernel_rfl) (fun hc25 => ?_) (fun hc25 => ?_)
      · have hb9 := cond_t hc25 hb9
        refine gk_skip (by kernel_rfl) ?_
        refine ge_seq ?_
        refine gk_seq (by kernel_rfl) ?_
        refine gk_block (by kernel_rfl) ?_
        refine gk_seq (by kernel_rfl) ?_
        refine gk_seq (by kernel_rfl) ?_
        refine gk_draw 10 [(0, true), (1, true), (2, true), (3, true), (4, true), (5, true), (6, true), (7, true), (8, true), (9, true)] [] (fun p hp => by cases hp) (by kernel_rfl) (by kernel_rfl) (by kernel_rfl) ?_ (by kernel_rfl)
        refine gd_pure 2 [0, 1, 5, 20, 21] (K' := [(0, .slice A0_0 a0.length n0_0), (1, .slice A1_0 a1.length n1_0), (5, .int .i64 s7), (20, .slice A0_0 a0.length n0_0), (21, .int .i64 s7)]) (s' := [(2, true), (3, true), (4, true), (5, true), (6, true), (7, true), (8, true), (9, true)]) (CC.refl (fun p hp => by cases hp)) (by kernel_rfl) ?_
        obtain ⟨x26, hx27, hb9⟩ := bind_some hb9
        obtain ⟨p28, cs29, hR30, hA31, ha32⟩ := RepS.ixAt hx27 (hf0_0.mono (Imm.trans hI10 hI19))
        have hi33 := ix_some hx27
        obtain rfl := kS76_open hR30
        refine gd_q (v := .pointer (some p28)) (by kernel_rfl) (by kernel_rfl) (CC.refl (fun p hp => by cases hp)) (fun I' L' T hC kk => gl_indexAddrF (c := n0_0) (T' := 36) (e := 77) (xs := (.tmp 20)) (xi := (.tmp 21)) (kd := .i64) ha32 hi33.1 hi33.2.1 (by kernel_rfl) (by kernel_rfl) (by kernel_rfl) (by kernel_rfl) (by kernel_rfl) kk) ?_
        refine gd_pure 1 [0, 1, 5, 23] (K' := [(0, .slice A0_0 a0.length n0_0), (1, .slice A1_0 a1.length n1_0), (5, .int .i64 s7), (23, .pointer (some (p28.add 0)))]) (s' := [(4, true), (5, true), (6, true), (7, true), (8, true), (9, true)]) (CC.refl (fun p hp => by cases hp)) (by kernel_rfl) ?_
        refine gd_q (v := .string x26.f0) (by kernel_rfl) (by kernel_rfl) (CC.refl (fun p hp => by cases hp)) (fun I' L' T hC kk => gl_load (T' := 9) (xp := (.tmp 23)) (p := (p28.add 0)) (c := .string x26.f0) (n := 1) (by kernel_rfl) (by kernel_rfl) (by kernel_rfl) (by kernel_rfl) ((hA31.drop 0).mono hC.le) kk) ?_
        refine gd_pure 2 [0, 1, 5, 24, 25, 26] (K' := [(0, .slice A0_0 a0.length n0_0), (1, .slice A1_0 a1.length n1_0), (5, .int .i64 s7), (24, .string x26.f0), (25, .slice A1_0 a1.length n1_0), (26, .int .i64 s7)]) (s' := [(7, true), (8, true), (9, true)]) (CC.refl (fun p hp => by cases hp)) (by kernel_rfl) ?_
        obtain ⟨x34, hx35, hb9⟩ := bind_some hb9
        obtain ⟨p36, cs37, hR38, hA39, ha40⟩ := RepS.ixAt hx35 (hf1_0.mono (Imm.trans hI10 hI19))
        have hi41 := ix_some hx35
        obtain rfl := kS76_open hR38
        refine gd_q (v := .pointer (some p36)) (by kernel_rfl) (by kernel_rfl) (CC.refl (fun p hp => by cases hp)) (fun I' L' T hC kk => gl_indexAddrF (c := n1_0) (T' := 36) (e := 77) (xs := (.tmp 25)) (xi := (.tmp 26)) (kd := .i64) ha40 hi41.1 hi41.2.1 (by kernel_rfl) (by kernel_rfl) (by kernel_rfl) (by kernel_rfl) (by kernel_rfl) kk) ?_
        refine gd_pure 1 [0, 1, 5, 24, 28] (K' := [(0, .slice A0_0 a0.length n0_0), (1, .slice A1_0 a1.length n1_0), (5, .int .i64 s7), (24, .string x26.f0), (28, .pointer (some (p36.add 0)))]) (s' := [(9, true)]) (CC.refl (fun p hp => by cases hp)) (by kernel_rfl) ?_
        refine gd_q (v := .string x34.f0) (by kernel_rfl) (by kernel_rfl) (CC.refl (fun p hp => by cases hp)) (fun I' L' T hC kk => gl_load (T' := 9) (xp := (.tmp 28)) (p := (p36.add 0)) (c := .string x34.f0) (n := 1) (by kernel_rfl) (by kernel_rfl) (by kernel_rfl) (by kernel_rfl) ((hA39.drop 0).mono hC.le) kk) ?_
        refine gd_done ?_
        refine gl_callQ (by kernel_rfl) (tocsinref04_side_walk (r := (tocsinref04_side x26.f0 x34.f0))  rfl _) ?_
        refine gl_pure 1 [0, 1, 5, 6] (K' := [(0, .slice A0_0 a0.length n0_0), (1, .slice A1_0 a1.length n1_0), (5, .int .i64 s7), (6, .int .i64 (tocsinref04_side x26.f0 x34.f0))]) (by kernel_rfl) ?_
        refine gl_atE (by kernel_rfl) ?_
        refine ge_seq ?_
        refine gk_seq (by kernel_rfl) ?_
        refine gk_region (by kernel_rfl) ?_
        refine gl_pure 2 [0, 1, 5, 6, 32] (K' := [(0, .slice A0_0 a0.length n0_0), (1, .slice A1_0 a1.length n1_0), (5, .int .i64 s7), (6, .int .i64 (tocsinref04_side x26.f0 x34.f0)), (32, .bool ((tocsinref04_side x26.f0 x34.f0) != 0))]) (by kernel_rfl) ?_
        refine gl_atE (by kernel_rfl) ?_
        refine ge_seq ?_
        refine gk_cond (b := ((tocsinref04_side x26.f0 x34.f0) != 0)) (by kernel_rfl) (by kernel_rfl) (fun hc42 => ?_) (fun hc42 => ?_)
        · have hb9 := cond_t hc42 hb9
          refine gk_seq (by kernel_rfl) ?_
          refine gk_region (by kernel_rfl) ?_
          refine gl_pure 2 [4] (K' := [(4, .int .i64 (tocsinref04_side x26.f0 x34.f0))]) (by kernel_rfl) ?_
          refine gl_atE (by kernel_rfl) ?_
          refine ge_seq ?_
          refine gk_ret (by kernel_rfl) ?_
          refine ge_seq_ret ?_
          refine ge_block_ret ?_
          refine ge_seq_ret ?_
          obtain rfl := some_inj hb9
          refine ge_round_out (fun hrr => ?_) (by intro h; cases h)
          obtain rfl := hrr
          refine ge_block_ret ?_
          refine ge_seq_ret ?_
          refine ge_seq_ret ?_
          obtain rfl := some_inj hr
          exact ge_result trivial (ResOk.tmp (by kernel_rfl) ResOk.nil) (Imm.trans hI10 hI19) ⟨rfl, rfl⟩
        · have hb9 := cond_f hc42 hb9
          refine gk_skip (by kernel_rfl) ?_
          refine ge_seq ?_
          refine gk_seq (by kernel_rfl) ?_
          refine gk_draw 10 [(0, true), (1, true), (2, true), (3, true), (4, true), (5, true), (6, true), (7, true), (8, true), (9, true)] [] (fun p hp => by cases hp) (by kernel_rfl) (by kernel_rfl) (by kernel_rfl) ?_ (by kernel_rfl)
          refine gd_pure 2 [0, 1, 5, 34, 35] (K' := [(0, .slice A0_0 a0.length n0_0), (1, .slice A1_0 a1.length n1_0), (5, .int .i64 s7), (34, .slice A0_0 a0.length n0_0), (35, .int .i64 s7)]) (s' := [(2, true), (3, true), (4, true), (5, true), (6, true), (7, true), (8, true), (9, true)]) (CC.refl (fun p hp => by cases hp)) (by kernel_rfl) ?_
          obtain ⟨x43, hx44, hb9⟩ := bind_some hb9
          obtain ⟨p45, cs46, hR47, hA48, ha49⟩ := RepS.ixAt hx44 (hf0_0.mono (Imm.trans hI10 hI19))
          have hi50 := ix_some hx44
          obtain rfl := kS76_open hR47
          refine gd_q (v := .pointer (some p45)) (by kernel_rfl) (by kernel_rfl) (CC.refl (fun p hp => by cases hp)) (fun I' L' T hC kk => gl_indexAddrF (c := n0_0) (T' := 36) (e := 77) (xs := (.tmp 34)) (xi := (.tmp 35)) (kd := .i64) ha49 hi50.1 hi50.2.1 (by kernel_rfl) (by kernel_rfl) (by kernel_rfl) (by kernel_rfl) (by kernel_rfl) kk) ?_
          refine gd_pure 1 [0, 1, 5, 37] (K' := [(0, .slice A0_0 a0.length n0_0), (1, .slice A1_0 a1.length n1_0), (5, .int .i64 s7), (37, .pointer (some (p45.add 1)))]) (s' := [(4, true), (5, true), (6, true), (7, true), (8, true), (9, true)]) (CC.refl (fun p hp => by cases hp)) (by kernel_rfl) ?_
          refine gd_q (v := .string x43.f1) (by kernel_rfl) (by kernel_rfl) (CC.refl (fun p hp => by cases hp)) (fun I' L' T hC kk => gl_load (T' := 9) (xp := (.tmp 37)) (p := (p45.add 1)) (c := .string x43.f1) (n := 1) (by kernel_rfl) (by kernel_rfl) (by kernel_rfl) (by kernel_rfl) ((hA48.drop 1).mono hC.le) kk) ?_
          refine gd_pure 2 [0, 1, 5, 38, 39, 40] (K' := [(0, .slice A0_0 a0.length n0_0), (1, .slice A1_0 a1.length n1_0), (5, .int .i64 s7), (38, .string x43.f1), (39, .slice A1_0 a1.length n1_0), (40, .int .i64 s7)]) (s' := [(7, true), (8, true), (9, true)]) (CC.refl (fun p hp => by cases hp)) (by kernel_rfl) ?_
          obtain ⟨x51, hx52, hb9⟩ := bind_some hb9
          obtain ⟨p53, cs54, hR55, hA56, ha57⟩ := RepS.ixAt hx52 (hf1_0.mono (Imm.trans hI10 hI19))
          have hi58 := ix_some hx52
          obtain rfl := kS76_open hR55
          refine gd_q (v := .pointer (some p53)) (by kernel_rfl) (by kernel_rfl) (CC.refl (fun p hp => by cases hp)) (fun I' L' T hC kk => gl_indexAddrF (c := n1_0) (T' := 36) (e := 77) (xs := (.tmp 39)) (xi := (.tmp 40)) (kd := .i64) ha57 hi58.1 hi58.2.1 (by kernel_rfl) (by kernel_rfl) (by kernel_rfl) (by kernel_rfl) (by kernel_rfl) kk) ?_
          refine gd_pure 1 [0, 1, 5, 38, 42] (K' := [(0, .slice A0_0 a0.length n0_0), (1, .slice A1_0 a1.length n1_0), (5, .int .i64 s7), (38, .string x43.f1), (42, .pointer (some (p53.add 1)))]) (s' := [(9, true)]) (CC.refl (fun p hp => by cases hp)) (by kernel_rfl) ?_
          refine gd_q (v := .string x51.f1) (by kernel_rfl) (by kernel_rfl) (CC.refl (fun p hp => by cases hp)) (fun I' L' T hC kk => gl_load (T' := 9) (xp := (.tmp 42)) (p := (p53.add 1)) (c := .string x51.f1) (n := 1) (by kernel_rfl) (by kernel_rfl) (by kernel_rfl) (by kernel_rfl) ((hA56.drop 1).mono hC.le) kk) ?_
          refine gd_done ?_
          refine gl_callQ (by kernel_rfl) (tocsinref04_side_walk (r := (tocsinref04_side x43.f1 x51.f1))  rfl _) ?_
          refine gl_pure 1 [0, 1, 5, 7] (K' := [(0, .slice A0_0 a0.length n0_0), (1, .slice A1_0 a1.length n1_0), (5, .int .i64 s7), (7, .int .i64 (tocsinref04_side x43.f1 x51.f1))]) (by kernel_rfl) ?_
          refine gl_atE (by kernel_rfl) ?_
          refine ge_seq ?_
          refine gk_seq (by kernel_rfl) ?_
          refine gk_region (by kernel_rfl) ?_
          refine gl_pure 2 [0, 1, 5, 7, 46] (K' := [(0, .slice A0_0 a0.length n0_0), (1, .slice A1_0 a1.length n1_0), (5, .int .i64 s7), (7, .int .i64 (tocsinref04_side x43.f1 x51.f1)), (46, .bool ((tocsinref04_side x43.f1 x51.f1) != 0))]) (by kernel_rfl) ?_
          refine gl_atE (by kernel_rfl) ?_
          refine ge_seq ?_
          refine gk_cond (b := ((tocsinref04_side x43.f1 x51.f1) != 0)) (by kernel_rfl) (by kernel_rfl) (fun hc59 => ?_) (fun hc59 => ?_)
          · have hb9 := cond_t hc59 hb9
            refine gk_seq (by kernel_rfl) ?_
            refine gk_region (by kernel_rfl) ?_
            refine gl_pure 2 [4] (K' := [(4, .int .i64 (tocsinref04_side x43.f1 x51.f1))]) (by kernel_rfl) ?_
            refine gl_atE (by kernel_rfl) ?_
            refine ge_seq ?_
            refine gk_ret (by kernel_rfl) ?_
            refine ge_block_ret ?_
            refine ge_seq_ret ?_
            obtain rfl := some_inj hb9
            refine ge_round_out (fun hrr => ?_) (by intro h; cases h)
            obtain rfl := hrr
            refine ge_block_ret ?_
            refine ge_seq_ret ?_
            refine ge_seq_ret ?_
            obtain rfl := some_inj hr
            exact ge_result trivial (ResOk.tmp (by kernel_rfl) ResOk.nil) (Imm.trans hI10 hI19) ⟨rfl, rfl⟩
          · have hb9 := cond_f hc59 hb9
            refine gk_skip (by kernel_rfl) ?_
            refine ge_block_normal ?_
            refine ge_seq ?_
            refine gk_region (by kernel_rfl) ?_
            refine gl_pure 3 [0, 1, 5] (K' := [(0, .slice A0_0 a0.length n0_0), (1, .slice A1_0 a1.length n1_0), (5, .int .i64 (IntKind.wrap .i64 (s7 + 1)))]) (by kernel_rfl) ?_
            refine gl_atE (by kernel_rfl) ?_
            obtain rfl := some_inj hb9
            exact ge_round fun t ht => ⟨(Imm.trans hI10 hI19), rfl, ht.pick (l := [0, 1, 5]) (by kernel_rfl)⟩
      · have hb9 := cond_f hc25 hb9
        refine gk_exit (by kernel_rfl) ?_
        refine ge_seq_exit ?_
        obtain rfl := some_inj hb9
        refine ge_round_out (fun hrr => ?_) (by intro h; cases h)
        obtain rfl := hrr
        refine ge_block_hit (by kernel_rfl) ?_
        exact ge_mid fun t ht => ⟨_, rfl, (Imm.trans hI10 hI19), rfl, ht.pick (l := [0, 1]) (by kernel_rfl)⟩
  · rintro t I16 L' ⟨r13, rfl, hI14, rfl, hK15⟩
    refine ge_at hK15 ?_
    refine ge_seq ?_
    refine gk_seq (by kernel_rfl) ?_
    refine gk_seq (by kernel_rfl) ?_
    refine gk_region (by kernel_rfl) ?_
    refine gl_pure 5 [0, 1, 52] (K' := [(0, .slice A0_0 a0.length n0_0), (1, .slice A1_0 a1.length n1_0), (52, .bool (decide ((a0.length : Int) < (a1.length : Int))))]) (by kernel_rfl) ?_
    refine gl_atE (by kernel_rfl) ?_
    refine ge_seq ?_
    refine gk_cond (b := (decide ((a0.length : Int) < (a1.length : Int)))) (by kernel_rfl) (by kernel_rfl) (fun hc60 => ?_) (fun hc60 => ?_)
    · have hr := cond_t hc60 hr
      refine gk_seq (by kernel_rfl) ?_
      refine gk_region (by kernel_rfl) ?_
      refine gl_pure 1 [4] (K' := [(4, .int .i64 (-1))]) (by kernel_rfl) ?_
      refine gl_atE (by kernel_rfl) ?_
      refine ge_seq ?_
      refine gk_ret (by kernel_rfl) ?_
      refine ge_seq_ret ?_
      obtain rfl := some_inj hr
      exact ge_result trivial (ResOk.tmp (by kernel_rfl) ResOk.nil) hI14 ⟨rfl, rfl⟩
    · have hr := cond_f hc60 hr
      refine gk_skip (by kernel_rfl) ?_
      refine ge_seq ?_
      refine gk_seq (by kernel_rfl) ?_
      refine gk_seq (by kernel_rfl) ?_
      refine gk_region (by kernel_rfl) ?_
      refine gl_pure 5 [57] (K' := [(57, .bool (decide ((a0.length : Int) > (a1.length : Int))))]) (by kernel_rfl) ?_
      refine gl_atE (by kernel_rfl) ?_
      refine ge_seq ?_
      refine gk_cond (b := (decide ((a0.length : Int) > (a1.length : Int)))) (by kernel_rfl) (by kernel_rfl) (fun hc61 => ?_) (fun hc61 => ?_)
      · have hr := cond_t hc61 hr
        refine gk_seq (by kernel_rfl) ?_
        refine gk_region (by kernel_rfl) ?_
        refine gl_pure 1 [4] (K' := [(4, .int .i64 1)]) (by kernel_rfl) ?_
        refine gl_atE (by kernel_rfl) ?_
        refine ge_seq ?_
        refine gk_ret (by kernel_rfl) ?_
        refine ge_seq_ret ?_
        obtain rfl := some_inj hr
        exact ge_result trivial (ResOk.tmp (by kernel_rfl) ResOk.nil) hI14 ⟨rfl, rfl⟩
      · have hr := cond_f hc61 hr
        refine gk_skip (by kernel_rfl) ?_
        refine ge_seq ?_
        refine gk_seq (by kernel_rfl) ?_
        refine gk_region (by kernel_rfl) ?_
        refine gl_pure 1 [4] (K' := [(4, .int .i64 0)]) (by kernel_rfl) ?_
        refine gl_atE (by kernel_rfl) ?_
        refine ge_seq ?_
        refine gk_ret (by kernel_rfl) ?_
        obtain rfl := some_inj hr
        exact ge_result trivial (ResOk.tmp (by kernel_rfl) ResOk.nil) hI14 ⟨rfl, rfl⟩
/-! 33 tocsinref04_Same  -/
noncomputable def tocsinref04_Same (a0 : List S76) (a1 : List S76) : Option Bool :=
  Option.bind (tocsinref04_Compare a0 a1) fun (y1 : Int) =>
  some (y1 == 0)
theorem tocsinref04_Same_walk {a0 : List S76} {A0_0 : Option Addr} {n0_0 : Nat} {a1 : List S76} {A1_0 : Option Addr} {n1_0 : Nat} {I : Imm} {r : Bool}  (hf0_0 : RepS kS76 I A0_0 n0_0 a0)  (hf1_0 : RepS kS76 I A1_0 n1_0 a1) (hr : tocsinref04_Same a0 a1 = some r) (L : Own) :
    CallsTo Tryz.prog 33 #[.slice A0_0 a0.length n0_0, .slice A1_0 a1.length n1_0] I L (fun v I' L' => v = .bool r ∧ L = L') := by
  unfold tocsinref04_Same at hr
  refine callsTo_body (N := 9) Tryz.func33 (by kernel_rfl) (by kernel_rfl) (by kernel_rfl) ?_
  refine gk_pick [0, 1] (K' := [(0, .slice A0_0 a0.length n0_0), (1, .slice A1_0 a1.length n1_0)]) (by kernel_rfl) ?_
  refine gk_seq (by kernel_rfl) ?_
  refine gk_region (by kernel_rfl) ?_
  refine gl_pure 1 [0, 1] (K' := [(0, .slice A0_0 a0.length n0_0), (1, .slice A1_0 a1.length n1_0)]) (by kernel_rfl) ?_
  refine gl_atE (by kernel_rfl) ?_
  refine ge_seq ?_
  refine gk_seq (by kernel_rfl) ?_
  refine gk_region (by kernel_rfl) ?_
  refine gl_pure 2 [5, 6] (K' := [(5, .slice A0_0 a0.length n0_0), (6, .slice A1_0 a1.length n1_0)]) (by kernel_rfl) ?_
  obtain ⟨y1, hx2, hr⟩ := bind_some hr
  refine gl_callQ (by kernel_rfl) (tocsinref04_Compare_walk (r := y1) hf0_0 hf1_0 hx2 _) ?_
  refine gl_pure 2 [4] (K' := [(4, .bool (y1 == 0))]) (by kernel_rfl) ?_
  refine gl_atE (by kernel_rfl) ?_
  refine ge_seq ?_
  refine gk_ret (by kernel_rfl) ?_
  obtain rfl := some_inj hr
  exact ge_result trivial (ResOk.tmp (by kernel_rfl) ResOk.nil) (Imm.refl _) ⟨rfl, rfl⟩
/-! 16 tocsinref11_SamePoints  -/
noncomputable def tocsinref11_SamePoints_l18 (a0 : List S38) (a1 : List S38) : Int → Option ((Int) ⊕ ((Unit) ⊕ (Bool))) := fun s8 =>
  bif (decide (s8 < (a0.length : Int))) then
  (Option.bind (Option.bind (ix a0 s8) fun (x26 : S38) =>
      Option.bind (ix a1 s8) fun (x39 : S38) =>
      Option.bind (tocsinref04_Same x26.f0 x39.f0) fun (y52 : Bool) =>
      bif (!y52) then
      (some true)
      else
      (Option.bind (ix a0 s8) fun (x55 : S38) =>
        Option.bind (fbits x55.f1) fun (q68 : Int) =>
        Option.bind (ix a1 s8) fun (x70 : S38) =>
        Option.bind (fbits x70.f1) fun (q83 : Int) =>
        some (q68 != q83))) fun (j21 : Bool) =>
    bif j21 then
    (some (Sum.inr (Sum.inr false)))
    else
    (some (Sum.inl (IntKind.wrap .i64 (s8 + 1)))))
  else
  (some (Sum.inr (Sum.inl ())))
noncomputable def tocsinref11_SamePoints (a0 : List S38) (a1 : List S38) : Option Bool :=
  bif ((a0.length : Int) != (a1.length : Int)) then
  (some false)
  else
  (Option.bind (loopO (tocsinref11_SamePoints_l18 a0 a1) 0) fun (r6 : (Unit) ⊕ (Bool)) =>
    match r6 with
    | Sum.inl r14 => some true
    | Sum.inr v86 => some v86)
theorem tocsinref11_SamePoints_walk {a0 : List S38} {A0_0 : Option Addr} {n0_0 : Nat} {a1 : List S38} {A1_0 : Option Addr} {n1_0 : Nat} {I : Imm} {r : Bool}  (hf0_0 : RepS kS38 I A0_0 n0_0 a0)  (hf1_0 : RepS kS38 I A1_0 n1_0 a1) (hr : tocsinref11_SamePoints a0 a1 = some r) (L : Own) :
    CallsTo Tryz.prog 16 #[.slice A0_0 a0.length n0_0, .slice A1_0 a1.length n1_0] I L (fun v I' L' => v = .bool r ∧ L = L') := by
  unfold tocsinref11_SamePoints at hr
  refine callsTo_body (N := 44) Tryz.func16 (by kernel_rfl) (by kernel_rfl) (by kernel_rfl) ?_
  refine gk_pick [0, 1] (K' := [(0, .slice A0_0 a0.length n0_0), (1, .slice A1_0 a1.length n1_0)]) (by kernel_rfl) ?_
  refine gk_seq (by kernel_rfl) ?_
  refine gk_region (by kernel_rfl) ?_
  refine gl_pure 1 [0, 1] (K' := [(0, .slice A0_0 a0.length n0_0), (1, .slice A1_0 a1.length n1_0)]) (by kernel_rfl) ?_
  refine gl_atE (by kernel_rfl) ?_
  refine ge_seq ?_
  refine gk_seq (by kernel_rfl) ?_
  refine gk_seq (by kernel_rfl) ?_
  refine gk_region (by kernel_rfl) ?_
  refine gl_pure 5 [0, 1, 10] (K' := [(0, .slice A0_0 a0.length n0_0), (1, .slice A1_0 a1.length n1_0), (10, .bool ((a0.length : Int) != (a1.length : Int)))]) (by kernel_rfl) ?_
  refine gl_atE (by kernel_rfl) ?_
  refine ge_seq ?_
  refine gk_cond (b := ((a0.length : Int) != (a1.length : Int))) (by kernel_rfl) (by kernel_rfl) (fun hc1 => ?_) (fun hc1 => ?_)
  · have hr := cond_t hc1 hr
    refine gk_seq (by kernel_rfl) ?_
    refine gk_region (by kernel_rfl) ?_
    refine gl_pure 1 [4] (K' := [(4, .bool false)]) (by kernel_rfl) ?_
    refine gl_atE (by kernel_rfl) ?_
    refine ge_seq ?_
    refine gk_ret (by kernel_rfl) ?_
    refine ge_seq_ret ?_
    obtain rfl := some_inj hr
    exact ge_result trivial (ResOk.tmp (by kernel_rfl) ResOk.nil) (Imm.refl _) ⟨rfl, rfl⟩
  · have hr := cond_f hc1 hr
    refine gk_skip (by kernel_rfl) ?_
    refine ge_seq ?_
    refine gk_seq (by kernel_rfl) ?_
    refine gk_seq (by kernel_rfl) ?_
    refine gk_region (by kernel_rfl) ?_
    refine gl_pure 1 [0, 1, 5] (K' := [(0, .slice A0_0 a0.length n0_0), (1, .slice A1_0 a1.length n1_0), (5, .int .i64 0)]) (by kernel_rfl) ?_
    refine gl_atE (by kernel_rfl) ?_
    refine ge_seq ?_
    obtain ⟨r6, hl7, hr⟩ := bind_some hr
    refine gk_join (fun t I' L' => ∃ r14, r6 = Sum.inl r14 ∧ I ≤ I' ∧ L = L' ∧ Knows 44 [] t) ?_ ?_
    · refine gk_block (by kernel_rfl) ?_
      refine gk_pick [0, 1, 5] (K' := [(0, .slice A0_0 a0.length n0_0), (1, .slice A1_0 a1.length n1_0), (5, .int .i64 0)]) (by kernel_rfl) ?_
      intro t hK
      refine gc_loop (tocsinref11_SamePoints_l18 a0 a1) (fun s8 t I' L' => I ≤ I' ∧ L = L' ∧ Knows 44 [(0, .slice A0_0 a0.length n0_0), (1, .slice A1_0 a1.length n1_0), (5, .int .i64 s8)] t) (by kernel_rfl) ?_ hl7 ⟨(Imm.refl _), rfl, hK⟩
      rintro s8 o9 t I13 L' hb10 ⟨hI11, rfl, hK12⟩
      unfold tocsinref11_SamePoints_l18 at hb10
      refine gk_at hK12 ?_
      refine gk_seq (by kernel_rfl) ?_
      refine gk_seq (by kernel_rfl) ?_
      refine gk_region (by kernel_rfl) ?_
      refine gl_pure 4 [0, 1, 5, 14] (K' := [(0, .slice A0_0 a0.length n0_0), (1, .slice A1_0 a1.length n1_0), (5, .int .i64 s8), (14, .bool (decide (s8 < (a0.length : Int))))]) (by kernel_rfl) ?_
      refine gl_atE (by kernel_rfl) ?_
      refine ge_seq ?_
      refine gk_cond (b := (decide (s8 < (a0.length : Int)))) (by kernel_rfl) (by kernel_rfl) (fun hc20 => ?_) (fun hc20 => ?_)
      · have hb10 := cond_t hc20 hb10
        refine gk_skip (by kernel_rfl) ?_
        refine ge_seq ?_
        refine gk_seq (by kernel_rfl) ?_
        refine gk_block (by kernel_rfl) ?_
        refine gk_seq (by kernel_rfl) ?_
        obtain ⟨j21, hj22, hb10⟩ := bind_some hb10
        refine gk_join (fun t I' L' => I13 ≤ I' ∧ L = L' ∧ Knows 44 [(0, .slice A0_0 a0.length n0_0), (1, .slice A1_0 a1.length n1_0), (5, .int .i64 s8), (43, .bool j21)] t) ?_ ?_
        · refine gk_draw 24 [(0, true), (1, true), (2, true), (3, true), (4, true), (5, true), (6, true), (7, true), (8, true), (9, true), (10, true), (11, true), (12, true), (13, true), (14, true), (15, true), (16, true), (17, true), (18, true), (19, true), (20, true), (21, true), (22, true), (23, true)] [] (fun p hp => by cases hp) (by kernel_rfl) (by kernel_rfl) (by kernel_rfl) ?_ (by kernel_rfl)
          refine gd_pure 2 [0, 1, 5, 17, 18] (K' := [(0, .slice A0_0 a0.length n0_0), (1, .slice A1_0 a1.length n1_0), (5, .int .i64 s8), (17, .slice A0_0 a0.length n0_0), (18, .int .i64 s8)]) (s' := [(2, true), (3, true), (4, true), (5, true), (6, true), (7, true), (8, true), (9, true), (10, true), (11, true), (12, true), (13, true), (14, true), (15, true), (16, true), (17, true), (18, true), (19, true), (20, true), (21, true), (22, true), (23, true)]) (CC.refl (fun p hp => by cases hp)) (by kernel_rfl) ?_
          obtain ⟨x26, hx27, hj22⟩ := bind_some hj22
          obtain ⟨p28, cs29, hR30, hA31, ha32⟩ := RepS.ixAt hx27 (hf0_0.mono hI11)
          have hi33 := ix_some hx27
          obtain ⟨A34, n35, b37, hf36, hf38, rfl⟩ := kS38_open hR30
          refine gd_q (v := .pointer (some p28)) (by kernel_rfl) (by kernel_rfl) (CC.refl (fun p hp => by cases hp)) (fun I' L' T hC kk => gl_indexAddrF (c := n0_0) (T' := 22) (e := 39) (xs := (.tmp 17)) (xi := (.tmp 18)) (kd := .i64) ha32 hi33.1 hi33.2.1 (by kernel_rfl) (by kernel_rfl) (by kernel_rfl) (by kernel_rfl) (by kernel_rfl) kk) ?_
          refine gd_pure 1 [0, 1, 5, 20] (K' := [(0, .slice A0_0 a0.length n0_0), (1, .slice A1_0 a1.length n1_0), (5, .int .i64 s8), (20, .pointer (some (p28.add 0)))]) (s' := [(4, true), (5, true), (6, true), (7, true), (8, true), (9, true), (10, true), (11, true), (12, true), (13, true), (14, true), (15, true), (16, true), (17, true), (18, true), (19, true), (20, true), (21, true), (22, true), (23, true)]) (CC.refl (fun p hp => by cases hp)) (by kernel_rfl) ?_
          refine gd_q (v := .slice A34 x26.f0.length n35) (by kernel_rfl) (by kernel_rfl) (CC.refl (fun p hp => by cases hp)) (fun I' L' T hC kk => gl_load (T' := 36) (xp := (.tmp 20)) (p := (p28.add 0)) (c := .slice A34 x26.f0.length n35) (n := 1) (by kernel_rfl) (by kernel_rfl) (by kernel_rfl) (by kernel_rfl) ((hA31.drop 0).mono hC.le) kk) ?_
          refine gd_pure 2 [0, 1, 5, 21, 22, 23] (K' := [(0, .slice A0_0 a0.length n0_0), (1, .slice A1_0 a1.length n1_0), (5, .int .i64 s8), (21, .slice A34 x26.f0.length n35), (22, .slice A1_0 a1.length n1_0), (23, .int .i64 s8)]) (s' := [(7, true), (8, true), (9, true), (10, true), (11, true), (12, true), (13, true), (14, true), (15, true), (16, true), (17, true), (18, true), (19, true), (20, true), (21, true), (22, true), (23, true)]) (CC.refl (fun p hp => by cases hp)) (by kernel_rfl) ?_
          obtain ⟨x39, hx40, hj22⟩ := bind_some hj22
          obtain ⟨p41, cs42, hR43, hA44, ha45⟩ := RepS.ixAt hx40 (hf1_0.mono hI11)
          have hi46 := ix_some hx40
          obtain ⟨A47, n48, b50, hf49, hf51, rfl⟩ := kS38_open hR43
          refine gd_q (v := .pointer (some p41)) (by kernel_rfl) (by kernel_rfl) (CC.refl (fun p hp => by cases hp)) (fun I' L' T hC kk => gl_indexAddrF (c := n1_0) (T' := 22) (e := 39) (xs := (.tmp 22)) (xi := (.tmp 23)) (kd := .i64) ha45 hi46.1 hi46.2.1 (by kernel_rfl) (by kernel_rfl) (by kernel_rfl) (by kernel_rfl) (by kernel_rfl) kk) ?_
          refine gd_pure 1 [0, 1, 5, 21, 25] (K' := [(0, .slice A0_0 a0.length n0_0), (1, .slice A1_0 a1.length n1_0), (5, .int .i64 s8), (21, .slice A34 x26.f0.length n35), (25, .pointer (some (p41.add 0)))]) (s' := [(9, true), (10, true), (11, true), (12, true), (13, true), (14, true), (15, true), (16, true), (17, true), (18, true), (19, true), (20, true), (21, true), (22, true), (23, true)]) (CC.refl (fun p hp => by cases hp)) (by kernel_rfl) ?_
          refine gd_q (v := .slice A47 x39.f0.length n48) (by kernel_rfl) (by kernel_rfl) (CC.refl (fun p hp => by cases hp)) (fun I' L' T hC kk => gl_load (T' := 36) (xp := (.tmp 25)) (p := (p41.add 0)) (c := .slice A47 x39.f0.length n48) (n := 1) (by kernel_rfl) (by kernel_rfl) (by kernel_rfl) (by kernel_rfl) ((hA44.drop 0).mono hC.le) kk) ?_
          obtain ⟨y52, hx53, hj22⟩ := bind_some hj22
          refine gd_q (v := .bool y52) (by kernel_rfl) (by kernel_rfl) (CC.refl (fun p hp => by cases hp)) (fun I' L' T hC kk => gl_callQ (by kernel_rfl) (tocsinref04_Same_walk (r := y52) (hf36.mono hC.le) (hf49.mono hC.le) hx53 _) kk) ?_
          refine gd_pure 2 [0, 1, 5, 29] (K' := [(0, .slice A0_0 a0.length n0_0), (1, .slice A1_0 a1.length n1_0), (5, .int .i64 s8), (29, .bool (!y52))]) (s' := [(13, true), (14, true), (15, true), (16, true), (17, true), (18, true), (19, true), (20, true), (21, true), (22, true), (23, true)]) (CC.refl (fun p hp => by cases hp)) (by kernel_rfl) ?_
          refine gd_case 29 (b := (!y52)) (by kernel_rfl) (fun hc54 => ?_) (fun hc54 => ?_)
          · have hj22 := cond_t hc54 hj22
            refine gd_pure 11 [0, 1, 5, 29, 35, 40] (K' := [(0, .slice A0_0 a0.length n0_0), (1, .slice A1_0 a1.length n1_0), (5, .int .i64 s8), (29, .bool true), (35, undef), (40, undef)]) (s' := []) (CC.refl (fun p hp => by cases hp)) (by kernel_rfl) ?_
            refine gd_done ?_
            refine gl_pure 3 [0, 1, 5, 43] (K' := [(0, .slice A0_0 a0.length n0_0), (1, .slice A1_0 a1.length n1_0), (5, .int .i64 s8), (43, .bool true)]) (by kernel_rfl) ?_
            refine gl_atE (by kernel_rfl) ?_
            obtain rfl := some_inj hj22
            exact ge_mid fun t ht => ⟨(Imm.refl _), rfl, ht.pick (l := [0, 1, 5, 43]) (by kernel_rfl)⟩
          · have hj22 := cond_f hc54 hj22
            refine gd_pure 2 [0, 1, 5, 29, 30, 31] (K' := [(0, .slice A0_0 a0.length n0_0), (1, .slice A1_0 a1.length n1_0), (5, .int .i64 s8), (29, .bool false), (30, .slice A0_0 a0.length n0_0), (31, .int .i64 s8)]) (s' := [(15, true), (16, true), (17, true), (18, true), (19, true), (20, true), (21, true), (22, true), (23, true)]) (CC.refl (fun p hp => by cases hp)) (by kernel_rfl) ?_
            obtain ⟨x55, hx56, hj22⟩ := bind_some hj22
            obtain ⟨p57, cs58, hR59, hA60, ha61⟩ := RepS.ixAt hx56 (hf0_0.mono hI11)
            have hi62 := ix_some hx56
            obtain ⟨A63, n64, b66, hf65, hf67, rfl⟩ := kS38_open hR59
            refine gd_q (v := .pointer (some p57)) (by kernel_rfl) (by kernel_rfl) (CC.refl (fun p hp => by cases hp)) (fun I' L' T hC kk => gl_indexAddrF (c := n0_0) (T' := 22) (e := 39) (xs := (.tmp 30)) (xi := (.tmp 31)) (kd := .i64) ha61 hi62.1 hi62.2.1 (by kernel_rfl) (by kernel_rfl) (by kernel_rfl) (by kernel_rfl) (by kernel_rfl) kk) ?_
            refine gd_pure 1 [0, 1, 5, 29, 33] (K' := [(0, .slice A0_0 a0.length n0_0), (1, .slice A1_0 a1.length n1_0), (5, .int .i64 s8), (29, .bool false), (33, .pointer (some (p57.add 1)))]) (s' := [(17, true), (18, true), (19, true), (20, true), (21, true), (22, true), (23, true)]) (CC.refl (fun p hp => by cases hp)) (by kernel_rfl) ?_
            refine gd_q (v := .float .f64 b66) (by kernel_rfl) (by kernel_rfl) (CC.refl (fun p hp => by cases hp)) (fun I' L' T hC kk => gl_load (T' := 37) (xp := (.tmp 33)) (p := (p57.add 1)) (c := .float .f64 b66) (n := 1) (by kernel_rfl) (by kernel_rfl) (by kernel_rfl) (by kernel_rfl) ((hA60.drop 1).mono hC.le) kk) ?_
            obtain ⟨q68, hx69, hj22⟩ := bind_some hj22
            refine gd_q (v := .int .u64 q68) (by kernel_rfl) (by kernel_rfl) (CC.refl (fun p hp => by cases hp)) (fun I' L' T hC kk => gl_f64bits hx69 hf67 Tryz.func46 (by kernel_rfl) (by kernel_rfl) (by kernel_rfl) (by kernel_rfl) (by kernel_rfl) (by kernel_rfl) kk) ?_
            refine gd_pure 2 [0, 1, 5, 29, 35, 36, 37] (K' := [(0, .slice A0_0 a0.length n0_0), (1, .slice A1_0 a1.length n1_0), (5, .int .i64 s8), (29, .bool false), (35, .int .u64 q68), (36, .slice A1_0 a1.length n1_0), (37, .int .i64 s8)]) (s' := [(21, true), (22, true), (23, true)]) (CC.refl (fun p hp => by cases hp)) (by kernel_rfl) ?_
            obtain ⟨x70, hx71, hj22⟩ := bind_some hj22
            obtain ⟨p72, cs73, hR74, hA75, ha76⟩ := RepS.ixAt hx71 (hf1_0.mono hI11)
            have hi77 := ix_some hx71
            obtain ⟨A78, n79, b81, hf80, hf82, rfl⟩ := kS38_open hR74
            refine gd_q (v := .pointer (some p72)) (by kernel_rfl) (by kernel_rfl) (CC.refl (fun p hp => by cases hp)) (fun I' L' T hC kk => gl_indexAddrF (c := n1_0) (T' := 22) (e := 39) (xs := (.tmp 36)) (xi := (.tmp 37)) (kd := .i64) ha76 hi77.1 hi77.2.1 (by kernel_rfl) (by kernel_rfl) (by kernel_rfl) (by kernel_rfl) (by kernel_rfl) kk) ?_
            refine gd_pure 1 [0, 1, 5, 29, 35, 39] (K' := [(0, .slice A0_0 a0.length n0_0), (1, .slice A1_0 a1.length n1_0), (5, .int .i64 s8), (29, .bool false), (35, .int .u64 q68), (39, .pointer (some (p72.add 1)))]) (s' := [(23, true)]) (CC.refl (fun p hp => by cases hp)) (by kernel_rfl) ?_
            refine gd_q (v := .float .f64 b81) (by kernel_rfl) (by kernel_rfl) (CC.refl (fun p hp => by cases hp)) (fun I' L' T hC kk => gl_load (T' := 37) (xp := (.tmp 39)) (p := (p72.add 1)) (c := .float .f64 b81) (n := 1) (by kernel_rfl) (by kernel_rfl) (by kernel_rfl) (by kernel_rfl) ((hA75.drop 1).mono hC.le) kk) ?_
            refine gd_done ?_
            obtain ⟨q83, hx84, hj22⟩ := bind_some hj22
            refine gl_f64bits hx84 hf82 Tryz.func46 (by kernel_rfl) (by kernel_rfl) (by kernel_rfl) (by kernel_rfl) (by kernel_rfl) (by kernel_rfl) ?_
            refine gl_pure 2 [0, 1, 5, 43] (K' := [(0, .slice A0_0 a0.length n0_0), (1, .slice A1_0 a1.length n1_0), (5, .int .i64 s8), (43, .bool (q68 != q83))]) (by kernel_rfl) ?_
            refine gl_atE (by kernel_rfl) ?_
            obtain rfl := some_inj hj22
            exact ge_mid fun t ht => ⟨(Imm.refl _), rfl, ht.pick (l := [0, 1, 5, 43]) (by kernel_rfl)⟩
        · rintro t I25 L' ⟨hI23, rfl, hK24⟩
          refine ge_at hK24 ?_
          refine ge_seq ?_
          refine gk_cond (b := j21) (by kernel_rfl) (by kernel_rfl) (fun hc85 => ?_) (fun hc85 => ?_)
          · have hb10 := cond_t hc85 hb10
            refine gk_seq (by kernel_rfl) ?_
            refine gk_region (by kernel_rfl) ?_
            refine gl_pure 1 [4] (K' := [(4, .bool false)]) (by kernel_rfl) ?_
            refine gl_atE (by kernel_rfl) ?_
            refine ge_seq ?_
            refine gk_ret (by kernel_rfl) ?_
            refine ge_block_ret ?_
            refine ge_seq_ret ?_
            obtain rfl := some_inj hb10
            refine ge_round_out (fun hrr => ?_) (by intro h; cases h)
            obtain rfl := hrr
            refine ge_block_ret ?_
            refine ge_seq_ret ?_
            refine ge_seq_ret ?_
            obtain rfl := some_inj hr
            exact ge_result trivial (ResOk.tmp (by kernel_rfl) ResOk.nil) (Imm.trans hI11 hI23) ⟨rfl, rfl⟩
          · have hb10 := cond_f hc85 hb10
            refine gk_skip (by kernel_rfl) ?_
            refine ge_block_normal ?_
            refine ge_seq ?_
            refine gk_region (by kernel_rfl) ?_
            refine gl_pure 3 [0, 1, 5] (K' := [(0, .slice A0_0 a0.length n0_0), (1, .slice A1_0 a1.length n1_0), (5, .int .i64 (IntKind.wrap .i64 (s8 + 1)))]) (by kernel_rfl) ?_
            refine gl_atE (by kernel_rfl) ?_
            obtain rfl := some_inj hb10
            exact ge_round fun t ht => ⟨(Imm.trans hI11 hI23), rfl, ht.pick (l := [0, 1, 5]) (by kernel_rfl)⟩
      · have hb10 := cond_f hc20 hb10
        refine gk_exit (by kernel_rfl) ?_
        refine ge_seq_exit ?_
        obtain rfl := some_inj hb10
        refine ge_round_out (fun hrr => ?_) (by intro h; cases h)
        obtain rfl := hrr
        refine ge_block_hit (by kernel_rfl) ?_
        exact ge_mid fun t ht => ⟨_, rfl, hI11, rfl, ht.pick (l := []) (by kernel_rfl)⟩
    · rintro t I17 L' ⟨r14, rfl, hI15, rfl, hK16⟩
      refine ge_at hK16 ?_
      refine ge_seq ?_
      refine gk_seq (by kernel_rfl) ?_
      refine gk_region (by kernel_rfl) ?_
      refine gl_pure 1 [4] (K' := [(4, .bool true)]) (by kernel_rfl) ?_
      refine gl_atE (by kernel_rfl) ?_
      refine ge_seq ?_
      refine gk_ret (by kernel_rfl) ?_
      obtain rfl := some_inj hr
      exact ge_result trivial (ResOk.tmp (by kernel_rfl) ResOk.nil) hI15 ⟨rfl, rfl⟩
/-! 13 tocsinlaw15_known  -/
noncomputable def tocsinlaw15_known : Option Bool :=
  Option.bind (vec_Binary 1 [(⟨[(⟨(⟨#[97]⟩ : ByteArray), (⟨#[49]⟩ : ByteArray)⟩ : S76)], (some 4611686018427387904 : Fl)⟩ : S38)] [(⟨[(⟨(⟨#[97]⟩ : ByteArray), (⟨#[49]⟩ : ByteArray)⟩ : S76), (⟨(⟨#[98]⟩ : ByteArray), (⟨#[120]⟩ : ByteArray)⟩ : S76)], (some 4613937818241073152 : Fl)⟩ : S38)] (⟨0, true, [(⟨#[97]⟩ : ByteArray)], []⟩ : S24) false) fun (y35 : (List S38) × Int) =>
  Option.bind (vec_Arith 5 (some 13842939354630062080 : Fl) (some 4613937818241073152 : Fl)) fun (y44 : Fl × Int) =>
  Option.bind (bif (y35.2 == 0) then
    (bif (y44.2 == 0) then
      (bif (fcmp .eql y44.1 (some 13830554455654793216 : Fl)) then
        (Option.bind (ix [(⟨[(⟨(⟨#[97]⟩ : ByteArray), (⟨#[49]⟩ : ByteArray)⟩ : S76)], (some 4611686018427387904 : Fl)⟩ : S38)] 0) fun (x59 : S38) =>
          Option.bind (tocsinref11_SamePoints y35.1 [(⟨x59.f0, (some 4617315517961601024 : Fl)⟩ : S38)]) fun (y76 : Bool) =>
          some y76)
        else
        (some false))
      else
      (some false))
    else
    (some false)) fun (j51 : Bool) =>
  some j51
theorem tocsinlaw15_known_walk  {I : Imm} {r : Bool} (hG : Gl I) (hr : tocsinlaw15_known = some r) (L : Own) :
    CallsTo Tryz.prog 13 #[] I L (fun v I' L' => v = .bool r ∧ L = L') := by
  unfold tocsinlaw15_known at hr
  refine callsTo_body (N := 48) Tryz.func13 (by kernel_rfl) (by kernel_rfl) (by kernel_rfl) ?_
  refine gk_pick [] (K' := []) (by kernel_rfl) ?_
  refine gk_seq (by kernel_rfl) ?_
  refine gk_region (by kernel_rfl) ?_
  refine gl_pure 1 [] (K' := []) (by kernel_rfl) ?_
  refine gl_atE (by kernel_rfl) ?_
  refine ge_seq ?_
  refine gk_seq (by kernel_rfl) ?_
  refine gk_region (by kernel_rfl) ?_
  refine gl_pure 1 [7] (K' := [(7, .agg #[.string (⟨#[97]⟩ : ByteArray), .string (⟨#[49]⟩ : ByteArray)])]) (by kernel_rfl) ?_
  refine gl_buildSlice (T' := 36) (e := 77) (n := 2) (len := 1) (parts := #[(0, (.tmp 7))]) (l := [(0, .agg #[.string (⟨#[97]⟩ : ByteArray), .string (⟨#[49]⟩ : ByteArray)])]) (cs := #[.string (⟨#[97]⟩ : ByteArray), .string (⟨#[49]⟩ : ByteArray)]) (by kernel_rfl) (by kernel_rfl) (by kernel_rfl) (by kernel_rfl) (by kernel_rfl) (fun g1 => ?_)
  have hO2 : OwnS kS76 77 I (some ⟨g1, 0, none⟩) 1 [(⟨(⟨#[97]⟩ : ByteArray), (⟨#[49]⟩ : ByteArray)⟩ : S76)] [(g1, .cells #[.string (⟨#[97]⟩ : ByteArray), .string (⟨#[49]⟩ : ByteArray)] 77)] := OwnS.lit (row_cons (l := [.string (⟨#[97]⟩ : ByteArray), .string (⟨#[49]⟩ : ByteArray)]) (kS76_mk (x := (⟨(⟨#[97]⟩ : ByteArray), (⟨#[49]⟩ : ByteArray)⟩ : S76)) ) (row_nil _ _)) rfl rfl rfl
  refine gl_reord (D := [(g1, .cells #[.string (⟨#[97]⟩ : ByteArray), .string (⟨#[49]⟩ : ByteArray)] 77)] ++ L) (Reord.refl _) ?_
  refine gl_pure 1 [9] (K' := [(9, .agg #[.slice (some ⟨g1, 0, none⟩) [(⟨(⟨#[97]⟩ : ByteArray), (⟨#[49]⟩ : ByteArray)⟩ : S76)].length 1, .float .f64 4611686018427387904])]) (by kernel_rfl) ?_
  refine gl_rest (Tk.step (Upd.rmC _ _) (Tk.nil _)) (fun J5 hJ6 hC7 => ?_)
  have hf8 := (OwnS.rest hO2 hJ6 hC7.left)
  refine gl_buildSlice (T' := 22) (e := 39) (n := 2) (len := 1) (parts := #[(0, (.tmp 9))]) (l := [(0, .agg #[.slice (some ⟨g1, 0, none⟩) [(⟨(⟨#[97]⟩ : ByteArray), (⟨#[49]⟩ : ByteArray)⟩ : S76)].length 1, .float .f64 4611686018427387904])]) (cs := #[.slice (some ⟨g1, 0, none⟩) [(⟨(⟨#[97]⟩ : ByteArray), (⟨#[49]⟩ : ByteArray)⟩ : S76)].length 1, .float .f64 4611686018427387904]) (by kernel_rfl) (by kernel_rfl) (by kernel_rfl) (by kernel_rfl) (by kernel_rfl) (fun g9 => ?_)
  have hO10 : OwnS kS38 39 J5 (some ⟨g9, 0, none⟩) 1 [(⟨[(⟨(⟨#[97]⟩ : ByteArray), (⟨#[49]⟩ : ByteArray)⟩ : S76)], (some 4611686018427387904 : Fl)⟩ : S38)] [(g9, .cells #[.slice (some ⟨g1, 0, none⟩) [(⟨(⟨#[97]⟩ : ByteArray), (⟨#[49]⟩ : ByteArray)⟩ : S76)].length 1, .float .f64 4611686018427387904] 39)] := OwnS.lit (row_cons (l := [.slice (some ⟨g1, 0, none⟩) [(⟨(⟨#[97]⟩ : ByteArray), (⟨#[49]⟩ : ByteArray)⟩ : S76)].length 1, .float .f64 4611686018427387904]) (kS38_mk (x := (⟨[(⟨(⟨#[97]⟩ : ByteArray), (⟨#[49]⟩ : ByteArray)⟩ : S76)], (some 4611686018427387904 : Fl)⟩ : S38)) hf8 (FRep.of 4611686018427387904)) (row_nil _ _)) rfl rfl rfl
  refine gl_reord (D := [(g9, .cells #[.slice (some ⟨g1, 0, none⟩) [(⟨(⟨#[97]⟩ : ByteArray), (⟨#[49]⟩ : ByteArray)⟩ : S76)].length 1, .float .f64 4611686018427387904] 39)] ++ L) (Reord.refl _) ?_
  refine gl_pure 1 [1] (K' := [(1, .slice (some ⟨g9, 0, none⟩) [(⟨[(⟨(⟨#[97]⟩ : ByteArray), (⟨#[49]⟩ : ByteArray)⟩ : S76)], (some 4611686018427387904 : Fl)⟩ : S38)].length 1)]) (by kernel_rfl) ?_
  refine gl_atE (by kernel_rfl) ?_
  refine ge_seq ?_
  refine gk_seq (by kernel_rfl) ?_
  refine gk_region (by kernel_rfl) ?_
  refine gl_pure 2 [1, 11, 12] (K' := [(1, .slice (some ⟨g9, 0, none⟩) [(⟨[(⟨(⟨#[97]⟩ : ByteArray), (⟨#[49]⟩ : ByteArray)⟩ : S76)], (some 4611686018427387904 : Fl)⟩ : S38)].length 1), (11, .agg #[.string (⟨#[97]⟩ : ByteArray), .string (⟨#[49]⟩ : ByteArray)]), (12, .agg #[.string (⟨#[98]⟩ : ByteArray), .string (⟨#[120]⟩ : ByteArray)])]) (by kernel_rfl) ?_
  refine gl_buildSlice (T' := 36) (e := 77) (n := 2) (len := 2) (parts := #[(0, (.tmp 11)), (1, (.tmp 12))]) (l := [(0, .agg #[.string (⟨#[97]⟩ : ByteArray), .string (⟨#[49]⟩ : ByteArray)]), (1, .agg #[.string (⟨#[98]⟩ : ByteArray), .string (⟨#[120]⟩ : ByteArray)])]) (cs := #[.string (⟨#[97]⟩ : ByteArray), .string (⟨#[49]⟩ : ByteArray), .string (⟨#[98]⟩ : ByteArray), .string (⟨#[120]⟩ : ByteArray)]) (by kernel_rfl) (by kernel_rfl) (by kernel_rfl) (by kernel_rfl) (by kernel_rfl) (fun g13 => ?_)
  have hO14 : OwnS kS76 77 J5 (some ⟨g13, 0, none⟩) 2 [(⟨(⟨#[97]⟩ : ByteArray), (⟨#[49]⟩ : ByteArray)⟩ : S76), (⟨(⟨#[98]⟩ : ByteArray), (⟨#[120]⟩ : ByteArray)⟩ : S76)] [(g13, .cells #[.string (⟨#[97]⟩ : ByteArray), .string (⟨#[49]⟩ : ByteArray), .string (⟨#[98]⟩ : ByteArray), .string (⟨#[120]⟩ : ByteArray)] 77)] := OwnS.lit (row_cons (l := [.string (⟨#[97]⟩ : ByteArray), .string (⟨#[49]⟩ : ByteArray)]) (kS76_mk (x := (⟨(⟨#[97]⟩ : ByteArray), (⟨#[49]⟩ : ByteArray)⟩ : S76)) ) (row_cons (l := [.string (⟨#[98]⟩ : ByteArray), .string (⟨#[120]⟩ : ByteArray)]) (kS76_mk (x := (⟨(⟨#[98]⟩ : ByteArray), (⟨#[120]⟩ : ByteArray)⟩ : S76)) ) (row_nil _ _))) rfl rfl rfl
  refine gl_reord (D := [(g13, .cells #[.string (⟨#[97]⟩ : ByteArray), .string (⟨#[49]⟩ : ByteArray), .string (⟨#[98]⟩ : ByteArray), .string (⟨#[120]⟩ : ByteArray)] 77)] ++ ([(g9, .cells #[.slice (some ⟨g1, 0, none⟩) [(⟨(⟨#[97]⟩ : ByteArray), (⟨#[49]⟩ : ByteArray)⟩ : S76)].length 1, .float .f64 4611686018427387904] 39)] ++ L)) (Reord.refl _) ?_
  refine gl_pure 1 [1, 14] (K' := [(1, .slice (some ⟨g9, 0, none⟩) [(⟨[(⟨(⟨#[97]⟩ : ByteArray), (⟨#[49]⟩ : ByteArray)⟩ : S76)], (some 4611686018427387904 : Fl)⟩ : S38)].length 1), (14, .agg #[.slice (some ⟨g13, 0, none⟩) [(⟨(⟨#[97]⟩ : ByteArray), (⟨#[49]⟩ : ByteArray)⟩ : S76), (⟨(⟨#[98]⟩ : ByteArray), (⟨#[120]⟩ : ByteArray)⟩ : S76)].length 2, .float .f64 4613937818241073152])]) (by kernel_rfl) ?_
  refine gl_rest (Tk.step (Upd.rmC _ _) (Tk.nil _)) (fun J17 hJ18 hC19 => ?_)
  have hf20 := (OwnS.rest hO14 hJ18 hC19.left)
  refine gl_buildSlice (T' := 22) (e := 39) (n := 2) (len := 1) (parts := #[(0, (.tmp 14))]) (l := [(0, .agg #[.slice (some ⟨g13, 0, none⟩) [(⟨(⟨#[97]⟩ : ByteArray), (⟨#[49]⟩ : ByteArray)⟩ : S76), (⟨(⟨#[98]⟩ : ByteArray), (⟨#[120]⟩ : ByteArray)⟩ : S76)].length 2, .float .f64 4613937818241073152])]) (cs := #[.slice (some ⟨g13, 0, none⟩) [(⟨(⟨#[97]⟩ : ByteArray), (⟨#[49]⟩ : ByteArray)⟩ : S76), (⟨(⟨#[98]⟩ : ByteArray), (⟨#[120]⟩ : ByteArray)⟩ : S76)].length 2, .float .f64 4613937818241073152]) (by kernel_rfl) (by kernel_rfl) (by kernel_rfl) (by kernel_rfl) (by kernel_rfl) (fun g21 => ?_)
  have hO22 : OwnS kS38 39 J17 (some ⟨g21, 0, none⟩) 1 [(⟨[(⟨(⟨#[97]⟩ : ByteArray), (⟨#[49]⟩ : ByteArray)⟩ : S76), (⟨(⟨#[98]⟩ : ByteArray), (⟨#[120]⟩ : ByteArray)⟩ : S76)], (some 4613937818241073152 : Fl)⟩ : S38)] [(g21, .cells #[.slice (some ⟨g13, 0, none⟩) [(⟨(⟨#[97]⟩ : ByteArray), (⟨#[49]⟩ : ByteArray)⟩ : S76), (⟨(⟨#[98]⟩ : ByteArray), (⟨#[120]⟩ : ByteArray)⟩ : S76)].length 2, .float .f64 4613937818241073152] 39)] := OwnS.lit (row_cons (l := [.slice (some ⟨g13, 0, none⟩) [(⟨(⟨#[97]⟩ : ByteArray), (⟨#[49]⟩ : ByteArray)⟩ : S76), (⟨(⟨#[98]⟩ : ByteArray), (⟨#[120]⟩ : ByteArray)⟩ : S76)].length 2, .float .f64 4613937818241073152]) (kS38_mk (x := (⟨[(⟨(⟨#[97]⟩ : ByteArray), (⟨#[49]⟩ : ByteArray)⟩ : S76), (⟨(⟨#[98]⟩ : ByteArray), (⟨#[120]⟩ : ByteArray)⟩ : S76)], (some 4613937818241073152 : Fl)⟩ : S38)) hf20 (FRep.of 4613937818241073152)) (row_nil _ _)) rfl rfl rfl
  refine gl_reord (D := [(g21, .cells #[.slice (some ⟨g13, 0, none⟩) [(⟨(⟨#[97]⟩ : ByteArray), (⟨#[49]⟩ : ByteArray)⟩ : S76), (⟨(⟨#[98]⟩ : ByteArray), (⟨#[120]⟩ : ByteArray)⟩ : S76)].length 2, .float .f64 4613937818241073152] 39)] ++ ([(g9, .cells #[.slice (some ⟨g1, 0, none⟩) [(⟨(⟨#[97]⟩ : ByteArray), (⟨#[49]⟩ : ByteArray)⟩ : S76)].length 1, .float .f64 4611686018427387904] 39)] ++ L)) (Reord.refl _) ?_
  refine gl_pure 1 [1, 2] (K' := [(1, .slice (some ⟨g9, 0, none⟩) [(⟨[(⟨(⟨#[97]⟩ : ByteArray), (⟨#[49]⟩ : ByteArray)⟩ : S76)], (some 4611686018427387904 : Fl)⟩ : S38)].length 1), (2, .slice (some ⟨g21, 0, none⟩) [(⟨[(⟨(⟨#[97]⟩ : ByteArray), (⟨#[49]⟩ : ByteArray)⟩ : S76), (⟨(⟨#[98]⟩ : ByteArray), (⟨#[120]⟩ : ByteArray)⟩ : S76)], (some 4613937818241073152 : Fl)⟩ : S38)].length 1)]) (by kernel_rfl) ?_
  refine gl_atE (by kernel_rfl) ?_
  refine ge_seq ?_
  refine gk_seq (by kernel_rfl) ?_
  refine gk_region (by kernel_rfl) ?_
  refine gl_pure 2 [1, 17, 18] (K' := [(1, .slice (some ⟨g9, 0, none⟩) [(⟨[(⟨(⟨#[97]⟩ : ByteArray), (⟨#[49]⟩ : ByteArray)⟩ : S76)], (some 4611686018427387904 : Fl)⟩ : S38)].length 1), (17, .slice (some ⟨g9, 0, none⟩) [(⟨[(⟨(⟨#[97]⟩ : ByteArray), (⟨#[49]⟩ : ByteArray)⟩ : S76)], (some 4611686018427387904 : Fl)⟩ : S38)].length 1), (18, .slice (some ⟨g21, 0, none⟩) [(⟨[(⟨(⟨#[97]⟩ : ByteArray), (⟨#[49]⟩ : ByteArray)⟩ : S76), (⟨(⟨#[98]⟩ : ByteArray), (⟨#[120]⟩ : ByteArray)⟩ : S76)], (some 4613937818241073152 : Fl)⟩ : S38)].length 1)]) (by kernel_rfl) ?_
  refine gl_buildSlice (T' := 23) (e := 9) (n := 1) (len := 1) (parts := #[(0, (.const (.string (⟨#[97]⟩ : ByteArray))))]) (l := [(0, .string (⟨#[97]⟩ : ByteArray))]) (cs := #[.string (⟨#[97]⟩ : ByteArray)]) (by kernel_rfl) (by kernel_rfl) (by kernel_rfl) (by kernel_rfl) (by kernel_rfl) (fun g25 => ?_)
  have hO26 : OwnS Kd.str 9 J17 (some ⟨g25, 0, none⟩) 1 [(⟨#[97]⟩ : ByteArray)] [(g25, .cells #[.string (⟨#[97]⟩ : ByteArray)] 9)] := OwnS.lit (row_cons (l := [.string (⟨#[97]⟩ : ByteArray)]) rfl (row_nil _ _)) rfl rfl rfl
  refine gl_reord (D := [(g25, .cells #[.string (⟨#[97]⟩ : ByteArray)] 9)] ++ ([(g21, .cells #[.slice (some ⟨g13, 0, none⟩) [(⟨(⟨#[97]⟩ : ByteArray), (⟨#[49]⟩ : ByteArray)⟩ : S76), (⟨(⟨#[98]⟩ : ByteArray), (⟨#[120]⟩ : ByteArray)⟩ : S76)].length 2, .float .f64 4613937818241073152] 39)] ++ ([(g9, .cells #[.slice (some ⟨g1, 0, none⟩) [(⟨(⟨#[97]⟩ : ByteArray), (⟨#[49]⟩ : ByteArray)⟩ : S76)].length 1, .float .f64 4611686018427387904] 39)] ++ L))) (Reord.refl _) ?_
  refine gl_pure 1 [1, 17, 18, 20] (K' := [(1, .slice (some ⟨g9, 0, none⟩) [(⟨[(⟨(⟨#[97]⟩ : ByteArray), (⟨#[49]⟩ : ByteArray)⟩ : S76)], (some 4611686018427387904 : Fl)⟩ : S38)].length 1), (17, .slice (some ⟨g9, 0, none⟩) [(⟨[(⟨(⟨#[97]⟩ : ByteArray), (⟨#[49]⟩ : ByteArray)⟩ : S76)], (some 4611686018427387904 : Fl)⟩ : S38)].length 1), (18, .slice (some ⟨g21, 0, none⟩) [(⟨[(⟨(⟨#[97]⟩ : ByteArray), (⟨#[49]⟩ : ByteArray)⟩ : S76), (⟨(⟨#[98]⟩ : ByteArray), (⟨#[120]⟩ : ByteArray)⟩ : S76)], (some 4613937818241073152 : Fl)⟩ : S38)].length 1), (20, .agg #[.int .i64 0, .bool true, .slice (some ⟨g25, 0, none⟩) [(⟨#[97]⟩ : ByteArray)].length 1, .slice none 0 0])]) (by kernel_rfl) ?_
  refine gl_rest (Tk.step (Upd.rmC _ _) (Tk.step (Upd.rmC _ _) (Tk.step (Upd.rmC _ _) (Tk.nil _)))) (fun J29 hJ30 hC31 => ?_)
  have hf32 := (OwnS.rest hO26 hJ30 hC31.left)
  have hf33 := (OwnS.rest hO22 hJ30 hC31.right.left)
  have hf34 := (OwnS.rest (hO10.mono hJ18) hJ30 hC31.right.right.left)
  obtain ⟨y35, hx36, hr⟩ := bind_some hr
  refine gl_call (by kernel_rfl) (vec_Binary_walk (r := y35) (a3 := (⟨0, true, [(⟨#[97]⟩ : ByteArray)], []⟩ : S24)) (hG.mono (Imm.trans (Imm.trans hJ6 hJ18) hJ30)) hf34 hf33 hf32 (RepS.nil _ _) hx36 _) ?_
  rintro v I37 L38 hI39 ⟨A40, c41, C42, hO43, rfl, rfl⟩
  refine gl_pure 5 [1, 3, 4] (K' := [(1, .slice (some ⟨g9, 0, none⟩) [(⟨[(⟨(⟨#[97]⟩ : ByteArray), (⟨#[49]⟩ : ByteArray)⟩ : S76)], (some 4611686018427387904 : Fl)⟩ : S38)].length 1), (3, .slice A40 y35.1.length c41), (4, .int .i64 y35.2)]) (by kernel_rfl) ?_
  refine gl_atE (by kernel_rfl) ?_
  refine ge_seq ?_
  refine gk_seq (by kernel_rfl) ?_
  refine gk_region (by kernel_rfl) ?_
  obtain ⟨y44, hx45, hr⟩ := bind_some hr
  refine gl_call (by kernel_rfl) (vec_Arith_walk (r := y44) (FRep.of 13842939354630062080) (FRep.of 4613937818241073152) hx45 _) ?_
  rintro v I46 L47 hI48 ⟨z49, hO50, rfl, rfl⟩
  refine gl_pure 5 [1, 3, 4, 5, 6] (K' := [(1, .slice (some ⟨g9, 0, none⟩) [(⟨[(⟨(⟨#[97]⟩ : ByteArray), (⟨#[49]⟩ : ByteArray)⟩ : S76)], (some 4611686018427387904 : Fl)⟩ : S38)].length 1), (3, .slice A40 y35.1.length c41), (4, .int .i64 y35.2), (5, .float .f64 z49), (6, .int .i64 y44.2)]) (by kernel_rfl) ?_
  refine gl_atE (by kernel_rfl) ?_
  refine ge_seq ?_
  refine gk_seq (by kernel_rfl) ?_
  obtain ⟨j51, hj52, hr⟩ := bind_some hr
  refine gk_join (fun t I' L' => I46 ≤ I' ∧ L = L' ∧ Knows 48 [(0, .bool j51)] t) ?_ ?_
  · refine gk_region (by kernel_rfl) ?_
    refine gl_pure 3 [1, 3, 5, 6, 30] (K' := [(1, .slice (some ⟨g9, 0, none⟩) [(⟨[(⟨(⟨#[97]⟩ : ByteArray), (⟨#[49]⟩ : ByteArray)⟩ : S76)], (some 4611686018427387904 : Fl)⟩ : S38)].length 1), (3, .slice A40 y35.1.length c41), (5, .float .f64 z49), (6, .int .i64 y44.2), (30, .bool (y35.2 == 0))]) (by kernel_rfl) ?_
    refine gl_case 30 (b := (y35.2 == 0)) (by kernel_rfl) (fun hc56 => ?_) (fun hc56 => ?_)
    · have hj52 := cond_t hc56 hj52
      refine gl_pure 4 [1, 3, 5, 34] (K' := [(1, .slice (some ⟨g9, 0, none⟩) [(⟨[(⟨(⟨#[97]⟩ : ByteArray), (⟨#[49]⟩ : ByteArray)⟩ : S76)], (some 4611686018427387904 : Fl)⟩ : S38)].length 1), (3, .slice A40 y35.1.length c41), (5, .float .f64 z49), (34, .bool (y44.2 == 0))]) (by kernel_rfl) ?_
      refine gl_case 34 (b := (y44.2 == 0)) (by kernel_rfl) (fun hc57 => ?_) (fun hc57 => ?_)
      · have hj52 := cond_t hc57 hj52
        refine gl_pure 1 [1, 3, 34, 35] (K' := [(1, .slice (some ⟨g9, 0, none⟩) [(⟨[(⟨(⟨#[97]⟩ : ByteArray), (⟨#[49]⟩ : ByteArray)⟩ : S76)], (some 4611686018427387904 : Fl)⟩ : S38)].length 1), (3, .slice A40 y35.1.length c41), (34, .bool true), (35, .float .f64 z49)]) (by kernel_rfl) ?_
        refine gl_fcmp (op := .eql) (t := 37) (t' := 37) (xx := (.tmp 35)) (yy := (.const (.float .f64 13830554455654793216))) hO50 (FRep.of 13830554455654793216) (by kernel_rfl) (by kernel_rfl) rfl (by kernel_rfl) (by kernel_rfl) ?_
        refine gl_pure 2 [1, 3, 38] (K' := [(1, .slice (some ⟨g9, 0, none⟩) [(⟨[(⟨(⟨#[97]⟩ : ByteArray), (⟨#[49]⟩ : ByteArray)⟩ : S76)], (some 4611686018427387904 : Fl)⟩ : S38)].length 1), (3, .slice A40 y35.1.length c41), (38, .bool (fcmp .eql y44.1 (some 13830554455654793216 : Fl)))]) (by kernel_rfl) ?_
        refine gl_case 38 (b := (fcmp .eql y44.1 (some 13830554455654793216 : Fl))) (by kernel_rfl) (fun hc58 => ?_) (fun hc58 => ?_)
        · have hj52 := cond_t hc58 hj52
          refine gl_pure 2 [38, 39, 40] (K' := [(38, .bool true), (39, .slice A40 y35.1.length c41), (40, .slice (some ⟨g9, 0, none⟩) [(⟨[(⟨(⟨#[97]⟩ : ByteArray), (⟨#[49]⟩ : ByteArray)⟩ : S76)], (some 4611686018427387904 : Fl)⟩ : S38)].length 1)]) (by kernel_rfl) ?_
          obtain ⟨x59, hx60, hj52⟩ := bind_some hj52
          obtain ⟨p61, cs62, hR63, hA64, ha65⟩ := RepS.ixAt hx60 (hf34.mono (Imm.trans hI39 hI48))
          have hi66 := ix_some hx60
          obtain ⟨A67, n68, b70, hf69, hf71, rfl⟩ := kS38_open hR63
          refine gl_indexAddrF (c := 1) (T' := 22) (e := 39) (xs := (.tmp 40)) (xi := (.const (.int .i64 0))) (kd := .i64) ha65 hi66.1 hi66.2.1 (by kernel_rfl) (by kernel_rfl) (by kernel_rfl) (by kernel_rfl) (by kernel_rfl) ?_
          refine gl_pure 1 [38, 39, 42] (K' := [(38, .bool true), (39, .slice A40 y35.1.length c41), (42, .pointer (some (p61.add 0)))]) (by kernel_rfl) ?_
          refine gl_load (T' := 36) (xp := (.tmp 42)) (p := (p61.add 0)) (c := .slice A67 x59.f0.length n68) (n := 1) (by kernel_rfl) (by kernel_rfl) (by kernel_rfl) (by kernel_rfl) (hA64.drop 0) ?_
          refine gl_pure 1 [38, 39, 44] (K' := [(38, .bool true), (39, .slice A40 y35.1.length c41), (44, .agg #[.slice A67 x59.f0.length n68, .float .f64 4617315517961601024])]) (by kernel_rfl) ?_
          refine gl_buildSlice (T' := 22) (e := 39) (n := 2) (len := 1) (parts := #[(0, (.tmp 44))]) (l := [(0, .agg #[.slice A67 x59.f0.length n68, .float .f64 4617315517961601024])]) (cs := #[.slice A67 x59.f0.length n68, .float .f64 4617315517961601024]) (by kernel_rfl) (by kernel_rfl) (by kernel_rfl) (by kernel_rfl) (by kernel_rfl) (fun g72 => ?_)
          have hO73 : OwnS kS38 39 I46 (some ⟨g72, 0, none⟩) 1 [(⟨x59.f0, (some 4617315517961601024 : Fl)⟩ : S38)] [(g72, .cells #[.slice A67 x59.f0.length n68, .float .f64 4617315517961601024] 39)] := OwnS.lit (row_cons (l := [.slice A67 x59.f0.length n68, .float .f64 4617315517961601024]) (kS38_mk (x := (⟨x59.f0, (some 4617315517961601024 : Fl)⟩ : S38)) hf69 (FRep.of 4617315517961601024)) (row_nil _ _)) rfl rfl rfl
          refine gl_reord (D := [(g72, .cells #[.slice A67 x59.f0.length n68, .float .f64 4617315517961601024] 39)] ++ (C42 ++ L)) (Reord.refl _) ?_
          obtain ⟨y76, hx77, hj52⟩ := bind_some hj52
          refine gl_callB (r := .bool y76) (Tk.step (Upd.rmC _ _) (Tk.step (Upd.rmC _ _) (Tk.nil _))) (by kernel_rfl) (fun J hJ hC => tocsinref11_SamePoints_walk (r := y76) (OwnS.rest (hO43.mono hI48) hJ hC.right.left) (OwnS.rest hO73 hJ hC.left) hx77 _) ?_
          refine gl_pure 2 [0] (K' := [(0, .bool y76)]) (by kernel_rfl) ?_
          refine gl_reord (D := L) (Reord.skipC (Reord.skipC (Reord.refl _))) ?_
          refine gl_atE (by kernel_rfl) ?_
          obtain rfl := some_inj hj52
          exact ge_mid fun t ht => ⟨(Imm.refl _), rfl, ht.pick (l := [0]) (by kernel_rfl)⟩
        · have hj52 := cond_f hc58 hj52
          refine gl_pure 10 [0] (K' := [(0, .bool false)]) (by kernel_rfl) ?_
          refine gl_reord (D := L) (Reord.skipC (Reord.refl _)) ?_
          refine gl_atE (by kernel_rfl) ?_
          obtain rfl := some_inj hj52
          exact ge_mid fun t ht => ⟨(Imm.refl _), rfl, ht.pick (l := [0]) (by kernel_rfl)⟩
      · have hj52 := cond_f hc57 hj52
        refine gl_pure 14 [0] (K' := [(0, .bool false)]) (by kernel_rfl) ?_
        refine gl_reord (D := L) (Reord.skipC (Reord.refl _)) ?_
        refine gl_atE (by kernel_rfl) ?_
        obtain rfl := some_inj hj52
        exact ge_mid fun t ht => ⟨(Imm.refl _), rfl, ht.pick (l := [0]) (by kernel_rfl)⟩
    · have hj52 := cond_f hc56 hj52
      refine gl_pure 18 [0] (K' := [(0, .bool false)]) (by kernel_rfl) ?_
      refine gl_reord (D := L) (Reord.skipC (Reord.refl _)) ?_
      refine gl_atE (by kernel_rfl) ?_
      obtain rfl := some_inj hj52
      exact ge_mid fun t ht => ⟨(Imm.refl _), rfl, ht.pick (l := [0]) (by kernel_rfl)⟩
  · rintro t I55 L' ⟨hI53, rfl, hK54⟩
    refine ge_at hK54 ?_
    refine ge_seq ?_
    refine gk_ret (by kernel_rfl) ?_
    obtain rfl := some_inj hr
    exact ge_result trivial (ResOk.tmp (by kernel_rfl) ResOk.nil) (Imm.trans (Imm.trans (Imm.trans (Imm.trans (Imm.trans hJ6 hJ18) hJ30) hI39) hI48) hI53) ⟨rfl, rfl⟩
/-! 15 tocsinlaw15_joined  -/
/-! 3 tocsinlaw15_VecSets  -/
/-! 17 tocsinlaw15_bits  -/
noncomputable def tocsinlaw15_bits (a0 : Fl) (a1 : Fl) : Option Bool :=
  Option.bind (fbits a0) fun (q1 : Int) =>
  Option.bind (fbits a1) fun (q3 : Int) =>
  some (q1 == q3)
theorem tocsinlaw15_bits_walk {a0 : Fl} {b0_0 : Nat} {a1 : Fl} {b1_0 : Nat} {I : Imm} {r : Bool}  (hf0_0 : FRep a0 b0_0)  (hf1_0 : FRep a1 b1_0) (hr : tocsinlaw15_bits a0 a1 = some r) (L : Own) :
    CallsTo Tryz.prog 17 #[.float .f64 b0_0, .float .f64 b1_0] I L (fun v I' L' => v = .bool r ∧ L = L') := by
  unfold tocsinlaw15_bits at hr
  refine callsTo_body (N := 10) Tryz.func17 (by kernel_rfl) (by kernel_rfl) (by kernel_rfl) ?_
  refine gk_pick [0, 1] (K' := [(0, .float .f64 b0_0), (1, .float .f64 b1_0)]) (by kernel_rfl) ?_
  refine gk_seq (by kernel_rfl) ?_
  refine gk_region (by kernel_rfl) ?_
  refine gl_pure 1 [0, 1] (K' := [(0, .float .f64 b0_0), (1, .float .f64 b1_0)]) (by kernel_rfl) ?_
  refine gl_atE (by kernel_rfl) ?_
  refine ge_seq ?_
  refine gk_seq (by kernel_rfl) ?_
  refine gk_region (by kernel_rfl) ?_
  refine gl_pure 1 [1, 5] (K' := [(1, .float .f64 b1_0), (5, .float .f64 b0_0)]) (by kernel_rfl) ?_
  obtain ⟨q1, hx2, hr⟩ := bind_some hr
  refine gl_f64bits hx2 hf0_0 Tryz.func46 (by kernel_rfl) (by kernel_rfl) (by kernel_rfl) (by kernel_rfl) (by kernel_rfl) (by kernel_rfl) ?_
  refine gl_pure 1 [6, 7] (K' := [(6, .int .u64 q1), (7, .float .f64 b1_0)]) (by kernel_rfl) ?_
  obtain ⟨q3, hx4, hr⟩ := bind_some hr
  refine gl_f64bits hx4 hf1_0 Tryz.func46 (by kernel_rfl) (by kernel_rfl) (by kernel_rfl) (by kernel_rfl) (by kernel_rfl) (by kernel_rfl) ?_
  refine gl_pure 2 [4] (K' := [(4, .bool (q1 == q3))]) (by kernel_rfl) ?_
  refine gl_atE (by kernel_rfl) ?_
  refine ge_seq ?_
  refine gk_ret (by kernel_rfl) ?_
  obtain rfl := some_inj hr
  exact ge_result trivial (ResOk.tmp (by kernel_rfl) ResOk.nil) (Imm.refl _) ⟨rfl, rfl⟩
end Go.Proofs.YtkjkkimnjpodiaaGreatDoor
