/- Parts: V1b. -/
import Derived.Test.YtkjkkimnjpodiaaGreatDoorV1ar
set_option linter.unusedVariables false
set_option linter.unusedSimpArgs false
set_option maxRecDepth 100000
namespace Go.Proofs.YtkjkkimnjpodiaaGreatDoor
open Go.GB
/-! 37 vec_signature  -/
noncomputable def vec_signature (a0 : List S76) (a1 : S24) : Option ByteArray :=
  Option.bind (bif a1.f1 then
    (Option.bind (labels_Keep a0 a1.f2) fun (y12 : (List S76) × Int) =>
      some y12.1)
    else
    (Option.bind (slices_Clone_f76 a1.f2) fun (y21 : (List ByteArray)) =>
      Option.bind (app y21 [(⟨#[95, 95, 110, 97, 109, 101, 95, 95]⟩ : ByteArray)]) fun (zs34 : List ByteArray) =>
      Option.bind (labels_Without a0 zs34) fun (y44 : (List S76) × Int) =>
      some y44.1)) fun (j2 : (List S76)) =>
  Option.bind (labels_Put [] j2) fun (y57 : (List Int) × Int) =>
  some (ofBytes y57.1)
theorem vec_signature_walk {a0 : List S76} {A0_0 : Option Addr} {n0_0 : Nat} {a1 : S24} {A1_2 : Option Addr} {n1_2 : Nat} {A1_3 : Option Addr} {n1_3 : Nat} {I : Imm} {r : ByteArray} (hG : Gl I)  (hf0_0 : RepS kS76 I A0_0 n0_0 a0)  (hf1_2 : RepS Kd.str I A1_2 n1_2 a1.f2) (hf1_3 : RepS Kd.str I A1_3 n1_3 a1.f3) (hr : vec_signature a0 a1 = some r) (L : Own) :
    CallsTo Tryz.prog 37 #[.slice A0_0 a0.length n0_0, .agg #[.int .i64 a1.f0, .bool a1.f1, .slice A1_2 a1.f2.length n1_2, .slice A1_3 a1.f3.length n1_3]] I L (fun v I' L' => v = .string r ∧ L = L') := by
  unfold vec_signature at hr
  refine callsTo_body (N := 33) Tryz.func37 (by kernel_rfl) (by kernel_rfl) (by kernel_rfl) ?_
  refine gk_pick [0, 1] (K' := [(0, .slice A0_0 a0.length n0_0), (1, .agg #[.int .i64 a1.f0, .bool a1.f1, .slice A1_2 a1.f2.length n1_2, .slice A1_3 a1.f3.length n1_3])]) (by kernel_rfl) ?_
  refine gk_seq (by kernel_rfl) ?_
  refine gk_region (by kernel_rfl) ?_
  refine gl_box (T' := 25) (x := (.tmp 1)) (v := .agg #[.int .i64 a1.f0, .bool a1.f1, .slice A1_2 a1.f2.length n1_2, .slice A1_3 a1.f3.length n1_3]) (cs := #[.int .i64 a1.f0, .bool a1.f1, .slice A1_2 a1.f2.length n1_2, .slice A1_3 a1.f3.length n1_3]) (by kernel_rfl) (by kernel_rfl) (by kernel_rfl) (by kernel_rfl) (fun gb1 => ?_)
  refine gl_pure 1 [0, 3] (K' := [(0, .slice A0_0 a0.length n0_0), (3, .pointer (some ⟨gb1, 0, none⟩))]) (by kernel_rfl) ?_
  refine gl_atE (by kernel_rfl) ?_
  refine ge_seq ?_
  refine gk_seq (by kernel_rfl) ?_
  refine gk_seq (by kernel_rfl) ?_
  refine gk_region (by kernel_rfl) ?_
  refine gl_pure 1 [0, 3, 7] (K' := [(0, .slice A0_0 a0.length n0_0), (3, .pointer (some ⟨gb1, 0, none⟩)), (7, .pointer (some ⟨gb1, 1, none⟩))]) (by kernel_rfl) ?_
  refine gl_loadB (T' := 4) (xp := (.tmp 7)) (v := .bool a1.f1) (g := gb1) (off := 1) (cs := #[.int .i64 a1.f0, .bool a1.f1, .slice A1_2 a1.f2.length n1_2, .slice A1_3 a1.f3.length n1_3]) (e := 25) (fz := (0, 0)) (by kernel_rfl) (by kernel_rfl) (by kernel_rfl) List.mem_cons_self (by kernel_rfl) ?_
  refine gl_atE (by kernel_rfl) ?_
  refine ge_seq ?_
  obtain ⟨j2, hj3, hr⟩ := bind_some hr
  refine gk_join (fun t I' L' => ∃ A5 n6 C7, OwnS kS76 77 I' A5 n6 j2 C7 ∧ I ≤ I' ∧ C7 ++ L = L' ∧ Knows 33 [(0, .slice A5 j2.length n6)] t) ?_ ?_
  · refine gk_cond (b := a1.f1) (by kernel_rfl) (by kernel_rfl) (fun hc11 => ?_) (fun hc11 => ?_)
    · have hj3 := cond_t hc11 hj3
      refine gk_region (by kernel_rfl) ?_
      refine gl_pure 2 [10, 11] (K' := [(10, .slice A0_0 a0.length n0_0), (11, .pointer (some ⟨gb1, 2, none⟩))]) (by kernel_rfl) ?_
      refine gl_loadB (T' := 23) (xp := (.tmp 11)) (v := .slice A1_2 a1.f2.length n1_2) (g := gb1) (off := 2) (cs := #[.int .i64 a1.f0, .bool a1.f1, .slice A1_2 a1.f2.length n1_2, .slice A1_3 a1.f3.length n1_3]) (e := 25) (fz := (0, 0)) (by kernel_rfl) (by kernel_rfl) (by kernel_rfl) List.mem_cons_self (by kernel_rfl) ?_
      obtain ⟨y12, hx13, hj3⟩ := bind_some hj3
      refine gl_call (by kernel_rfl) (labels_Keep_walk (r := y12) hG hf0_0 hf1_2 hx13 _) ?_
      rintro v I14 L15 hI16 ⟨A17, c18, C19, hO20, rfl, rfl⟩
      refine gl_pure 4 [0] (K' := [(0, .slice A17 y12.1.length c18)]) (by kernel_rfl) ?_
      refine gl_reord (D := C19 ++ L) (Reord.step (Upd.rmC _ _) (Reord.skip (Reord.refl _))) ?_
      refine gl_atE (by kernel_rfl) ?_
      obtain rfl := some_inj hj3
      exact ge_mid fun t ht => ⟨A17, c18, C19, hO20, hI16, rfl, ht.pick (l := [0]) (by kernel_rfl)⟩
    · have hj3 := cond_f hc11 hj3
      refine gk_region (by kernel_rfl) ?_
      refine gl_pure 2 [17, 18] (K' := [(17, .slice A0_0 a0.length n0_0), (18, .pointer (some ⟨gb1, 2, none⟩))]) (by kernel_rfl) ?_
      refine gl_loadB (T' := 23) (xp := (.tmp 18)) (v := .slice A1_2 a1.f2.length n1_2) (g := gb1) (off := 2) (cs := #[.int .i64 a1.f0, .bool a1.f1, .slice A1_2 a1.f2.length n1_2, .slice A1_3 a1.f3.length n1_3]) (e := 25) (fz := (0, 0)) (by kernel_rfl) (by kernel_rfl) (by kernel_rfl) List.mem_cons_self (by kernel_rfl) ?_
      obtain ⟨y21, hx22, hj3⟩ := bind_some hj3
      refine gl_call (by kernel_rfl) (slices_Clone_f76_walk (r := y21) hf1_2 hx22 _) ?_
      rintro v I23 L24 hI25 ⟨A26, c27, C28, hO29, rfl, rfl⟩
      refine gl_buildSlice (T' := 23) (e := 9) (n := 1) (len := 1) (parts := #[(0, (.const (.string (⟨#[95, 95, 110, 97, 109, 101, 95, 95]⟩ : ByteArray))))]) (l := [(0, .string (⟨#[95, 95, 110, 97, 109, 101, 95, 95]⟩ : ByteArray))]) (cs := #[.string (⟨#[95, 95, 110, 97, 109, 101, 95, 95]⟩ : ByteArray)]) (by kernel_rfl) (by kernel_rfl) (by kernel_rfl) (by kernel_rfl) (by kernel_rfl) (fun g30 => ?_)
      have hO31 : OwnS Kd.str 9 I23 (some ⟨g30, 0, none⟩) 1 [(⟨#[95, 95, 110, 97, 109, 101, 95, 95]⟩ : ByteArray)] [(g30, .cells #[.string (⟨#[95, 95, 110, 97, 109, 101, 95, 95]⟩ : ByteArray)] 9)] := OwnS.lit (row_cons (l := [.string (⟨#[95, 95, 110, 97, 109, 101, 95, 95]⟩ : ByteArray)]) rfl (row_nil _ _)) rfl rfl rfl
      refine gl_reord (D := [(g30, .cells #[.string (⟨#[95, 95, 110, 97, 109, 101, 95, 95]⟩ : ByteArray)] 9)] ++ (C28 ++ ((gb1, .cells #[.int .i64 a1.f0, .bool a1.f1, .slice A1_2 a1.f2.length n1_2, .slice A1_3 a1.f3.length n1_3] 25) :: L))) (Reord.refl _) ?_
      obtain ⟨zs34, hz35, hj3⟩ := bind_some hj3
      refine gl_append (xv := .slice (some ⟨g30, 0, none⟩) [(⟨#[95, 95, 110, 97, 109, 101, 95, 95]⟩ : ByteArray)].length 1) (d := Kd.str) (t := 23) (tx := 23) (e := 9) (s := (.tmp 20)) (x := (.tmp 21)) (xs := y21) (fun X => [(g30, .cells #[.string (⟨#[95, 95, 110, 97, 109, 101, 95, 95]⟩ : ByteArray)] 9)] ++ (X ++ ((gb1, .cells #[.int .i64 a1.f0, .bool a1.f1, .slice A1_2 a1.f2.length n1_2, .slice A1_3 a1.f3.length n1_3] 25) :: L))) hz35 (by kernel_rfl) (by kernel_rfl) (by kernel_rfl) (by kernel_rfl) (by kernel_rfl) (by kernel_rfl) (fun X => (Upd.app _ (Upd.head _ X _))) hO29 (SrcOk.slice (c := 1) (e := 9) (n := 1) (OwnS.rd hO31 (Upd.selfC _ _)) (by kernel_rfl)) (fun A36 n37 C38 hO39 => ?_)
      refine gl_rest (Tk.step (Upd.app _ (Upd.rmC _ _)) (Tk.nil _)) (fun J40 hJ41 hC42 => ?_)
      have hf43 := (OwnS.rest hO39 hJ41 hC42.left)
      obtain ⟨y44, hx45, hj3⟩ := bind_some hj3
      refine gl_call (by kernel_rfl) (labels_Without_walk (r := y44) (hG.mono (Imm.trans hI25 hJ41)) (hf0_0.mono (Imm.trans hI25 hJ41)) hf43 hx45 _) ?_
      rintro v I46 L47 hI48 ⟨A49, c50, C51, hO52, rfl, rfl⟩
      refine gl_pure 4 [0] (K' := [(0, .slice A49 y44.1.length c50)]) (by kernel_rfl) ?_
      refine gl_reord (D := C51 ++ L) (Reord.step (Upd.rmC _ _) (Reord.skipC (Reord.skip (Reord.refl _)))) ?_
      refine gl_atE (by kernel_rfl) ?_
      obtain rfl := some_inj hj3
      exact ge_mid fun t ht => ⟨A49, c50, C51, hO52, (Imm.trans (Imm.trans hI25 hJ41) hI48), rfl, ht.pick (l := [0]) (by kernel_rfl)⟩
  · rintro t I10 L' ⟨A5, n6, C7, hO8, hI4, rfl, hK9⟩
    refine ge_at hK9 ?_
    refine ge_seq ?_
    refine gk_seq (by kernel_rfl) ?_
    refine gk_region (by kernel_rfl) ?_
    refine gl_pure 1 [27] (K' := [(27, .slice A5 j2.length n6)]) (by kernel_rfl) ?_
    refine gl_rest (Tk.step (Upd.rmC _ _) (Tk.nil _)) (fun J53 hJ54 hC55 => ?_)
    have hf56 := (OwnS.rest hO8 hJ54 hC55.left)
    obtain ⟨y57, hx58, hr⟩ := bind_some hr
    refine gl_call (by kernel_rfl) (labels_Put_walk (r := y57) (hG.mono (Imm.trans hI4 hJ54)) (RepS.nil _ _) hf56 hx58 _) ?_
    rintro v I59 L60 hI61 ⟨A62, c63, C64, hO65, rfl, rfl⟩
    refine gl_pure 5 [5] (K' := [(5, .slice A62 y57.1.length c63)]) (by kernel_rfl) ?_
    refine gl_atE (by kernel_rfl) ?_
    refine ge_seq ?_
    refine gk_seq (by kernel_rfl) ?_
    refine gk_region (by kernel_rfl) ?_
    refine gl_pure 1 [31] (K' := [(31, .slice A62 y57.1.length c63)]) (by kernel_rfl) ?_
    refine gl_bytesStr (c := c63) (src := 98) (dst := 9) (e := 5) (n := 1) (x := (.tmp 31)) (by kernel_rfl) (by kernel_rfl) (by kernel_rfl) (by kernel_rfl) (by kernel_rfl) (by kernel_rfl) (OwnS.rd hO65 (Upd.selfC _ _)) ?_
    refine gl_pure 1 [4] (K' := [(4, .string (ofBytes y57.1))]) (by kernel_rfl) ?_
    refine gl_atE (by kernel_rfl) ?_
    refine ge_seq ?_
    refine gk_reord (D := L) (Reord.skipC (Reord.refl _)) ?_
    refine gk_ret (by kernel_rfl) ?_
    obtain rfl := some_inj hr
    exact ge_result trivial (ResOk.tmp (by kernel_rfl) ResOk.nil) (Imm.trans (Imm.trans hI4 hJ54) hI61) ⟨rfl, rfl⟩
/-! 73 vec_sets_1 ('imm', ('ptrR', 25)) -/
noncomputable def vec_sets_1_l25 (a0 : List S38) (a1 : S24) : ((List (ByteArray × Bool)) × Int) → Option (((List (ByteArray × Bool)) × Int) ⊕ ((List (ByteArray × Bool)))) := fun s12 =>
  bif (decide (s12.2 < (a0.length : Int))) then
  (Option.bind (ix a0 s12.2) fun (x28 : S38) =>
    Option.bind (vec_signature x28.f0 a1) fun (y42 : ByteArray) =>
    some (Sum.inl ((mput Ky.str s12.1 y42 true), (IntKind.wrap .i64 (s12.2 + 1)))))
  else
  (some (Sum.inr s12.1))
noncomputable def vec_sets_1 (a0 : List S38) (a1 : S24) : Option (List (ByteArray × Bool)) :=
  Option.bind (loopO (vec_sets_1_l25 a0 a1) (([] : List (ByteArray × Bool)), 0)) fun (r10 : (List (ByteArray × Bool))) =>
  some r10
theorem vec_sets_1_walk {a0 : List S38} {A0_0 : Option Addr} {n0_0 : Nat} {a1 : S24} {p1 : Addr} {A1_2 : Option Addr} {n1_2 : Nat} {A1_3 : Option Addr} {n1_3 : Nat} {I : Imm} {r : (List (ByteArray × Bool))} (hG : Gl I)  (hf0_0 : RepS kS38 I A0_0 n0_0 a0) (hp1 : RunAt I p1 [.int .i64 a1.f0, .bool a1.f1, .slice A1_2 a1.f2.length n1_2, .slice A1_3 a1.f3.length n1_3]) (hf1_2 : RepS Kd.str I A1_2 n1_2 a1.f2) (hf1_3 : RepS Kd.str I A1_3 n1_3 a1.f3) (hr : vec_sets_1 a0 a1 = some r) (L : Own) :
    CallsTo Tryz.prog 73 #[.slice A0_0 a0.length n0_0, .pointer (some p1)] I L (fun v I' L' => ∃ g0 C0, OwnM Ky.str Kd.bool false I' g0 r C0 ∧ v = .map (some g0) ∧ C0 ++ L = L') := by
  unfold vec_sets_1 at hr
  refine callsTo_body (N := 21) Tryz.func73 (by kernel_rfl) (by kernel_rfl) (by kernel_rfl) ?_
  refine gk_pick [0, 1] (K' := [(0, .slice A0_0 a0.length n0_0), (1, .pointer (some p1))]) (by kernel_rfl) ?_
  refine gk_seq (by kernel_rfl) ?_
  refine gk_region (by kernel_rfl) ?_
  refine gl_pure 1 [0, 1] (K' := [(0, .slice A0_0 a0.length n0_0), (1, .pointer (some p1))]) (by kernel_rfl) ?_
  refine gl_atE (by kernel_rfl) ?_
  refine ge_seq ?_
  refine gk_seq (by kernel_rfl) ?_
  refine gk_region (by kernel_rfl) ?_
  refine gl_makeMap (ky := Ky.str) (d := Kd.bool) (agg := false) (T' := 73) (by kernel_rfl) (by kernel_rfl) (fun gb1 C2 hO3 => ?_)
  refine gl_pure 1 [0, 1, 4] (K' := [(0, .slice A0_0 a0.length n0_0), (1, .pointer (some p1)), (4, .map (some gb1))]) (by kernel_rfl) ?_
  refine gl_atE (by kernel_rfl) ?_
  refine ge_seq ?_
  refine gk_seq (by kernel_rfl) ?_
  refine gk_seq (by kernel_rfl) ?_
  refine gk_region (by kernel_rfl) ?_
  refine gl_pure 3 [1, 4, 8, 9, 10] (K' := [(1, .pointer (some p1)), (4, .map (some gb1)), (8, .slice A0_0 a0.length n0_0), (9, .int .i64 (a0.length : Int)), (10, .int .i64 0)]) (by kernel_rfl) ?_
  refine gl_atE (by kernel_rfl) ?_
  refine ge_seq ?_
  obtain ⟨r10, hl11, hr⟩ := bind_some hr
  refine gk_join (fun t I' L' => ∃ C21, OwnM Ky.str Kd.bool false I' gb1 r10 C21 ∧ I ≤ I' ∧ C21 ++ L = L' ∧ Knows 21 [(4, .map (some gb1))] t) ?_ ?_
  · refine gk_block (by kernel_rfl) ?_
    refine gk_pick [1, 4, 8, 9, 10] (K' := [(1, .pointer (some p1)), (4, .map (some gb1)), (8, .slice A0_0 a0.length n0_0), (9, .int .i64 (a0.length : Int)), (10, .int .i64 0)]) (by kernel_rfl) ?_
    intro t hK
    refine gc_loop (vec_sets_1_l25 a0 a1) (fun s12 t I' L' => ∃ C16, OwnM Ky.str Kd.bool false I' gb1 s12.1 C16 ∧ I ≤ I' ∧ C16 ++ L = L' ∧ Knows 21 [(1, .pointer (some p1)), (4, .map (some gb1)), (8, .slice A0_0 a0.length n0_0), (9, .int .i64 (a0.length : Int)), (10, .int .i64 s12.2)] t) (by kernel_rfl) ?_ hl11 ⟨C2, hO3, (Imm.refl _), rfl, hK⟩
    rintro s12 o13 t I19 L' hb14 ⟨C16, hO17, hI15, rfl, hK18⟩
    unfold vec_sets_1_l25 at hb14
    refine gk_at hK18 ?_
    refine gk_seq (by kernel_rfl) ?_
    refine gk_region (by kernel_rfl) ?_
    refine gl_pure 1 [1, 4, 8, 9, 10, 11] (K' := [(1, .pointer (some p1)), (4, .map (some gb1)), (8, .slice A0_0 a0.length n0_0), (9, .int .i64 (a0.length : Int)), (10, .int .i64 s12.2), (11, .bool (decide (s12.2 < (a0.length : Int))))]) (by kernel_rfl) ?_
    refine gl_atE (by kernel_rfl) ?_
    refine ge_seq ?_
    refine gk_seq (by kernel_rfl) ?_
    refine gk_cond (b := (decide (s12.2 < (a0.length : Int)))) (by kernel_rfl) (by kernel_rfl) (fun hc27 => ?_) (fun hc27 => ?_)
    · have hb14 := cond_t hc27 hb14
      refine gk_skip (by kernel_rfl) ?_
      refine ge_seq ?_
      refine gk_seq (by kernel_rfl) ?_
      refine gk_block (by kernel_rfl) ?_
      refine gk_seq (by kernel_rfl) ?_
      refine gk_region (by kernel_rfl) ?_
      obtain ⟨x28, hx29, hb14⟩ := bind_some hb14
      obtain ⟨p30, cs31, hR32, hA33, ha34⟩ := RepS.ixAt hx29 (hf0_0.mono hI15)
      have hi35 := ix_some hx29
      obtain ⟨A36, n37, b39, hf38, hf40, rfl⟩ := kS38_open hR32
      refine gl_indexAddrF (c := n0_0) (T' := 22) (e := 39) (xs := (.tmp 8)) (xi := (.tmp 10)) (kd := .i64) ha34 hi35.1 hi35.2.1 (by kernel_rfl) (by kernel_rfl) (by kernel_rfl) (by kernel_rfl) (by kernel_rfl) ?_
      refine gl_loadA (T' := 39) (xp := (.tmp 12)) (p := p30) (cs := [.slice A36 x28.f0.length n37, .float .f64 b39]) (by kernel_rfl) (by kernel_rfl) (by kernel_rfl) (by kernel_rfl) (hA33.take 2) ?_
      refine gl_alloc (T' := 39) (cs := #[.slice none 0 0, .float .f64 0]) (by kernel_rfl) (by kernel_rfl) (by kernel_rfl) (fun g41 => ?_)
      refine gl_storeB (T' := 39) (xp := (.tmp 6)) (xv := (.tmp 13)) (v := .agg #[.slice A36 x28.f0.length n37, .float .f64 b39]) (g := g41) (off := 0) (cs := #[.slice none 0 0, .float .f64 0]) (cs' := #[.slice A36 x28.f0.length n37, .float .f64 b39]) (by kernel_rfl) (by kernel_rfl) (by kernel_rfl) (by kernel_rfl) (by kernel_rfl) (Upd.set _ _ _ _) ?_ (by kernel_rfl)
      refine gl_atE (by kernel_rfl) ?_
      refine ge_seq ?_
      refine gk_region (by kernel_rfl) ?_
      refine gl_pure 2 [1, 4, 8, 9, 10, 14, 15] (K' := [(1, .pointer (some p1)), (4, .map (some gb1)), (8, .slice A0_0 a0.length n0_0), (9, .int .i64 (a0.length : Int)), (10, .int .i64 s12.2), (14, .map (some gb1)), (15, .pointer (some ⟨g41, 0, none⟩))]) (by kernel_rfl) ?_
      refine gl_loadB (T' := 36) (xp := (.tmp 15)) (v := .slice A36 x28.f0.length n37) (g := g41) (off := 0) (cs := #[.slice A36 x28.f0.length n37, .float .f64 b39]) (e := 39) (fz := (0, 0)) (by kernel_rfl) (by kernel_rfl) (by kernel_rfl) List.mem_cons_self (by kernel_rfl) ?_
      refine gl_loadA (T' := 25) (xp := (.tmp 1)) (p := p1) (cs := [.int .i64 a1.f0, .bool a1.f1, .slice A1_2 a1.f2.length n1_2, .slice A1_3 a1.f3.length n1_3]) (by kernel_rfl) (by kernel_rfl) (by kernel_rfl) (by kernel_rfl) ((hp1.mono hI15).take 4) ?_
      obtain ⟨y42, hx43, hb14⟩ := bind_some hb14
      refine gl_callQ (by kernel_rfl) (vec_signature_walk (r := y42) (hG.mono hI15) hf38 (hf1_2.mono hI15) (hf1_3.mono hI15) hx43 _) ?_
      refine gl_mapUpdate (a := 9) (b := 4) (ds := .string) (T' := 73) (xm := (.tmp 14)) (xk := (.tmp 18)) (xv := (.const (.bool true))) (x := y42) (v := true) (u := .bool true) (fun X => (g41, .cells #[.slice A36 x28.f0.length n37, .float .f64 b39] 39) :: (X ++ L)) hO17 (fun X => (Upd.one _ (Upd.head _ X _))) (by kernel_rfl) (by kernel_rfl) (by kernel_rfl) (by kernel_rfl) (by kernel_rfl) (by kernel_rfl) (by kernel_rfl) rfl (by kernel_rfl) (fun C44 hO45 => ?_)
      refine gl_atE (by kernel_rfl) ?_
      refine ge_block_normal ?_
      refine ge_seq ?_
      refine gk_region (by kernel_rfl) ?_
      refine gl_pure 2 [1, 4, 8, 9, 10] (K' := [(1, .pointer (some p1)), (4, .map (some gb1)), (8, .slice A0_0 a0.length n0_0), (9, .int .i64 (a0.length : Int)), (10, .int .i64 (IntKind.wrap .i64 (s12.2 + 1)))]) (by kernel_rfl) ?_
      refine gl_reord (D := C44 ++ L) (Reord.step (Upd.one _ (Upd.rmC _ _)) (Reord.skip (Reord.refl _))) ?_
      refine gl_atE (by kernel_rfl) ?_
      obtain rfl := some_inj hb14
      exact ge_round fun t ht => ⟨C44, hO45, hI15, rfl, ht.pick (l := [1, 4, 8, 9, 10]) (by kernel_rfl)⟩
    · have hb14 := cond_f hc27 hb14
      refine gk_exit (by kernel_rfl) ?_
      refine ge_seq_exit ?_
      obtain rfl := some_inj hb14
      refine ge_round_out (fun hrr => ?_) (by intro h; cases h)
      obtain rfl := hrr
      refine ge_block_hit (by kernel_rfl) ?_
      exact ge_mid fun t ht => ⟨C16, hO17, hI15, rfl, ht.pick (l := [4]) (by kernel_rfl)⟩
  · rintro t I24 L' ⟨C21, hO22, hI20, rfl, hK23⟩
    refine ge_at hK23 ?_
    refine ge_seq ?_
    refine gk_seq (by kernel_rfl) ?_
    refine gk_region (by kernel_rfl) ?_
    refine gl_pure 2 [3] (K' := [(3, .map (some gb1))]) (by kernel_rfl) ?_
    refine gl_atE (by kernel_rfl) ?_
    refine ge_seq ?_
    refine gk_ret (by kernel_rfl) ?_
    obtain rfl := some_inj hr
    exact ge_result trivial (ResOk.tmp (by kernel_rfl) ResOk.nil) hI20 ⟨gb1, C21, hO22, rfl, rfl⟩
/-! 36 vec_sets  -/
noncomputable def vec_sets_l49 (a0 : Int) (a1 : List S38) (a3 : S24) (y14 : (List (ByteArray × Bool))) : ((List S38) × Int) → Option (((List S38) × Int) ⊕ ((List S38))) := fun s32 =>
  bif (decide (s32.2 < (a1.length : Int))) then
  (Option.bind (ix a1 s32.2) fun (x52 : S38) =>
    Option.bind (bif (a0 == 14) then
      (some true)
      else
      (Option.bind (vec_signature x52.f0 a3) fun (y72 : ByteArray) =>
        some (((mget Ky.str y14 y72).getD false) == (a0 == 13)))) fun (j66 : Bool) =>
    Option.bind (bif j66 then
      (Option.bind (app s32.1 [x52]) fun (zs88 : List S38) =>
        some zs88)
      else
      (some s32.1)) fun (j74 : (List S38)) =>
    some (Sum.inl (j74, (IntKind.wrap .i64 (s32.2 + 1)))))
  else
  (some (Sum.inr s32.1))
noncomputable def vec_sets_l121 (a0 : Int) (a2 : List S38) (a3 : S24) (y6 : (List (ByteArray × Bool))) : ((List S38) × Int) → Option (((List S38) × Int) ⊕ ((List S38))) := fun s104 =>
  bif (decide (s104.2 < (a2.length : Int))) then
  (Option.bind (ix a2 s104.2) fun (x124 : S38) =>
    Option.bind (bif (a0 == 14) then
      (Option.bind (vec_signature x124.f0 a3) fun (y144 : ByteArray) =>
        some (!((mget Ky.str y6 y144).getD false)))
      else
      (some false)) fun (j138 : Bool) =>
    Option.bind (bif j138 then
      (Option.bind (app s104.1 [x124]) fun (zs160 : List S38) =>
        some zs160)
      else
      (some s104.1)) fun (j146 : (List S38)) =>
    some (Sum.inl (j146, (IntKind.wrap .i64 (s104.2 + 1)))))
  else
  (some (Sum.inr s104.1))
noncomputable def vec_sets (a0 : Int) (a1 : List S38) (a2 : List S38) (a3 : S24) : Option (List S38) :=
  Option.bind (vec_sets_1 a1 a3) fun (y6 : (List (ByteArray × Bool))) =>
  Option.bind (vec_sets_1 a2 a3) fun (y14 : (List (ByteArray × Bool))) =>
  Option.bind (loopO (vec_sets_l49 a0 a1 a3 y14) ([], 0)) fun (r30 : (List S38)) =>
  Option.bind (loopO (vec_sets_l121 a0 a2 a3 y6) (r30, 0)) fun (r102 : (List S38)) =>
  some r102
theorem vec_sets_walk {a0 : Int} {a1 : List S38} {A1_0 : Option Addr} {n1_0 : Nat} {a2 : List S38} {A2_0 : Option Addr} {n2_0 : Nat} {a3 : S24} {A3_2 : Option Addr} {n3_2 : Nat} {A3_3 : Option Addr} {n3_3 : Nat} {I : Imm} {r : (List S38)} (hG : Gl I)  (hf1_0 : RepS kS38 I A1_0 n1_0 a1)  (hf2_0 : RepS kS38 I A2_0 n2_0 a2)  (hf3_2 : RepS Kd.str I A3_2 n3_2 a3.f2) (hf3_3 : RepS Kd.str I A3_3 n3_3 a3.f3) (hr : vec_sets a0 a1 a2 a3 = some r) (L : Own) :
    CallsTo Tryz.prog 36 #[.int .i64 a0, .slice A1_0 a1.length n1_0, .slice A2_0 a2.length n2_0, .agg #[.int .i64 a3.f0, .bool a3.f1, .slice A3_2 a3.f2.length n3_2, .slice A3_3 a3.f3.length n3_3]] I L (fun v I' L' => ∃ A0 c0 C0, OwnS kS38 39 I' A0 c0 r C0 ∧ v = .slice A0 r.length c0 ∧ C0 ++ L = L') := by
  unfold vec_sets at hr
  refine callsTo_body (N := 71) Tryz.func36 (by kernel_rfl) (by kernel_rfl) (by kernel_rfl) ?_
  refine gk_pick [0, 1, 2, 3] (K' := [(0, .int .i64 a0), (1, .slice A1_0 a1.length n1_0), (2, .slice A2_0 a2.length n2_0), (3, .agg #[.int .i64 a3.f0, .bool a3.f1, .slice A3_2 a3.f2.length n3_2, .slice A3_3 a3.f3.length n3_3])]) (by kernel_rfl) ?_
  refine gk_seq (by kernel_rfl) ?_
  refine gk_region (by kernel_rfl) ?_
  refine gl_box (T' := 25) (x := (.tmp 3)) (v := .agg #[.int .i64 a3.f0, .bool a3.f1, .slice A3_2 a3.f2.length n3_2, .slice A3_3 a3.f3.length n3_3]) (cs := #[.int .i64 a3.f0, .bool a3.f1, .slice A3_2 a3.f2.length n3_2, .slice A3_3 a3.f3.length n3_3]) (by kernel_rfl) (by kernel_rfl) (by kernel_rfl) (by kernel_rfl) (fun gb1 => ?_)
  refine gl_pure 1 [0, 1, 2, 7] (K' := [(0, .int .i64 a0), (1, .slice A1_0 a1.length n1_0), (2, .slice A2_0 a2.length n2_0), (7, .pointer (some ⟨gb1, 0, none⟩))]) (by kernel_rfl) ?_
  refine gl_atE (by kernel_rfl) ?_
  refine ge_seq ?_
  refine gk_seq (by kernel_rfl) ?_
  refine gk_region (by kernel_rfl) ?_
  refine gl_pure 2 [0, 1, 2, 7, 9] (K' := [(0, .int .i64 a0), (1, .slice A1_0 a1.length n1_0), (2, .slice A2_0 a2.length n2_0), (7, .pointer (some ⟨gb1, 0, none⟩)), (9, .func (.func 73) #[] #[.pointer (some ⟨gb1, 0, none⟩)])]) (by kernel_rfl) ?_
  refine gl_atE (by kernel_rfl) ?_
  refine ge_seq ?_
  refine gk_seq (by kernel_rfl) ?_
  refine gk_region (by kernel_rfl) ?_
  refine gl_pure 2 [0, 1, 2, 7, 9, 18, 19] (K' := [(0, .int .i64 a0), (1, .slice A1_0 a1.length n1_0), (2, .slice A2_0 a2.length n2_0), (7, .pointer (some ⟨gb1, 0, none⟩)), (9, .func (.func 73) #[] #[.pointer (some ⟨gb1, 0, none⟩)]), (18, .func (.func 73) #[] #[.pointer (some ⟨gb1, 0, none⟩)]), (19, .slice A1_0 a1.length n1_0)]) (by kernel_rfl) ?_
  refine gl_rest (Tk.step (Upd.rm1 _ _) (Tk.nil _)) (fun J2 hJ3 hC4 => ?_)
  have hf5 := hC4.left.blk
  obtain ⟨y6, hx7, hr⟩ := bind_some hr
  refine gl_call (by kernel_rfl) (vec_sets_1_walk (r := y6) (hG.mono hJ3) (hf1_0.mono hJ3) hf5 (hf3_2.mono hJ3) (hf3_3.mono hJ3) hx7 _) ?_
  rintro v I8 L9 hI10 ⟨g11, C12, hO13, rfl, rfl⟩
  refine gl_pure 2 [0, 1, 2, 7, 20, 21, 22] (K' := [(0, .int .i64 a0), (1, .slice A1_0 a1.length n1_0), (2, .slice A2_0 a2.length n2_0), (7, .pointer (some (⟨gb1, 0, none⟩ : Addr))), (20, .map (some g11)), (21, .func (.func 73) #[] #[.pointer (some (⟨gb1, 0, none⟩ : Addr))]), (22, .slice A2_0 a2.length n2_0)]) (by kernel_rfl) ?_
  obtain ⟨y14, hx15, hr⟩ := bind_some hr
  refine gl_call (by kernel_rfl) (vec_sets_1_walk (r := y14) (hG.mono (Imm.trans hJ3 hI10)) (hf2_0.mono (Imm.trans hJ3 hI10)) (hf5.mono hI10) (hf3_2.mono (Imm.trans hJ3 hI10)) (hf3_3.mono (Imm.trans hJ3 hI10)) hx15 _) ?_
  rintro v I16 L17 hI18 ⟨g19, C20, hO21, rfl, rfl⟩
  refine gl_pure 2 [0, 1, 2, 7, 10, 11] (K' := [(0, .int .i64 a0), (1, .slice A1_0 a1.length n1_0), (2, .slice A2_0 a2.length n2_0), (7, .pointer (some (⟨gb1, 0, none⟩ : Addr))), (10, .map (some g11)), (11, .map (some g19))]) (by kernel_rfl) ?_
  refine gl_atE (by kernel_rfl) ?_
  refine ge_seq ?_
  refine gk_seq (by kernel_rfl) ?_
  refine gk_region (by kernel_rfl) ?_
  refine gl_pure 1 [0, 1, 2, 7, 10, 11, 12] (K' := [(0, .int .i64 a0), (1, .slice A1_0 a1.length n1_0), (2, .slice A2_0 a2.length n2_0), (7, .pointer (some (⟨gb1, 0, none⟩ : Addr))), (10, .map (some g11)), (11, .map (some g19)), (12, .slice none 0 0)]) (by kernel_rfl) ?_
  refine gl_atE (by kernel_rfl) ?_
  refine ge_seq ?_
  refine gk_seq (by kernel_rfl) ?_
  refine gk_seq (by kernel_rfl) ?_
  refine gk_region (by kernel_rfl) ?_
  refine gl_pure 3 [0, 2, 7, 10, 11, 12, 24, 25, 26] (K' := [(0, .int .i64 a0), (2, .slice A2_0 a2.length n2_0), (7, .pointer (some (⟨gb1, 0, none⟩ : Addr))), (10, .map (some g11)), (11, .map (some g19)), (12, .slice none 0 0), (24, .slice A1_0 a1.length n1_0), (25, .int .i64 (a1.length : Int)), (26, .int .i64 0)]) (by kernel_rfl) ?_
  refine gl_atE (by kernel_rfl) ?_
  refine ge_seq ?_
  obtain ⟨r30, hl31, hr⟩ := bind_some hr
  refine gk_join (fun t I' L' => ∃ A43 n44 C45, OwnS kS38 39 I' A43 n44 r30 C45 ∧ I16 ≤ I' ∧ C45 ++ (C12 ++ L) = L' ∧ Knows 71 [(0, .int .i64 a0), (2, .slice A2_0 a2.length n2_0), (7, .pointer (some (⟨gb1, 0, none⟩ : Addr))), (10, .map (some g11)), (12, .slice A43 r30.length n44)] t) ?_ ?_
  · refine gk_block (by kernel_rfl) ?_
    refine gk_pick [0, 2, 7, 10, 11, 12, 24, 25, 26] (K' := [(0, .int .i64 a0), (2, .slice A2_0 a2.length n2_0), (7, .pointer (some (⟨gb1, 0, none⟩ : Addr))), (10, .map (some g11)), (11, .map (some g19)), (12, .slice none 0 0), (24, .slice A1_0 a1.length n1_0), (25, .int .i64 (a1.length : Int)), (26, .int .i64 0)]) (by kernel_rfl) ?_
    intro t hK
    refine gc_loop (vec_sets_l49 a0 a1 a3 y14) (fun s32 t I' L' => ∃ A36 n37 C38, OwnS kS38 39 I' A36 n37 s32.1 C38 ∧ I16 ≤ I' ∧ C38 ++ (C20 ++ (C12 ++ L)) = L' ∧ Knows 71 [(0, .int .i64 a0), (2, .slice A2_0 a2.length n2_0), (7, .pointer (some (⟨gb1, 0, none⟩ : Addr))), (10, .map (some g11)), (11, .map (some g19)), (12, .slice A36 s32.1.length n37), (24, .slice A1_0 a1.length n1_0), (25, .int .i64 (a1.length : Int)), (26, .int .i64 s32.2)] t) (by kernel_rfl) ?_ hl31 ⟨none, 0, [], OwnS.nil _ _ _ _, (Imm.refl _), rfl, hK⟩
    rintro s32 o33 t I41 L' hb34 ⟨A36, n37, C38, hO39, hI35, rfl, hK40⟩
    unfold vec_sets_l49 at hb34
    refine gk_at hK40 ?_
    refine gk_seq (by kernel_rfl) ?_
    refine gk_region (by kernel_rfl) ?_
    refine gl_pure 1 [0, 2, 7, 10, 11, 12, 24, 25, 26, 27] (K' := [(0, .int .i64 a0), (2, .slice A2_0 a2.length n2_0), (7, .pointer (some (⟨gb1, 0, none⟩ : Addr))), (10, .map (some g11)), (11, .map (some g19)), (12, .slice A36 s32.1.length n37), (24, .slice A1_0 a1.length n1_0), (25, .int .i64 (a1.length : Int)), (26, .int .i64 s32.2), (27, .bool (decide (s32.2 < (a1.length : Int))))]) (by kernel_rfl) ?_
    refine gl_atE (by kernel_rfl) ?_
    refine ge_seq ?_
    refine gk_seq (by kernel_rfl) ?_
    refine gk_cond (b := (decide (s32.2 < (a1.length : Int)))) (by kernel_rfl) (by kernel_rfl) (fun hc51 => ?_) (fun hc51 => ?_)
    · have hb34 := cond_t hc51 hb34
      refine gk_skip (by kernel_rfl) ?_
      refine ge_seq ?_
      refine gk_seq (by kernel_rfl) ?_
      refine gk_block (by kernel_rfl) ?_
      refine gk_seq (by kernel_rfl) ?_
      refine gk_region (by kernel_rfl) ?_
      obtain ⟨x52, hx53, hb34⟩ := bind_some hb34
      obtain ⟨p54, cs55, hR56, hA57, ha58⟩ := RepS.ixAt hx53 (hf1_0.mono (Imm.trans (Imm.trans (Imm.trans hJ3 hI10) hI18) hI35))
      have hi59 := ix_some hx53
      obtain ⟨A60, n61, b63, hf62, hf64, rfl⟩ := kS38_open hR56
      refine gl_indexAddrF (c := n1_0) (T' := 22) (e := 39) (xs := (.tmp 24)) (xi := (.tmp 26)) (kd := .i64) ha58 hi59.1 hi59.2.1 (by kernel_rfl) (by kernel_rfl) (by kernel_rfl) (by kernel_rfl) (by kernel_rfl) ?_
      refine gl_loadA (T' := 39) (xp := (.tmp 28)) (p := p54) (cs := [.slice A60 x52.f0.length n61, .float .f64 b63]) (by kernel_rfl) (by kernel_rfl) (by kernel_rfl) (by kernel_rfl) (hA57.take 2) ?_
      refine gl_alloc (T' := 39) (cs := #[.slice none 0 0, .float .f64 0]) (by kernel_rfl) (by kernel_rfl) (by kernel_rfl) (fun g65 => ?_)
      refine gl_storeB (T' := 39) (xp := (.tmp 14)) (xv := (.tmp 29)) (v := .agg #[.slice A60 x52.f0.length n61, .float .f64 b63]) (g := g65) (off := 0) (cs := #[.slice none 0 0, .float .f64 0]) (cs' := #[.slice A60 x52.f0.length n61, .float .f64 b63]) (by kernel_rfl) (by kernel_rfl) (by kernel_rfl) (by kernel_rfl) (by kernel_rfl) (Upd.set _ _ _ _) ?_ (by kernel_rfl)
      refine gl_atE (by kernel_rfl) ?_
      refine ge_seq ?_
      refine gk_seq (by kernel_rfl) ?_
      obtain ⟨j66, hj67, hb34⟩ := bind_some hb34
      refine gk_join (fun t I' L' => I41 ≤ I' ∧ (g65, .cells #[.slice A60 x52.f0.length n61, .float .f64 b63] 39) :: (C38 ++ (C20 ++ (C12 ++ L))) = L' ∧ Knows 71 [(0, .int .i64 a0), (2, .slice A2_0 a2.length n2_0), (7, .pointer (some (⟨gb1, 0, none⟩ : Addr))), (10, .map (some g11)), (11, .map (some g19)), (12, .slice A36 s32.1.length n37), (14, .pointer (some ⟨g65, 0, none⟩)), (24, .slice A1_0 a1.length n1_0), (25, .int .i64 (a1.length : Int)), (26, .int .i64 s32.2), (42, .bool j66)] t) ?_ ?_
      · refine gk_region (by kernel_rfl) ?_
        refine gl_pure 3 [0, 2, 7, 10, 11, 12, 14, 24, 25, 26, 32] (K' := [(0, .int .i64 a0), (2, .slice A2_0 a2.length n2_0), (7, .pointer (some (⟨gb1, 0, none⟩ : Addr))), (10, .map (some g11)), (11, .map (some g19)), (12, .slice A36 s32.1.length n37), (14, .pointer (some ⟨g65, 0, none⟩)), (24, .slice A1_0 a1.length n1_0), (25, .int .i64 (a1.length : Int)), (26, .int .i64 s32.2), (32, .bool (a0 == 14))]) (by kernel_rfl) ?_
        refine gl_case 32 (b := (a0 == 14)) (by kernel_rfl) (fun hc71 => ?_) (fun hc71 => ?_)
        · have hj67 := cond_t hc71 hj67
          refine gl_pure 10 [0, 2, 7, 10, 11, 12, 14, 24, 25, 26, 42] (K' := [(0, .int .i64 a0), (2, .slice A2_0 a2.length n2_0), (7, .pointer (some (⟨gb1, 0, none⟩ : Addr))), (10, .map (some g11)), (11, .map (some g19)), (12, .slice A36 s32.1.length n37), (14, .pointer (some ⟨g65, 0, none⟩)), (24, .slice A1_0 a1.length n1_0), (25, .int .i64 (a1.length : Int)), (26, .int .i64 s32.2), (42, .bool true)]) (by kernel_rfl) ?_
          refine gl_atE (by kernel_rfl) ?_
          obtain rfl := some_inj hj67
          exact ge_mid fun t ht => ⟨(Imm.refl _), rfl, ht.pick (l := [0, 2, 7, 10, 11, 12, 14, 24, 25, 26, 42]) (by kernel_rfl)⟩
        · have hj67 := cond_f hc71 hj67
          refine gl_pure 2 [0, 2, 7, 10, 11, 12, 14, 24, 25, 26, 32, 33, 34] (K' := [(0, .int .i64 a0), (2, .slice A2_0 a2.length n2_0), (7, .pointer (some (⟨gb1, 0, none⟩ : Addr))), (10, .map (some g11)), (11, .map (some g19)), (12, .slice A36 s32.1.length n37), (14, .pointer (some ⟨g65, 0, none⟩)), (24, .slice A1_0 a1.length n1_0), (25, .int .i64 (a1.length : Int)), (26, .int .i64 s32.2), (32, .bool false), (33, .map (some g19)), (34, .pointer (some ⟨g65, 0, none⟩))]) (by kernel_rfl) ?_
          refine gl_loadB (T' := 36) (xp := (.tmp 34)) (v := .slice A60 x52.f0.length n61) (g := g65) (off := 0) (cs := #[.slice A60 x52.f0.length n61, .float .f64 b63]) (e := 39) (fz := (0, 0)) (by kernel_rfl) (by kernel_rfl) (by kernel_rfl) List.mem_cons_self (by kernel_rfl) ?_
          refine gl_loadA (T' := 25) (xp := (.tmp 7)) (p := (⟨gb1, 0, none⟩ : Addr)) (cs := [.int .i64 a3.f0, .bool a3.f1, .slice A3_2 a3.f2.length n3_2, .slice A3_3 a3.f3.length n3_3]) (by kernel_rfl) (by kernel_rfl) (by kernel_rfl) (by kernel_rfl) ((hf5.mono (Imm.trans (Imm.trans hI10 hI18) hI35)).take 4) ?_
          obtain ⟨y72, hx73, hj67⟩ := bind_some hj67
          refine gl_callQ (by kernel_rfl) (vec_signature_walk (r := y72) (hG.mono (Imm.trans (Imm.trans (Imm.trans hJ3 hI10) hI18) hI35)) hf62 (hf3_2.mono (Imm.trans (Imm.trans (Imm.trans hJ3 hI10) hI18) hI35)) (hf3_3.mono (Imm.trans (Imm.trans (Imm.trans hJ3 hI10) hI18) hI35)) hx73 _) ?_
          refine gl_lookupS (a := 9) (b := 4) (ds := .string) (ok := false) (T' := 73) (xm := (.tmp 33)) (xk := (.tmp 37)) (x := y72) (z := false) (uz := .bool false) (fun x => .bool x) valR_bool (hO21.mono hI35) (fun q hq => (List.mem_cons_of_mem _ (List.mem_append_right _ (List.mem_append_left _ hq)))) (by kernel_rfl) (by kernel_rfl) (by kernel_rfl) (by kernel_rfl) (by kernel_rfl) (by kernel_rfl) (by kernel_rfl) rfl ?_
          refine gl_pure 4 [0, 2, 7, 10, 11, 12, 14, 24, 25, 26, 42] (K' := [(0, .int .i64 a0), (2, .slice A2_0 a2.length n2_0), (7, .pointer (some (⟨gb1, 0, none⟩ : Addr))), (10, .map (some g11)), (11, .map (some g19)), (12, .slice A36 s32.1.length n37), (14, .pointer (some ⟨g65, 0, none⟩)), (24, .slice A1_0 a1.length n1_0), (25, .int .i64 (a1.length : Int)), (26, .int .i64 s32.2), (42, .bool (((mget Ky.str y14 y72).getD false) == (a0 == 13)))]) (by kernel_rfl) ?_
          refine gl_atE (by kernel_rfl) ?_
          obtain rfl := some_inj hj67
          exact ge_mid fun t ht => ⟨(Imm.refl _), rfl, ht.pick (l := [0, 2, 7, 10, 11, 12, 14, 24, 25, 26, 42]) (by kernel_rfl)⟩
      · rintro t I70 L' ⟨hI68, rfl, hK69⟩
        refine ge_at hK69 ?_
        refine ge_seq ?_
        obtain ⟨j74, hj75, hb34⟩ := bind_some hb34
        refine gk_join (fun t I' L' => ∃ A77 n78 C79, OwnS kS38 39 I' A77 n78 j74 C79 ∧ I70 ≤ I' ∧ C79 ++ (C20 ++ (C12 ++ L)) = L' ∧ Knows 71 [(0, .int .i64 a0), (2, .slice A2_0 a2.length n2_0), (7, .pointer (some (⟨gb1, 0, none⟩ : Addr))), (10, .map (some g11)), (11, .map (some g19)), (12, .slice A77 j74.length n78), (24, .slice A1_0 a1.length n1_0), (25, .int .i64 (a1.length : Int)), (26, .int .i64 s32.2)] t) ?_ ?_
        · refine gk_cond (b := j66) (by kernel_rfl) (by kernel_rfl) (fun hc83 => ?_) (fun hc83 => ?_)
          · have hj75 := cond_t hc83 hj75
            refine gk_region (by kernel_rfl) ?_
            refine gl_pure 1 [0, 2, 7, 10, 11, 14, 24, 25, 26, 43] (K' := [(0, .int .i64 a0), (2, .slice A2_0 a2.length n2_0), (7, .pointer (some (⟨gb1, 0, none⟩ : Addr))), (10, .map (some g11)), (11, .map (some g19)), (14, .pointer (some ⟨g65, 0, none⟩)), (24, .slice A1_0 a1.length n1_0), (25, .int .i64 (a1.length : Int)), (26, .int .i64 s32.2), (43, .slice A36 s32.1.length n37)]) (by kernel_rfl) ?_
            refine gl_loadB (T' := 39) (xp := (.tmp 14)) (v := .agg #[.slice A60 x52.f0.length n61, .float .f64 b63]) (g := g65) (off := 0) (cs := #[.slice A60 x52.f0.length n61, .float .f64 b63]) (e := 39) (fz := (0, 0)) (by kernel_rfl) (by kernel_rfl) (by kernel_rfl) List.mem_cons_self (by kernel_rfl) ?_
            refine gl_buildSlice (T' := 22) (e := 39) (n := 2) (len := 1) (parts := #[(0, (.tmp 44))]) (l := [(0, .agg #[.slice A60 x52.f0.length n61, .float .f64 b63])]) (cs := #[.slice A60 x52.f0.length n61, .float .f64 b63]) (by kernel_rfl) (by kernel_rfl) (by kernel_rfl) (by kernel_rfl) (by kernel_rfl) (fun g84 => ?_)
            have hO85 : OwnS kS38 39 I70 (some ⟨g84, 0, none⟩) 1 [x52] [(g84, .cells #[.slice A60 x52.f0.length n61, .float .f64 b63] 39)] := OwnS.lit (row_cons (l := [.slice A60 x52.f0.length n61, .float .f64 b63]) (kS38_mk (x := x52) (hf62.mono hI68) hf64) (row_nil _ _)) rfl rfl rfl
            refine gl_reord (D := [(g84, .cells #[.slice A60 x52.f0.length n61, .float .f64 b63] 39)] ++ ((g65, .cells #[.slice A60 x52.f0.length n61, .float .f64 b63] 39) :: (C38 ++ (C20 ++ (C12 ++ L))))) (Reord.refl _) ?_
            obtain ⟨zs88, hz89, hj75⟩ := bind_some hj75
            refine gl_append (xv := .slice (some ⟨g84, 0, none⟩) [x52].length 1) (d := kS38) (t := 22) (tx := 22) (e := 39) (s := (.tmp 43)) (x := (.tmp 45)) (xs := s32.1) (fun X => [(g84, .cells #[.slice A60 x52.f0.length n61, .float .f64 b63] 39)] ++ ((g65, .cells #[.slice A60 x52.f0.length n61, .float .f64 b63] 39) :: (X ++ (C20 ++ (C12 ++ L))))) hz89 (by kernel_rfl) (by kernel_rfl) (by kernel_rfl) (by kernel_rfl) (by kernel_rfl) (by kernel_rfl) (fun X => (Upd.app _ (Upd.one _ (Upd.head _ X _)))) (hO39.mono hI68) (SrcOk.slice (c := 1) (e := 39) (n := 2) (OwnS.rd hO85 (Upd.selfC _ _)) (by kernel_rfl)) (fun A90 n91 C92 hO93 => ?_)
            refine gl_pure 1 [0, 2, 7, 10, 11, 12, 24, 25, 26] (K' := [(0, .int .i64 a0), (2, .slice A2_0 a2.length n2_0), (7, .pointer (some (⟨gb1, 0, none⟩ : Addr))), (10, .map (some g11)), (11, .map (some g19)), (12, .slice A90 zs88.length n91), (24, .slice A1_0 a1.length n1_0), (25, .int .i64 (a1.length : Int)), (26, .int .i64 s32.2)]) (by kernel_rfl) ?_
            refine gl_reord (D := C92 ++ (C20 ++ (C12 ++ L))) (Reord.step (Upd.app _ (Upd.one _ (Upd.rmC _ _))) (Reord.step (Upd.app _ (Upd.one _ (Upd.rmC _ _))) (Reord.step (Upd.app _ (Upd.one _ (Upd.rmC _ _))) (Reord.skipC (Reord.skip (Reord.refl _)))))) ?_
            refine gl_atE (by kernel_rfl) ?_
            obtain rfl := some_inj hj75
            exact ge_mid fun t ht => ⟨A90, n91, C92, hO93, (Imm.refl _), rfl, ht.pick (l := [0, 2, 7, 10, 11, 12, 24, 25, 26]) (by kernel_rfl)⟩
          · have hj75 := cond_f hc83 hj75
            refine gk_reord (D := C38 ++ (C20 ++ (C12 ++ L))) (Reord.step (Upd.one _ (Upd.rmC _ _)) (Reord.step (Upd.one _ (Upd.rmC _ _)) (Reord.step (Upd.one _ (Upd.rmC _ _)) (Reord.skip (Reord.refl _))))) ?_
            refine gk_skip (by kernel_rfl) ?_
            obtain rfl := some_inj hj75
            exact ge_mid fun t ht => ⟨A36, n37, C38, (hO39.mono hI68), (Imm.refl _), rfl, ht.pick (l := [0, 2, 7, 10, 11, 12, 24, 25, 26]) (by kernel_rfl)⟩
        · rintro t I82 L' ⟨A77, n78, C79, hO80, hI76, rfl, hK81⟩
          refine ge_at hK81 ?_
          refine ge_block_normal ?_
          refine ge_seq ?_
          refine gk_region (by kernel_rfl) ?_
          refine gl_pure 2 [0, 2, 7, 10, 11, 12, 24, 25, 26] (K' := [(0, .int .i64 a0), (2, .slice A2_0 a2.length n2_0), (7, .pointer (some (⟨gb1, 0, none⟩ : Addr))), (10, .map (some g11)), (11, .map (some g19)), (12, .slice A77 j74.length n78), (24, .slice A1_0 a1.length n1_0), (25, .int .i64 (a1.length : Int)), (26, .int .i64 (IntKind.wrap .i64 (s32.2 + 1)))]) (by kernel_rfl) ?_
          refine gl_atE (by kernel_rfl) ?_
          obtain rfl := some_inj hb34
          exact ge_round fun t ht => ⟨A77, n78, C79, hO80, (Imm.trans (Imm.trans hI35 hI68) hI76), rfl, ht.pick (l := [0, 2, 7, 10, 11, 12, 24, 25, 26]) (by kernel_rfl)⟩
    · have hb34 := cond_f hc51 hb34
      refine gk_reord (D := C38 ++ (C12 ++ L)) (Reord.step (Upd.rmC _ _) (Reord.step (Upd.app _ (Upd.rmC _ _)) (Reord.skipC (Reord.refl _)))) ?_
      refine gk_exit (by kernel_rfl) ?_
      refine ge_seq_exit ?_
      obtain rfl := some_inj hb34
      refine ge_round_out (fun hrr => ?_) (by intro h; cases h)
      obtain rfl := hrr
      refine ge_block_hit (by kernel_rfl) ?_
      exact ge_mid fun t ht => ⟨A36, n37, C38, hO39, hI35, rfl, ht.pick (l := [0, 2, 7, 10, 12]) (by kernel_rfl)⟩
  · rintro t I48 L' ⟨A43, n44, C45, hO46, hI42, rfl, hK47⟩
    refine ge_at hK47 ?_
    refine ge_seq ?_
    refine gk_seq (by kernel_rfl) ?_
    refine gk_seq (by kernel_rfl) ?_
    refine gk_region (by kernel_rfl) ?_
    refine gl_pure 3 [0, 7, 10, 12, 48, 49, 50] (K' := [(0, .int .i64 a0), (7, .pointer (some (⟨gb1, 0, none⟩ : Addr))), (10, .map (some g11)), (12, .slice A43 r30.length n44), (48, .slice A2_0 a2.length n2_0), (49, .int .i64 (a2.length : Int)), (50, .int .i64 0)]) (by kernel_rfl) ?_
    refine gl_atE (by kernel_rfl) ?_
    refine ge_seq ?_
    obtain ⟨r102, hl103, hr⟩ := bind_some hr
    refine gk_join (fun t I' L' => ∃ A115 n116 C117, OwnS kS38 39 I' A115 n116 r102 C117 ∧ I48 ≤ I' ∧ C117 ++ L = L' ∧ Knows 71 [(12, .slice A115 r102.length n116)] t) ?_ ?_
    · refine gk_block (by kernel_rfl) ?_
      refine gk_pick [0, 7, 10, 12, 48, 49, 50] (K' := [(0, .int .i64 a0), (7, .pointer (some (⟨gb1, 0, none⟩ : Addr))), (10, .map (some g11)), (12, .slice A43 r30.length n44), (48, .slice A2_0 a2.length n2_0), (49, .int .i64 (a2.length : Int)), (50, .int .i64 0)]) (by kernel_rfl) ?_
      intro t hK
      refine gc_loop (vec_sets_l121 a0 a2 a3 y6) (fun s104 t I' L' => ∃ A108 n109 C110, OwnS kS38 39 I' A108 n109 s104.1 C110 ∧ I48 ≤ I' ∧ C110 ++ (C12 ++ L) = L' ∧ Knows 71 [(0, .int .i64 a0), (7, .pointer (some (⟨gb1, 0, none⟩ : Addr))), (10, .map (some g11)), (12, .slice A108 s104.1.length n109), (48, .slice A2_0 a2.length n2_0), (49, .int .i64 (a2.length : Int)), (50, .int .i64 s104.2)] t) (by kernel_rfl) ?_ hl103 ⟨A43, n44, C45, hO46, (Imm.refl _), rfl, hK⟩
      rintro s104 o105 t I113 L' hb106 ⟨A108, n109, C110, hO111, hI107, rfl, hK112⟩
      unfold vec_sets_l121 at hb106
      refine gk_at hK112 ?_
      refine gk_seq (by kernel_rfl) ?_
      refine gk_region (by kernel_rfl) ?_
      refine gl_pure 1 [0, 7, 10, 12, 48, 49, 50, 51] (K' := [(0, .int .i64 a0), (7, .pointer (some (⟨gb1, 0, none⟩ : Addr))), (10, .map (some g11)), (12, .slice A108 s104.1.length n109), (48, .slice A2_0 a2.length n2_0), (49, .int .i64 (a2.length : Int)), (50, .int .i64 s104.2), (51, .bool (decide (s104.2 < (a2.length : Int))))]) (by kernel_rfl) ?_
      refine gl_atE (by kernel_rfl) ?_
      refine ge_seq ?_
      refine gk_seq (by kernel_rfl) ?_
      refine gk_cond (b := (decide (s104.2 < (a2.length : Int)))) (by kernel_rfl) (by kernel_rfl) (fun hc123 => ?_) (fun hc123 => ?_)
      · have hb106 := cond_t hc123 hb106
        refine gk_skip (by kernel_rfl) ?_
        refine ge_seq ?_
        refine gk_seq (by kernel_rfl) ?_
        refine gk_block (by kernel_rfl) ?_
        refine gk_seq (by kernel_rfl) ?_
        refine gk_region (by kernel_rfl) ?_
        obtain ⟨x124, hx125, hb106⟩ := bind_some hb106
        obtain ⟨p126, cs127, hR128, hA129, ha130⟩ := RepS.ixAt hx125 (hf2_0.mono (Imm.trans (Imm.trans (Imm.trans (Imm.trans hJ3 hI10) hI18) hI42) hI107))
        have hi131 := ix_some hx125
        obtain ⟨A132, n133, b135, hf134, hf136, rfl⟩ := kS38_open hR128
        refine gl_indexAddrF (c := n2_0) (T' := 22) (e := 39) (xs := (.tmp 48)) (xi := (.tmp 50)) (kd := .i64) ha130 hi131.1 hi131.2.1 (by kernel_rfl) (by kernel_rfl) (by kernel_rfl) (by kernel_rfl) (by kernel_rfl) ?_
        refine gl_loadA (T' := 39) (xp := (.tmp 52)) (p := p126) (cs := [.slice A132 x124.f0.length n133, .float .f64 b135]) (by kernel_rfl) (by kernel_rfl) (by kernel_rfl) (by kernel_rfl) (hA129.take 2) ?_
        refine gl_alloc (T' := 39) (cs := #[.slice none 0 0, .float .f64 0]) (by kernel_rfl) (by kernel_rfl) (by kernel_rfl) (fun g137 => ?_)
        refine gl_storeB (T' := 39) (xp := (.tmp 16)) (xv := (.tmp 53)) (v := .agg #[.slice A132 x124.f0.length n133, .float .f64 b135]) (g := g137) (off := 0) (cs := #[.slice none 0 0, .float .f64 0]) (cs' := #[.slice A132 x124.f0.length n133, .float .f64 b135]) (by kernel_rfl) (by kernel_rfl) (by kernel_rfl) (by kernel_rfl) (by kernel_rfl) (Upd.set _ _ _ _) ?_ (by kernel_rfl)
        refine gl_atE (by kernel_rfl) ?_
        refine ge_seq ?_
        refine gk_seq (by kernel_rfl) ?_
        obtain ⟨j138, hj139, hb106⟩ := bind_some hb106
        refine gk_join (fun t I' L' => I113 ≤ I' ∧ (g137, .cells #[.slice A132 x124.f0.length n133, .float .f64 b135] 39) :: (C110 ++ (C12 ++ L)) = L' ∧ Knows 71 [(0, .int .i64 a0), (7, .pointer (some (⟨gb1, 0, none⟩ : Addr))), (10, .map (some g11)), (12, .slice A108 s104.1.length n109), (16, .pointer (some ⟨g137, 0, none⟩)), (48, .slice A2_0 a2.length n2_0), (49, .int .i64 (a2.length : Int)), (50, .int .i64 s104.2), (64, .bool j138)] t) ?_ ?_
        · refine gk_region (by kernel_rfl) ?_
          refine gl_pure 3 [0, 7, 10, 12, 16, 48, 49, 50, 56] (K' := [(0, .int .i64 a0), (7, .pointer (some (⟨gb1, 0, none⟩ : Addr))), (10, .map (some g11)), (12, .slice A108 s104.1.length n109), (16, .pointer (some ⟨g137, 0, none⟩)), (48, .slice A2_0 a2.length n2_0), (49, .int .i64 (a2.length : Int)), (50, .int .i64 s104.2), (56, .bool (a0 == 14))]) (by kernel_rfl) ?_
          refine gl_case 56 (b := (a0 == 14)) (by kernel_rfl) (fun hc143 => ?_) (fun hc143 => ?_)
          · have hj139 := cond_t hc143 hj139
            refine gl_pure 2 [0, 7, 10, 12, 16, 48, 49, 50, 56, 57, 58] (K' := [(0, .int .i64 a0), (7, .pointer (some (⟨gb1, 0, none⟩ : Addr))), (10, .map (some g11)), (12, .slice A108 s104.1.length n109), (16, .pointer (some ⟨g137, 0, none⟩)), (48, .slice A2_0 a2.length n2_0), (49, .int .i64 (a2.length : Int)), (50, .int .i64 s104.2), (56, .bool true), (57, .map (some g11)), (58, .pointer (some ⟨g137, 0, none⟩))]) (by kernel_rfl) ?_
            refine gl_loadB (T' := 36) (xp := (.tmp 58)) (v := .slice A132 x124.f0.length n133) (g := g137) (off := 0) (cs := #[.slice A132 x124.f0.length n133, .float .f64 b135]) (e := 39) (fz := (0, 0)) (by kernel_rfl) (by kernel_rfl) (by kernel_rfl) List.mem_cons_self (by kernel_rfl) ?_
            refine gl_loadA (T' := 25) (xp := (.tmp 7)) (p := (⟨gb1, 0, none⟩ : Addr)) (cs := [.int .i64 a3.f0, .bool a3.f1, .slice A3_2 a3.f2.length n3_2, .slice A3_3 a3.f3.length n3_3]) (by kernel_rfl) (by kernel_rfl) (by kernel_rfl) (by kernel_rfl) ((hf5.mono (Imm.trans (Imm.trans (Imm.trans hI10 hI18) hI42) hI107)).take 4) ?_
            obtain ⟨y144, hx145, hj139⟩ := bind_some hj139
            refine gl_callQ (by kernel_rfl) (vec_signature_walk (r := y144) (hG.mono (Imm.trans (Imm.trans (Imm.trans (Imm.trans hJ3 hI10) hI18) hI42) hI107)) hf134 (hf3_2.mono (Imm.trans (Imm.trans (Imm.trans (Imm.trans hJ3 hI10) hI18) hI42) hI107)) (hf3_3.mono (Imm.trans (Imm.trans (Imm.trans (Imm.trans hJ3 hI10) hI18) hI42) hI107)) hx145 _) ?_
            refine gl_lookupS (a := 9) (b := 4) (ds := .string) (ok := false) (T' := 73) (xm := (.tmp 57)) (xk := (.tmp 61)) (x := y144) (z := false) (uz := .bool false) (fun x => .bool x) valR_bool (hO13.mono (Imm.trans (Imm.trans hI18 hI42) hI107)) (fun q hq => (List.mem_cons_of_mem _ (List.mem_append_right _ (List.mem_append_left _ hq)))) (by kernel_rfl) (by kernel_rfl) (by kernel_rfl) (by kernel_rfl) (by kernel_rfl) (by kernel_rfl) (by kernel_rfl) rfl ?_
            refine gl_pure 2 [0, 7, 10, 12, 16, 48, 49, 50, 64] (K' := [(0, .int .i64 a0), (7, .pointer (some (⟨gb1, 0, none⟩ : Addr))), (10, .map (some g11)), (12, .slice A108 s104.1.length n109), (16, .pointer (some ⟨g137, 0, none⟩)), (48, .slice A2_0 a2.length n2_0), (49, .int .i64 (a2.length : Int)), (50, .int .i64 s104.2), (64, .bool (!((mget Ky.str y6 y144).getD false)))]) (by kernel_rfl) ?_
            refine gl_atE (by kernel_rfl) ?_
            obtain rfl := some_inj hj139
            exact ge_mid fun t ht => ⟨(Imm.refl _), rfl, ht.pick (l := [0, 7, 10, 12, 16, 48, 49, 50, 64]) (by kernel_rfl)⟩
          · have hj139 := cond_f hc143 hj139
            refine gl_pure 8 [0, 7, 10, 12, 16, 48, 49, 50, 64] (K' := [(0, .int .i64 a0), (7, .pointer (some (⟨gb1, 0, none⟩ : Addr))), (10, .map (some g11)), (12, .slice A108 s104.1.length n109), (16, .pointer (some ⟨g137, 0, none⟩)), (48, .slice A2_0 a2.length n2_0), (49, .int .i64 (a2.length : Int)), (50, .int .i64 s104.2), (64, .bool false)]) (by kernel_rfl) ?_
            refine gl_atE (by kernel_rfl) ?_
            obtain rfl := some_inj hj139
            exact ge_mid fun t ht => ⟨(Imm.refl _), rfl, ht.pick (l := [0, 7, 10, 12, 16, 48, 49, 50, 64]) (by kernel_rfl)⟩
        · rintro t I142 L' ⟨hI140, rfl, hK141⟩
          refine ge_at hK141 ?_
          refine ge_seq ?_
          obtain ⟨j146, hj147, hb106⟩ := bind_some hb106
          refine gk_join (fun t I' L' => ∃ A149 n150 C151, OwnS kS38 39 I' A149 n150 j146 C151 ∧ I142 ≤ I' ∧ C151 ++ (C12 ++ L) = L' ∧ Knows 71 [(0, .int .i64 a0), (7, .pointer (some (⟨gb1, 0, none⟩ : Addr))), (10, .map (some g11)), (12, .slice A149 j146.length n150), (48, .slice A2_0 a2.length n2_0), (49, .int .i64 (a2.length : Int)), (50, .int .i64 s104.2)] t) ?_ ?_
          · refine gk_cond (b := j138) (by kernel_rfl) (by kernel_rfl) (fun hc155 => ?_) (fun hc155 => ?_)
            · have hj147 := cond_t hc155 hj147
              refine gk_region (by kernel_rfl) ?_
              refine gl_pure 1 [0, 7, 10, 16, 48, 49, 50, 65] (K' := [(0, .int .i64 a0), (7, .pointer (some (⟨gb1, 0, none⟩ : Addr))), (10, .map (some g11)), (16, .pointer (some ⟨g137, 0, none⟩)), (48, .slice A2_0 a2.length n2_0), (49, .int .i64 (a2.length : Int)), (50, .int .i64 s104.2), (65, .slice A108 s104.1.length n109)]) (by kernel_rfl) ?_
              refine gl_loadB (T' := 39) (xp := (.tmp 16)) (v := .agg #[.slice A132 x124.f0.length n133, .float .f64 b135]) (g := g137) (off := 0) (cs := #[.slice A132 x124.f0.length n133, .float .f64 b135]) (e := 39) (fz := (0, 0)) (by kernel_rfl) (by kernel_rfl) (by kernel_rfl) List.mem_cons_self (by kernel_rfl) ?_
              refine gl_buildSlice (T' := 22) (e := 39) (n := 2) (len := 1) (parts := #[(0, (.tmp 66))]) (l := [(0, .agg #[.slice A132 x124.f0.length n133, .float .f64 b135])]) (cs := #[.slice A132 x124.f0.length n133, .float .f64 b135]) (by kernel_rfl) (by kernel_rfl) (by kernel_rfl) (by kernel_rfl) (by kernel_rfl) (fun g156 => ?_)
              have hO157 : OwnS kS38 39 I142 (some ⟨g156, 0, none⟩) 1 [x124] [(g156, .cells #[.slice A132 x124.f0.length n133, .float .f64 b135] 39)] := OwnS.lit (row_cons (l := [.slice A132 x124.f0.length n133, .float .f64 b135]) (kS38_mk (x := x124) (hf134.mono hI140) hf136) (row_nil _ _)) rfl rfl rfl
              refine gl_reord (D := [(g156, .cells #[.slice A132 x124.f0.length n133, .float .f64 b135] 39)] ++ ((g137, .cells #[.slice A132 x124.f0.length n133, .float .f64 b135] 39) :: (C110 ++ (C12 ++ L)))) (Reord.refl _) ?_
              obtain ⟨zs160, hz161, hj147⟩ := bind_some hj147
              refine gl_append (xv := .slice (some ⟨g156, 0, none⟩) [x124].length 1) (d := kS38) (t := 22) (tx := 22) (e := 39) (s := (.tmp 65)) (x := (.tmp 67)) (xs := s104.1) (fun X => [(g156, .cells #[.slice A132 x124.f0.length n133, .float .f64 b135] 39)] ++ ((g137, .cells #[.slice A132 x124.f0.length n133, .float .f64 b135] 39) :: (X ++ (C12 ++ L)))) hz161 (by kernel_rfl) (by kernel_rfl) (by kernel_rfl) (by kernel_rfl) (by kernel_rfl) (by kernel_rfl) (fun X => (Upd.app _ (Upd.one _ (Upd.head _ X _)))) (hO111.mono hI140) (SrcOk.slice (c := 1) (e := 39) (n := 2) (OwnS.rd hO157 (Upd.selfC _ _)) (by kernel_rfl)) (fun A162 n163 C164 hO165 => ?_)
              refine gl_pure 1 [0, 7, 10, 12, 48, 49, 50] (K' := [(0, .int .i64 a0), (7, .pointer (some (⟨gb1, 0, none⟩ : Addr))), (10, .map (some g11)), (12, .slice A162 zs160.length n163), (48, .slice A2_0 a2.length n2_0), (49, .int .i64 (a2.length : Int)), (50, .int .i64 s104.2)]) (by kernel_rfl) ?_
              refine gl_reord (D := C164 ++ (C12 ++ L)) (Reord.step (Upd.app _ (Upd.one _ (Upd.rmC _ _))) (Reord.step (Upd.app _ (Upd.one _ (Upd.rmC _ _))) (Reord.skipC (Reord.skip (Reord.refl _))))) ?_
              refine gl_atE (by kernel_rfl) ?_
              obtain rfl := some_inj hj147
              exact ge_mid fun t ht => ⟨A162, n163, C164, hO165, (Imm.refl _), rfl, ht.pick (l := [0, 7, 10, 12, 48, 49, 50]) (by kernel_rfl)⟩
            · have hj147 := cond_f hc155 hj147
              refine gk_reord (D := C110 ++ (C12 ++ L)) (Reord.step (Upd.one _ (Upd.rmC _ _)) (Reord.step (Upd.one _ (Upd.rmC _ _)) (Reord.skip (Reord.refl _)))) ?_
              refine gk_skip (by kernel_rfl) ?_
              obtain rfl := some_inj hj147
              exact ge_mid fun t ht => ⟨A108, n109, C110, (hO111.mono hI140), (Imm.refl _), rfl, ht.pick (l := [0, 7, 10, 12, 48, 49, 50]) (by kernel_rfl)⟩
          · rintro t I154 L' ⟨A149, n150, C151, hO152, hI148, rfl, hK153⟩
            refine ge_at hK153 ?_
            refine ge_block_normal ?_
            refine ge_seq ?_
            refine gk_region (by kernel_rfl) ?_
            refine gl_pure 2 [0, 7, 10, 12, 48, 49, 50] (K' := [(0, .int .i64 a0), (7, .pointer (some (⟨gb1, 0, none⟩ : Addr))), (10, .map (some g11)), (12, .slice A149 j146.length n150), (48, .slice A2_0 a2.length n2_0), (49, .int .i64 (a2.length : Int)), (50, .int .i64 (IntKind.wrap .i64 (s104.2 + 1)))]) (by kernel_rfl) ?_
            refine gl_atE (by kernel_rfl) ?_
            obtain rfl := some_inj hb106
            exact ge_round fun t ht => ⟨A149, n150, C151, hO152, (Imm.trans (Imm.trans hI107 hI140) hI148), rfl, ht.pick (l := [0, 7, 10, 12, 48, 49, 50]) (by kernel_rfl)⟩
      · have hb106 := cond_f hc123 hb106
        refine gk_reord (D := C110 ++ L) (Reord.step (Upd.rmC _ _) (Reord.skipC (Reord.refl _))) ?_
        refine gk_exit (by kernel_rfl) ?_
        refine ge_seq_exit ?_
        obtain rfl := some_inj hb106
        refine ge_round_out (fun hrr => ?_) (by intro h; cases h)
        obtain rfl := hrr
        refine ge_block_hit (by kernel_rfl) ?_
        exact ge_mid fun t ht => ⟨A108, n109, C110, hO111, hI107, rfl, ht.pick (l := [12]) (by kernel_rfl)⟩
    · rintro t I120 L' ⟨A115, n116, C117, hO118, hI114, rfl, hK119⟩
      refine ge_at hK119 ?_
      refine ge_seq ?_
      refine gk_seq (by kernel_rfl) ?_
      refine gk_region (by kernel_rfl) ?_
      refine gl_pure 2 [8] (K' := [(8, .slice A115 r102.length n116)]) (by kernel_rfl) ?_
      refine gl_atE (by kernel_rfl) ?_
      refine ge_seq ?_
      refine gk_ret (by kernel_rfl) ?_
      obtain rfl := some_inj hr
      exact ge_result trivial (ResOk.tmp (by kernel_rfl) ResOk.nil) (Imm.trans (Imm.trans (Imm.trans (Imm.trans hJ3 hI10) hI18) hI42) hI114) ⟨A115, n116, C117, hO118, rfl, rfl⟩
structure S121 where
  f0 : Fl
  f1 : Fl
/-! 80 vec_pair_add  -/
noncomputable def vec_pair_add (a0 : S121) : Fl :=
  (farith .add a0.f0 a0.f1)
theorem vec_pair_add_walk {a0 : S121} {b0_0 : Nat} {b0_1 : Nat} {I : Imm} {r : Fl}  (hf0_0 : FRep a0.f0 b0_0) (hf0_1 : FRep a0.f1 b0_1) (hr : vec_pair_add a0 = r) (L : Own) :
    CallsTo Tryz.prog 80 #[.agg #[.float .f64 b0_0, .float .f64 b0_1]] I L (fun v I' L' => ∃ b0_0, FRep r b0_0 ∧ v = .float .f64 b0_0 ∧ L = L') := by
  replace hr : some (vec_pair_add a0) = some r := congrArg some hr
  unfold vec_pair_add at hr
  refine callsTo_body (N := 8) Tryz.func80 (by kernel_rfl) (by kernel_rfl) (by kernel_rfl) ?_
  refine gk_pick [0] (K' := [(0, .agg #[.float .f64 b0_0, .float .f64 b0_1])]) (by kernel_rfl) ?_
  refine gk_seq (by kernel_rfl) ?_
  refine gk_region (by kernel_rfl) ?_
  refine gl_box (T' := 122) (x := (.tmp 0)) (v := .agg #[.float .f64 b0_0, .float .f64 b0_1]) (cs := #[.float .f64 b0_0, .float .f64 b0_1]) (by kernel_rfl) (by kernel_rfl) (by kernel_rfl) (by kernel_rfl) (fun g1 => ?_)
  refine gl_pure 1 [1] (K' := [(1, .pointer (some ⟨g1, 0, none⟩))]) (by kernel_rfl) ?_
  refine gl_atE (by kernel_rfl) ?_
  refine ge_seq ?_
  refine gk_seq (by kernel_rfl) ?_
  refine gk_region (by kernel_rfl) ?_
  refine gl_pure 1 [1, 3] (K' := [(1, .pointer (some ⟨g1, 0, none⟩)), (3, .pointer (some ⟨g1, 0, none⟩))]) (by kernel_rfl) ?_
  refine gl_loadB (T' := 37) (xp := (.tmp 3)) (v := .float .f64 b0_0) (g := g1) (off := 0) (cs := #[.float .f64 b0_0, .float .f64 b0_1]) (e := 122) (fz := (0, 0)) (by kernel_rfl) (by kernel_rfl) (by kernel_rfl) List.mem_cons_self (by kernel_rfl) ?_
  refine gl_pure 1 [4, 5] (K' := [(4, .float .f64 b0_0), (5, .pointer (some ⟨g1, 1, none⟩))]) (by kernel_rfl) ?_
  refine gl_loadB (T' := 37) (xp := (.tmp 5)) (v := .float .f64 b0_1) (g := g1) (off := 1) (cs := #[.float .f64 b0_0, .float .f64 b0_1]) (e := 122) (fz := (0, 0)) (by kernel_rfl) (by kernel_rfl) (by kernel_rfl) List.mem_cons_self (by kernel_rfl) ?_
  refine gl_farith (op := .add) (t := 37) (t' := 37) (xx := (.tmp 4)) (yy := (.tmp 6)) hf0_0 hf0_1 (by kernel_rfl) (by kernel_rfl) rfl (by kernel_rfl) (by kernel_rfl) (fun b2 hf3 => ?_)
  refine gl_pure 1 [2] (K' := [(2, .float .f64 b2)]) (by kernel_rfl) ?_
  refine gl_atE (by kernel_rfl) ?_
  refine ge_seq ?_
  refine gk_reord (D := L) (Reord.skip (Reord.refl _)) ?_
  refine gk_ret (by kernel_rfl) ?_
  obtain rfl := some_inj hr
  exact ge_result trivial (ResOk.tmp (by kernel_rfl) ResOk.nil) (Imm.refl _) ⟨b2, hf3, rfl, rfl⟩
/-! 86 vec_told  -/
noncomputable def vec_told (a0 : Fl) : Fl :=
  bif (fcmp .neq a0 a0) then
  ((some (9221120237041090561 : Int).toNat : Fl))
  else
  (a0)
theorem vec_told_walk {a0 : Fl} {b0_0 : Nat} {I : Imm} {r : Fl}  (hf0_0 : FRep a0 b0_0) (hr : vec_told a0 = r) (L : Own) :
    CallsTo Tryz.prog 86 #[.float .f64 b0_0] I L (fun v I' L' => ∃ b0_0, FRep r b0_0 ∧ v = .float .f64 b0_0 ∧ L = L') := by
  replace hr : some (vec_told a0) = some r := congrArg some hr
  unfold vec_told at hr
  refine callsTo_body (N := 8) Tryz.func86 (by kernel_rfl) (by kernel_rfl) (by kernel_rfl) ?_
  refine gk_pick [0] (K' := [(0, .float .f64 b0_0)]) (by kernel_rfl) ?_
  refine gk_seq (by kernel_rfl) ?_
  refine gk_region (by kernel_rfl) ?_
  refine gl_pure 1 [0] (K' := [(0, .float .f64 b0_0)]) (by kernel_rfl) ?_
  refine gl_atE (by kernel_rfl) ?_
  refine ge_seq ?_
  refine gk_seq (by kernel_rfl) ?_
  refine gk_seq (by kernel_rfl) ?_
  refine gk_region (by kernel_rfl) ?_
  refine gl_pure 2 [0, 3, 4] (K' := [(0, .float .f64 b0_0), (3, .float .f64 b0_0), (4, .float .f64 b0_0)]) (by kernel_rfl) ?_
  refine gl_fcmp (op := .neq) (t := 37) (t' := 37) (xx := (.tmp 3)) (yy := (.tmp 4)) hf0_0 hf0_0 (by kernel_rfl) (by kernel_rfl) rfl (by kernel_rfl) (by kernel_rfl) ?_
  refine gl_atE (by kernel_rfl) ?_
  refine ge_seq ?_
  refine gk_cond (b := (fcmp .neq a0 a0)) (by kernel_rfl) (by kernel_rfl) (fun hc1 => ?_) (fun hc1 => ?_)
  · have hr := scond_t hc1 hr
    refine gk_seq (by kernel_rfl) ?_
    refine gk_region (by kernel_rfl) ?_
    refine gl_f64from (n := 9221120237041090561) Tryz.func105 (by kernel_rfl) (by kernel_rfl) (by kernel_rfl) (by kernel_rfl) (by kernel_rfl) (by kernel_rfl) ?_
    refine gl_pure 1 [2] (K' := [(2, .float .f64 ((9221120237041090561 : Int).toNat))]) (by kernel_rfl) ?_
    refine gl_atE (by kernel_rfl) ?_
    refine ge_seq ?_
    refine gk_ret (by kernel_rfl) ?_
    refine ge_seq_ret ?_
    obtain rfl := some_inj hr
    exact ge_result trivial (ResOk.tmp (by kernel_rfl) ResOk.nil) (Imm.refl _) ⟨(9221120237041090561 : Int).toNat, (FRep.of (9221120237041090561 : Int).toNat), rfl, rfl⟩
  · have hr := scond_f hc1 hr
    refine gk_skip (by kernel_rfl) ?_
    refine ge_seq ?_
    refine gk_seq (by kernel_rfl) ?_
    refine gk_region (by kernel_rfl) ?_
    refine gl_pure 2 [2] (K' := [(2, .float .f64 b0_0)]) (by kernel_rfl) ?_
    refine gl_atE (by kernel_rfl) ?_
    refine ge_seq ?_
    refine gk_ret (by kernel_rfl) ?_
    obtain rfl := some_inj hr
    exact ge_result trivial (ResOk.tmp (by kernel_rfl) ResOk.nil) (Imm.refl _) ⟨b0_0, hf0_0, rfl, rfl⟩
/-! 81 vec_pair_sub  -/
noncomputable def vec_pair_sub (a0 : S121) : Fl :=
  (farith .sub a0.f0 a0.f1)
theorem vec_pair_sub_walk {a0 : S121} {b0_0 : Nat} {b0_1 : Nat} {I : Imm} {r : Fl}  (hf0_0 : FRep a0.f0 b0_0) (hf0_1 : FRep a0.f1 b0_1) (hr : vec_pair_sub a0 = r) (L : Own) :
    CallsTo Tryz.prog 81 #[.agg #[.float .f64 b0_0, .float .f64 b0_1]] I L (fun v I' L' => ∃ b0_0, FRep r b0_0 ∧ v = .float .f64 b0_0 ∧ L = L') := by
  replace hr : some (vec_pair_sub a0) = some r := congrArg some hr
  unfold vec_pair_sub at hr
  refine callsTo_body (N := 8) Tryz.func81 (by kernel_rfl) (by kernel_rfl) (by kernel_rfl) ?_
  refine gk_pick [0] (K' := [(0, .agg #[.float .f64 b0_0, .float .f64 b0_1])]) (by kernel_rfl) ?_
  refine gk_seq (by kernel_rfl) ?_
  refine gk_region (by kernel_rfl) ?_
  refine gl_box (T' := 122) (x := (.tmp 0)) (v := .agg #[.float .f64 b0_0, .float .f64 b0_1]) (cs := #[.float .f64 b0_0, .float .f64 b0_1]) (by kernel_rfl) (by kernel_rfl) (by kernel_rfl) (by kernel_rfl) (fun g1 => ?_)
  refine gl_pure 1 [1] (K' := [(1, .pointer (some ⟨g1, 0, none⟩))]) (by kernel_rfl) ?_
  refine gl_atE (by kernel_rfl) ?_
  refine ge_seq ?_
  refine gk_seq (by kernel_rfl) ?_
  refine gk_region (by kernel_rfl) ?_
  refine gl_pure 1 [1, 3] (K' := [(1, .pointer (some ⟨g1, 0, none⟩)), (3, .pointer (some ⟨g1, 0, none⟩))]) (by kernel_rfl) ?_
  refine gl_loadB (T' := 37) (xp := (.tmp 3)) (v := .float .f64 b0_0) (g := g1) (off := 0) (cs := #[.float .f64 b0_0, .float .f64 b0_1]) (e := 122) (fz := (0, 0)) (by kernel_rfl) (by kernel_rfl) (by kernel_rfl) List.mem_cons_self (by kernel_rfl) ?_
  refine gl_pure 1 [4, 5] (K' := [(4, .float .f64 b0_0), (5, .pointer (some ⟨g1, 1, none⟩))]) (by kernel_rfl) ?_
  refine gl_loadB (T' := 37) (xp := (.tmp 5)) (v := .float .f64 b0_1) (g := g1) (off := 1) (cs := #[.float .f64 b0_0, .float .f64 b0_1]) (e := 122) (fz := (0, 0)) (by kernel_rfl) (by kernel_rfl) (by kernel_rfl) List.mem_cons_self (by kernel_rfl) ?_
  refine gl_farith (op := .sub) (t := 37) (t' := 37) (xx := (.tmp 4)) (yy := (.tmp 6)) hf0_0 hf0_1 (by kernel_rfl) (by kernel_rfl) rfl (by kernel_rfl) (by kernel_rfl) (fun b2 hf3 => ?_)
  refine gl_pure 1 [2] (K' := [(2, .float .f64 b2)]) (by kernel_rfl) ?_
  refine gl_atE (by kernel_rfl) ?_
  refine ge_seq ?_
  refine gk_reord (D := L) (Reord.skip (Reord.refl _)) ?_
  refine gk_ret (by kernel_rfl) ?_
  obtain rfl := some_inj hr
  exact ge_result trivial (ResOk.tmp (by kernel_rfl) ResOk.nil) (Imm.refl _) ⟨b2, hf3, rfl, rfl⟩
/-! 82 vec_pair_mul  -/
noncomputable def vec_pair_mul (a0 : S121) : Fl :=
  (farith .mul a0.f0 a0.f1)
theorem vec_pair_mul_walk {a0 : S121} {b0_0 : Nat} {b0_1 : Nat} {I : Imm} {r : Fl}  (hf0_0 : FRep a0.f0 b0_0) (hf0_1 : FRep a0.f1 b0_1) (hr : vec_pair_mul a0 = r) (L : Own) :
    CallsTo Tryz.prog 82 #[.agg #[.float .f64 b0_0, .float .f64 b0_1]] I L (fun v I' L' => ∃ b0_0, FRep r b0_0 ∧ v = .float .f64 b0_0 ∧ L = L') := by
  replace hr : some (vec_pair_mul a0) = some r := congrArg some hr
  unfold vec_pair_mul at hr
  refine callsTo_body (N := 8) Tryz.func82 (by kernel_rfl) (by kernel_rfl) (by kernel_rfl) ?_
  refine gk_pick [0] (K' := [(0, .agg #[.float .f64 b0_0, .float .f64 b0_1])]) (by kernel_rfl) ?_
  refine gk_seq (by kernel_rfl) ?_
  refine gk_region (by kernel_rfl) ?_
  refine gl_box (T' := 122) (x := (.tmp 0)) (v := .agg #[.float .f64 b0_0, .float .f64 b0_1]) (cs := #[.float .f64 b0_0, .float .f64 b0_1]) (by kernel_rfl) (by kernel_rfl) (by kernel_rfl) (by kernel_rfl) (fun g1 => ?_)
  refine gl_pure 1 [1] (K' := [(1, .pointer (some ⟨g1, 0, none⟩))]) (by kernel_rfl) ?_
  refine gl_atE (by kernel_rfl) ?_
  refine ge_seq ?_
  refine gk_seq (by kernel_rfl) ?_
  refine gk_region (by kernel_rfl) ?_
  refine gl_pure 1 [1, 3] (K' := [(1, .pointer (some ⟨g1, 0, none⟩)), (3, .pointer (some ⟨g1, 0, none⟩))]) (by kernel_rfl) ?_
  refine gl_loadB (T' := 37) (xp := (.tmp 3)) (v := .float .f64 b0_0) (g := g1) (off := 0) (cs := #[.float .f64 b0_0, .float .f64 b0_1]) (e := 122) (fz := (0, 0)) (by kernel_rfl) (by kernel_rfl) (by kernel_rfl) List.mem_cons_self (by kernel_rfl) ?_
  refine gl_pure 1 [4, 5] (K' := [(4, .float .f64 b0_0), (5, .pointer (some ⟨g1, 1, none⟩))]) (by kernel_rfl) ?_
  refine gl_loadB (T' := 37) (xp := (.tmp 5)) (v := .float .f64 b0_1) (g := g1) (off := 1) (cs := #[.float .f64 b0_0, .float .f64 b0_1]) (e := 122) (fz := (0, 0)) (by kernel_rfl) (by kernel_rfl) (by kernel_rfl) List.mem_cons_self (by kernel_rfl) ?_
  refine gl_farith (op := .mul) (t := 37) (t' := 37) (xx := (.tmp 4)) (yy := (.tmp 6)) hf0_0 hf0_1 (by kernel_rfl) (by kernel_rfl) rfl (by kernel_rfl) (by kernel_rfl) (fun b2 hf3 => ?_)
  refine gl_pure 1 [2] (K' := [(2, .float .f64 b2)]) (by kernel_rfl) ?_
  refine gl_atE (by kernel_rfl) ?_
  refine ge_seq ?_
  refine gk_reord (D := L) (Reord.skip (Reord.refl _)) ?_
  refine gk_ret (by kernel_rfl) ?_
  obtain rfl := some_inj hr
  exact ge_result trivial (ResOk.tmp (by kernel_rfl) ResOk.nil) (Imm.refl _) ⟨b2, hf3, rfl, rfl⟩
/-! 83 vec_pair_div  -/
noncomputable def vec_pair_div (a0 : S121) : Fl :=
  (farith .quo a0.f0 a0.f1)
theorem vec_pair_div_walk {a0 : S121} {b0_0 : Nat} {b0_1 : Nat} {I : Imm} {r : Fl}  (hf0_0 : FRep a0.f0 b0_0) (hf0_1 : FRep a0.f1 b0_1) (hr : vec_pair_div a0 = r) (L : Own) :
    CallsTo Tryz.prog 83 #[.agg #[.float .f64 b0_0, .float .f64 b0_1]] I L (fun v I' L' => ∃ b0_0, FRep r b0_0 ∧ v = .float .f64 b0_0 ∧ L = L') := by
  replace hr : some (vec_pair_div a0) = some r := congrArg some hr
  unfold vec_pair_div at hr
  refine callsTo_body (N := 8) Tryz.func83 (by kernel_rfl) (by kernel_rfl) (by kernel_rfl) ?_
  refine gk_pick [0] (K' := [(0, .agg #[.float .f64 b0_0, .float .f64 b0_1])]) (by kernel_rfl) ?_
  refine gk_seq (by kernel_rfl) ?_
  refine gk_region (by kernel_rfl) ?_
  refine gl_box (T' := 122) (x := (.tmp 0)) (v := .agg #[.float .f64 b0_0, .float .f64 b0_1]) (cs := #[.float .f64 b0_0, .float .f64 b0_1]) (by kernel_rfl) (by kernel_rfl) (by kernel_rfl) (by kernel_rfl) (fun g1 => ?_)
  refine gl_pure 1 [1] (K' := [(1, .pointer (some ⟨g1, 0, none⟩))]) (by kernel_rfl) ?_
  refine gl_atE (by kernel_rfl) ?_
  refine ge_seq ?_
  refine gk_seq (by kernel_rfl) ?_
  refine gk_region (by kernel_rfl) ?_
  refine gl_pure 1 [1, 3] (K' := [(1, .pointer (some ⟨g1, 0, none⟩)), (3, .pointer (some ⟨g1, 0, none⟩))]) (by kernel_rfl) ?_
  refine gl_loadB (T' := 37) (xp := (.tmp 3)) (v := .float .f64 b0_0) (g := g1) (off := 0) (cs := #[.float .f64 b0_0, .float .f64 b0_1]) (e := 122) (fz := (0, 0)) (by kernel_rfl) (by kernel_rfl) (by kernel_rfl) List.mem_cons_self (by kernel_rfl) ?_
  refine gl_pure 1 [4, 5] (K' := [(4, .float .f64 b0_0), (5, .pointer (some ⟨g1, 1, none⟩))]) (by kernel_rfl) ?_
  refine gl_loadB (T' := 37) (xp := (.tmp 5)) (v := .float .f64 b0_1) (g := g1) (off := 1) (cs := #[.float .f64 b0_0, .float .f64 b0_1]) (e := 122) (fz := (0, 0)) (by kernel_rfl) (by kernel_rfl) (by kernel_rfl) List.mem_cons_self (by kernel_rfl) ?_
  refine gl_farith (op := .quo) (t := 37) (t' := 37) (xx := (.tmp 4)) (yy := (.tmp 6)) hf0_0 hf0_1 (by kernel_rfl) (by kernel_rfl) rfl (by kernel_rfl) (by kernel_rfl) (fun b2 hf3 => ?_)
  refine gl_pure 1 [2] (K' := [(2, .float .f64 b2)]) (by kernel_rfl) ?_
  refine gl_atE (by kernel_rfl) ?_
  refine ge_seq ?_
  refine gk_reord (D := L) (Reord.skip (Reord.refl _)) ?_
  refine gk_ret (by kernel_rfl) ?_
  obtain rfl := some_inj hr
  exact ge_result trivial (ResOk.tmp (by kernel_rfl) ResOk.nil) (Imm.refl _) ⟨b2, hf3, rfl, rfl⟩
/-! 165 math_Abs  -/
noncomputable def math_Abs (a0 : Fl) : Option Fl :=
  Option.bind (fbits a0) fun (q1 : Int) =>
  some (some ((bitAndnot .u64 q1 9223372036854775808) : Int).toNat : Fl)
theorem math_Abs_walk {a0 : Fl} {b0_0 : Nat} {I : Imm} {r : Fl}  (hf0_0 : FRep a0 b0_0) (hr : math_Abs a0 = some r) (L : Own) :
    CallsTo Tryz.prog 165 #[.float .f64 b0_0] I L (fun v I' L' => ∃ b0_0, FRep r b0_0 ∧ v = .float .f64 b0_0 ∧ L = L') := by
  unfold math_Abs at hr
  refine callsTo_body (N := 7) Tryz.func165 (by kernel_rfl) (by kernel_rfl) (by kernel_rfl) ?_
  refine gk_pick [0] (K' := [(0, .float .f64 b0_0)]) (by kernel_rfl) ?_
  refine gk_seq (by kernel_rfl) ?_
  refine gk_region (by kernel_rfl) ?_
  refine gl_pure 1 [0] (K' := [(0, .float .f64 b0_0)]) (by kernel_rfl) ?_
  refine gl_atE (by kernel_rfl) ?_
  refine ge_seq ?_
  refine gk_seq (by kernel_rfl) ?_
  refine gk_region (by kernel_rfl) ?_
  refine gl_pure 1 [3] (K' := [(3, .float .f64 b0_0)]) (by kernel_rfl) ?_
  obtain ⟨q1, hx2, hr⟩ := bind_some hr
  refine gl_f64bits hx2 hf0_0 Tryz.func46 (by kernel_rfl) (by kernel_rfl) (by kernel_rfl) (by kernel_rfl) (by kernel_rfl) (by kernel_rfl) ?_
  refine gl_pure 1 [5] (K' := [(5, .int .u64 (bitAndnot .u64 q1 9223372036854775808))]) (by kernel_rfl) ?_
  refine gl_f64from (n := (bitAndnot .u64 q1 9223372036854775808)) Tryz.func105 (by kernel_rfl) (by kernel_rfl) (by kernel_rfl) (by kernel_rfl) (by kernel_rfl) (by kernel_rfl) ?_
  refine gl_pure 1 [2] (K' := [(2, .float .f64 (((bitAndnot .u64 q1 9223372036854775808) : Int).toNat))]) (by kernel_rfl) ?_
  refine gl_atE (by kernel_rfl) ?_
  refine ge_seq ?_
  refine gk_ret (by kernel_rfl) ?_
  obtain rfl := some_inj hr
  exact ge_result trivial (ResOk.tmp (by kernel_rfl) ResOk.nil) (Imm.refl _) ⟨((bitAndnot .u64 q1 9223372036854775808) : Int).toNat, (FRep.of ((bitAndnot .u64 q1 9223372036854775808) : Int).toNat), rfl, rfl⟩
/-! 201 math_IsInf  -/
noncomputable def math_IsInf (a0 : Fl) (a1 : Int) : Option Bool :=
  Option.bind (bif (a1 == 0) then
    (Option.bind (math_Abs a0) fun (y9 : Fl) =>
      some y9)
    else
    (Option.bind (bif (decide (a1 < 0)) then
        (some (fneg a0))
        else
        (some a0)) fun (j16 : Fl) =>
      some j16)) fun (j1 : Fl) =>
  some (fcmp .gtr j1 (some 9218868437227405311 : Fl))
theorem math_IsInf_walk {a0 : Fl} {b0_0 : Nat} {a1 : Int} {I : Imm} {r : Bool}  (hf0_0 : FRep a0 b0_0) (hr : math_IsInf a0 a1 = some r) (L : Own) :
    CallsTo Tryz.prog 201 #[.float .f64 b0_0, .int .i64 a1] I L (fun v I' L' => v = .bool r ∧ L = L') := by
  unfold math_IsInf at hr
  refine callsTo_body (N := 15) Tryz.func201 (by kernel_rfl) (by kernel_rfl) (by kernel_rfl) ?_
  refine gk_pick [0, 1] (K' := [(0, .float .f64 b0_0), (1, .int .i64 a1)]) (by kernel_rfl) ?_
  refine gk_seq (by kernel_rfl) ?_
  refine gk_region (by kernel_rfl) ?_
  refine gl_pure 1 [0, 1] (K' := [(0, .float .f64 b0_0), (1, .int .i64 a1)]) (by kernel_rfl) ?_
  refine gl_atE (by kernel_rfl) ?_
  refine ge_seq ?_
  refine gk_seq (by kernel_rfl) ?_
  refine gk_seq (by kernel_rfl) ?_
  refine gk_region (by kernel_rfl) ?_
  refine gl_pure 2 [0, 1, 6] (K' := [(0, .float .f64 b0_0), (1, .int .i64 a1), (6, .bool (a1 == 0))]) (by kernel_rfl) ?_
  refine gl_atE (by kernel_rfl) ?_
  refine ge_seq ?_
  obtain ⟨j1, hj2, hr⟩ := bind_some hr
  refine gk_join (fun t I' L' => ∃ b4, FRep j1 b4 ∧ I ≤ I' ∧ L = L' ∧ Knows 15 [(0, .float .f64 b4)] t) ?_ ?_
  · refine gk_cond (b := (a1 == 0)) (by kernel_rfl) (by kernel_rfl) (fun hc8 => ?_) (fun hc8 => ?_)
    · have hj2 := cond_t hc8 hj2
      refine gk_region (by kernel_rfl) ?_
      refine gl_pure 1 [7] (K' := [(7, .float .f64 b0_0)]) (by kernel_rfl) ?_
      obtain ⟨y9, hx10, hj2⟩ := bind_some hj2
      refine gl_call (by kernel_rfl) (math_Abs_walk (r := y9) hf0_0 hx10 _) ?_
      rintro v I11 L12 hI13 ⟨z14, hO15, rfl, rfl⟩
      refine gl_pure 1 [0] (K' := [(0, .float .f64 z14)]) (by kernel_rfl) ?_
      refine gl_atE (by kernel_rfl) ?_
      obtain rfl := some_inj hj2
      exact ge_mid fun t ht => ⟨z14, hO15, hI13, rfl, ht.pick (l := [0]) (by kernel_rfl)⟩
    · have hj2 := cond_f hc8 hj2
      refine gk_seq (by kernel_rfl) ?_
      refine gk_region (by kernel_rfl) ?_
      refine gl_pure 2 [0, 10] (K' := [(0, .float .f64 b0_0), (10, .bool (decide (a1 < 0)))]) (by kernel_rfl) ?_
      refine gl_atE (by kernel_rfl) ?_
      refine ge_seq ?_
      obtain ⟨j16, hj17, hj2⟩ := bind_some hj2
      refine gk_join (fun t I' L' => ∃ b19, FRep j16 b19 ∧ I ≤ I' ∧ L = L' ∧ Knows 15 [(0, .float .f64 b19)] t) ?_ ?_
      · refine gk_cond (b := (decide (a1 < 0))) (by kernel_rfl) (by kernel_rfl) (fun hc23 => ?_) (fun hc23 => ?_)
        · have hj17 := cond_t hc23 hj17
          refine gk_region (by kernel_rfl) ?_
          refine gl_pure 3 [0] (K' := [(0, .float .f64 (Op.negFloat .f64 b0_0))]) (by kernel_rfl) ?_
          refine gl_atE (by kernel_rfl) ?_
          obtain rfl := some_inj hj17
          exact ge_mid fun t ht => ⟨(Op.negFloat .f64 b0_0), (fneg_rep hf0_0), (Imm.refl _), rfl, ht.pick (l := [0]) (by kernel_rfl)⟩
        · have hj17 := cond_f hc23 hj17
          refine gk_skip (by kernel_rfl) ?_
          obtain rfl := some_inj hj17
          exact ge_mid fun t ht => ⟨b0_0, hf0_0, (Imm.refl _), rfl, ht.pick (l := [0]) (by kernel_rfl)⟩
      · rintro t I22 L' ⟨b19, hb20, hI18, rfl, hK21⟩
        refine ge_at hK21 ?_
        obtain rfl := some_inj hj2
        exact ge_mid fun t ht => ⟨b19, hb20, hI18, rfl, ht.pick (l := [0]) (by kernel_rfl)⟩
  · rintro t I7 L' ⟨b4, hb5, hI3, rfl, hK6⟩
    refine ge_at hK6 ?_
    refine ge_seq ?_
    refine gk_seq (by kernel_rfl) ?_
    refine gk_region (by kernel_rfl) ?_
    refine gl_pure 1 [13] (K' := [(13, .float .f64 b4)]) (by kernel_rfl) ?_
    refine gl_fcmp (op := .gtr) (t := 37) (t' := 37) (xx := (.tmp 13)) (yy := (.const (.float .f64 9218868437227405311))) hb5 (FRep.of 9218868437227405311) (by kernel_rfl) (by kernel_rfl) rfl (by kernel_rfl) (by kernel_rfl) ?_
    refine gl_pure 1 [4] (K' := [(4, .bool (fcmp .gtr j1 (some 9218868437227405311 : Fl)))]) (by kernel_rfl) ?_
    refine gl_atE (by kernel_rfl) ?_
    refine ge_seq ?_
    refine gk_ret (by kernel_rfl) ?_
    obtain rfl := some_inj hr
    exact ge_result trivial (ResOk.tmp (by kernel_rfl) ResOk.nil) hI3 ⟨rfl, rfl⟩
/-! 104 math_IsNaN  -/
noncomputable def math_IsNaN (a0 : Fl) : Bool :=
  (fcmp .neq a0 a0)
theorem math_IsNaN_walk {a0 : Fl} {b0_0 : Nat} {I : Imm} {r : Bool}  (hf0_0 : FRep a0 b0_0) (hr : math_IsNaN a0 = r) (L : Own) :
    CallsTo Tryz.prog 104 #[.float .f64 b0_0] I L (fun v I' L' => v = .bool r ∧ L = L') := by
  replace hr : some (math_IsNaN a0) = some r := congrArg some hr
  unfold math_IsNaN at hr
  refine callsTo_body (N := 6) Tryz.func104 (by kernel_rfl) (by kernel_rfl) (by kernel_rfl) ?_
  refine gk_pick [0] (K' := [(0, .float .f64 b0_0)]) (by kernel_rfl) ?_
  refine gk_seq (by kernel_rfl) ?_
  refine gk_region (by kernel_rfl) ?_
  refine gl_pure 1 [0] (K' := [(0, .float .f64 b0_0)]) (by kernel_rfl) ?_
  refine gl_atE (by kernel_rfl) ?_
  refine ge_seq ?_
  refine gk_seq (by kernel_rfl) ?_
  refine gk_region (by kernel_rfl) ?_
  refine gl_pure 2 [3, 4] (K' := [(3, .float .f64 b0_0), (4, .float .f64 b0_0)]) (by kernel_rfl) ?_
  refine gl_fcmp (op := .neq) (t := 37) (t' := 37) (xx := (.tmp 3)) (yy := (.tmp 4)) hf0_0 hf0_0 (by kernel_rfl) (by kernel_rfl) rfl (by kernel_rfl) (by kernel_rfl) ?_
  refine gl_pure 1 [2] (K' := [(2, .bool (fcmp .neq a0 a0))]) (by kernel_rfl) ?_
  refine gl_atE (by kernel_rfl) ?_
  refine ge_seq ?_
  refine gk_ret (by kernel_rfl) ?_
  obtain rfl := some_inj hr
  exact ge_result trivial (ResOk.tmp (by kernel_rfl) ResOk.nil) (Imm.refl _) ⟨rfl, rfl⟩
/-! 166 math_NaN  -/
noncomputable def math_NaN : Fl :=
  (some (9221120237041090561 : Int).toNat : Fl)
theorem math_NaN_walk  {I : Imm} {r : Fl}  (hr : math_NaN = r) (L : Own) :
    CallsTo Tryz.prog 166 #[] I L (fun v I' L' => ∃ b0_0, FRep r b0_0 ∧ v = .float .f64 b0_0 ∧ L = L') := by
  replace hr : some (math_NaN) = some r := congrArg some hr
  unfold math_NaN at hr
  refine callsTo_body (N := 2) Tryz.func166 (by kernel_rfl) (by kernel_rfl) (by kernel_rfl) ?_
  refine gk_pick [] (K' := []) (by kernel_rfl) ?_
  refine gk_seq (by kernel_rfl) ?_
  refine gk_region (by kernel_rfl) ?_
  refine gl_pure 1 [] (K' := []) (by kernel_rfl) ?_
  refine gl_atE (by kernel_rfl) ?_
  refine ge_seq ?_
  refine gk_seq (by kernel_rfl) ?_
  refine gk_region (by kernel_rfl) ?_
  refine gl_f64from (n := 9221120237041090561) Tryz.func105 (by kernel_rfl) (by kernel_rfl) (by kernel_rfl) (by kernel_rfl) (by kernel_rfl) (by kernel_rfl) ?_
  refine gl_pure 1 [0] (K' := [(0, .float .f64 ((9221120237041090561 : Int).toNat))]) (by kernel_rfl) ?_
  refine gl_atE (by kernel_rfl) ?_
  refine ge_seq ?_
  refine gk_ret (by kernel_rfl) ?_
  obtain rfl := some_inj hr
  exact ge_result trivial (ResOk.tmp (by kernel_rfl) ResOk.nil) (Imm.refl _) ⟨(9221120237041090561 : Int).toNat, (FRep.of (9221120237041090561 : Int).toNat), rfl, rfl⟩
/-! 212 math_normalize  -/
noncomputable def math_normalize (a0 : Fl) : Option (Fl × Int) :=
  Option.bind (math_Abs a0) fun (y1 : Fl) =>
  bif (fcmp .lss y1 (some 4503599627370496 : Fl)) then
  (some ((farith .mul a0 (some 4841369599423283200 : Fl)), (-52)))
  else
  (some (a0, 0))
theorem math_normalize_walk {a0 : Fl} {b0_0 : Nat} {I : Imm} {r : Fl × Int}  (hf0_0 : FRep a0 b0_0) (hr : math_normalize a0 = some r) (L : Own) :
    CallsTo Tryz.prog 212 #[.float .f64 b0_0] I L (fun v I' L' => ∃ b0_0, FRep r.1 b0_0 ∧ v = .tuple #[.float .f64 b0_0, .int .i64 r.2] ∧ L = L') := by
  unfold math_normalize at hr
  refine callsTo_body (N := 10) Tryz.func212 (by kernel_rfl) (by kernel_rfl) (by kernel_rfl) ?_
  refine gk_pick [0] (K' := [(0, .float .f64 b0_0)]) (by kernel_rfl) ?_
  refine gk_seq (by kernel_rfl) ?_
  refine gk_region (by kernel_rfl) ?_
  refine gl_pure 2 [0] (K' := [(0, .float .f64 b0_0)]) (by kernel_rfl) ?_
  refine gl_atE (by kernel_rfl) ?_
  refine ge_seq ?_
  refine gk_seq (by kernel_rfl) ?_
  refine gk_seq (by kernel_rfl) ?_
  refine gk_region (by kernel_rfl) ?_
  refine gl_pure 1 [0, 4] (K' := [(0, .float .f64 b0_0), (4, .float .f64 b0_0)]) (by kernel_rfl) ?_
  obtain ⟨y1, hx2, hr⟩ := bind_some hr
  refine gl_call (by kernel_rfl) (math_Abs_walk (r := y1) hf0_0 hx2 _) ?_
  rintro v I3 L4 hI5 ⟨z6, hO7, rfl, rfl⟩
  refine gl_fcmp (op := .lss) (t := 37) (t' := 37) (xx := (.tmp 5)) (yy := (.const (.float .f64 4503599627370496))) hO7 (FRep.of 4503599627370496) (by kernel_rfl) (by kernel_rfl) rfl (by kernel_rfl) (by kernel_rfl) ?_
  refine gl_atE (by kernel_rfl) ?_
  refine ge_seq ?_
  refine gk_cond (b := (fcmp .lss y1 (some 4503599627370496 : Fl))) (by kernel_rfl) (by kernel_rfl) (fun hc8 => ?_) (fun hc8 => ?_)
  · have hr := cond_t hc8 hr
    refine gk_seq (by kernel_rfl) ?_
    refine gk_region (by kernel_rfl) ?_
    refine gl_pure 1 [7] (K' := [(7, .float .f64 b0_0)]) (by kernel_rfl) ?_
    refine gl_farith (op := .mul) (t := 37) (t' := 37) (xx := (.tmp 7)) (yy := (.const (.float .f64 4841369599423283200))) hf0_0 (FRep.of 4841369599423283200) (by kernel_rfl) (by kernel_rfl) rfl (by kernel_rfl) (by kernel_rfl) (fun b9 hf10 => ?_)
    refine gl_pure 2 [2, 3] (K' := [(2, .float .f64 b9), (3, .int .i64 (-52))]) (by kernel_rfl) ?_
    refine gl_atE (by kernel_rfl) ?_
    refine ge_seq ?_
    refine gk_ret (by kernel_rfl) ?_
    refine ge_seq_ret ?_
    obtain rfl := some_inj hr
    exact ge_result trivial (ResOk.tmp (by kernel_rfl) (ResOk.tmp (by kernel_rfl) ResOk.nil)) hI5 ⟨b9, hf10, rfl, rfl⟩
  · have hr := cond_f hc8 hr
    refine gk_skip (by kernel_rfl) ?_
    refine ge_seq ?_
    refine gk_seq (by kernel_rfl) ?_
    refine gk_region (by kernel_rfl) ?_
    refine gl_pure 3 [2, 3] (K' := [(2, .float .f64 b0_0), (3, .int .i64 0)]) (by kernel_rfl) ?_
    refine gl_atE (by kernel_rfl) ?_
    refine ge_seq ?_
    refine gk_ret (by kernel_rfl) ?_
    obtain rfl := some_inj hr
    exact ge_result trivial (ResOk.tmp (by kernel_rfl) (ResOk.tmp (by kernel_rfl) ResOk.nil)) hI5 ⟨b0_0, hf0_0, rfl, rfl⟩
/-! 208 math_frexp  -/
noncomputable def math_frexp (a0 : Fl) : Option (Fl × Int) :=
  bif (fcmp .eql a0 (some 0 : Fl)) then
  (some (a0, 0))
  else
  (Option.bind (Option.bind (math_IsInf a0 0) fun (y7 : Bool) =>
      bif y7 then
      (some true)
      else
      (some (math_IsNaN a0))) fun (j2 : Bool) =>
    bif j2 then
    (some (a0, 0))
    else
    (Option.bind (math_normalize a0) fun (y11 : Fl × Int) =>
      Option.bind (fbits y11.1) fun (q18 : Int) =>
      some ((some ((bitOr .u64 (bitAndnot .u64 q18 9218868437227405312) 4602678819172646912) : Int).toNat : Fl), (IntKind.wrap .i64 (y11.2 + (IntKind.wrap .i64 ((IntKind.wrap .i64 ((IntKind.wrap .i64 (bitAnd .u64 (shr .u64 q18 52) 2047)) - 1023)) + 1)))))))
theorem math_frexp_walk {a0 : Fl} {b0_0 : Nat} {I : Imm} {r : Fl × Int}  (hf0_0 : FRep a0 b0_0) (hr : math_frexp a0 = some r) (L : Own) :
    CallsTo Tryz.prog 208 #[.float .f64 b0_0] I L (fun v I' L' => ∃ b0_0, FRep r.1 b0_0 ∧ v = .tuple #[.float .f64 b0_0, .int .i64 r.2] ∧ L = L') := by
  unfold math_frexp at hr
  refine callsTo_body (N := 38) Tryz.func208 (by kernel_rfl) (by kernel_rfl) (by kernel_rfl) ?_
  refine gk_pick [0] (K' := [(0, .float .f64 b0_0)]) (by kernel_rfl) ?_
  refine gk_seq (by kernel_rfl) ?_
  refine gk_region (by kernel_rfl) ?_
  refine gl_pure 2 [0] (K' := [(0, .float .f64 b0_0)]) (by kernel_rfl) ?_
  refine gl_atE (by kernel_rfl) ?_
  refine ge_seq ?_
  refine gk_seq (by kernel_rfl) ?_
  refine gk_block (by kernel_rfl) ?_
  refine gk_seq (by kernel_rfl) ?_
  refine gk_region (by kernel_rfl) ?_
  refine gl_pure 1 [0, 6] (K' := [(0, .float .f64 b0_0), (6, .float .f64 b0_0)]) (by kernel_rfl) ?_
  refine gl_fcmp (op := .eql) (t := 37) (t' := 37) (xx := (.tmp 6)) (yy := (.const (.float .f64 0))) hf0_0 (FRep.of 0) (by kernel_rfl) (by kernel_rfl) rfl (by kernel_rfl) (by kernel_rfl) ?_
  refine gl_pure 1 [0, 5] (K' := [(0, .float .f64 b0_0), (5, .bool (fcmp .eql a0 (some 0 : Fl)))]) (by kernel_rfl) ?_
  refine gl_atE (by kernel_rfl) ?_
  refine ge_seq ?_
  refine gk_cond (b := (fcmp .eql a0 (some 0 : Fl))) (by kernel_rfl) (by kernel_rfl) (fun hc1 => ?_) (fun hc1 => ?_)
  · have hr := cond_t hc1 hr
    refine gk_seq (by kernel_rfl) ?_
    refine gk_region (by kernel_rfl) ?_
    refine gl_pure 3 [2, 3] (K' := [(2, .float .f64 b0_0), (3, .int .i64 0)]) (by kernel_rfl) ?_
    refine gl_atE (by kernel_rfl) ?_
    refine ge_seq ?_
    refine gk_ret (by kernel_rfl) ?_
    refine ge_block_ret ?_
    refine ge_seq_ret ?_
    obtain rfl := some_inj hr
    exact ge_result trivial (ResOk.tmp (by kernel_rfl) (ResOk.tmp (by kernel_rfl) ResOk.nil)) (Imm.refl _) ⟨b0_0, hf0_0, rfl, rfl⟩
  · have hr := cond_f hc1 hr
    refine gk_seq (by kernel_rfl) ?_
    obtain ⟨j2, hj3, hr⟩ := bind_some hr
    refine gk_join (fun t I' L' => I ≤ I' ∧ L = L' ∧ Knows 38 [(0, .float .f64 b0_0), (9, .bool j2)] t) ?_ ?_
    · refine gk_region (by kernel_rfl) ?_
      refine gl_pure 1 [0, 10] (K' := [(0, .float .f64 b0_0), (10, .float .f64 b0_0)]) (by kernel_rfl) ?_
      obtain ⟨y7, hx8, hj3⟩ := bind_some hj3
      refine gl_callQ (by kernel_rfl) (math_IsInf_walk (r := y7) hf0_0 hx8 _) ?_
      refine gl_pure 1 [0, 12] (K' := [(0, .float .f64 b0_0), (12, .bool y7)]) (by kernel_rfl) ?_
      refine gl_case 12 (b := y7) (by kernel_rfl) (fun hc9 => ?_) (fun hc9 => ?_)
      · have hj3 := cond_t hc9 hj3
        refine gl_pure 4 [0, 9] (K' := [(0, .float .f64 b0_0), (9, .bool true)]) (by kernel_rfl) ?_
        refine gl_atE (by kernel_rfl) ?_
        obtain rfl := some_inj hj3
        exact ge_mid fun t ht => ⟨(Imm.refl _), rfl, ht.pick (l := [0, 9]) (by kernel_rfl)⟩
      · have hj3 := cond_f hc9 hj3
        refine gl_pure 1 [0, 12, 13] (K' := [(0, .float .f64 b0_0), (12, .bool false), (13, .float .f64 b0_0)]) (by kernel_rfl) ?_
        refine gl_callQ (by kernel_rfl) (math_IsNaN_walk (r := (math_IsNaN a0)) hf0_0 rfl _) ?_
        refine gl_pure 2 [0, 9] (K' := [(0, .float .f64 b0_0), (9, .bool (math_IsNaN a0))]) (by kernel_rfl) ?_
        refine gl_atE (by kernel_rfl) ?_
        obtain rfl := some_inj hj3
        exact ge_mid fun t ht => ⟨(Imm.refl _), rfl, ht.pick (l := [0, 9]) (by kernel_rfl)⟩
    · rintro t I6 L' ⟨hI4, rfl, hK5⟩
      refine ge_at hK5 ?_
      refine ge_seq ?_
      refine gk_cond (b := j2) (by kernel_rfl) (by kernel_rfl) (fun hc10 => ?_) (fun hc10 => ?_)
      · have hr := cond_t hc10 hr
        refine gk_seq (by kernel_rfl) ?_
        refine gk_region (by kernel_rfl) ?_
        refine gl_pure 3 [2, 3] (K' := [(2, .float .f64 b0_0), (3, .int .i64 0)]) (by kernel_rfl) ?_
        refine gl_atE (by kernel_rfl) ?_
        refine ge_seq ?_
        refine gk_ret (by kernel_rfl) ?_
        refine ge_block_ret ?_
        refine ge_seq_ret ?_
        obtain rfl := some_inj hr
        exact ge_result trivial (ResOk.tmp (by kernel_rfl) (ResOk.tmp (by kernel_rfl) ResOk.nil)) hI4 ⟨b0_0, hf0_0, rfl, rfl⟩
      · have hr := cond_f hc10 hr
        refine gk_skip (by kernel_rfl) ?_
        refine ge_block_normal ?_
        refine ge_seq ?_
        refine gk_seq (by kernel_rfl) ?_
        refine gk_region (by kernel_rfl) ?_
        refine gl_pure 1 [18] (K' := [(18, .float .f64 b0_0)]) (by kernel_rfl) ?_
        obtain ⟨y11, hx12, hr⟩ := bind_some hr
        refine gl_call (by kernel_rfl) (math_normalize_walk (r := y11) hf0_0 hx12 _) ?_
        rintro v I13 L14 hI15 ⟨z16, hO17, rfl, rfl⟩
        refine gl_pure 5 [0, 3] (K' := [(0, .float .f64 z16), (3, .int .i64 y11.2)]) (by kernel_rfl) ?_
        refine gl_atE (by kernel_rfl) ?_
        refine ge_seq ?_
        refine gk_seq (by kernel_rfl) ?_
        refine gk_region (by kernel_rfl) ?_
        refine gl_pure 1 [3, 22] (K' := [(3, .int .i64 y11.2), (22, .float .f64 z16)]) (by kernel_rfl) ?_
        obtain ⟨q18, hx19, hr⟩ := bind_some hr
        refine gl_f64bits hx19 hO17 Tryz.func46 (by kernel_rfl) (by kernel_rfl) (by kernel_rfl) (by kernel_rfl) (by kernel_rfl) (by kernel_rfl) ?_
        refine gl_pure 1 [3, 4] (K' := [(3, .int .i64 y11.2), (4, .int .u64 q18)]) (by kernel_rfl) ?_
        refine gl_atE (by kernel_rfl) ?_
        refine ge_seq ?_
        refine gk_seq (by kernel_rfl) ?_
        refine gk_region (by kernel_rfl) ?_
        refine gl_pure 9 [3, 4] (K' := [(3, .int .i64 (IntKind.wrap .i64 (y11.2 + (IntKind.wrap .i64 ((IntKind.wrap .i64 ((IntKind.wrap .i64 (bitAnd .u64 (shr .u64 q18 52) 2047)) - 1023)) + 1))))), (4, .int .u64 q18)]) (by kernel_rfl) ?_
        refine gl_atE (by kernel_rfl) ?_
        refine ge_seq ?_
        refine gk_seq (by kernel_rfl) ?_
        refine gk_region (by kernel_rfl) ?_
        refine gl_pure 3 [3, 4] (K' := [(3, .int .i64 (IntKind.wrap .i64 (y11.2 + (IntKind.wrap .i64 ((IntKind.wrap .i64 ((IntKind.wrap .i64 (bitAnd .u64 (shr .u64 q18 52) 2047)) - 1023)) + 1))))), (4, .int .u64 (bitAndnot .u64 q18 9218868437227405312))]) (by kernel_rfl) ?_
        refine gl_atE (by kernel_rfl) ?_
        refine ge_seq ?_
        refine gk_seq (by kernel_rfl) ?_
        refine gk_region (by kernel_rfl) ?_
        refine gl_pure 3 [3, 4] (K' := [(3, .int .i64 (IntKind.wrap .i64 (y11.2 + (IntKind.wrap .i64 ((IntKind.wrap .i64 ((IntKind.wrap .i64 (bitAnd .u64 (shr .u64 q18 52) 2047)) - 1023)) + 1))))), (4, .int .u64 (bitOr .u64 (bitAndnot .u64 q18 9218868437227405312) 4602678819172646912))]) (by kernel_rfl) ?_
        refine gl_atE (by kernel_rfl) ?_
        refine ge_seq ?_
        refine gk_seq (by kernel_rfl) ?_
        refine gk_region (by kernel_rfl) ?_
        refine gl_pure 1 [3, 36] (K' := [(3, .int .i64 (IntKind.wrap .i64 (y11.2 + (IntKind.wrap .i64 ((IntKind.wrap .i64 ((IntKind.wrap .i64 (bitAnd .u64 (shr .u64 q18 52) 2047)) - 1023)) + 1))))), (36, .int .u64 (bitOr .u64 (bitAndnot .u64 q18 9218868437227405312) 4602678819172646912))]) (by kernel_rfl) ?_
        refine gl_f64from (n := (bitOr .u64 (bitAndnot .u64 q18 9218868437227405312) 4602678819172646912)) Tryz.func105 (by kernel_rfl) (by kernel_rfl) (by kernel_rfl) (by kernel_rfl) (by kernel_rfl) (by kernel_rfl) ?_
        refine gl_pure 1 [2, 3] (K' := [(2, .float .f64 (((bitOr .u64 (bitAndnot .u64 q18 9218868437227405312) 4602678819172646912) : Int).toNat)), (3, .int .i64 (IntKind.wrap .i64 (y11.2 + (IntKind.wrap .i64 ((IntKind.wrap .i64 ((IntKind.wrap .i64 (bitAnd .u64 (shr .u64 q18 52) 2047)) - 1023)) + 1)))))]) (by kernel_rfl) ?_
        refine gl_atE (by kernel_rfl) ?_
        refine ge_seq ?_
        refine gk_ret (by kernel_rfl) ?_
        obtain rfl := some_inj hr
        exact ge_result trivial (ResOk.tmp (by kernel_rfl) (ResOk.tmp (by kernel_rfl) ResOk.nil)) (Imm.trans hI4 hI15) ⟨((bitOr .u64 (bitAndnot .u64 q18 9218868437227405312) 4602678819172646912) : Int).toNat, (FRep.of ((bitOr .u64 (bitAndnot .u64 q18 9218868437227405312) 4602678819172646912) : Int).toNat), rfl, rfl⟩
/-! 202 math_Frexp  -/
noncomputable def math_Frexp (a0 : Fl) : Option (Fl × Int) :=
  Option.bind (math_frexp a0) fun (y1 : Fl × Int) =>
  some (y1.1, y1.2)
theorem math_Frexp_walk {a0 : Fl} {b0_0 : Nat} {I : Imm} {r : Fl × Int}  (hf0_0 : FRep a0 b0_0) (hr : math_Frexp a0 = some r) (L : Own) :
    CallsTo Tryz.prog 202 #[.float .f64 b0_0] I L (fun v I' L' => ∃ b0_0, FRep r.1 b0_0 ∧ v = .tuple #[.float .f64 b0_0, .int .i64 r.2] ∧ L = L') := by
  unfold math_Frexp at hr
  refine callsTo_body (N := 12) Tryz.func202 (by kernel_rfl) (by kernel_rfl) (by kernel_rfl) ?_
  refine gk_pick [0] (K' := [(0, .float .f64 b0_0)]) (by kernel_rfl) ?_
  refine gk_seq (by kernel_rfl) ?_
  refine gk_region (by kernel_rfl) ?_
  refine gl_pure 2 [0] (K' := [(0, .float .f64 b0_0)]) (by kernel_rfl) ?_
  refine gl_atE (by kernel_rfl) ?_
  refine ge_seq ?_
  refine gk_seq (by kernel_rfl) ?_
  refine gk_cond (b := false) (by kernel_rfl) (by kernel_rfl) (fun h => by cases h) (fun _ => ?_)
  refine gk_skip (by kernel_rfl) ?_
  refine ge_seq ?_
  refine gk_seq (by kernel_rfl) ?_
  refine gk_region (by kernel_rfl) ?_
  refine gl_pure 1 [8] (K' := [(8, .float .f64 b0_0)]) (by kernel_rfl) ?_
  obtain ⟨y1, hx2, hr⟩ := bind_some hr
  refine gl_call (by kernel_rfl) (math_frexp_walk (r := y1) hf0_0 hx2 _) ?_
  rintro v I3 L4 hI5 ⟨z6, hO7, rfl, rfl⟩
  refine gl_pure 4 [2, 3] (K' := [(2, .float .f64 z6), (3, .int .i64 y1.2)]) (by kernel_rfl) ?_
  refine gl_atE (by kernel_rfl) ?_
  refine ge_seq ?_
  refine gk_ret (by kernel_rfl) ?_
  obtain rfl := some_inj hr
  exact ge_result trivial (ResOk.tmp (by kernel_rfl) (ResOk.tmp (by kernel_rfl) ResOk.nil)) hI5 ⟨z6, hO7, rfl, rfl⟩
/-! 204 math_Copysign  -/
noncomputable def math_Copysign (a0 : Fl) (a1 : Fl) : Option Fl :=
  Option.bind (fbits a0) fun (q1 : Int) =>
  Option.bind (fbits a1) fun (q3 : Int) =>
  some (some ((bitOr .u64 (bitAndnot .u64 q1 9223372036854775808) (bitAnd .u64 q3 9223372036854775808)) : Int).toNat : Fl)
theorem math_Copysign_walk {a0 : Fl} {b0_0 : Nat} {a1 : Fl} {b1_0 : Nat} {I : Imm} {r : Fl}  (hf0_0 : FRep a0 b0_0)  (hf1_0 : FRep a1 b1_0) (hr : math_Copysign a0 a1 = some r) (L : Own) :
    CallsTo Tryz.prog 204 #[.float .f64 b0_0, .float .f64 b1_0] I L (fun v I' L' => ∃ b0_0, FRep r b0_0 ∧ v = .float .f64 b0_0 ∧ L = L') := by
  unfold math_Copysign at hr
  refine callsTo_body (N := 13) Tryz.func204 (by kernel_rfl) (by kernel_rfl) (by kernel_rfl) ?_
  refine gk_pick [0, 1] (K' := [(0, .float .f64 b0_0), (1, .float .f64 b1_0)]) (by kernel_rfl) ?_
  refine gk_seq (by kernel_rfl) ?_
  refine gk_region (by kernel_rfl) ?_
  refine gl_pure 1 [0, 1] (K' := [(0, .float .f64 b0_0), (1, .float .f64 b1_0)]) (by kernel_rfl) ?_
  refine gl_atE (by kernel_rfl) ?_
  refine ge_seq ?_
  refine gk_seq (by kernel_rfl) ?_
  refine gk_region (by kernel_rfl) ?_
  refine gl_pure 1 [1, 5] (K' := [(1, .float .f64 b1_0), (5, .float .f64 b0_0)]) (by kernel_rfl) ?_
  obtain ⟨q1, hx2, hr⟩ := bind_some hr
  refine gl_f64bits hx2 hf0_0 Tryz.func46 (by kernel_rfl) (by kernel_rfl) (by kernel_rfl) (by kernel_rfl) (by kernel_rfl) (by kernel_rfl) ?_
  refine gl_pure 2 [7, 8] (K' := [(7, .int .u64 (bitAndnot .u64 q1 9223372036854775808)), (8, .float .f64 b1_0)]) (by kernel_rfl) ?_
  obtain ⟨q3, hx4, hr⟩ := bind_some hr
  refine gl_f64bits hx4 hf1_0 Tryz.func46 (by kernel_rfl) (by kernel_rfl) (by kernel_rfl) (by kernel_rfl) (by kernel_rfl) (by kernel_rfl) ?_
  refine gl_pure 2 [11] (K' := [(11, .int .u64 (bitOr .u64 (bitAndnot .u64 q1 9223372036854775808) (bitAnd .u64 q3 9223372036854775808)))]) (by kernel_rfl) ?_
  refine gl_f64from (n := (bitOr .u64 (bitAndnot .u64 q1 9223372036854775808) (bitAnd .u64 q3 9223372036854775808))) Tryz.func105 (by kernel_rfl) (by kernel_rfl) (by kernel_rfl) (by kernel_rfl) (by kernel_rfl) (by kernel_rfl) ?_
  refine gl_pure 1 [4] (K' := [(4, .float .f64 (((bitOr .u64 (bitAndnot .u64 q1 9223372036854775808) (bitAnd .u64 q3 9223372036854775808)) : Int).toNat))]) (by kernel_rfl) ?_
  refine gl_atE (by kernel_rfl) ?_
  refine ge_seq ?_
  refine gk_ret (by kernel_rfl) ?_
  obtain rfl := some_inj hr
  exact ge_result trivial (ResOk.tmp (by kernel_rfl) ResOk.nil) (Imm.refl _) ⟨((bitOr .u64 (bitAndnot .u64 q1 9223372036854775808) (bitAnd .u64 q3 9223372036854775808)) : Int).toNat, (FRep.of ((bitOr .u64 (bitAndnot .u64 q1 9223372036854775808) (bitAnd .u64 q3 9223372036854775808)) : Int).toNat), rfl, rfl⟩
/-! 114 math_Inf  -/
noncomputable def math_Inf (a0 : Int) : Option Fl :=
  Option.bind (bif (decide (a0 ≥ 0)) then
    (some 9218868437227405312)
    else
    (some 18442240474082181120)) fun (j1 : Int) =>
  some (some (j1 : Int).toNat : Fl)
theorem math_Inf_walk {a0 : Int} {I : Imm} {r : Fl}  (hr : math_Inf a0 = some r) (L : Own) :
    CallsTo Tryz.prog 114 #[.int .i64 a0] I L (fun v I' L' => ∃ b0_0, FRep r b0_0 ∧ v = .float .f64 b0_0 ∧ L = L') := by
  unfold math_Inf at hr
  refine callsTo_body (N := 8) Tryz.func114 (by kernel_rfl) (by kernel_rfl) (by kernel_rfl) ?_
  refine gk_pick [0] (K' := [(0, .int .i64 a0)]) (by kernel_rfl) ?_
  refine gk_seq (by kernel_rfl) ?_
  refine gk_region (by kernel_rfl) ?_
  refine gl_pure 1 [0] (K' := [(0, .int .i64 a0)]) (by kernel_rfl) ?_
  refine gl_atE (by kernel_rfl) ?_
  refine ge_seq ?_
  refine gk_seq (by kernel_rfl) ?_
  refine gk_region (by kernel_rfl) ?_
  refine gl_pure 1 [0] (K' := [(0, .int .i64 a0)]) (by kernel_rfl) ?_
  refine gl_atE (by kernel_rfl) ?_
  refine ge_seq ?_
  refine gk_seq (by kernel_rfl) ?_
  refine gk_seq (by kernel_rfl) ?_
  refine gk_region (by kernel_rfl) ?_
  refine gl_pure 2 [5] (K' := [(5, .bool (decide (a0 ≥ 0)))]) (by kernel_rfl) ?_
  refine gl_atE (by kernel_rfl) ?_
  refine ge_seq ?_
  obtain ⟨j1, hj2, hr⟩ := bind_some hr
  refine gk_join (fun t I' L' => I ≤ I' ∧ L = L' ∧ Knows 8 [(3, .int .u64 j1)] t) ?_ ?_
  · refine gk_cond (b := (decide (a0 ≥ 0))) (by kernel_rfl) (by kernel_rfl) (fun hc6 => ?_) (fun hc6 => ?_)
    · have hj2 := cond_t hc6 hj2
      refine gk_region (by kernel_rfl) ?_
      refine gl_pure 1 [3] (K' := [(3, .int .u64 9218868437227405312)]) (by kernel_rfl) ?_
      refine gl_atE (by kernel_rfl) ?_
      obtain rfl := some_inj hj2
      exact ge_mid fun t ht => ⟨(Imm.refl _), rfl, ht.pick (l := [3]) (by kernel_rfl)⟩
    · have hj2 := cond_f hc6 hj2
      refine gk_region (by kernel_rfl) ?_
      refine gl_pure 1 [3] (K' := [(3, .int .u64 18442240474082181120)]) (by kernel_rfl) ?_
      refine gl_atE (by kernel_rfl) ?_
      obtain rfl := some_inj hj2
      exact ge_mid fun t ht => ⟨(Imm.refl _), rfl, ht.pick (l := [3]) (by kernel_rfl)⟩
  · rintro t I5 L' ⟨hI3, rfl, hK4⟩
    refine ge_at hK4 ?_
    refine ge_seq ?_
    refine gk_seq (by kernel_rfl) ?_
    refine gk_region (by kernel_rfl) ?_
    refine gl_pure 1 [6] (K' := [(6, .int .u64 j1)]) (by kernel_rfl) ?_
    refine gl_f64from (n := j1) Tryz.func105 (by kernel_rfl) (by kernel_rfl) (by kernel_rfl) (by kernel_rfl) (by kernel_rfl) (by kernel_rfl) ?_
    refine gl_pure 1 [2] (K' := [(2, .float .f64 ((j1 : Int).toNat))]) (by kernel_rfl) ?_
    refine gl_atE (by kernel_rfl) ?_
    refine ge_seq ?_
    refine gk_ret (by kernel_rfl) ?_
    obtain rfl := some_inj hr
    exact ge_result trivial (ResOk.tmp (by kernel_rfl) ResOk.nil) hI3 ⟨(j1 : Int).toNat, (FRep.of (j1 : Int).toNat), rfl, rfl⟩
/-! 210 math_ldexp  -/
noncomputable def math_ldexp (a0 : Fl) (a1 : Int) : Option Fl :=
  bif (fcmp .eql a0 (some 0 : Fl)) then
  (some a0)
  else
  (Option.bind (Option.bind (math_IsInf a0 0) fun (y7 : Bool) =>
      bif y7 then
      (some true)
      else
      (some (math_IsNaN a0))) fun (j2 : Bool) =>
    bif j2 then
    (some a0)
    else
    (Option.bind (math_normalize a0) fun (y11 : Fl × Int) =>
      Option.bind (fbits y11.1) fun (q18 : Int) =>
      bif (decide ((IntKind.wrap .i64 ((IntKind.wrap .i64 (a1 + y11.2)) + (IntKind.wrap .i64 ((bitAnd .i64 (IntKind.wrap .i64 (shr .u64 q18 52)) 2047) - 1023)))) < (-1075))) then
      (Option.bind (math_Copysign (some 0 : Fl) y11.1) fun (y21 : Fl) =>
        some y21)
      else
      (bif (decide ((IntKind.wrap .i64 ((IntKind.wrap .i64 (a1 + y11.2)) + (IntKind.wrap .i64 ((bitAnd .i64 (IntKind.wrap .i64 (shr .u64 q18 52)) 2047) - 1023)))) > 1023)) then
        (bif (fcmp .lss y11.1 (some 0 : Fl)) then
          (Option.bind (math_Inf (-1)) fun (y30 : Fl) =>
            some y30)
          else
          (Option.bind (math_Inf 1) fun (y37 : Fl) =>
            some y37))
        else
        (Option.bind (bif (decide ((IntKind.wrap .i64 ((IntKind.wrap .i64 (a1 + y11.2)) + (IntKind.wrap .i64 ((bitAnd .i64 (IntKind.wrap .i64 (shr .u64 q18 52)) 2047) - 1023)))) < (-1022))) then
            (some ((IntKind.wrap .i64 ((IntKind.wrap .i64 ((IntKind.wrap .i64 (a1 + y11.2)) + (IntKind.wrap .i64 ((bitAnd .i64 (IntKind.wrap .i64 (shr .u64 q18 52)) 2047) - 1023)))) + 53)), (some 4368491638549381120 : Fl)))
            else
            (some ((IntKind.wrap .i64 ((IntKind.wrap .i64 (a1 + y11.2)) + (IntKind.wrap .i64 ((bitAnd .i64 (IntKind.wrap .i64 (shr .u64 q18 52)) 2047) - 1023)))), (some 4607182418800017408 : Fl)))) fun (j44 : Int × Fl) =>
          some (farith .mul j44.2 (some ((bitOr .u64 (bitAndnot .u64 q18 9218868437227405312) (shl .u64 (IntKind.wrap .u64 (IntKind.wrap .i64 (j44.1 + 1023))) 52)) : Int).toNat : Fl))))))
theorem math_ldexp_walk {a0 : Fl} {b0_0 : Nat} {a1 : Int} {I : Imm} {r : Fl}  (hf0_0 : FRep a0 b0_0) (hr : math_ldexp a0 a1 = some r) (L : Own) :
    CallsTo Tryz.prog 210 #[.float .f64 b0_0, .int .i64 a1] I L (fun v I' L' => ∃ b0_0, FRep r b0_0 ∧ v = .float .f64 b0_0 ∧ L = L') := by
  unfold math_ldexp at hr
  refine callsTo_body (N := 63) Tryz.func210 (by kernel_rfl) (by kernel_rfl) (by kernel_rfl) ?_
  refine gk_pick [0, 1] (K' := [(0, .float .f64 b0_0), (1, .int .i64 a1)]) (by kernel_rfl) ?_
  refine gk_seq (by kernel_rfl) ?_
  refine gk_region (by kernel_rfl) ?_
  refine gl_pure 1 [0, 1] (K' := [(0, .float .f64 b0_0), (1, .int .i64 a1)]) (by kernel_rfl) ?_
  refine gl_atE (by kernel_rfl) ?_
  refine ge_seq ?_
  refine gk_seq (by kernel_rfl) ?_
  refine gk_block (by kernel_rfl) ?_
  refine gk_seq (by kernel_rfl) ?_
  refine gk_region (by kernel_rfl) ?_
  refine gl_pure 1 [0, 1, 9] (K' := [(0, .float .f64 b0_0), (1, .int .i64 a1), (9, .float .f64 b0_0)]) (by kernel_rfl) ?_
  refine gl_fcmp (op := .eql) (t := 37) (t' := 37) (xx := (.tmp 9)) (yy := (.const (.float .f64 0))) hf0_0 (FRep.of 0) (by kernel_rfl) (by kernel_rfl) rfl (by kernel_rfl) (by kernel_rfl) ?_
  refine gl_pure 1 [0, 1, 8] (K' := [(0, .float .f64 b0_0), (1, .int .i64 a1), (8, .bool (fcmp .eql a0 (some 0 : Fl)))]) (by kernel_rfl) ?_
  refine gl_atE (by kernel_rfl) ?_
  refine ge_seq ?_
  refine gk_cond (b := (fcmp .eql a0 (some 0 : Fl))) (by kernel_rfl) (by kernel_rfl) (fun hc1 => ?_) (fun hc1 => ?_)
  · have hr := cond_t hc1 hr
    refine gk_seq (by kernel_rfl) ?_
    refine gk_region (by kernel_rfl) ?_
    refine gl_pure 2 [4] (K' := [(4, .float .f64 b0_0)]) (by kernel_rfl) ?_
    refine gl_atE (by kernel_rfl) ?_
    refine ge_seq ?_
    refine gk_ret (by kernel_rfl) ?_
    refine ge_block_ret ?_
    refine ge_seq_ret ?_
    obtain rfl := some_inj hr
    exact ge_result trivial (ResOk.tmp (by kernel_rfl) ResOk.nil) (Imm.refl _) ⟨b0_0, hf0_0, rfl, rfl⟩
  · have hr := cond_f hc1 hr
    refine gk_seq (by kernel_rfl) ?_
    obtain ⟨j2, hj3, hr⟩ := bind_some hr
    refine gk_join (fun t I' L' => I ≤ I' ∧ L = L' ∧ Knows 63 [(0, .float .f64 b0_0), (1, .int .i64 a1), (12, .bool j2)] t) ?_ ?_
    · refine gk_region (by kernel_rfl) ?_
      refine gl_pure 1 [0, 1, 13] (K' := [(0, .float .f64 b0_0), (1, .int .i64 a1), (13, .float .f64 b0_0)]) (by kernel_rfl) ?_
      obtain ⟨y7, hx8, hj3⟩ := bind_some hj3
      refine gl_callQ (by kernel_rfl) (math_IsInf_walk (r := y7) hf0_0 hx8 _) ?_
      refine gl_pure 1 [0, 1, 15] (K' := [(0, .float .f64 b0_0), (1, .int .i64 a1), (15, .bool y7)]) (by kernel_rfl) ?_
      refine gl_case 15 (b := y7) (by kernel_rfl) (fun hc9 => ?_) (fun hc9 => ?_)
      · have hj3 := cond_t hc9 hj3
        refine gl_pure 4 [0, 1, 12] (K' := [(0, .float .f64 b0_0), (1, .int .i64 a1), (12, .bool true)]) (by kernel_rfl) ?_
        refine gl_atE (by kernel_rfl) ?_
        obtain rfl := some_inj hj3
        exact ge_mid fun t ht => ⟨(Imm.refl _), rfl, ht.pick (l := [0, 1, 12]) (by kernel_rfl)⟩
      · have hj3 := cond_f hc9 hj3
        refine gl_pure 1 [0, 1, 15, 16] (K' := [(0, .float .f64 b0_0), (1, .int .i64 a1), (15, .bool false), (16, .float .f64 b0_0)]) (by kernel_rfl) ?_
        refine gl_callQ (by kernel_rfl) (math_IsNaN_walk (r := (math_IsNaN a0)) hf0_0 rfl _) ?_
        refine gl_pure 2 [0, 1, 12] (K' := [(0, .float .f64 b0_0), (1, .int .i64 a1), (12, .bool (math_IsNaN a0))]) (by kernel_rfl) ?_
        refine gl_atE (by kernel_rfl) ?_
        obtain rfl := some_inj hj3
        exact ge_mid fun t ht => ⟨(Imm.refl _), rfl, ht.pick (l := [0, 1, 12]) (by kernel_rfl)⟩
    · rintro t I6 L' ⟨hI4, rfl, hK5⟩
      refine ge_at hK5 ?_
      refine ge_seq ?_
      refine gk_cond (b := j2) (by kernel_rfl) (by kernel_rfl) (fun hc10 => ?_) (fun hc10 => ?_)
      · have hr := cond_t hc10 hr
        refine gk_seq (by kernel_rfl) ?_
        refine gk_region (by kernel_rfl) ?_
        refine gl_pure 2 [4] (K' := [(4, .float .f64 b0_0)]) (by kernel_rfl) ?_
        refine gl_atE (by kernel_rfl) ?_
        refine ge_seq ?_
        refine gk_ret (by kernel_rfl) ?_
        refine ge_block_ret ?_
        refine ge_seq_ret ?_
        obtain rfl := some_inj hr
        exact ge_result trivial (ResOk.tmp (by kernel_rfl) ResOk.nil) hI4 ⟨b0_0, hf0_0, rfl, rfl⟩
      · have hr := cond_f hc10 hr
        refine gk_skip (by kernel_rfl) ?_
        refine ge_block_normal ?_
        refine ge_seq ?_
        refine gk_seq (by kernel_rfl) ?_
        refine gk_region (by kernel_rfl) ?_
        refine gl_pure 1 [1, 21] (K' := [(1, .int .i64 a1), (21, .float .f64 b0_0)]) (by kernel_rfl) ?_
        obtain ⟨y11, hx12, hr⟩ := bind_some hr
        refine gl_call (by kernel_rfl) (math_normalize_walk (r := y11) hf0_0 hx12 _) ?_
        rintro v I13 L14 hI15 ⟨z16, hO17, rfl, rfl⟩
        refine gl_pure 5 [0, 1, 5] (K' := [(0, .float .f64 z16), (1, .int .i64 a1), (5, .int .i64 y11.2)]) (by kernel_rfl) ?_
        refine gl_atE (by kernel_rfl) ?_
        refine ge_seq ?_
        refine gk_seq (by kernel_rfl) ?_
        refine gk_region (by kernel_rfl) ?_
        refine gl_pure 4 [0, 1] (K' := [(0, .float .f64 z16), (1, .int .i64 (IntKind.wrap .i64 (a1 + y11.2)))]) (by kernel_rfl) ?_
        refine gl_atE (by kernel_rfl) ?_
        refine ge_seq ?_
        refine gk_seq (by kernel_rfl) ?_
        refine gk_region (by kernel_rfl) ?_
        refine gl_pure 1 [0, 1, 28] (K' := [(0, .float .f64 z16), (1, .int .i64 (IntKind.wrap .i64 (a1 + y11.2))), (28, .float .f64 z16)]) (by kernel_rfl) ?_
        obtain ⟨q18, hx19, hr⟩ := bind_some hr
        refine gl_f64bits hx19 hO17 Tryz.func46 (by kernel_rfl) (by kernel_rfl) (by kernel_rfl) (by kernel_rfl) (by kernel_rfl) (by kernel_rfl) ?_
        refine gl_pure 1 [0, 1, 6] (K' := [(0, .float .f64 z16), (1, .int .i64 (IntKind.wrap .i64 (a1 + y11.2))), (6, .int .u64 q18)]) (by kernel_rfl) ?_
        refine gl_atE (by kernel_rfl) ?_
        refine ge_seq ?_
        refine gk_seq (by kernel_rfl) ?_
        refine gk_region (by kernel_rfl) ?_
        refine gl_pure 8 [0, 1, 6] (K' := [(0, .float .f64 z16), (1, .int .i64 (IntKind.wrap .i64 ((IntKind.wrap .i64 (a1 + y11.2)) + (IntKind.wrap .i64 ((bitAnd .i64 (IntKind.wrap .i64 (shr .u64 q18 52)) 2047) - 1023))))), (6, .int .u64 q18)]) (by kernel_rfl) ?_
        refine gl_atE (by kernel_rfl) ?_
        refine ge_seq ?_
        refine gk_seq (by kernel_rfl) ?_
        refine gk_seq (by kernel_rfl) ?_
        refine gk_region (by kernel_rfl) ?_
        refine gl_pure 2 [0, 1, 6, 38] (K' := [(0, .float .f64 z16), (1, .int .i64 (IntKind.wrap .i64 ((IntKind.wrap .i64 (a1 + y11.2)) + (IntKind.wrap .i64 ((bitAnd .i64 (IntKind.wrap .i64 (shr .u64 q18 52)) 2047) - 1023))))), (6, .int .u64 q18), (38, .bool (decide ((IntKind.wrap .i64 ((IntKind.wrap .i64 (a1 + y11.2)) + (IntKind.wrap .i64 ((bitAnd .i64 (IntKind.wrap .i64 (shr .u64 q18 52)) 2047) - 1023)))) < (-1075))))]) (by kernel_rfl) ?_
        refine gl_atE (by kernel_rfl) ?_
        refine ge_seq ?_
        refine gk_cond (b := (decide ((IntKind.wrap .i64 ((IntKind.wrap .i64 (a1 + y11.2)) + (IntKind.wrap .i64 ((bitAnd .i64 (IntKind.wrap .i64 (shr .u64 q18 52)) 2047) - 1023)))) < (-1075)))) (by kernel_rfl) (by kernel_rfl) (fun hc20 => ?_) (fun hc20 => ?_)
        · have hr := cond_t hc20 hr
          refine gk_seq (by kernel_rfl) ?_
          refine gk_region (by kernel_rfl) ?_
          refine gl_pure 1 [39] (K' := [(39, .float .f64 z16)]) (by kernel_rfl) ?_
          obtain ⟨y21, hx22, hr⟩ := bind_some hr
          refine gl_call (by kernel_rfl) (math_Copysign_walk (r := y21) (FRep.of 0) hO17 hx22 _) ?_
          rintro v I23 L24 hI25 ⟨z26, hO27, rfl, rfl⟩
          refine gl_pure 1 [4] (K' := [(4, .float .f64 z26)]) (by kernel_rfl) ?_
          refine gl_atE (by kernel_rfl) ?_
          refine ge_seq ?_
          refine gk_ret (by kernel_rfl) ?_
          refine ge_seq_ret ?_
          obtain rfl := some_inj hr
          exact ge_result trivial (ResOk.tmp (by kernel_rfl) ResOk.nil) (Imm.trans (Imm.trans hI4 hI15) hI25) ⟨z26, hO27, rfl, rfl⟩
        · have hr := cond_f hc20 hr
          refine gk_skip (by kernel_rfl) ?_
          refine ge_seq ?_
          refine gk_seq (by kernel_rfl) ?_
          refine gk_seq (by kernel_rfl) ?_
          refine gk_region (by kernel_rfl) ?_
          refine gl_pure 2 [0, 1, 6, 42] (K' := [(0, .float .f64 z16), (1, .int .i64 (IntKind.wrap .i64 ((IntKind.wrap .i64 (a1 + y11.2)) + (IntKind.wrap .i64 ((bitAnd .i64 (IntKind.wrap .i64 (shr .u64 q18 52)) 2047) - 1023))))), (6, .int .u64 q18), (42, .bool (decide ((IntKind.wrap .i64 ((IntKind.wrap .i64 (a1 + y11.2)) + (IntKind.wrap .i64 ((bitAnd .i64 (IntKind.wrap .i64 (shr .u64 q18 52)) 2047) - 1023)))) > 1023)))]) (by kernel_rfl) ?_
          refine gl_atE (by kernel_rfl) ?_
          refine ge_seq ?_
          refine gk_cond (b := (decide ((IntKind.wrap .i64 ((IntKind.wrap .i64 (a1 + y11.2)) + (IntKind.wrap .i64 ((bitAnd .i64 (IntKind.wrap .i64 (shr .u64 q18 52)) 2047) - 1023)))) > 1023))) (by kernel_rfl) (by kernel_rfl) (fun hc28 => ?_) (fun hc28 => ?_)
          · have hr := cond_t hc28 hr
            refine gk_seq (by kernel_rfl) ?_
            refine gk_seq (by kernel_rfl) ?_
            refine gk_region (by kernel_rfl) ?_
            refine gl_pure 1 [43] (K' := [(43, .float .f64 z16)]) (by kernel_rfl) ?_
            refine gl_fcmp (op := .lss) (t := 37) (t' := 37) (xx := (.tmp 43)) (yy := (.const (.float .f64 0))) hO17 (FRep.of 0) (by kernel_rfl) (by kernel_rfl) rfl (by kernel_rfl) (by kernel_rfl) ?_
            refine gl_atE (by kernel_rfl) ?_
            refine ge_seq ?_
            refine gk_cond (b := (fcmp .lss y11.1 (some 0 : Fl))) (by kernel_rfl) (by kernel_rfl) (fun hc29 => ?_) (fun hc29 => ?_)
            · have hr := cond_t hc29 hr
              refine gk_seq (by kernel_rfl) ?_
              refine gk_region (by kernel_rfl) ?_
              obtain ⟨y30, hx31, hr⟩ := bind_some hr
              refine gl_call (by kernel_rfl) (math_Inf_walk (r := y30)  hx31 _) ?_
              rintro v I32 L33 hI34 ⟨z35, hO36, rfl, rfl⟩
              refine gl_pure 1 [4] (K' := [(4, .float .f64 z35)]) (by kernel_rfl) ?_
              refine gl_atE (by kernel_rfl) ?_
              refine ge_seq ?_
              refine gk_ret (by kernel_rfl) ?_
              refine ge_seq_ret ?_
              refine ge_seq_ret ?_
              obtain rfl := some_inj hr
              exact ge_result trivial (ResOk.tmp (by kernel_rfl) ResOk.nil) (Imm.trans (Imm.trans hI4 hI15) hI34) ⟨z35, hO36, rfl, rfl⟩
            · have hr := cond_f hc29 hr
              refine gk_skip (by kernel_rfl) ?_
              refine ge_seq ?_
              refine gk_seq (by kernel_rfl) ?_
              refine gk_region (by kernel_rfl) ?_
              obtain ⟨y37, hx38, hr⟩ := bind_some hr
              refine gl_call (by kernel_rfl) (math_Inf_walk (r := y37)  hx38 _) ?_
              rintro v I39 L40 hI41 ⟨z42, hO43, rfl, rfl⟩
              refine gl_pure 1 [4] (K' := [(4, .float .f64 z42)]) (by kernel_rfl) ?_
              refine gl_atE (by kernel_rfl) ?_
              refine ge_seq ?_
              refine gk_ret (by kernel_rfl) ?_
              refine ge_seq_ret ?_
              obtain rfl := some_inj hr
              exact ge_result trivial (ResOk.tmp (by kernel_rfl) ResOk.nil) (Imm.trans (Imm.trans hI4 hI15) hI41) ⟨z42, hO43, rfl, rfl⟩
          · have hr := cond_f hc28 hr
            refine gk_skip (by kernel_rfl) ?_
            refine ge_seq ?_
            refine gk_seq (by kernel_rfl) ?_
            refine gk_region (by kernel_rfl) ?_
            refine gl_pure 1 [1, 6, 7] (K' := [(1, .int .i64 (IntKind.wrap .i64 ((IntKind.wrap .i64 (a1 + y11.2)) + (IntKind.wrap .i64 ((bitAnd .i64 (IntKind.wrap .i64 (shr .u64 q18 52)) 2047) - 1023))))), (6, .int .u64 q18), (7, .float .f64 4607182418800017408)]) (by kernel_rfl) ?_
            refine gl_atE (by kernel_rfl) ?_
            refine ge_seq ?_
            refine gk_seq (by kernel_rfl) ?_
            refine gk_seq (by kernel_rfl) ?_
            refine gk_region (by kernel_rfl) ?_
            refine gl_pure 2 [1, 6, 7, 48] (K' := [(1, .int .i64 (IntKind.wrap .i64 ((IntKind.wrap .i64 (a1 + y11.2)) + (IntKind.wrap .i64 ((bitAnd .i64 (IntKind.wrap .i64 (shr .u64 q18 52)) 2047) - 1023))))), (6, .int .u64 q18), (7, .float .f64 4607182418800017408), (48, .bool (decide ((IntKind.wrap .i64 ((IntKind.wrap .i64 (a1 + y11.2)) + (IntKind.wrap .i64 ((bitAnd .i64 (IntKind.wrap .i64 (shr .u64 q18 52)) 2047) - 1023)))) < (-1022))))]) (by kernel_rfl) ?_
            refine gl_atE (by kernel_rfl) ?_
            refine ge_seq ?_
            obtain ⟨j44, hj45, hr⟩ := bind_some hr
            refine gk_join (fun t I' L' => ∃ b47, FRep j44.2 b47 ∧ I13 ≤ I' ∧ L = L' ∧ Knows 63 [(1, .int .i64 j44.1), (6, .int .u64 q18), (7, .float .f64 b47)] t) ?_ ?_
            · refine gk_cond (b := (decide ((IntKind.wrap .i64 ((IntKind.wrap .i64 (a1 + y11.2)) + (IntKind.wrap .i64 ((bitAnd .i64 (IntKind.wrap .i64 (shr .u64 q18 52)) 2047) - 1023)))) < (-1022)))) (by kernel_rfl) (by kernel_rfl) (fun hc51 => ?_) (fun hc51 => ?_)
              · have hj45 := cond_t hc51 hj45
                refine gk_seq (by kernel_rfl) ?_
                refine gk_region (by kernel_rfl) ?_
                refine gl_pure 3 [1, 6] (K' := [(1, .int .i64 (IntKind.wrap .i64 ((IntKind.wrap .i64 ((IntKind.wrap .i64 (a1 + y11.2)) + (IntKind.wrap .i64 ((bitAnd .i64 (IntKind.wrap .i64 (shr .u64 q18 52)) 2047) - 1023)))) + 53))), (6, .int .u64 q18)]) (by kernel_rfl) ?_
                refine gl_atE (by kernel_rfl) ?_
                refine ge_seq ?_
                refine gk_region (by kernel_rfl) ?_
                refine gl_pure 1 [1, 6, 7] (K' := [(1, .int .i64 (IntKind.wrap .i64 ((IntKind.wrap .i64 ((IntKind.wrap .i64 (a1 + y11.2)) + (IntKind.wrap .i64 ((bitAnd .i64 (IntKind.wrap .i64 (shr .u64 q18 52)) 2047) - 1023)))) + 53))), (6, .int .u64 q18), (7, .float .f64 4368491638549381120)]) (by kernel_rfl) ?_
                refine gl_atE (by kernel_rfl) ?_
                obtain rfl := some_inj hj45
                exact ge_mid fun t ht => ⟨4368491638549381120, (FRep.of 4368491638549381120), (Imm.refl _), rfl, ht.pick (l := [1, 6, 7]) (by kernel_rfl)⟩
              · have hj45 := cond_f hc51 hj45
                refine gk_skip (by kernel_rfl) ?_
                obtain rfl := some_inj hj45
                exact ge_mid fun t ht => ⟨4607182418800017408, (FRep.of 4607182418800017408), (Imm.refl _), rfl, ht.pick (l := [1, 6, 7]) (by kernel_rfl)⟩
            · rintro t I50 L' ⟨b47, hb48, hI46, rfl, hK49⟩
              refine ge_at hK49 ?_
              refine ge_seq ?_
              refine gk_seq (by kernel_rfl) ?_
              refine gk_region (by kernel_rfl) ?_
              refine gl_pure 3 [1, 6, 7] (K' := [(1, .int .i64 j44.1), (6, .int .u64 (bitAndnot .u64 q18 9218868437227405312)), (7, .float .f64 b47)]) (by kernel_rfl) ?_
              refine gl_atE (by kernel_rfl) ?_
              refine ge_seq ?_
              refine gk_seq (by kernel_rfl) ?_
              refine gk_region (by kernel_rfl) ?_
              refine gl_pure 7 [6, 7] (K' := [(6, .int .u64 (bitOr .u64 (bitAndnot .u64 q18 9218868437227405312) (shl .u64 (IntKind.wrap .u64 (IntKind.wrap .i64 (j44.1 + 1023))) 52))), (7, .float .f64 b47)]) (by kernel_rfl) ?_
              refine gl_atE (by kernel_rfl) ?_
              refine ge_seq ?_
              refine gk_seq (by kernel_rfl) ?_
              refine gk_region (by kernel_rfl) ?_
              refine gl_pure 2 [59, 60] (K' := [(59, .float .f64 b47), (60, .int .u64 (bitOr .u64 (bitAndnot .u64 q18 9218868437227405312) (shl .u64 (IntKind.wrap .u64 (IntKind.wrap .i64 (j44.1 + 1023))) 52)))]) (by kernel_rfl) ?_
              refine gl_f64from (n := (bitOr .u64 (bitAndnot .u64 q18 9218868437227405312) (shl .u64 (IntKind.wrap .u64 (IntKind.wrap .i64 (j44.1 + 1023))) 52))) Tryz.func105 (by kernel_rfl) (by kernel_rfl) (by kernel_rfl) (by kernel_rfl) (by kernel_rfl) (by kernel_rfl) ?_
              refine gl_farith (op := .mul) (t := 37) (t' := 37) (xx := (.tmp 59)) (yy := (.tmp 61)) hb48 (FRep.of ((bitOr .u64 (bitAndnot .u64 q18 9218868437227405312) (shl .u64 (IntKind.wrap .u64 (IntKind.wrap .i64 (j44.1 + 1023))) 52)) : Int).toNat) (by kernel_rfl) (by kernel_rfl) rfl (by kernel_rfl) (by kernel_rfl) (fun b52 hf53 => ?_)
              refine gl_pure 1 [4] (K' := [(4, .float .f64 b52)]) (by kernel_rfl) ?_
              refine gl_atE (by kernel_rfl) ?_
              refine ge_seq ?_
              refine gk_ret (by kernel_rfl) ?_
              obtain rfl := some_inj hr
              exact ge_result trivial (ResOk.tmp (by kernel_rfl) ResOk.nil) (Imm.trans (Imm.trans hI4 hI15) hI46) ⟨b52, hf53, rfl, rfl⟩
/-! 203 math_Ldexp  -/
noncomputable def math_Ldexp (a0 : Fl) (a1 : Int) : Option Fl :=
  Option.bind (math_ldexp a0 a1) fun (y1 : Fl) =>
  some y1
theorem math_Ldexp_walk {a0 : Fl} {b0_0 : Nat} {a1 : Int} {I : Imm} {r : Fl}  (hf0_0 : FRep a0 b0_0) (hr : math_Ldexp a0 a1 = some r) (L : Own) :
    CallsTo Tryz.prog 203 #[.float .f64 b0_0, .int .i64 a1] I L (fun v I' L' => ∃ b0_0, FRep r b0_0 ∧ v = .float .f64 b0_0 ∧ L = L') := by
  unfold math_Ldexp at hr
  refine callsTo_body (N := 11) Tryz.func203 (by kernel_rfl) (by kernel_rfl) (by kernel_rfl) ?_
  refine gk_pick [0, 1] (K' := [(0, .float .f64 b0_0), (1, .int .i64 a1)]) (by kernel_rfl) ?_
  refine gk_seq (by kernel_rfl) ?_
  refine gk_region (by kernel_rfl) ?_
  refine gl_pure 1 [0, 1] (K' := [(0, .float .f64 b0_0), (1, .int .i64 a1)]) (by kernel_rfl) ?_
  refine gl_atE (by kernel_rfl) ?_
  refine ge_seq ?_
  refine gk_seq (by kernel_rfl) ?_
  refine gk_cond (b := false) (by kernel_rfl) (by kernel_rfl) (fun h => by cases h) (fun _ => ?_)
  refine gk_skip (by kernel_rfl) ?_
  refine ge_seq ?_
  refine gk_seq (by kernel_rfl) ?_
  refine gk_region (by kernel_rfl) ?_
  refine gl_pure 2 [8, 9] (K' := [(8, .float .f64 b0_0), (9, .int .i64 a1)]) (by kernel_rfl) ?_
  obtain ⟨y1, hx2, hr⟩ := bind_some hr
  refine gl_call (by kernel_rfl) (math_ldexp_walk (r := y1) hf0_0 hx2 _) ?_
  rintro v I3 L4 hI5 ⟨z6, hO7, rfl, rfl⟩
  refine gl_pure 1 [4] (K' := [(4, .float .f64 z6)]) (by kernel_rfl) ?_
  refine gl_atE (by kernel_rfl) ?_
  refine ge_seq ?_
  refine gk_ret (by kernel_rfl) ?_
  obtain rfl := some_inj hr
  exact ge_result trivial (ResOk.tmp (by kernel_rfl) ResOk.nil) hI5 ⟨z6, hO7, rfl, rfl⟩
/-! 189 math_mod  -/
noncomputable def math_mod_l60 (y17 : Fl) (y24 : Fl × Int) : Fl → Option ((Fl) ⊕ (Fl)) := fun s47 =>
  bif (fcmp .geq s47 y17) then
  (Option.bind (math_Frexp s47) fun (y63 : Fl × Int) =>
    Option.bind (bif (fcmp .lss y63.1 y24.1) then
      (some (IntKind.wrap .i64 (y63.2 - 1)))
      else
      (some y63.2)) fun (j70 : Int) =>
    Option.bind (math_Ldexp y17 (IntKind.wrap .i64 (j70 - y24.2))) fun (y76 : Fl) =>
    some (Sum.inl (farith .sub s47 y76)))
  else
  (some (Sum.inr s47))
noncomputable def math_mod (a0 : Fl) (a1 : Fl) : Option Fl :=
  Option.bind (bif (fcmp .eql a1 (some 0 : Fl)) then
    (some true)
    else
    (Option.bind (math_IsInf a0 0) fun (y7 : Bool) =>
      bif y7 then
      (some true)
      else
      (bif (math_IsNaN a0) then
        (some true)
        else
        (some (math_IsNaN a1))))) fun (j1 : Bool) =>
  bif j1 then
  (some math_NaN)
  else
  (Option.bind (math_Abs a1) fun (y17 : Fl) =>
    Option.bind (math_Frexp y17) fun (y24 : Fl × Int) =>
    Option.bind (bif (fcmp .lss a0 (some 0 : Fl)) then
      (some (fneg a0))
      else
      (some a0)) fun (j31 : Fl) =>
    Option.bind (loopO (math_mod_l60 y17 y24) j31) fun (r45 : Fl) =>
    Option.bind (bif (fcmp .lss a0 (some 0 : Fl)) then
      (some (fneg r45))
      else
      (some r45)) fun (j85 : Fl) =>
    some j85)
theorem math_mod_walk {a0 : Fl} {b0_0 : Nat} {a1 : Fl} {b1_0 : Nat} {I : Imm} {r : Fl}  (hf0_0 : FRep a0 b0_0)  (hf1_0 : FRep a1 b1_0) (hr : math_mod a0 a1 = some r) (L : Own) :
    CallsTo Tryz.prog 189 #[.float .f64 b0_0, .float .f64 b1_0] I L (fun v I' L' => ∃ b0_0, FRep r b0_0 ∧ v = .float .f64 b0_0 ∧ L = L') := by
  unfold math_mod at hr
  refine callsTo_body (N := 62) Tryz.func189 (by kernel_rfl) (by kernel_rfl) (by kernel_rfl) ?_
  refine gk_pick [0, 1] (K' := [(0, .float .f64 b0_0), (1, .float .f64 b1_0)]) (by kernel_rfl) ?_
  refine gk_seq (by kernel_rfl) ?_
  refine gk_region (by kernel_rfl) ?_
  refine gl_pure 1 [0, 1] (K' := [(0, .float .f64 b0_0), (1, .float .f64 b1_0)]) (by kernel_rfl) ?_
  refine gl_atE (by kernel_rfl) ?_
  refine ge_seq ?_
  refine gk_seq (by kernel_rfl) ?_
  refine gk_seq (by kernel_rfl) ?_
  obtain ⟨j1, hj2, hr⟩ := bind_some hr
  refine gk_join (fun t I' L' => I ≤ I' ∧ L = L' ∧ Knows 62 [(0, .float .f64 b0_0), (1, .float .f64 b1_0), (23, .bool j1)] t) ?_ ?_
  · refine gk_region (by kernel_rfl) ?_
    refine gl_pure 1 [0, 1, 10] (K' := [(0, .float .f64 b0_0), (1, .float .f64 b1_0), (10, .float .f64 b1_0)]) (by kernel_rfl) ?_
    refine gl_fcmp (op := .eql) (t := 37) (t' := 37) (xx := (.tmp 10)) (yy := (.const (.float .f64 0))) hf1_0 (FRep.of 0) (by kernel_rfl) (by kernel_rfl) rfl (by kernel_rfl) (by kernel_rfl) ?_
    refine gl_pure 1 [0, 1, 12] (K' := [(0, .float .f64 b0_0), (1, .float .f64 b1_0), (12, .bool (fcmp .eql a1 (some 0 : Fl)))]) (by kernel_rfl) ?_
    refine gl_case 12 (b := (fcmp .eql a1 (some 0 : Fl))) (by kernel_rfl) (fun hc6 => ?_) (fun hc6 => ?_)
    · have hj2 := cond_t hc6 hj2
      refine gl_pure 11 [0, 1, 23] (K' := [(0, .float .f64 b0_0), (1, .float .f64 b1_0), (23, .bool true)]) (by kernel_rfl) ?_
      refine gl_atE (by kernel_rfl) ?_
      obtain rfl := some_inj hj2
      exact ge_mid fun t ht => ⟨(Imm.refl _), rfl, ht.pick (l := [0, 1, 23]) (by kernel_rfl)⟩
    · have hj2 := cond_f hc6 hj2
      refine gl_pure 1 [0, 1, 12, 13] (K' := [(0, .float .f64 b0_0), (1, .float .f64 b1_0), (12, .bool false), (13, .float .f64 b0_0)]) (by kernel_rfl) ?_
      obtain ⟨y7, hx8, hj2⟩ := bind_some hj2
      refine gl_callQ (by kernel_rfl) (math_IsInf_walk (r := y7) hf0_0 hx8 _) ?_
      refine gl_pure 2 [0, 1, 16] (K' := [(0, .float .f64 b0_0), (1, .float .f64 b1_0), (16, .bool y7)]) (by kernel_rfl) ?_
      refine gl_case 16 (b := y7) (by kernel_rfl) (fun hc9 => ?_) (fun hc9 => ?_)
      · have hj2 := cond_t hc9 hj2
        refine gl_pure 7 [0, 1, 23] (K' := [(0, .float .f64 b0_0), (1, .float .f64 b1_0), (23, .bool true)]) (by kernel_rfl) ?_
        refine gl_atE (by kernel_rfl) ?_
        obtain rfl := some_inj hj2
        exact ge_mid fun t ht => ⟨(Imm.refl _), rfl, ht.pick (l := [0, 1, 23]) (by kernel_rfl)⟩
      · have hj2 := cond_f hc9 hj2
        refine gl_pure 1 [0, 1, 16, 17] (K' := [(0, .float .f64 b0_0), (1, .float .f64 b1_0), (16, .bool false), (17, .float .f64 b0_0)]) (by kernel_rfl) ?_
        refine gl_callQ (by kernel_rfl) (math_IsNaN_walk (r := (math_IsNaN a0)) hf0_0 rfl _) ?_
        refine gl_pure 2 [0, 1, 20] (K' := [(0, .float .f64 b0_0), (1, .float .f64 b1_0), (20, .bool (math_IsNaN a0))]) (by kernel_rfl) ?_
        refine gl_case 20 (b := (math_IsNaN a0)) (by kernel_rfl) (fun hc10 => ?_) (fun hc10 => ?_)
        · have hj2 := cond_t hc10 hj2
          refine gl_pure 3 [0, 1, 23] (K' := [(0, .float .f64 b0_0), (1, .float .f64 b1_0), (23, .bool true)]) (by kernel_rfl) ?_
          refine gl_atE (by kernel_rfl) ?_
          obtain rfl := some_inj hj2
          exact ge_mid fun t ht => ⟨(Imm.refl _), rfl, ht.pick (l := [0, 1, 23]) (by kernel_rfl)⟩
        · have hj2 := cond_f hc10 hj2
          refine gl_pure 1 [0, 1, 20, 21] (K' := [(0, .float .f64 b0_0), (1, .float .f64 b1_0), (20, .bool false), (21, .float .f64 b1_0)]) (by kernel_rfl) ?_
          refine gl_callQ (by kernel_rfl) (math_IsNaN_walk (r := (math_IsNaN a1)) hf1_0 rfl _) ?_
          refine gl_pure 1 [0, 1, 23] (K' := [(0, .float .f64 b0_0), (1, .float .f64 b1_0), (23, .bool (math_IsNaN a1))]) (by kernel_rfl) ?_
          refine gl_atE (by kernel_rfl) ?_
          obtain rfl := some_inj hj2
          exact ge_mid fun t ht => ⟨(Imm.refl _), rfl, ht.pick (l := [0, 1, 23]) (by kernel_rfl)⟩
  · rintro t I5 L' ⟨hI3, rfl, hK4⟩
    refine ge_at hK4 ?_
    refine ge_seq ?_
    refine gk_cond (b := j1) (by kernel_rfl) (by kernel_rfl) (fun hc11 => ?_) (fun hc11 => ?_)
    · have hr := cond_t hc11 hr
      refine gk_seq (by kernel_rfl) ?_
      refine gk_region (by kernel_rfl) ?_
      refine gl_call (by kernel_rfl) (math_NaN_walk (r := math_NaN)  rfl _) ?_
      rintro v I12 L13 hI14 ⟨z15, hO16, rfl, rfl⟩
      refine gl_pure 1 [4] (K' := [(4, .float .f64 z15)]) (by kernel_rfl) ?_
      refine gl_atE (by kernel_rfl) ?_
      refine ge_seq ?_
      refine gk_ret (by kernel_rfl) ?_
      refine ge_seq_ret ?_
      obtain rfl := some_inj hr
      exact ge_result trivial (ResOk.tmp (by kernel_rfl) ResOk.nil) (Imm.trans hI3 hI14) ⟨z15, hO16, rfl, rfl⟩
    · have hr := cond_f hc11 hr
      refine gk_skip (by kernel_rfl) ?_
      refine ge_seq ?_
      refine gk_seq (by kernel_rfl) ?_
      refine gk_region (by kernel_rfl) ?_
      refine gl_pure 1 [0, 25] (K' := [(0, .float .f64 b0_0), (25, .float .f64 b1_0)]) (by kernel_rfl) ?_
      obtain ⟨y17, hx18, hr⟩ := bind_some hr
      refine gl_call (by kernel_rfl) (math_Abs_walk (r := y17) hf1_0 hx18 _) ?_
      rintro v I19 L20 hI21 ⟨z22, hO23, rfl, rfl⟩
      refine gl_pure 1 [0, 1] (K' := [(0, .float .f64 b0_0), (1, .float .f64 z22)]) (by kernel_rfl) ?_
      refine gl_atE (by kernel_rfl) ?_
      refine ge_seq ?_
      refine gk_seq (by kernel_rfl) ?_
      refine gk_region (by kernel_rfl) ?_
      refine gl_pure 1 [0, 1, 28] (K' := [(0, .float .f64 b0_0), (1, .float .f64 z22), (28, .float .f64 z22)]) (by kernel_rfl) ?_
      obtain ⟨y24, hx25, hr⟩ := bind_some hr
      refine gl_call (by kernel_rfl) (math_Frexp_walk (r := y24) hO23 hx25 _) ?_
      rintro v I26 L27 hI28 ⟨z29, hO30, rfl, rfl⟩
      refine gl_pure 5 [0, 1, 5, 6] (K' := [(0, .float .f64 b0_0), (1, .float .f64 z22), (5, .float .f64 z29), (6, .int .i64 y24.2)]) (by kernel_rfl) ?_
      refine gl_atE (by kernel_rfl) ?_
      refine ge_seq ?_
      refine gk_seq (by kernel_rfl) ?_
      refine gk_region (by kernel_rfl) ?_
      refine gl_pure 2 [0, 1, 5, 6, 7] (K' := [(0, .float .f64 b0_0), (1, .float .f64 z22), (5, .float .f64 z29), (6, .int .i64 y24.2), (7, .float .f64 b0_0)]) (by kernel_rfl) ?_
      refine gl_atE (by kernel_rfl) ?_
      refine ge_seq ?_
      refine gk_seq (by kernel_rfl) ?_
      refine gk_seq (by kernel_rfl) ?_
      refine gk_region (by kernel_rfl) ?_
      refine gl_pure 1 [0, 1, 5, 6, 7, 33] (K' := [(0, .float .f64 b0_0), (1, .float .f64 z22), (5, .float .f64 z29), (6, .int .i64 y24.2), (7, .float .f64 b0_0), (33, .float .f64 b0_0)]) (by kernel_rfl) ?_
      refine gl_fcmp (op := .lss) (t := 37) (t' := 37) (xx := (.tmp 33)) (yy := (.const (.float .f64 0))) hf0_0 (FRep.of 0) (by kernel_rfl) (by kernel_rfl) rfl (by kernel_rfl) (by kernel_rfl) ?_
      refine gl_atE (by kernel_rfl) ?_
      refine ge_seq ?_
      obtain ⟨j31, hj32, hr⟩ := bind_some hr
      refine gk_join (fun t I' L' => ∃ b34, FRep j31 b34 ∧ I26 ≤ I' ∧ L = L' ∧ Knows 62 [(0, .float .f64 b0_0), (1, .float .f64 z22), (5, .float .f64 z29), (6, .int .i64 y24.2), (7, .float .f64 b34)] t) ?_ ?_
      · refine gk_cond (b := (fcmp .lss a0 (some 0 : Fl))) (by kernel_rfl) (by kernel_rfl) (fun hc38 => ?_) (fun hc38 => ?_)
        · have hj32 := cond_t hc38 hj32
          refine gk_region (by kernel_rfl) ?_
          refine gl_pure 3 [0, 1, 5, 6, 7] (K' := [(0, .float .f64 b0_0), (1, .float .f64 z22), (5, .float .f64 z29), (6, .int .i64 y24.2), (7, .float .f64 (Op.negFloat .f64 b0_0))]) (by kernel_rfl) ?_
          refine gl_atE (by kernel_rfl) ?_
          obtain rfl := some_inj hj32
          exact ge_mid fun t ht => ⟨(Op.negFloat .f64 b0_0), (fneg_rep hf0_0), (Imm.refl _), rfl, ht.pick (l := [0, 1, 5, 6, 7]) (by kernel_rfl)⟩
        · have hj32 := cond_f hc38 hj32
          refine gk_skip (by kernel_rfl) ?_
          obtain rfl := some_inj hj32
          exact ge_mid fun t ht => ⟨b0_0, hf0_0, (Imm.refl _), rfl, ht.pick (l := [0, 1, 5, 6, 7]) (by kernel_rfl)⟩
      · rintro t I37 L' ⟨b34, hb35, hI33, rfl, hK36⟩
        refine ge_at hK36 ?_
        refine ge_seq ?_
        refine gk_seq (by kernel_rfl) ?_
        obtain ⟨r45, hl46, hr⟩ := bind_some hr
        refine gk_join (fun t I' L' => ∃ b56, FRep r45 b56 ∧ I37 ≤ I' ∧ L = L' ∧ Knows 62 [(0, .float .f64 b0_0), (7, .float .f64 b56)] t) ?_ ?_
        · refine gk_block (by kernel_rfl) ?_
          refine gk_pick [0, 1, 5, 6, 7] (K' := [(0, .float .f64 b0_0), (1, .float .f64 z22), (5, .float .f64 z29), (6, .int .i64 y24.2), (7, .float .f64 b34)]) (by kernel_rfl) ?_
          intro t hK
          refine gc_loop (math_mod_l60 y17 y24) (fun s47 t I' L' => ∃ b51, FRep s47 b51 ∧ I37 ≤ I' ∧ L = L' ∧ Knows 62 [(0, .float .f64 b0_0), (1, .float .f64 z22), (5, .float .f64 z29), (6, .int .i64 y24.2), (7, .float .f64 b51)] t) (by kernel_rfl) ?_ hl46 ⟨b34, hb35, (Imm.refl _), rfl, hK⟩
          rintro s47 o48 t I54 L' hb49 ⟨b51, hb52, hI50, rfl, hK53⟩
          unfold math_mod_l60 at hb49
          refine gk_at hK53 ?_
          refine gk_seq (by kernel_rfl) ?_
          refine gk_seq (by kernel_rfl) ?_
          refine gk_region (by kernel_rfl) ?_
          refine gl_pure 2 [0, 1, 5, 6, 7, 37, 38] (K' := [(0, .float .f64 b0_0), (1, .float .f64 z22), (5, .float .f64 z29), (6, .int .i64 y24.2), (7, .float .f64 b51), (37, .float .f64 b51), (38, .float .f64 z22)]) (by kernel_rfl) ?_
          refine gl_fcmp (op := .geq) (t := 37) (t' := 37) (xx := (.tmp 37)) (yy := (.tmp 38)) hb52 hO23 (by kernel_rfl) (by kernel_rfl) rfl (by kernel_rfl) (by kernel_rfl) ?_
          refine gl_atE (by kernel_rfl) ?_
          refine ge_seq ?_
          refine gk_cond (b := (fcmp .geq s47 y17)) (by kernel_rfl) (by kernel_rfl) (fun hc62 => ?_) (fun hc62 => ?_)
          · have hb49 := cond_t hc62 hb49
            refine gk_skip (by kernel_rfl) ?_
            refine ge_seq ?_
            refine gk_block (by kernel_rfl) ?_
            refine gk_seq (by kernel_rfl) ?_
            refine gk_region (by kernel_rfl) ?_
            refine gl_pure 1 [0, 1, 5, 6, 7, 41] (K' := [(0, .float .f64 b0_0), (1, .float .f64 z22), (5, .float .f64 z29), (6, .int .i64 y24.2), (7, .float .f64 b51), (41, .float .f64 b51)]) (by kernel_rfl) ?_
            obtain ⟨y63, hx64, hb49⟩ := bind_some hb49
            refine gl_call (by kernel_rfl) (math_Frexp_walk (r := y63) hb52 hx64 _) ?_
            rintro v I65 L66 hI67 ⟨z68, hO69, rfl, rfl⟩
            refine gl_pure 5 [0, 1, 5, 6, 7, 8, 9] (K' := [(0, .float .f64 b0_0), (1, .float .f64 z22), (5, .float .f64 z29), (6, .int .i64 y24.2), (7, .float .f64 b51), (8, .float .f64 z68), (9, .int .i64 y63.2)]) (by kernel_rfl) ?_
            refine gl_atE (by kernel_rfl) ?_
            refine ge_seq ?_
            refine gk_seq (by kernel_rfl) ?_
            refine gk_seq (by kernel_rfl) ?_
            refine gk_region (by kernel_rfl) ?_
            refine gl_pure 2 [0, 1, 5, 6, 7, 9, 45, 46] (K' := [(0, .float .f64 b0_0), (1, .float .f64 z22), (5, .float .f64 z29), (6, .int .i64 y24.2), (7, .float .f64 b51), (9, .int .i64 y63.2), (45, .float .f64 z68), (46, .float .f64 z29)]) (by kernel_rfl) ?_
            refine gl_fcmp (op := .lss) (t := 37) (t' := 37) (xx := (.tmp 45)) (yy := (.tmp 46)) hO69 hO30 (by kernel_rfl) (by kernel_rfl) rfl (by kernel_rfl) (by kernel_rfl) ?_
            refine gl_atE (by kernel_rfl) ?_
            refine ge_seq ?_
            obtain ⟨j70, hj71, hb49⟩ := bind_some hb49
            refine gk_join (fun t I' L' => I65 ≤ I' ∧ L = L' ∧ Knows 62 [(0, .float .f64 b0_0), (1, .float .f64 z22), (5, .float .f64 z29), (6, .int .i64 y24.2), (7, .float .f64 b51), (9, .int .i64 j70)] t) ?_ ?_
            · refine gk_cond (b := (fcmp .lss y63.1 y24.1)) (by kernel_rfl) (by kernel_rfl) (fun hc75 => ?_) (fun hc75 => ?_)
              · have hj71 := cond_t hc75 hj71
                refine gk_region (by kernel_rfl) ?_
                refine gl_pure 3 [0, 1, 5, 6, 7, 9] (K' := [(0, .float .f64 b0_0), (1, .float .f64 z22), (5, .float .f64 z29), (6, .int .i64 y24.2), (7, .float .f64 b51), (9, .int .i64 (IntKind.wrap .i64 (y63.2 - 1)))]) (by kernel_rfl) ?_
                refine gl_atE (by kernel_rfl) ?_
                obtain rfl := some_inj hj71
                exact ge_mid fun t ht => ⟨(Imm.refl _), rfl, ht.pick (l := [0, 1, 5, 6, 7, 9]) (by kernel_rfl)⟩
              · have hj71 := cond_f hc75 hj71
                refine gk_skip (by kernel_rfl) ?_
                obtain rfl := some_inj hj71
                exact ge_mid fun t ht => ⟨(Imm.refl _), rfl, ht.pick (l := [0, 1, 5, 6, 7, 9]) (by kernel_rfl)⟩
            · rintro t I74 L' ⟨hI72, rfl, hK73⟩
              refine ge_at hK73 ?_
              refine ge_seq ?_
              refine gk_region (by kernel_rfl) ?_
              refine gl_pure 5 [0, 1, 5, 6, 50, 51, 54] (K' := [(0, .float .f64 b0_0), (1, .float .f64 z22), (5, .float .f64 z29), (6, .int .i64 y24.2), (50, .float .f64 b51), (51, .float .f64 z22), (54, .int .i64 (IntKind.wrap .i64 (j70 - y24.2)))]) (by kernel_rfl) ?_
              obtain ⟨y76, hx77, hb49⟩ := bind_some hb49
              refine gl_call (by kernel_rfl) (math_Ldexp_walk (r := y76) hO23 hx77 _) ?_
              rintro v I78 L79 hI80 ⟨z81, hO82, rfl, rfl⟩
              refine gl_farith (op := .sub) (t := 37) (t' := 37) (xx := (.tmp 50)) (yy := (.tmp 55)) hb52 hO82 (by kernel_rfl) (by kernel_rfl) rfl (by kernel_rfl) (by kernel_rfl) (fun b83 hf84 => ?_)
              refine gl_pure 1 [0, 1, 5, 6, 7] (K' := [(0, .float .f64 b0_0), (1, .float .f64 z22), (5, .float .f64 z29), (6, .int .i64 y24.2), (7, .float .f64 b83)]) (by kernel_rfl) ?_
              refine gl_atE (by kernel_rfl) ?_
              refine ge_block_normal ?_
              obtain rfl := some_inj hb49
              exact ge_round fun t ht => ⟨b83, hf84, (Imm.trans (Imm.trans (Imm.trans hI50 hI67) hI72) hI80), rfl, ht.pick (l := [0, 1, 5, 6, 7]) (by kernel_rfl)⟩
          · have hb49 := cond_f hc62 hb49
            refine gk_exit (by kernel_rfl) ?_
            refine ge_seq_exit ?_
            obtain rfl := some_inj hb49
            refine ge_round_out (fun hrr => ?_) (by intro h; cases h)
            obtain rfl := hrr
            refine ge_block_hit (by kernel_rfl) ?_
            exact ge_mid fun t ht => ⟨b51, hb52, hI50, rfl, ht.pick (l := [0, 7]) (by kernel_rfl)⟩
        · rintro t I59 L' ⟨b56, hb57, hI55, rfl, hK58⟩
          refine ge_at hK58 ?_
          refine ge_seq ?_
          refine gk_seq (by kernel_rfl) ?_
          refine gk_seq (by kernel_rfl) ?_
          refine gk_region (by kernel_rfl) ?_
          refine gl_pure 1 [7, 57] (K' := [(7, .float .f64 b56), (57, .float .f64 b0_0)]) (by kernel_rfl) ?_
          refine gl_fcmp (op := .lss) (t := 37) (t' := 37) (xx := (.tmp 57)) (yy := (.const (.float .f64 0))) hf0_0 (FRep.of 0) (by kernel_rfl) (by kernel_rfl) rfl (by kernel_rfl) (by kernel_rfl) ?_
          refine gl_atE (by kernel_rfl) ?_
          refine ge_seq ?_
          obtain ⟨j85, hj86, hr⟩ := bind_some hr
          refine gk_join (fun t I' L' => ∃ b88, FRep j85 b88 ∧ I59 ≤ I' ∧ L = L' ∧ Knows 62 [(7, .float .f64 b88)] t) ?_ ?_
          · refine gk_cond (b := (fcmp .lss a0 (some 0 : Fl))) (by kernel_rfl) (by kernel_rfl) (fun hc92 => ?_) (fun hc92 => ?_)
            · have hj86 := cond_t hc92 hj86
              refine gk_region (by kernel_rfl) ?_
              refine gl_pure 3 [7] (K' := [(7, .float .f64 (Op.negFloat .f64 b56))]) (by kernel_rfl) ?_
              refine gl_atE (by kernel_rfl) ?_
              obtain rfl := some_inj hj86
              exact ge_mid fun t ht => ⟨(Op.negFloat .f64 b56), (fneg_rep hb57), (Imm.refl _), rfl, ht.pick (l := [7]) (by kernel_rfl)⟩
            · have hj86 := cond_f hc92 hj86
              refine gk_skip (by kernel_rfl) ?_
              obtain rfl := some_inj hj86
              exact ge_mid fun t ht => ⟨b56, hb57, (Imm.refl _), rfl, ht.pick (l := [7]) (by kernel_rfl)⟩
          · rintro t I91 L' ⟨b88, hb89, hI87, rfl, hK90⟩
            refine ge_at hK90 ?_
            refine ge_seq ?_
            refine gk_seq (by kernel_rfl) ?_
            refine gk_region (by kernel_rfl) ?_
            refine gl_pure 2 [4] (K' := [(4, .float .f64 b88)]) (by kernel_rfl) ?_
            refine gl_atE (by kernel_rfl) ?_
            refine ge_seq ?_
            refine gk_ret (by kernel_rfl) ?_
            obtain rfl := some_inj hr
            exact ge_result trivial (ResOk.tmp (by kernel_rfl) ResOk.nil) (Imm.trans (Imm.trans (Imm.trans (Imm.trans (Imm.trans hI3 hI21) hI28) hI33) hI55) hI87) ⟨b88, hb89, rfl, rfl⟩
/-! 163 math_Mod  -/
noncomputable def math_Mod (a0 : Fl) (a1 : Fl) : Option Fl :=
  Option.bind (math_mod a0 a1) fun (y1 : Fl) =>
  some y1
theorem math_Mod_walk {a0 : Fl} {b0_0 : Nat} {a1 : Fl} {b1_0 : Nat} {I : Imm} {r : Fl}  (hf0_0 : FRep a0 b0_0)  (hf1_0 : FRep a1 b1_0) (hr : math_Mod a0 a1 = some r) (L : Own) :
    CallsTo Tryz.prog 163 #[.float .f64 b0_0, .float .f64 b1_0] I L (fun v I' L' => ∃ b0_0, FRep r b0_0 ∧ v = .float .f64 b0_0 ∧ L = L') := by
  unfold math_Mod at hr
  refine callsTo_body (N := 11) Tryz.func163 (by kernel_rfl) (by kernel_rfl) (by kernel_rfl) ?_
  refine gk_pick [0, 1] (K' := [(0, .float .f64 b0_0), (1, .float .f64 b1_0)]) (by kernel_rfl) ?_
  refine gk_seq (by kernel_rfl) ?_
  refine gk_region (by kernel_rfl) ?_
  refine gl_pure 1 [0, 1] (K' := [(0, .float .f64 b0_0), (1, .float .f64 b1_0)]) (by kernel_rfl) ?_
  refine gl_atE (by kernel_rfl) ?_
  refine ge_seq ?_
  refine gk_seq (by kernel_rfl) ?_
  refine gk_cond (b := false) (by kernel_rfl) (by kernel_rfl) (fun h => by cases h) (fun _ => ?_)
  refine gk_skip (by kernel_rfl) ?_
  refine ge_seq ?_
  refine gk_seq (by kernel_rfl) ?_
  refine gk_region (by kernel_rfl) ?_
  refine gl_pure 2 [8, 9] (K' := [(8, .float .f64 b0_0), (9, .float .f64 b1_0)]) (by kernel_rfl) ?_
  obtain ⟨y1, hx2, hr⟩ := bind_some hr
  refine gl_call (by kernel_rfl) (math_mod_walk (r := y1) hf0_0 hf1_0 hx2 _) ?_
  rintro v I3 L4 hI5 ⟨z6, hO7, rfl, rfl⟩
  refine gl_pure 1 [4] (K' := [(4, .float .f64 z6)]) (by kernel_rfl) ?_
  refine gl_atE (by kernel_rfl) ?_
  refine ge_seq ?_
  refine gk_ret (by kernel_rfl) ?_
  obtain rfl := some_inj hr
  exact ge_result trivial (ResOk.tmp (by kernel_rfl) ResOk.nil) hI5 ⟨z6, hO7, rfl, rfl⟩
/-! 129 vec_mod  -/
noncomputable def vec_mod (a0 : Fl) (a1 : Fl) : Option Fl :=
  Option.bind (math_Mod a0 a1) fun (y1 : Fl) =>
  some y1
theorem vec_mod_walk {a0 : Fl} {b0_0 : Nat} {a1 : Fl} {b1_0 : Nat} {I : Imm} {r : Fl}  (hf0_0 : FRep a0 b0_0)  (hf1_0 : FRep a1 b1_0) (hr : vec_mod a0 a1 = some r) (L : Own) :
    CallsTo Tryz.prog 129 #[.float .f64 b0_0, .float .f64 b1_0] I L (fun v I' L' => ∃ b0_0, FRep r b0_0 ∧ v = .float .f64 b0_0 ∧ L = L') := by
  unfold vec_mod at hr
  refine callsTo_body (N := 8) Tryz.func129 (by kernel_rfl) (by kernel_rfl) (by kernel_rfl) ?_
  refine gk_pick [0, 1] (K' := [(0, .float .f64 b0_0), (1, .float .f64 b1_0)]) (by kernel_rfl) ?_
  refine gk_seq (by kernel_rfl) ?_
  refine gk_region (by kernel_rfl) ?_
  refine gl_pure 1 [0, 1] (K' := [(0, .float .f64 b0_0), (1, .float .f64 b1_0)]) (by kernel_rfl) ?_
  refine gl_atE (by kernel_rfl) ?_
  refine ge_seq ?_
  refine gk_seq (by kernel_rfl) ?_
  refine gk_region (by kernel_rfl) ?_
  refine gl_pure 2 [5, 6] (K' := [(5, .float .f64 b0_0), (6, .float .f64 b1_0)]) (by kernel_rfl) ?_
  obtain ⟨y1, hx2, hr⟩ := bind_some hr
  refine gl_call (by kernel_rfl) (math_Mod_walk (r := y1) hf0_0 hf1_0 hx2 _) ?_
  rintro v I3 L4 hI5 ⟨z6, hO7, rfl, rfl⟩
  refine gl_pure 1 [4] (K' := [(4, .float .f64 z6)]) (by kernel_rfl) ?_
  refine gl_atE (by kernel_rfl) ?_
  refine ge_seq ?_
  refine gk_ret (by kernel_rfl) ?_
  obtain rfl := some_inj hr
  exact ge_result trivial (ResOk.tmp (by kernel_rfl) ResOk.nil) hI5 ⟨z6, hO7, rfl, rfl⟩
/-! 84 vec_pair_mod  -/
noncomputable def vec_pair_mod (a0 : S121) : Option Fl :=
  Option.bind (vec_mod a0.f0 a0.f1) fun (y2 : Fl) =>
  some y2
theorem vec_pair_mod_walk {a0 : S121} {b0_0 : Nat} {b0_1 : Nat} {I : Imm} {r : Fl}  (hf0_0 : FRep a0.f0 b0_0) (hf0_1 : FRep a0.f1 b0_1) (hr : vec_pair_mod a0 = some r) (L : Own) :
    CallsTo Tryz.prog 84 #[.agg #[.float .f64 b0_0, .float .f64 b0_1]] I L (fun v I' L' => ∃ b0_0, FRep r b0_0 ∧ v = .float .f64 b0_0 ∧ L = L') := by
  unfold vec_pair_mod at hr
  refine callsTo_body (N := 8) Tryz.func84 (by kernel_rfl) (by kernel_rfl) (by kernel_rfl) ?_
  refine gk_pick [0] (K' := [(0, .agg #[.float .f64 b0_0, .float .f64 b0_1])]) (by kernel_rfl) ?_
  refine gk_seq (by kernel_rfl) ?_
  refine gk_region (by kernel_rfl) ?_
  refine gl_box (T' := 122) (x := (.tmp 0)) (v := .agg #[.float .f64 b0_0, .float .f64 b0_1]) (cs := #[.float .f64 b0_0, .float .f64 b0_1]) (by kernel_rfl) (by kernel_rfl) (by kernel_rfl) (by kernel_rfl) (fun g1 => ?_)
  refine gl_pure 1 [1] (K' := [(1, .pointer (some ⟨g1, 0, none⟩))]) (by kernel_rfl) ?_
  refine gl_atE (by kernel_rfl) ?_
  refine ge_seq ?_
  refine gk_seq (by kernel_rfl) ?_
  refine gk_region (by kernel_rfl) ?_
  refine gl_pure 1 [1, 3] (K' := [(1, .pointer (some ⟨g1, 0, none⟩)), (3, .pointer (some ⟨g1, 0, none⟩))]) (by kernel_rfl) ?_
  refine gl_loadB (T' := 37) (xp := (.tmp 3)) (v := .float .f64 b0_0) (g := g1) (off := 0) (cs := #[.float .f64 b0_0, .float .f64 b0_1]) (e := 122) (fz := (0, 0)) (by kernel_rfl) (by kernel_rfl) (by kernel_rfl) List.mem_cons_self (by kernel_rfl) ?_
  refine gl_pure 1 [4, 5] (K' := [(4, .float .f64 b0_0), (5, .pointer (some ⟨g1, 1, none⟩))]) (by kernel_rfl) ?_
  refine gl_loadB (T' := 37) (xp := (.tmp 5)) (v := .float .f64 b0_1) (g := g1) (off := 1) (cs := #[.float .f64 b0_0, .float .f64 b0_1]) (e := 122) (fz := (0, 0)) (by kernel_rfl) (by kernel_rfl) (by kernel_rfl) List.mem_cons_self (by kernel_rfl) ?_
  obtain ⟨y2, hx3, hr⟩ := bind_some hr
  refine gl_call (by kernel_rfl) (vec_mod_walk (r := y2) hf0_0 hf0_1 hx3 _) ?_
  rintro v I4 L5 hI6 ⟨z7, hO8, rfl, rfl⟩
  refine gl_pure 1 [2] (K' := [(2, .float .f64 z7)]) (by kernel_rfl) ?_
  refine gl_atE (by kernel_rfl) ?_
  refine ge_seq ?_
  refine gk_reord (D := L) (Reord.skip (Reord.refl _)) ?_
  refine gk_ret (by kernel_rfl) ?_
  obtain rfl := some_inj hr
  exact ge_result trivial (ResOk.tmp (by kernel_rfl) ResOk.nil) hI6 ⟨z7, hO8, rfl, rfl⟩
/-! 40 vec_Arith  -/
noncomputable def vec_Arith (a0 : Int) (a1 : Fl) (a2 : Fl) : Option (Fl × Int) :=
  bif ((decide (a0 < 1)) || (decide (a0 > 6))) then
  (some ((some 0 : Fl), 60))
  else
  (bif ((IntKind.wrap .i64 (a0 - 1)) == 0) then
    (some ((vec_told (vec_pair_add (⟨a1, a2⟩ : S121))), 0))
    else
    (bif ((IntKind.wrap .i64 (a0 - 1)) == 1) then
      (some ((vec_told (vec_pair_sub (⟨a1, a2⟩ : S121))), 0))
      else
      (bif ((IntKind.wrap .i64 (a0 - 1)) == 2) then
        (some ((vec_told (vec_pair_mul (⟨a1, a2⟩ : S121))), 0))
        else
        (bif ((IntKind.wrap .i64 (a0 - 1)) == 3) then
          (some ((vec_told (vec_pair_div (⟨a1, a2⟩ : S121))), 0))
          else
          (bif ((IntKind.wrap .i64 (a0 - 1)) == 4) then
            (Option.bind (vec_pair_mod (⟨a1, a2⟩ : S121)) fun (y59 : Fl) =>
              some ((vec_told y59), 0))
            else
            (bif ((IntKind.wrap .i64 (a0 - 1)) == 5) then
              (none)
              else
              (none)))))))
theorem vec_Arith_walk {a0 : Int} {a1 : Fl} {b1_0 : Nat} {a2 : Fl} {b2_0 : Nat} {I : Imm} {r : Fl × Int}  (hf1_0 : FRep a1 b1_0)  (hf2_0 : FRep a2 b2_0) (hr : vec_Arith a0 a1 a2 = some r) (L : Own) :
    CallsTo Tryz.prog 40 #[.int .i64 a0, .float .f64 b1_0, .float .f64 b2_0] I L (fun v I' L' => ∃ b0_0, FRep r.1 b0_0 ∧ v = .tuple #[.float .f64 b0_0, .int .i64 r.2] ∧ L = L') := by
  unfold vec_Arith at hr
  refine callsTo_body (N := 26) Tryz.func40 (by kernel_rfl) (by kernel_rfl) (by kernel_rfl) ?_
  refine gk_pick [0, 1, 2] (K' := [(0, .int .i64 a0), (1, .float .f64 b1_0), (2, .float .f64 b2_0)]) (by kernel_rfl) ?_
  refine gk_seq (by kernel_rfl) ?_
  refine gk_region (by kernel_rfl) ?_
  refine gl_pure 2 [0, 1, 2] (K' := [(0, .int .i64 a0), (1, .float .f64 b1_0), (2, .float .f64 b2_0)]) (by kernel_rfl) ?_
  refine gl_atE (by kernel_rfl) ?_
  refine ge_seq ?_
  refine gk_seq (by kernel_rfl) ?_
  refine gk_seq (by kernel_rfl) ?_
  obtain ⟨b3, hb4⟩ : ∃ z, z = ((decide (a0 < 1)) || (decide (a0 > 6))) := ⟨_, rfl⟩
  refine gk_join (fun t I' L' => I ≤ I' ∧ L = L' ∧ Knows 26 [(0, .int .i64 a0), (1, .float .f64 b1_0), (2, .float .f64 b2_0), (14, .bool b3)] t) ?_ ?_
  · refine gk_region (by kernel_rfl) ?_
    refine gl_pure 3 [0, 1, 2, 11] (K' := [(0, .int .i64 a0), (1, .float .f64 b1_0), (2, .float .f64 b2_0), (11, .bool (decide (a0 < 1)))]) (by kernel_rfl) ?_
    refine gl_case 11 (b := (decide (a0 < 1))) (by kernel_rfl) (fun hc6 => ?_) (fun hc6 => ?_)
    · refine gl_pure 3 [0, 1, 2, 14] (K' := [(0, .int .i64 a0), (1, .float .f64 b1_0), (2, .float .f64 b2_0), (14, .bool true)]) (by kernel_rfl) ?_
      refine gl_atE (by kernel_rfl) ?_
      exact ge_mid fun t ht => ⟨(Imm.refl _), rfl, by rw [(show b3 = true from hb4.trans (by first | (rw [hc6]; done) | (rw [hc6]; rfl) | (simp [hc6]; done) | (simp only [hc6]; rfl) | (simp at *; omega)))]; exact ht.pick (l := [0, 1, 2, 14]) (by kernel_rfl)⟩
    · refine gl_pure 3 [0, 1, 2, 14] (K' := [(0, .int .i64 a0), (1, .float .f64 b1_0), (2, .float .f64 b2_0), (14, .bool (decide (a0 > 6)))]) (by kernel_rfl) ?_
      refine gl_atE (by kernel_rfl) ?_
      exact ge_mid fun t ht => ⟨(Imm.refl _), rfl, by rw [(show b3 = (decide (a0 > 6)) from hb4.trans (by first | (rw [hc6]; done) | (rw [hc6]; rfl) | (simp [hc6]; done) | (simp only [hc6]; rfl) | (simp at *; omega)))]; exact ht.pick (l := [0, 1, 2, 14]) (by kernel_rfl)⟩
  · rintro t I5 L' ⟨hI1, rfl, hK2⟩
    subst hb4
    refine ge_at hK2 ?_
    refine ge_seq ?_
    refine gk_cond (b := ((decide (a0 < 1)) || (decide (a0 > 6)))) (by kernel_rfl) (by kernel_rfl) (fun hc7 => ?_) (fun hc7 => ?_)
    · have hr := cond_t hc7 hr
      refine gk_seq (by kernel_rfl) ?_
      refine gk_region (by kernel_rfl) ?_
      refine gl_pure 2 [6, 7] (K' := [(6, .float .f64 0), (7, .int .i64 60)]) (by kernel_rfl) ?_
      refine gl_atE (by kernel_rfl) ?_
      refine ge_seq ?_
      refine gk_ret (by kernel_rfl) ?_
      refine ge_seq_ret ?_
      obtain rfl := some_inj hr
      exact ge_result trivial (ResOk.tmp (by kernel_rfl) (ResOk.tmp (by kernel_rfl) ResOk.nil)) hI1 ⟨0, (FRep.of 0), rfl, rfl⟩
    · have hr := cond_f hc7 hr
      refine gk_skip (by kernel_rfl) ?_
      refine ge_seq ?_
      refine gk_seq (by kernel_rfl) ?_
      refine gk_region (by kernel_rfl) ?_
      refine gl_buildSlice (T' := 123) (e := 119) (n := 1) (len := 6) (parts := #[(0, (.func 80)), (1, (.func 81)), (2, (.func 82)), (3, (.func 83)), (4, (.func 84)), (5, (.func 85))]) (l := [(0, .func (.func 80) #[] #[]), (1, .func (.func 81) #[] #[]), (2, .func (.func 82) #[] #[]), (3, .func (.func 83) #[] #[]), (4, .func (.func 84) #[] #[]), (5, .func (.func 85) #[] #[])]) (cs := #[.func (.func 80) #[] #[], .func (.func 81) #[] #[], .func (.func 82) #[] #[], .func (.func 83) #[] #[], .func (.func 84) #[] #[], .func (.func 85) #[] #[]]) (by kernel_rfl) (by kernel_rfl) (by kernel_rfl) (by kernel_rfl) (by kernel_rfl) (fun g8 => ?_)
      refine gl_reord (D := (g8, .cells #[.func (.func 80) #[] #[], .func (.func 81) #[] #[], .func (.func 82) #[] #[], .func (.func 83) #[] #[], .func (.func 84) #[] #[], .func (.func 85) #[] #[]] 119) :: L) (Reord.refl _) ?_
      refine gl_pure 1 [0, 1, 2, 8] (K' := [(0, .int .i64 a0), (1, .float .f64 b1_0), (2, .float .f64 b2_0), (8, .slice (some ⟨g8, 0, none⟩) 6 6)]) (by kernel_rfl) ?_
      refine gl_atE (by kernel_rfl) ?_
      refine ge_seq ?_
      refine gk_seq (by kernel_rfl) ?_
      refine gk_region (by kernel_rfl) ?_
      refine gl_pure 3 [1, 2, 16, 18] (K' := [(1, .float .f64 b1_0), (2, .float .f64 b2_0), (16, .slice (some ⟨g8, 0, none⟩) 6 6), (18, .int .i64 (IntKind.wrap .i64 (a0 - 1)))]) (by kernel_rfl) ?_
      refine gl_ieq (i := (IntKind.wrap .i64 (a0 - 1))) (j := 0) (fun hc9 he10 => ?_) (fun hc9 => ?_)
      · have hr := cond_t hc9 hr
        refine gl_kv (congrArg (fun (zz : Int) => ([(1, .float .f64 b1_0), (2, .float .f64 b2_0), (16, .slice (some ⟨g8, 0, none⟩) 6 6), (18, .int .i64 zz)] : KV)) he10) ?_
        refine gl_indexAddrF (A := some ⟨g8, 0, none⟩) (n := 1) (i := 0) (p := ⟨g8, 0, none⟩) (c := 6) (len := 6) (T' := 123) (e := 119) (xs := (.tmp 16)) (xi := (.tmp 18)) (kd := .i64) ⟨_, rfl, rfl⟩ (by decide) (by decide) (by kernel_rfl) (by kernel_rfl) (by kernel_rfl) (by kernel_rfl) (by kernel_rfl) ?_
        refine gl_loadB (T' := 119) (xp := (.tmp 19)) (v := .func (.func 80) #[] #[]) (g := g8) (off := 0) (cs := #[.func (.func 80) #[] #[], .func (.func 81) #[] #[], .func (.func 82) #[] #[], .func (.func 83) #[] #[], .func (.func 84) #[] #[], .func (.func 85) #[] #[]]) (e := 119) (fz := (0, 0)) (by kernel_rfl) (by kernel_rfl) (by kernel_rfl) List.mem_cons_self (by kernel_rfl) ?_
        refine gl_pure 3 [20, 23] (K' := [(20, .func (.func 80) #[] #[]), (23, .agg #[.float .f64 b1_0, .float .f64 b2_0])]) (by kernel_rfl) ?_
        refine gl_call (by kernel_rfl) (vec_pair_add_walk (r := (vec_pair_add (⟨a1, a2⟩ : S121))) (a0 := (⟨a1, a2⟩ : S121)) hf1_0 hf2_0 rfl _) ?_
        rintro v I11 L12 hI13 ⟨z14, hO15, rfl, rfl⟩
        refine gl_call (by kernel_rfl) (vec_told_walk (r := (vec_told (vec_pair_add (⟨a1, a2⟩ : S121)))) hO15 rfl _) ?_
        rintro v I16 L17 hI18 ⟨z19, hO20, rfl, rfl⟩
        refine gl_pure 2 [6, 7] (K' := [(6, .float .f64 z19), (7, .int .i64 0)]) (by kernel_rfl) ?_
        refine gl_atE (by kernel_rfl) ?_
        refine ge_seq ?_
        refine gk_reord (D := L) (Reord.skip (Reord.refl _)) ?_
        refine gk_ret (by kernel_rfl) ?_
        obtain rfl := some_inj hr
        exact ge_result trivial (ResOk.tmp (by kernel_rfl) (ResOk.tmp (by kernel_rfl) ResOk.nil)) (Imm.trans (Imm.trans hI1 hI13) hI18) ⟨z19, hO20, rfl, rfl⟩
      · have hr := cond_f hc9 hr
        refine gl_ieq (i := (IntKind.wrap .i64 (a0 - 1))) (j := 1) (fun hc21 he22 => ?_) (fun hc21 => ?_)
        · have hr := cond_t hc21 hr
          refine gl_kv (congrArg (fun (zz : Int) => ([(1, .float .f64 b1_0), (2, .float .f64 b2_0), (16, .slice (some ⟨g8, 0, none⟩) 6 6), (18, .int .i64 zz)] : KV)) he22) ?_
          refine gl_indexAddrF (A := some ⟨g8, 0, none⟩) (n := 1) (i := 1) (p := ⟨g8, 1, none⟩) (c := 6) (len := 6) (T' := 123) (e := 119) (xs := (.tmp 16)) (xi := (.tmp 18)) (kd := .i64) ⟨_, rfl, rfl⟩ (by decide) (by decide) (by kernel_rfl) (by kernel_rfl) (by kernel_rfl) (by kernel_rfl) (by kernel_rfl) ?_
          refine gl_loadB (T' := 119) (xp := (.tmp 19)) (v := .func (.func 81) #[] #[]) (g := g8) (off := 1) (cs := #[.func (.func 80) #[] #[], .func (.func 81) #[] #[], .func (.func 82) #[] #[], .func (.func 83) #[] #[], .func (.func 84) #[] #[], .func (.func 85) #[] #[]]) (e := 119) (fz := (0, 0)) (by kernel_rfl) (by kernel_rfl) (by kernel_rfl) List.mem_cons_self (by kernel_rfl) ?_
          refine gl_pure 3 [20, 23] (K' := [(20, .func (.func 81) #[] #[]), (23, .agg #[.float .f64 b1_0, .float .f64 b2_0])]) (by kernel_rfl) ?_
          refine gl_call (by kernel_rfl) (vec_pair_sub_walk (r := (vec_pair_sub (⟨a1, a2⟩ : S121))) (a0 := (⟨a1, a2⟩ : S121)) hf1_0 hf2_0 rfl _) ?_
          rintro v I23 L24 hI25 ⟨z26, hO27, rfl, rfl⟩
          refine gl_call (by kernel_rfl) (vec_told_walk (r := (vec_told (vec_pair_sub (⟨a1, a2⟩ : S121)))) hO27 rfl _) ?_
          rintro v I28 L29 hI30 ⟨z31, hO32, rfl, rfl⟩
          refine gl_pure 2 [6, 7] (K' := [(6, .float .f64 z31), (7, .int .i64 0)]) (by kernel_rfl) ?_
          refine gl_atE (by kernel_rfl) ?_
          refine ge_seq ?_
          refine gk_reord (D := L) (Reord.skip (Reord.refl _)) ?_
          refine gk_ret (by kernel_rfl) ?_
          obtain rfl := some_inj hr
          exact ge_result trivial (ResOk.tmp (by kernel_rfl) (ResOk.tmp (by kernel_rfl) ResOk.nil)) (Imm.trans (Imm.trans hI1 hI25) hI30) ⟨z31, hO32, rfl, rfl⟩
        · have hr := cond_f hc21 hr
          refine gl_ieq (i := (IntKind.wrap .i64 (a0 - 1))) (j := 2) (fun hc33 he34 => ?_) (fun hc33 => ?_)
          · have hr := cond_t hc33 hr
            refine gl_kv (congrArg (fun (zz : Int) => ([(1, .float .f64 b1_0), (2, .float .f64 b2_0), (16, .slice (some ⟨g8, 0, none⟩) 6 6), (18, .int .i64 zz)] : KV)) he34) ?_
            refine gl_indexAddrF (A := some ⟨g8, 0, none⟩) (n := 1) (i := 2) (p := ⟨g8, 2, none⟩) (c := 6) (len := 6) (T' := 123) (e := 119) (xs := (.tmp 16)) (xi := (.tmp 18)) (kd := .i64) ⟨_, rfl, rfl⟩ (by decide) (by decide) (by kernel_rfl) (by kernel_rfl) (by kernel_rfl) (by kernel_rfl) (by kernel_rfl) ?_
            refine gl_loadB (T' := 119) (xp := (.tmp 19)) (v := .func (.func 82) #[] #[]) (g := g8) (off := 2) (cs := #[.func (.func 80) #[] #[], .func (.func 81) #[] #[], .func (.func 82) #[] #[], .func (.func 83) #[] #[], .func (.func 84) #[] #[], .func (.func 85) #[] #[]]) (e := 119) (fz := (0, 0)) (by kernel_rfl) (by kernel_rfl) (by kernel_rfl) List.mem_cons_self (by kernel_rfl) ?_
            refine gl_pure 3 [20, 23] (K' := [(20, .func (.func 82) #[] #[]), (23, .agg #[.float .f64 b1_0, .float .f64 b2_0])]) (by kernel_rfl) ?_
            refine gl_call (by kernel_rfl) (vec_pair_mul_walk (r := (vec_pair_mul (⟨a1, a2⟩ : S121))) (a0 := (⟨a1, a2⟩ : S121)) hf1_0 hf2_0 rfl _) ?_
            rintro v I35 L36 hI37 ⟨z38, hO39, rfl, rfl⟩
            refine gl_call (by kernel_rfl) (vec_told_walk (r := (vec_told (vec_pair_mul (⟨a1, a2⟩ : S121)))) hO39 rfl _) ?_
            rintro v I40 L41 hI42 ⟨z43, hO44, rfl, rfl⟩
            refine gl_pure 2 [6, 7] (K' := [(6, .float .f64 z43), (7, .int .i64 0)]) (by kernel_rfl) ?_
            refine gl_atE (by kernel_rfl) ?_
            refine ge_seq ?_
            refine gk_reord (D := L) (Reord.skip (Reord.refl _)) ?_
            refine gk_ret (by kernel_rfl) ?_
            obtain rfl := some_inj hr
            exact ge_result trivial (ResOk.tmp (by kernel_rfl) (ResOk.tmp (by kernel_rfl) ResOk.nil)) (Imm.trans (Imm.trans hI1 hI37) hI42) ⟨z43, hO44, rfl, rfl⟩
          · have hr := cond_f hc33 hr
            refine gl_ieq (i := (IntKind.wrap .i64 (a0 - 1))) (j := 3) (fun hc45 he46 => ?_) (fun hc45 => ?_)
            · have hr := cond_t hc45 hr
              refine gl_kv (congrArg (fun (zz : Int) => ([(1, .float .f64 b1_0), (2, .float .f64 b2_0), (16, .slice (some ⟨g8, 0, none⟩) 6 6), (18, .int .i64 zz)] : KV)) he46) ?_
              refine gl_indexAddrF (A := some ⟨g8, 0, none⟩) (n := 1) (i := 3) (p := ⟨g8, 3, none⟩) (c := 6) (len := 6) (T' := 123) (e := 119) (xs := (.tmp 16)) (xi := (.tmp 18)) (kd := .i64) ⟨_, rfl, rfl⟩ (by decide) (by decide) (by kernel_rfl) (by kernel_rfl) (by kernel_rfl) (by kernel_rfl) (by kernel_rfl) ?_
              refine gl_loadB (T' := 119) (xp := (.tmp 19)) (v := .func (.func 83) #[] #[]) (g := g8) (off := 3) (cs := #[.func (.func 80) #[] #[], .func (.func 81) #[] #[], .func (.func 82) #[] #[], .func (.func 83) #[] #[], .func (.func 84) #[] #[], .func (.func 85) #[] #[]]) (e := 119) (fz := (0, 0)) (by kernel_rfl) (by kernel_rfl) (by kernel_rfl) List.mem_cons_self (by kernel_rfl) ?_
              refine gl_pure 3 [20, 23] (K' := [(20, .func (.func 83) #[] #[]), (23, .agg #[.float .f64 b1_0, .float .f64 b2_0])]) (by kernel_rfl) ?_
              refine gl_call (by kernel_rfl) (vec_pair_div_walk (r := (vec_pair_div (⟨a1, a2⟩ : S121))) (a0 := (⟨a1, a2⟩ : S121)) hf1_0 hf2_0 rfl _) ?_
              rintro v I47 L48 hI49 ⟨z50, hO51, rfl, rfl⟩
              refine gl_call (by kernel_rfl) (vec_told_walk (r := (vec_told (vec_pair_div (⟨a1, a2⟩ : S121)))) hO51 rfl _) ?_
              rintro v I52 L53 hI54 ⟨z55, hO56, rfl, rfl⟩
              refine gl_pure 2 [6, 7] (K' := [(6, .float .f64 z55), (7, .int .i64 0)]) (by kernel_rfl) ?_
              refine gl_atE (by kernel_rfl) ?_
              refine ge_seq ?_
              refine gk_reord (D := L) (Reord.skip (Reord.refl _)) ?_
              refine gk_ret (by kernel_rfl) ?_
              obtain rfl := some_inj hr
              exact ge_result trivial (ResOk.tmp (by kernel_rfl) (ResOk.tmp (by kernel_rfl) ResOk.nil)) (Imm.trans (Imm.trans hI1 hI49) hI54) ⟨z55, hO56, rfl, rfl⟩
            · have hr := cond_f hc45 hr
              refine gl_ieq (i := (IntKind.wrap .i64 (a0 - 1))) (j := 4) (fun hc57 he58 => ?_) (fun hc57 => ?_)
              · have hr := cond_t hc57 hr
                refine gl_kv (congrArg (fun (zz : Int) => ([(1, .float .f64 b1_0), (2, .float .f64 b2_0), (16, .slice (some ⟨g8, 0, none⟩) 6 6), (18, .int .i64 zz)] : KV)) he58) ?_
                refine gl_indexAddrF (A := some ⟨g8, 0, none⟩) (n := 1) (i := 4) (p := ⟨g8, 4, none⟩) (c := 6) (len := 6) (T' := 123) (e := 119) (xs := (.tmp 16)) (xi := (.tmp 18)) (kd := .i64) ⟨_, rfl, rfl⟩ (by decide) (by decide) (by kernel_rfl) (by kernel_rfl) (by kernel_rfl) (by kernel_rfl) (by kernel_rfl) ?_
                refine gl_loadB (T' := 119) (xp := (.tmp 19)) (v := .func (.func 84) #[] #[]) (g := g8) (off := 4) (cs := #[.func (.func 80) #[] #[], .func (.func 81) #[] #[], .func (.func 82) #[] #[], .func (.func 83) #[] #[], .func (.func 84) #[] #[], .func (.func 85) #[] #[]]) (e := 119) (fz := (0, 0)) (by kernel_rfl) (by kernel_rfl) (by kernel_rfl) List.mem_cons_self (by kernel_rfl) ?_
                refine gl_pure 3 [20, 23] (K' := [(20, .func (.func 84) #[] #[]), (23, .agg #[.float .f64 b1_0, .float .f64 b2_0])]) (by kernel_rfl) ?_
                obtain ⟨y59, hx60, hr⟩ := bind_some hr
                refine gl_call (by kernel_rfl) (vec_pair_mod_walk (r := y59) (a0 := (⟨a1, a2⟩ : S121)) hf1_0 hf2_0 hx60 _) ?_
                rintro v I61 L62 hI63 ⟨z64, hO65, rfl, rfl⟩
                refine gl_call (by kernel_rfl) (vec_told_walk (r := (vec_told y59)) hO65 rfl _) ?_
                rintro v I66 L67 hI68 ⟨z69, hO70, rfl, rfl⟩
                refine gl_pure 2 [6, 7] (K' := [(6, .float .f64 z69), (7, .int .i64 0)]) (by kernel_rfl) ?_
                refine gl_atE (by kernel_rfl) ?_
                refine ge_seq ?_
                refine gk_reord (D := L) (Reord.skip (Reord.refl _)) ?_
                refine gk_ret (by kernel_rfl) ?_
                obtain rfl := some_inj hr
                exact ge_result trivial (ResOk.tmp (by kernel_rfl) (ResOk.tmp (by kernel_rfl) ResOk.nil)) (Imm.trans (Imm.trans hI1 hI63) hI68) ⟨z69, hO70, rfl, rfl⟩
              · have hr := cond_f hc57 hr
                refine gl_ieq (i := (IntKind.wrap .i64 (a0 - 1))) (j := 5) (fun hc71 he72 => ?_) (fun hc71 => ?_)
                · have hr := cond_t hc71 hr
                  cases hr
                · have hr := cond_f hc71 hr
                  cases hr
/-! 77 vec_nameless  -/
noncomputable def vec_nameless (a0 : List S76) : Option (List S76) :=
  Option.bind (labels_Without a0 [(⟨#[95, 95, 110, 97, 109, 101, 95, 95]⟩ : ByteArray)]) fun (y9 : (List S76) × Int) =>
  some y9.1
theorem vec_nameless_walk {a0 : List S76} {A0_0 : Option Addr} {n0_0 : Nat} {I : Imm} {r : (List S76)} (hG : Gl I)  (hf0_0 : RepS kS76 I A0_0 n0_0 a0) (hr : vec_nameless a0 = some r) (L : Own) :
    CallsTo Tryz.prog 77 #[.slice A0_0 a0.length n0_0] I L (fun v I' L' => ∃ A0 c0 C0, OwnS kS76 77 I' A0 c0 r C0 ∧ v = .slice A0 r.length c0 ∧ C0 ++ L = L') := by
  unfold vec_nameless at hr
  refine callsTo_body (N := 12) Tryz.func77 (by kernel_rfl) (by kernel_rfl) (by kernel_rfl) ?_
  refine gk_pick [0] (K' := [(0, .slice A0_0 a0.length n0_0)]) (by kernel_rfl) ?_
  refine gk_seq (by kernel_rfl) ?_
  refine gk_region (by kernel_rfl) ?_
  refine gl_pure 1 [0] (K' := [(0, .slice A0_0 a0.length n0_0)]) (by kernel_rfl) ?_
  refine gl_atE (by kernel_rfl) ?_
  refine ge_seq ?_
  refine gk_seq (by kernel_rfl) ?_
  refine gk_region (by kernel_rfl) ?_
  refine gl_pure 1 [6] (K' := [(6, .slice A0_0 a0.length n0_0)]) (by kernel_rfl) ?_
  refine gl_buildSlice (T' := 23) (e := 9) (n := 1) (len := 1) (parts := #[(0, (.const (.string (⟨#[95, 95, 110, 97, 109, 101, 95, 95]⟩ : ByteArray))))]) (l := [(0, .string (⟨#[95, 95, 110, 97, 109, 101, 95, 95]⟩ : ByteArray))]) (cs := #[.string (⟨#[95, 95, 110, 97, 109, 101, 95, 95]⟩ : ByteArray)]) (by kernel_rfl) (by kernel_rfl) (by kernel_rfl) (by kernel_rfl) (by kernel_rfl) (fun g1 => ?_)
  have hO2 : OwnS Kd.str 9 I (some ⟨g1, 0, none⟩) 1 [(⟨#[95, 95, 110, 97, 109, 101, 95, 95]⟩ : ByteArray)] [(g1, .cells #[.string (⟨#[95, 95, 110, 97, 109, 101, 95, 95]⟩ : ByteArray)] 9)] := OwnS.lit (row_cons (l := [.string (⟨#[95, 95, 110, 97, 109, 101, 95, 95]⟩ : ByteArray)]) rfl (row_nil _ _)) rfl rfl rfl
  refine gl_reord (D := [(g1, .cells #[.string (⟨#[95, 95, 110, 97, 109, 101, 95, 95]⟩ : ByteArray)] 9)] ++ L) (Reord.refl _) ?_
  refine gl_rest (Tk.step (Upd.rmC _ _) (Tk.nil _)) (fun J5 hJ6 hC7 => ?_)
  have hf8 := (OwnS.rest hO2 hJ6 hC7.left)
  obtain ⟨y9, hx10, hr⟩ := bind_some hr
  refine gl_call (by kernel_rfl) (labels_Without_walk (r := y9) (hG.mono hJ6) (hf0_0.mono hJ6) hf8 hx10 _) ?_
  rintro v I11 L12 hI13 ⟨A14, c15, C16, hO17, rfl, rfl⟩
  refine gl_pure 5 [3] (K' := [(3, .slice A14 y9.1.length c15)]) (by kernel_rfl) ?_
  refine gl_atE (by kernel_rfl) ?_
  refine ge_seq ?_
  refine gk_seq (by kernel_rfl) ?_
  refine gk_region (by kernel_rfl) ?_
  refine gl_pure 2 [2] (K' := [(2, .slice A14 y9.1.length c15)]) (by kernel_rfl) ?_
  refine gl_atE (by kernel_rfl) ?_
  refine ge_seq ?_
  refine gk_ret (by kernel_rfl) ?_
  obtain rfl := some_inj hr
  exact ge_result trivial (ResOk.tmp (by kernel_rfl) ResOk.nil) (Imm.trans hJ6 hI13) ⟨A14, c15, C16, hO17, rfl, rfl⟩
/-! 121 vec_pair_eq  -/
noncomputable def vec_pair_eq (a0 : S121) : Bool :=
  (fcmp .eql a0.f0 a0.f1)
theorem vec_pair_eq_walk {a0 : S121} {b0_0 : Nat} {b0_1 : Nat} {I : Imm} {r : Bool}  (hf0_0 : FRep a0.f0 b0_0) (hf0_1 : FRep a0.f1 b0_1) (hr : vec_pair_eq a0 = r) (L : Own) :
    CallsTo Tryz.prog 121 #[.agg #[.float .f64 b0_0, .float .f64 b0_1]] I L (fun v I' L' => v = .bool r ∧ L = L') := by
  replace hr : some (vec_pair_eq a0) = some r := congrArg some hr
  unfold vec_pair_eq at hr
  refine callsTo_body (N := 8) Tryz.func121 (by kernel_rfl) (by kernel_rfl) (by kernel_rfl) ?_
  refine gk_pick [0] (K' := [(0, .agg #[.float .f64 b0_0, .float .f64 b0_1])]) (by kernel_rfl) ?_
  refine gk_seq (by kernel_rfl) ?_
  refine gk_region (by kernel_rfl) ?_
  refine gl_box (T' := 122) (x := (.tmp 0)) (v := .agg #[.float .f64 b0_0, .float .f64 b0_1]) (cs := #[.float .f64 b0_0, .float .f64 b0_1]) (by kernel_rfl) (by kernel_rfl) (by kernel_rfl) (by kernel_rfl) (fun g1 => ?_)
  refine gl_pure 1 [1] (K' := [(1, .pointer (some ⟨g1, 0, none⟩))]) (by kernel_rfl) ?_
  refine gl_atE (by kernel_rfl) ?_
  refine ge_seq ?_
  refine gk_seq (by kernel_rfl) ?_
  refine gk_region (by kernel_rfl) ?_
  refine gl_pure 1 [1, 3] (K' := [(1, .pointer (some ⟨g1, 0, none⟩)), (3, .pointer (some ⟨g1, 0, none⟩))]) (by kernel_rfl) ?_
  refine gl_loadB (T' := 37) (xp := (.tmp 3)) (v := .float .f64 b0_0) (g := g1) (off := 0) (cs := #[.float .f64 b0_0, .float .f64 b0_1]) (e := 122) (fz := (0, 0)) (by kernel_rfl) (by kernel_rfl) (by kernel_rfl) List.mem_cons_self (by kernel_rfl) ?_
  refine gl_pure 1 [4, 5] (K' := [(4, .float .f64 b0_0), (5, .pointer (some ⟨g1, 1, none⟩))]) (by kernel_rfl) ?_
  refine gl_loadB (T' := 37) (xp := (.tmp 5)) (v := .float .f64 b0_1) (g := g1) (off := 1) (cs := #[.float .f64 b0_0, .float .f64 b0_1]) (e := 122) (fz := (0, 0)) (by kernel_rfl) (by kernel_rfl) (by kernel_rfl) List.mem_cons_self (by kernel_rfl) ?_
  refine gl_fcmp (op := .eql) (t := 37) (t' := 37) (xx := (.tmp 4)) (yy := (.tmp 6)) hf0_0 hf0_1 (by kernel_rfl) (by kernel_rfl) rfl (by kernel_rfl) (by kernel_rfl) ?_
  refine gl_pure 1 [2] (K' := [(2, .bool (fcmp .eql a0.f0 a0.f1))]) (by kernel_rfl) ?_
  refine gl_atE (by kernel_rfl) ?_
  refine ge_seq ?_
  refine gk_reord (D := L) (Reord.skip (Reord.refl _)) ?_
  refine gk_ret (by kernel_rfl) ?_
  obtain rfl := some_inj hr
  exact ge_result trivial (ResOk.tmp (by kernel_rfl) ResOk.nil) (Imm.refl _) ⟨rfl, rfl⟩
/-! 122 vec_pair_ne  -/
noncomputable def vec_pair_ne (a0 : S121) : Bool :=
  (fcmp .neq a0.f0 a0.f1)
theorem vec_pair_ne_walk {a0 : S121} {b0_0 : Nat} {b0_1 : Nat} {I : Imm} {r : Bool}  (hf0_0 : FRep a0.f0 b0_0) (hf0_1 : FRep a0.f1 b0_1) (hr : vec_pair_ne a0 = r) (L : Own) :
    CallsTo Tryz.prog 122 #[.agg #[.float .f64 b0_0, .float .f64 b0_1]] I L (fun v I' L' => v = .bool r ∧ L = L') := by
  replace hr : some (vec_pair_ne a0) = some r := congrArg some hr
  unfold vec_pair_ne at hr
  refine callsTo_body (N := 8) Tryz.func122 (by kernel_rfl) (by kernel_rfl) (by kernel_rfl) ?_
  refine gk_pick [0] (K' := [(0, .agg #[.float .f64 b0_0, .float .f64 b0_1])]) (by kernel_rfl) ?_
  refine gk_seq (by kernel_rfl) ?_
  refine gk_region (by kernel_rfl) ?_
  refine gl_box (T' := 122) (x := (.tmp 0)) (v := .agg #[.float .f64 b0_0, .float .f64 b0_1]) (cs := #[.float .f64 b0_0, .float .f64 b0_1]) (by kernel_rfl) (by kernel_rfl) (by kernel_rfl) (by kernel_rfl) (fun g1 => ?_)
  refine gl_pure 1 [1] (K' := [(1, .pointer (some ⟨g1, 0, none⟩))]) (by kernel_rfl) ?_
  refine gl_atE (by kernel_rfl) ?_
  refine ge_seq ?_
  refine gk_seq (by kernel_rfl) ?_
  refine gk_region (by kernel_rfl) ?_
  refine gl_pure 1 [1, 3] (K' := [(1, .pointer (some ⟨g1, 0, none⟩)), (3, .pointer (some ⟨g1, 0, none⟩))]) (by kernel_rfl) ?_
  refine gl_loadB (T' := 37) (xp := (.tmp 3)) (v := .float .f64 b0_0) (g := g1) (off := 0) (cs := #[.float .f64 b0_0, .float .f64 b0_1]) (e := 122) (fz := (0, 0)) (by kernel_rfl) (by kernel_rfl) (by kernel_rfl) List.mem_cons_self (by kernel_rfl) ?_
  refine gl_pure 1 [4, 5] (K' := [(4, .float .f64 b0_0), (5, .pointer (some ⟨g1, 1, none⟩))]) (by kernel_rfl) ?_
  refine gl_loadB (T' := 37) (xp := (.tmp 5)) (v := .float .f64 b0_1) (g := g1) (off := 1) (cs := #[.float .f64 b0_0, .float .f64 b0_1]) (e := 122) (fz := (0, 0)) (by kernel_rfl) (by kernel_rfl) (by kernel_rfl) List.mem_cons_self (by kernel_rfl) ?_
  refine gl_fcmp (op := .neq) (t := 37) (t' := 37) (xx := (.tmp 4)) (yy := (.tmp 6)) hf0_0 hf0_1 (by kernel_rfl) (by kernel_rfl) rfl (by kernel_rfl) (by kernel_rfl) ?_
  refine gl_pure 1 [2] (K' := [(2, .bool (fcmp .neq a0.f0 a0.f1))]) (by kernel_rfl) ?_
  refine gl_atE (by kernel_rfl) ?_
  refine ge_seq ?_
  refine gk_reord (D := L) (Reord.skip (Reord.refl _)) ?_
  refine gk_ret (by kernel_rfl) ?_
  obtain rfl := some_inj hr
  exact ge_result trivial (ResOk.tmp (by kernel_rfl) ResOk.nil) (Imm.refl _) ⟨rfl, rfl⟩
/-! 123 vec_pair_gt  -/
noncomputable def vec_pair_gt (a0 : S121) : Bool :=
  (fcmp .gtr a0.f0 a0.f1)
theorem vec_pair_gt_walk {a0 : S121} {b0_0 : Nat} {b0_1 : Nat} {I : Imm} {r : Bool}  (hf0_0 : FRep a0.f0 b0_0) (hf0_1 : FRep a0.f1 b0_1) (hr : vec_pair_gt a0 = r) (L : Own) :
    CallsTo Tryz.prog 123 #[.agg #[.float .f64 b0_0, .float .f64 b0_1]] I L (fun v I' L' => v = .bool r ∧ L = L') := by
  replace hr : some (vec_pair_gt a0) = some r := congrArg some hr
  unfold vec_pair_gt at hr
  refine callsTo_body (N := 8) Tryz.func123 (by kernel_rfl) (by kernel_rfl) (by kernel_rfl) ?_
  refine gk_pick [0] (K' := [(0, .agg #[.float .f64 b0_0, .float .f64 b0_1])]) (by kernel_rfl) ?_
  refine gk_seq (by kernel_rfl) ?_
  refine gk_region (by kernel_rfl) ?_
  refine gl_box (T' := 122) (x := (.tmp 0)) (v := .agg #[.float .f64 b0_0, .float .f64 b0_1]) (cs := #[.float .f64 b0_0, .float .f64 b0_1]) (by kernel_rfl) (by kernel_rfl) (by kernel_rfl) (by kernel_rfl) (fun g1 => ?_)
  refine gl_pure 1 [1] (K' := [(1, .pointer (some ⟨g1, 0, none⟩))]) (by kernel_rfl) ?_
  refine gl_atE (by kernel_rfl) ?_
  refine ge_seq ?_
  refine gk_seq (by kernel_rfl) ?_
  refine gk_region (by kernel_rfl) ?_
  refine gl_pure 1 [1, 3] (K' := [(1, .pointer (some ⟨g1, 0, none⟩)), (3, .pointer (some ⟨g1, 0, none⟩))]) (by kernel_rfl) ?_
  refine gl_loadB (T' := 37) (xp := (.tmp 3)) (v := .float .f64 b0_0) (g := g1) (off := 0) (cs := #[.float .f64 b0_0, .float .f64 b0_1]) (e := 122) (fz := (0, 0)) (by kernel_rfl) (by kernel_rfl) (by kernel_rfl) List.mem_cons_self (by kernel_rfl) ?_
  refine gl_pure 1 [4, 5] (K' := [(4, .float .f64 b0_0), (5, .pointer (some ⟨g1, 1, none⟩))]) (by kernel_rfl) ?_
  refine gl_loadB (T' := 37) (xp := (.tmp 5)) (v := .float .f64 b0_1) (g := g1) (off := 1) (cs := #[.float .f64 b0_0, .float .f64 b0_1]) (e := 122) (fz := (0, 0)) (by kernel_rfl) (by kernel_rfl) (by kernel_rfl) List.mem_cons_self (by kernel_rfl) ?_
  refine gl_fcmp (op := .gtr) (t := 37) (t' := 37) (xx := (.tmp 4)) (yy := (.tmp 6)) hf0_0 hf0_1 (by kernel_rfl) (by kernel_rfl) rfl (by kernel_rfl) (by kernel_rfl) ?_
  refine gl_pure 1 [2] (K' := [(2, .bool (fcmp .gtr a0.f0 a0.f1))]) (by kernel_rfl) ?_
  refine gl_atE (by kernel_rfl) ?_
  refine ge_seq ?_
  refine gk_reord (D := L) (Reord.skip (Reord.refl _)) ?_
  refine gk_ret (by kernel_rfl) ?_
  obtain rfl := some_inj hr
  exact ge_result trivial (ResOk.tmp (by kernel_rfl) ResOk.nil) (Imm.refl _) ⟨rfl, rfl⟩
/-! 124 vec_pair_lt  -/
noncomputable def vec_pair_lt (a0 : S121) : Bool :=
  (fcmp .lss a0.f0 a0.f1)
theorem vec_pair_lt_walk {a0 : S121} {b0_0 : Nat} {b0_1 : Nat} {I : Imm} {r : Bool}  (hf0_0 : FRep a0.f0 b0_0) (hf0_1 : FRep a0.f1 b0_1) (hr : vec_pair_lt a0 = r) (L : Own) :
    CallsTo Tryz.prog 124 #[.agg #[.float .f64 b0_0, .float .f64 b0_1]] I L (fun v I' L' => v = .bool r ∧ L = L') := by
  replace hr : some (vec_pair_lt a0) = some r := congrArg some hr
  unfold vec_pair_lt at hr
  refine callsTo_body (N := 8) Tryz.func124 (by kernel_rfl) (by kernel_rfl) (by kernel_rfl) ?_
  refine gk_pick [0] (K' := [(0, .agg #[.float .f64 b0_0, .float .f64 b0_1])]) (by kernel_rfl) ?_
  refine gk_seq (by kernel_rfl) ?_
  refine gk_region (by kernel_rfl) ?_
  refine gl_box (T' := 122) (x := (.tmp 0)) (v := .agg #[.float .f64 b0_0, .float .f64 b0_1]) (cs := #[.float .f64 b0_0, .float .f64 b0_1]) (by kernel_rfl) (by kernel_rfl) (by kernel_rfl) (by kernel_rfl) (fun g1 => ?_)
  refine gl_pure 1 [1] (K' := [(1, .pointer (some ⟨g1, 0, none⟩))]) (by kernel_rfl) ?_
  refine gl_atE (by kernel_rfl) ?_
  refine ge_seq ?_
  refine gk_seq (by kernel_rfl) ?_
  refine gk_region (by kernel_rfl) ?_
  refine gl_pure 1 [1, 3] (K' := [(1, .pointer (some ⟨g1, 0, none⟩)), (3, .pointer (some ⟨g1, 0, none⟩))]) (by kernel_rfl) ?_
  refine gl_loadB (T' := 37) (xp := (.tmp 3)) (v := .float .f64 b0_0) (g := g1) (off := 0) (cs := #[.float .f64 b0_0, .float .f64 b0_1]) (e := 122) (fz := (0, 0)) (by kernel_rfl) (by kernel_rfl) (by kernel_rfl) List.mem_cons_self (by kernel_rfl) ?_
  refine gl_pure 1 [4, 5] (K' := [(4, .float .f64 b0_0), (5, .pointer (some ⟨g1, 1, none⟩))]) (by kernel_rfl) ?_
  refine gl_loadB (T' := 37) (xp := (.tmp 5)) (v := .float .f64 b0_1) (g := g1) (off := 1) (cs := #[.float .f64 b0_0, .float .f64 b0_1]) (e := 122) (fz := (0, 0)) (by kernel_rfl) (by kernel_rfl) (by kernel_rfl) List.mem_cons_self (by kernel_rfl) ?_
  refine gl_fcmp (op := .lss) (t := 37) (t' := 37) (xx := (.tmp 4)) (yy := (.tmp 6)) hf0_0 hf0_1 (by kernel_rfl) (by kernel_rfl) rfl (by kernel_rfl) (by kernel_rfl) ?_
  refine gl_pure 1 [2] (K' := [(2, .bool (fcmp .lss a0.f0 a0.f1))]) (by kernel_rfl) ?_
  refine gl_atE (by kernel_rfl) ?_
  refine ge_seq ?_
  refine gk_reord (D := L) (Reord.skip (Reord.refl _)) ?_
  refine gk_ret (by kernel_rfl) ?_
  obtain rfl := some_inj hr
  exact ge_result trivial (ResOk.tmp (by kernel_rfl) ResOk.nil) (Imm.refl _) ⟨rfl, rfl⟩
/-! 125 vec_pair_ge  -/
noncomputable def vec_pair_ge (a0 : S121) : Bool :=
  (fcmp .geq a0.f0 a0.f1)
theorem vec_pair_ge_walk {a0 : S121} {b0_0 : Nat} {b0_1 : Nat} {I : Imm} {r : Bool}  (hf0_0 : FRep a0.f0 b0_0) (hf0_1 : FRep a0.f1 b0_1) (hr : vec_pair_ge a0 = r) (L : Own) :
    CallsTo Tryz.prog 125 #[.agg #[.float .f64 b0_0, .float .f64 b0_1]] I L (fun v I' L' => v = .bool r ∧ L = L') := by
  replace hr : some (vec_pair_ge a0) = some r := congrArg some hr
  unfold vec_pair_ge at hr
  refine callsTo_body (N := 8) Tryz.func125 (by kernel_rfl) (by kernel_rfl) (by kernel_rfl) ?_
  refine gk_pick [0] (K' := [(0, .agg #[.float .f64 b0_0, .float .f64 b0_1])]) (by kernel_rfl) ?_
  refine gk_seq (by kernel_rfl) ?_
  refine gk_region (by kernel_rfl) ?_
  refine gl_box (T' := 122) (x := (.tmp 0)) (v := .agg #[.float .f64 b0_0, .float .f64 b0_1]) (cs := #[.float .f64 b0_0, .float .f64 b0_1]) (by kernel_rfl) (by kernel_rfl) (by kernel_rfl) (by kernel_rfl) (fun g1 => ?_)
  refine gl_pure 1 [1] (K' := [(1, .pointer (some ⟨g1, 0, none⟩))]) (by kernel_rfl) ?_
  refine gl_atE (by kernel_rfl) ?_
  refine ge_seq ?_
  refine gk_seq (by kernel_rfl) ?_
  refine gk_region (by kernel_rfl) ?_
  refine gl_pure 1 [1, 3] (K' := [(1, .pointer (some ⟨g1, 0, none⟩)), (3, .pointer (some ⟨g1, 0, none⟩))]) (by kernel_rfl) ?_
  refine gl_loadB (T' := 37) (xp := (.tmp 3)) (v := .float .f64 b0_0) (g := g1) (off := 0) (cs := #[.float .f64 b0_0, .float .f64 b0_1]) (e := 122) (fz := (0, 0)) (by kernel_rfl) (by kernel_rfl) (by kernel_rfl) List.mem_cons_self (by kernel_rfl) ?_
  refine gl_pure 1 [4, 5] (K' := [(4, .float .f64 b0_0), (5, .pointer (some ⟨g1, 1, none⟩))]) (by kernel_rfl) ?_
  refine gl_loadB (T' := 37) (xp := (.tmp 5)) (v := .float .f64 b0_1) (g := g1) (off := 1) (cs := #[.float .f64 b0_0, .float .f64 b0_1]) (e := 122) (fz := (0, 0)) (by kernel_rfl) (by kernel_rfl) (by kernel_rfl) List.mem_cons_self (by kernel_rfl) ?_
  refine gl_fcmp (op := .geq) (t := 37) (t' := 37) (xx := (.tmp 4)) (yy := (.tmp 6)) hf0_0 hf0_1 (by kernel_rfl) (by kernel_rfl) rfl (by kernel_rfl) (by kernel_rfl) ?_
  refine gl_pure 1 [2] (K' := [(2, .bool (fcmp .geq a0.f0 a0.f1))]) (by kernel_rfl) ?_
  refine gl_atE (by kernel_rfl) ?_
  refine ge_seq ?_
  refine gk_reord (D := L) (Reord.skip (Reord.refl _)) ?_
  refine gk_ret (by kernel_rfl) ?_
  obtain rfl := some_inj hr
  exact ge_result trivial (ResOk.tmp (by kernel_rfl) ResOk.nil) (Imm.refl _) ⟨rfl, rfl⟩
/-! 126 vec_pair_le  -/
noncomputable def vec_pair_le (a0 : S121) : Bool :=
  (fcmp .leq a0.f0 a0.f1)
theorem vec_pair_le_walk {a0 : S121} {b0_0 : Nat} {b0_1 : Nat} {I : Imm} {r : Bool}  (hf0_0 : FRep a0.f0 b0_0) (hf0_1 : FRep a0.f1 b0_1) (hr : vec_pair_le a0 = r) (L : Own) :
    CallsTo Tryz.prog 126 #[.agg #[.float .f64 b0_0, .float .f64 b0_1]] I L (fun v I' L' => v = .bool r ∧ L = L') := by
  replace hr : some (vec_pair_le a0) = some r := congrArg some hr
  unfold vec_pair_le at hr
  refine callsTo_body (N := 8) Tryz.func126 (by kernel_rfl) (by kernel_rfl) (by kernel_rfl) ?_
  refine gk_pick [0] (K' := [(0, .agg #[.float .f64 b0_0, .float .f64 b0_1])]) (by kernel_rfl) ?_
  refine gk_seq (by kernel_rfl) ?_
  refine gk_region (by kernel_rfl) ?_
  refine gl_box (T' := 122) (x := (.tmp 0)) (v := .agg #[.float .f64 b0_0, .float .f64 b0_1]) (cs := #[.float .f64 b0_0, .float .f64 b0_1]) (by kernel_rfl) (by kernel_rfl) (by kernel_rfl) (by kernel_rfl) (fun g1 => ?_)
  refine gl_pure 1 [1] (K' := [(1, .pointer (some ⟨g1, 0, none⟩))]) (by kernel_rfl) ?_
  refine gl_atE (by kernel_rfl) ?_
  refine ge_seq ?_
  refine gk_seq (by kernel_rfl) ?_
  refine gk_region (by kernel_rfl) ?_
  refine gl_pure 1 [1, 3] (K' := [(1, .pointer (some ⟨g1, 0, none⟩)), (3, .pointer (some ⟨g1, 0, none⟩))]) (by kernel_rfl) ?_
  refine gl_loadB (T' := 37) (xp := (.tmp 3)) (v := .float .f64 b0_0) (g := g1) (off := 0) (cs := #[.float .f64 b0_0, .float .f64 b0_1]) (e := 122) (fz := (0, 0)) (by kernel_rfl) (by kernel_rfl) (by kernel_rfl) List.mem_cons_self (by kernel_rfl) ?_
  refine gl_pure 1 [4, 5] (K' := [(4, .float .f64 b0_0), (5, .pointer (some ⟨g1, 1, none⟩))]) (by kernel_rfl) ?_
  refine gl_loadB (T' := 37) (xp := (.tmp 5)) (v := .float .f64 b0_1) (g := g1) (off := 1) (cs := #[.float .f64 b0_0, .float .f64 b0_1]) (e := 122) (fz := (0, 0)) (by kernel_rfl) (by kernel_rfl) (by kernel_rfl) List.mem_cons_self (by kernel_rfl) ?_
  refine gl_fcmp (op := .leq) (t := 37) (t' := 37) (xx := (.tmp 4)) (yy := (.tmp 6)) hf0_0 hf0_1 (by kernel_rfl) (by kernel_rfl) rfl (by kernel_rfl) (by kernel_rfl) ?_
  refine gl_pure 1 [2] (K' := [(2, .bool (fcmp .leq a0.f0 a0.f1))]) (by kernel_rfl) ?_
  refine gl_atE (by kernel_rfl) ?_
  refine ge_seq ?_
  refine gk_reord (D := L) (Reord.skip (Reord.refl _)) ?_
  refine gk_ret (by kernel_rfl) ?_
  obtain rfl := some_inj hr
  exact ge_result trivial (ResOk.tmp (by kernel_rfl) ResOk.nil) (Imm.refl _) ⟨rfl, rfl⟩
/-! 78 vec_Holds  -/
noncomputable def vec_Holds (a0 : Int) (a1 : Fl) (a2 : Fl) : Option (Bool × Int) :=
  bif ((decide (a0 < 7)) || (decide (a0 > 12))) then
  (some (false, 60))
  else
  (bif ((IntKind.wrap .i64 (a0 - 7)) == 0) then
    (some ((vec_pair_eq (⟨a1, a2⟩ : S121)), 0))
    else
    (bif ((IntKind.wrap .i64 (a0 - 7)) == 1) then
      (some ((vec_pair_ne (⟨a1, a2⟩ : S121)), 0))
      else
      (bif ((IntKind.wrap .i64 (a0 - 7)) == 2) then
        (some ((vec_pair_gt (⟨a1, a2⟩ : S121)), 0))
        else
        (bif ((IntKind.wrap .i64 (a0 - 7)) == 3) then
          (some ((vec_pair_lt (⟨a1, a2⟩ : S121)), 0))
          else
          (bif ((IntKind.wrap .i64 (a0 - 7)) == 4) then
            (some ((vec_pair_ge (⟨a1, a2⟩ : S121)), 0))
            else
            (bif ((IntKind.wrap .i64 (a0 - 7)) == 5) then
              (some ((vec_pair_le (⟨a1, a2⟩ : S121)), 0))
              else
              (none)))))))
theorem vec_Holds_walk {a0 : Int} {a1 : Fl} {b1_0 : Nat} {a2 : Fl} {b2_0 : Nat} {I : Imm} {r : Bool × Int}  (hf1_0 : FRep a1 b1_0)  (hf2_0 : FRep a2 b2_0) (hr : vec_Holds a0 a1 a2 = some r) (L : Own) :
    CallsTo Tryz.prog 78 #[.int .i64 a0, .float .f64 b1_0, .float .f64 b2_0] I L (fun v I' L' => v = .tuple #[.bool r.1, .int .i64 r.2] ∧ L = L') := by
  unfold vec_Holds at hr
  refine callsTo_body (N := 25) Tryz.func78 (by kernel_rfl) (by kernel_rfl) (by kernel_rfl) ?_
  refine gk_pick [0, 1, 2] (K' := [(0, .int .i64 a0), (1, .float .f64 b1_0), (2, .float .f64 b2_0)]) (by kernel_rfl) ?_
  refine gk_seq (by kernel_rfl) ?_
  refine gk_region (by kernel_rfl) ?_
  refine gl_pure 2 [0, 1, 2] (K' := [(0, .int .i64 a0), (1, .float .f64 b1_0), (2, .float .f64 b2_0)]) (by kernel_rfl) ?_
  refine gl_atE (by kernel_rfl) ?_
  refine ge_seq ?_
  refine gk_seq (by kernel_rfl) ?_
  refine gk_seq (by kernel_rfl) ?_
  obtain ⟨b3, hb4⟩ : ∃ z, z = ((decide (a0 < 7)) || (decide (a0 > 12))) := ⟨_, rfl⟩
  refine gk_join (fun t I' L' => I ≤ I' ∧ L = L' ∧ Knows 25 [(0, .int .i64 a0), (1, .float .f64 b1_0), (2, .float .f64 b2_0), (14, .bool b3)] t) ?_ ?_
  · refine gk_region (by kernel_rfl) ?_
    refine gl_pure 3 [0, 1, 2, 11] (K' := [(0, .int .i64 a0), (1, .float .f64 b1_0), (2, .float .f64 b2_0), (11, .bool (decide (a0 < 7)))]) (by kernel_rfl) ?_
    refine gl_case 11 (b := (decide (a0 < 7))) (by kernel_rfl) (fun hc6 => ?_) (fun hc6 => ?_)
    · refine gl_pure 3 [0, 1, 2, 14] (K' := [(0, .int .i64 a0), (1, .float .f64 b1_0), (2, .float .f64 b2_0), (14, .bool true)]) (by kernel_rfl) ?_
      refine gl_atE (by kernel_rfl) ?_
      exact ge_mid fun t ht => ⟨(Imm.refl _), rfl, by rw [(show b3 = true from hb4.trans (by first | (rw [hc6]; done) | (rw [hc6]; rfl) | (simp [hc6]; done) | (simp only [hc6]; rfl) | (simp at *; omega)))]; exact ht.pick (l := [0, 1, 2, 14]) (by kernel_rfl)⟩
    · refine gl_pure 3 [0, 1, 2, 14] (K' := [(0, .int .i64 a0), (1, .float .f64 b1_0), (2, .float .f64 b2_0), (14, .bool (decide (a0 > 12)))]) (by kernel_rfl) ?_
      refine gl_atE (by kernel_rfl) ?_
      exact ge_mid fun t ht => ⟨(Imm.refl _), rfl, by rw [(show b3 = (decide (a0 > 12)) from hb4.trans (by first | (rw [hc6]; done) | (rw [hc6]; rfl) | (simp [hc6]; done) | (simp only [hc6]; rfl) | (simp at *; omega)))]; exact ht.pick (l := [0, 1, 2, 14]) (by kernel_rfl)⟩
  · rintro t I5 L' ⟨hI1, rfl, hK2⟩
    subst hb4
    refine ge_at hK2 ?_
    refine ge_seq ?_
    refine gk_cond (b := ((decide (a0 < 7)) || (decide (a0 > 12)))) (by kernel_rfl) (by kernel_rfl) (fun hc7 => ?_) (fun hc7 => ?_)
    · have hr := cond_t hc7 hr
      refine gk_seq (by kernel_rfl) ?_
      refine gk_region (by kernel_rfl) ?_
      refine gl_pure 2 [6, 7] (K' := [(6, .bool false), (7, .int .i64 60)]) (by kernel_rfl) ?_
      refine gl_atE (by kernel_rfl) ?_
      refine ge_seq ?_
      refine gk_ret (by kernel_rfl) ?_
      refine ge_seq_ret ?_
      obtain rfl := some_inj hr
      exact ge_result trivial (ResOk.tmp (by kernel_rfl) (ResOk.tmp (by kernel_rfl) ResOk.nil)) hI1 ⟨rfl, rfl⟩
    · have hr := cond_f hc7 hr
      refine gk_skip (by kernel_rfl) ?_
      refine ge_seq ?_
      refine gk_seq (by kernel_rfl) ?_
      refine gk_region (by kernel_rfl) ?_
      refine gl_buildSlice (T' := 146) (e := 145) (n := 1) (len := 6) (parts := #[(0, (.func 121)), (1, (.func 122)), (2, (.func 123)), (3, (.func 124)), (4, (.func 125)), (5, (.func 126))]) (l := [(0, .func (.func 121) #[] #[]), (1, .func (.func 122) #[] #[]), (2, .func (.func 123) #[] #[]), (3, .func (.func 124) #[] #[]), (4, .func (.func 125) #[] #[]), (5, .func (.func 126) #[] #[])]) (cs := #[.func (.func 121) #[] #[], .func (.func 122) #[] #[], .func (.func 123) #[] #[], .func (.func 124) #[] #[], .func (.func 125) #[] #[], .func (.func 126) #[] #[]]) (by kernel_rfl) (by kernel_rfl) (by kernel_rfl) (by kernel_rfl) (by kernel_rfl) (fun g8 => ?_)
      refine gl_reord (D := (g8, .cells #[.func (.func 121) #[] #[], .func (.func 122) #[] #[], .func (.func 123) #[] #[], .func (.func 124) #[] #[], .func (.func 125) #[] #[], .func (.func 126) #[] #[]] 145) :: L) (Reord.refl _) ?_
      refine gl_pure 1 [0, 1, 2, 8] (K' := [(0, .int .i64 a0), (1, .float .f64 b1_0), (2, .float .f64 b2_0), (8, .slice (some ⟨g8, 0, none⟩) 6 6)]) (by kernel_rfl) ?_
      refine gl_atE (by kernel_rfl) ?_
      refine ge_seq ?_
      refine gk_seq (by kernel_rfl) ?_
      refine gk_region (by kernel_rfl) ?_
      refine gl_pure 3 [1, 2, 16, 18] (K' := [(1, .float .f64 b1_0), (2, .float .f64 b2_0), (16, .slice (some ⟨g8, 0, none⟩) 6 6), (18, .int .i64 (IntKind.wrap .i64 (a0 - 7)))]) (by kernel_rfl) ?_
      refine gl_ieq (i := (IntKind.wrap .i64 (a0 - 7))) (j := 0) (fun hc9 he10 => ?_) (fun hc9 => ?_)
      · have hr := cond_t hc9 hr
        refine gl_kv (congrArg (fun (zz : Int) => ([(1, .float .f64 b1_0), (2, .float .f64 b2_0), (16, .slice (some ⟨g8, 0, none⟩) 6 6), (18, .int .i64 zz)] : KV)) he10) ?_
        refine gl_indexAddrF (A := some ⟨g8, 0, none⟩) (n := 1) (i := 0) (p := ⟨g8, 0, none⟩) (c := 6) (len := 6) (T' := 146) (e := 145) (xs := (.tmp 16)) (xi := (.tmp 18)) (kd := .i64) ⟨_, rfl, rfl⟩ (by decide) (by decide) (by kernel_rfl) (by kernel_rfl) (by kernel_rfl) (by kernel_rfl) (by kernel_rfl) ?_
        refine gl_loadB (T' := 145) (xp := (.tmp 19)) (v := .func (.func 121) #[] #[]) (g := g8) (off := 0) (cs := #[.func (.func 121) #[] #[], .func (.func 122) #[] #[], .func (.func 123) #[] #[], .func (.func 124) #[] #[], .func (.func 125) #[] #[], .func (.func 126) #[] #[]]) (e := 145) (fz := (0, 0)) (by kernel_rfl) (by kernel_rfl) (by kernel_rfl) List.mem_cons_self (by kernel_rfl) ?_
        refine gl_pure 3 [20, 23] (K' := [(20, .func (.func 121) #[] #[]), (23, .agg #[.float .f64 b1_0, .float .f64 b2_0])]) (by kernel_rfl) ?_
        refine gl_callQ (by kernel_rfl) (vec_pair_eq_walk (r := (vec_pair_eq (⟨a1, a2⟩ : S121))) (a0 := (⟨a1, a2⟩ : S121)) hf1_0 hf2_0 rfl _) ?_
        refine gl_pure 2 [6, 7] (K' := [(6, .bool (vec_pair_eq (⟨a1, a2⟩ : S121))), (7, .int .i64 0)]) (by kernel_rfl) ?_
        refine gl_atE (by kernel_rfl) ?_
        refine ge_seq ?_
        refine gk_reord (D := L) (Reord.skip (Reord.refl _)) ?_
        refine gk_ret (by kernel_rfl) ?_
        obtain rfl := some_inj hr
        exact ge_result trivial (ResOk.tmp (by kernel_rfl) (ResOk.tmp (by kernel_rfl) ResOk.nil)) hI1 ⟨rfl, rfl⟩
      · have hr := cond_f hc9 hr
        refine gl_ieq (i := (IntKind.wrap .i64 (a0 - 7))) (j := 1) (fun hc11 he12 => ?_) (fun hc11 => ?_)
        · have hr := cond_t hc11 hr
          refine gl_kv (congrArg (fun (zz : Int) => ([(1, .float .f64 b1_0), (2, .float .f64 b2_0), (16, .slice (some ⟨g8, 0, none⟩) 6 6), (18, .int .i64 zz)] : KV)) he12) ?_
          refine gl_indexAddrF (A := some ⟨g8, 0, none⟩) (n := 1) (i := 1) (p := ⟨g8, 1, none⟩) (c := 6) (len := 6) (T' := 146) (e := 145) (xs := (.tmp 16)) (xi := (.tmp 18)) (kd := .i64) ⟨_, rfl, rfl⟩ (by decide) (by decide) (by kernel_rfl) (by kernel_rfl) (by kernel_rfl) (by kernel_rfl) (by kernel_rfl) ?_
          refine gl_loadB (T' := 145) (xp := (.tmp 19)) (v := .func (.func 122) #[] #[]) (g := g8) (off := 1) (cs := #[.func (.func 121) #[] #[], .func (.func 122) #[] #[], .func (.func 123) #[] #[], .func (.func 124) #[] #[], .func (.func 125) #[] #[], .func (.func 126) #[] #[]]) (e := 145) (fz := (0, 0)) (by kernel_rfl) (by kernel_rfl) (by kernel_rfl) List.mem_cons_self (by kernel_rfl) ?_
          refine gl_pure 3 [20, 23] (K' := [(20, .func (.func 122) #[] #[]), (23, .agg #[.float .f64 b1_0, .float .f64 b2_0])]) (by kernel_rfl) ?_
          refine gl_callQ (by kernel_rfl) (vec_pair_ne_walk (r := (vec_pair_ne (⟨a1, a2⟩ : S121))) (a0 := (⟨a1, a2⟩ : S121)) hf1_0 hf2_0 rfl _) ?_
          refine gl_pure 2 [6, 7] (K' := [(6, .bool (vec_pair_ne (⟨a1, a2⟩ : S121))), (7, .int .i64 0)]) (by kernel_rfl) ?_
          refine gl_atE (by kernel_rfl) ?_
          refine ge_seq ?_
          refine gk_reord (D := L) (Reord.skip (Reord.refl _)) ?_
          refine gk_ret (by kernel_rfl) ?_
          obtain rfl := some_inj hr
          exact ge_result trivial (ResOk.tmp (by kernel_rfl) (ResOk.tmp (by kernel_rfl) ResOk.nil)) hI1 ⟨rfl, rfl⟩
        · have hr := cond_f hc11 hr
          refine gl_ieq (i := (IntKind.wrap .i64 (a0 - 7))) (j := 2) (fun hc13 he14 => ?_) (fun hc13 => ?_)
          · have hr := cond_t hc13 hr
            refine gl_kv (congrArg (fun (zz : Int) => ([(1, .float .f64 b1_0), (2, .float .f64 b2_0), (16, .slice (some ⟨g8, 0, none⟩) 6 6), (18, .int .i64 zz)] : KV)) he14) ?_
            refine gl_indexAddrF (A := some ⟨g8, 0, none⟩) (n := 1) (i := 2) (p := ⟨g8, 2, none⟩) (c := 6) (len := 6) (T' := 146) (e := 145) (xs := (.tmp 16)) (xi := (.tmp 18)) (kd := .i64) ⟨_, rfl, rfl⟩ (by decide) (by decide) (by kernel_rfl) (by kernel_rfl) (by kernel_rfl) (by kernel_rfl) (by kernel_rfl) ?_
            refine gl_loadB (T' := 145) (xp := (.tmp 19)) (v := .func (.func 123) #[] #[]) (g := g8) (off := 2) (cs := #[.func (.func 121) #[] #[], .func (.func 122) #[] #[], .func (.func 123) #[] #[], .func (.func 124) #[] #[], .func (.func 125) #[] #[], .func (.func 126) #[] #[]]) (e := 145) (fz := (0, 0)) (by kernel_rfl) (by kernel_rfl) (by kernel_rfl) List.mem_cons_self (by kernel_rfl) ?_
            refine gl_pure 3 [20, 23] (K' := [(20, .func (.func 123) #[] #[]), (23, .agg #[.float .f64 b1_0, .float .f64 b2_0])]) (by kernel_rfl) ?_
            refine gl_callQ (by kernel_rfl) (vec_pair_gt_walk (r := (vec_pair_gt (⟨a1, a2⟩ : S121))) (a0 := (⟨a1, a2⟩ : S121)) hf1_0 hf2_0 rfl _) ?_
            refine gl_pure 2 [6, 7] (K' := [(6, .bool (vec_pair_gt (⟨a1, a2⟩ : S121))), (7, .int .i64 0)]) (by kernel_rfl) ?_
            refine gl_atE (by kernel_rfl) ?_
            refine ge_seq ?_
            refine gk_reord (D := L) (Reord.skip (Reord.refl _)) ?_
            refine gk_ret (by kernel_rfl) ?_
            obtain rfl := some_inj hr
            exact ge_result trivial (ResOk.tmp (by kernel_rfl) (ResOk.tmp (by kernel_rfl) ResOk.nil)) hI1 ⟨rfl, rfl⟩
          · have hr := cond_f hc13 hr
            refine gl_ieq (i := (IntKind.wrap .i64 (a0 - 7))) (j := 3) (fun hc15 he16 => ?_) (fun hc15 => ?_)
            · have hr := cond_t hc15 hr
              refine gl_kv (congrArg (fun (zz : Int) => ([(1, .float .f64 b1_0), (2, .float .f64 b2_0), (16, .slice (some ⟨g8, 0, none⟩) 6 6), (18, .int .i64 zz)] : KV)) he16) ?_
              refine gl_indexAddrF (A := some ⟨g8, 0, none⟩) (n := 1) (i := 3) (p := ⟨g8, 3, none⟩) (c := 6) (len := 6) (T' := 146) (e := 145) (xs := (.tmp 16)) (xi := (.tmp 18)) (kd := .i64) ⟨_, rfl, rfl⟩ (by decide) (by decide) (by kernel_rfl) (by kernel_rfl) (by kernel_rfl) (by kernel_rfl) (by kernel_rfl) ?_
              refine gl_loadB (T' := 145) (xp := (.tmp 19)) (v := .func (.func 124) #[] #[]) (g := g8) (off := 3) (cs := #[.func (.func 121) #[] #[], .func (.func 122) #[] #[], .func (.func 123) #[] #[], .func (.func 124) #[] #[], .func (.func 125) #[] #[], .func (.func 126) #[] #[]]) (e := 145) (fz := (0, 0)) (by kernel_rfl) (by kernel_rfl) (by kernel_rfl) List.mem_cons_self (by kernel_rfl) ?_
              refine gl_pure 3 [20, 23] (K' := [(20, .func (.func 124) #[] #[]), (23, .agg #[.float .f64 b1_0, .float .f64 b2_0])]) (by kernel_rfl) ?_
              refine gl_callQ (by kernel_rfl) (vec_pair_lt_walk (r := (vec_pair_lt (⟨a1, a2⟩ : S121))) (a0 := (⟨a1, a2⟩ : S121)) hf1_0 hf2_0 rfl _) ?_
              refine gl_pure 2 [6, 7] (K' := [(6, .bool (vec_pair_lt (⟨a1, a2⟩ : S121))), (7, .int .i64 0)]) (by kernel_rfl) ?_
              refine gl_atE (by kernel_rfl) ?_
              refine ge_seq ?_
              refine gk_reord (D := L) (Reord.skip (Reord.refl _)) ?_
              refine gk_ret (by kernel_rfl) ?_
              obtain rfl := some_inj hr
              exact ge_result trivial (ResOk.tmp (by kernel_rfl) (ResOk.tmp (by kernel_rfl) ResOk.nil)) hI1 ⟨rfl, rfl⟩
            · have hr := cond_f hc15 hr
              refine gl_ieq (i := (IntKind.wrap .i64 (a0 - 7))) (j := 4) (fun hc17 he18 => ?_) (fun hc17 => ?_)
              · have hr := cond_t hc17 hr
                refine gl_kv (congrArg (fun (zz : Int) => ([(1, .float .f64 b1_0), (2, .float .f64 b2_0), (16, .slice (some ⟨g8, 0, none⟩) 6 6), (18, .int .i64 zz)] : KV)) he18) ?_
                refine gl_indexAddrF (A := some ⟨g8, 0, none⟩) (n := 1) (i := 4) (p := ⟨g8, 4, none⟩) (c := 6) (len := 6) (T' := 146) (e := 145) (xs := (.tmp 16)) (xi := (.tmp 18)) (kd := .i64) ⟨_, rfl, rfl⟩ (by decide) (by decide) (by kernel_rfl) (by kernel_rfl) (by kernel_rfl) (by kernel_rfl) (by kernel_rfl) ?_
                refine gl_loadB (T' := 145) (xp := (.tmp 19)) (v := .func (.func 125) #[] #[]) (g := g8) (off := 4) (cs := #[.func (.func 121) #[] #[], .func (.func 122) #[] #[], .func (.func 123) #[] #[], .func (.func 124) #[] #[], .func (.func 125) #[] #[], .func (.func 126) #[] #[]]) (e := 145) (fz := (0, 0)) (by kernel_rfl) (by kernel_rfl) (by kernel_rfl) List.mem_cons_self (by kernel_rfl) ?_
                refine gl_pure 3 [20, 23] (K' := [(20, .func (.func 125) #[] #[]), (23, .agg #[.float .f64 b1_0, .float .f64 b2_0])]) (by kernel_rfl) ?_
                refine gl_callQ (by kernel_rfl) (vec_pair_ge_walk (r := (vec_pair_ge (⟨a1, a2⟩ : S121))) (a0 := (⟨a1, a2⟩ : S121)) hf1_0 hf2_0 rfl _) ?_
                refine gl_pure 2 [6, 7] (K' := [(6, .bool (vec_pair_ge (⟨a1, a2⟩ : S121))), (7, .int .i64 0)]) (by kernel_rfl) ?_
                refine gl_atE (by kernel_rfl) ?_
                refine ge_seq ?_
                refine gk_reord (D := L) (Reord.skip (Reord.refl _)) ?_
                refine gk_ret (by kernel_rfl) ?_
                obtain rfl := some_inj hr
                exact ge_result trivial (ResOk.tmp (by kernel_rfl) (ResOk.tmp (by kernel_rfl) ResOk.nil)) hI1 ⟨rfl, rfl⟩
              · have hr := cond_f hc17 hr
                refine gl_ieq (i := (IntKind.wrap .i64 (a0 - 7))) (j := 5) (fun hc19 he20 => ?_) (fun hc19 => ?_)
                · have hr := cond_t hc19 hr
                  refine gl_kv (congrArg (fun (zz : Int) => ([(1, .float .f64 b1_0), (2, .float .f64 b2_0), (16, .slice (some ⟨g8, 0, none⟩) 6 6), (18, .int .i64 zz)] : KV)) he20) ?_
                  refine gl_indexAddrF (A := some ⟨g8, 0, none⟩) (n := 1) (i := 5) (p := ⟨g8, 5, none⟩) (c := 6) (len := 6) (T' := 146) (e := 145) (xs := (.tmp 16)) (xi := (.tmp 18)) (kd := .i64) ⟨_, rfl, rfl⟩ (by decide) (by decide) (by kernel_rfl) (by kernel_rfl) (by kernel_rfl) (by kernel_rfl) (by kernel_rfl) ?_
                  refine gl_loadB (T' := 145) (xp := (.tmp 19)) (v := .func (.func 126) #[] #[]) (g := g8) (off := 5) (cs := #[.func (.func 121) #[] #[], .func (.func 122) #[] #[], .func (.func 123) #[] #[], .func (.func 124) #[] #[], .func (.func 125) #[] #[], .func (.func 126) #[] #[]]) (e := 145) (fz := (0, 0)) (by kernel_rfl) (by kernel_rfl) (by kernel_rfl) List.mem_cons_self (by kernel_rfl) ?_
                  refine gl_pure 3 [20, 23] (K' := [(20, .func (.func 126) #[] #[]), (23, .agg #[.float .f64 b1_0, .float .f64 b2_0])]) (by kernel_rfl) ?_
                  refine gl_callQ (by kernel_rfl) (vec_pair_le_walk (r := (vec_pair_le (⟨a1, a2⟩ : S121))) (a0 := (⟨a1, a2⟩ : S121)) hf1_0 hf2_0 rfl _) ?_
                  refine gl_pure 2 [6, 7] (K' := [(6, .bool (vec_pair_le (⟨a1, a2⟩ : S121))), (7, .int .i64 0)]) (by kernel_rfl) ?_
                  refine gl_atE (by kernel_rfl) ?_
                  refine ge_seq ?_
                  refine gk_reord (D := L) (Reord.skip (Reord.refl _)) ?_
                  refine gk_ret (by kernel_rfl) ?_
                  obtain rfl := some_inj hr
                  exact ge_result trivial (ResOk.tmp (by kernel_rfl) (ResOk.tmp (by kernel_rfl) ResOk.nil)) hI1 ⟨rfl, rfl⟩
                · have hr := cond_f hc19 hr
                  cases hr
/-! 38 vec_result  -/
noncomputable def vec_result (a0 : Int) (a1 : Fl) (a2 : Fl) (a3 : List S76) (a4 : Fl) (a5 : Bool) : Option (S38 × Bool) :=
  bif (decide (a0 ≤ 6)) then
  (Option.bind (vec_Arith a0 a1 a2) fun (y3 : Fl × Int) =>
    Option.bind (vec_nameless a3) fun (y10 : (List S76)) =>
    some ((⟨y10, y3.1⟩ : S38), true))
  else
  (Option.bind (vec_Holds a0 a1 a2) fun (y24 : Bool × Int) =>
    bif (a5 && y24.1) then
    (Option.bind (vec_nameless a3) fun (y31 : (List S76)) =>
      some ((⟨y31, (some 4607182418800017408 : Fl)⟩ : S38), true))
    else
    (bif a5 then
      (Option.bind (vec_nameless a3) fun (y46 : (List S76)) =>
        some ((⟨y46, (some 0 : Fl)⟩ : S38), true))
      else
      (some ((⟨a3, a4⟩ : S38), y24.1))))
theorem vec_result_walk {a0 : Int} {a1 : Fl} {b1_0 : Nat} {a2 : Fl} {b2_0 : Nat} {a3 : List S76} {A3_0 : Option Addr} {n3_0 : Nat} {a4 : Fl} {b4_0 : Nat} {a5 : Bool} {I : Imm} {r : S38 × Bool} (hG : Gl I)  (hf1_0 : FRep a1 b1_0)  (hf2_0 : FRep a2 b2_0)  (hf3_0 : RepS kS76 I A3_0 n3_0 a3)  (hf4_0 : FRep a4 b4_0) (hr : vec_result a0 a1 a2 a3 a4 a5 = some r) (L : Own) :
    CallsTo Tryz.prog 38 #[.int .i64 a0, .float .f64 b1_0, .float .f64 b2_0, .slice A3_0 a3.length n3_0, .float .f64 b4_0, .bool a5] I L (fun v I' L' => ∃ A0_0 c0_0 b0_1, RepS kS76 I' A0_0 c0_0 r.1.f0 ∧ FRep r.1.f1 b0_1 ∧ v = .tuple #[.agg #[.slice A0_0 r.1.f0.length c0_0, .float .f64 b0_1], .bool r.2] ∧ L = L') := by
  unfold vec_result at hr
  refine callsTo_body (N := 55) Tryz.func38 (by kernel_rfl) (by kernel_rfl) (by kernel_rfl) ?_
  refine gk_pick [0, 1, 2, 3, 4, 5] (K' := [(0, .int .i64 a0), (1, .float .f64 b1_0), (2, .float .f64 b2_0), (3, .slice A3_0 a3.length n3_0), (4, .float .f64 b4_0), (5, .bool a5)]) (by kernel_rfl) ?_
  refine gk_seq (by kernel_rfl) ?_
  refine gk_region (by kernel_rfl) ?_
  refine gl_alloc (T' := 39) (cs := #[.slice none 0 0, .float .f64 0]) (by kernel_rfl) (by kernel_rfl) (by kernel_rfl) (fun gb1 => ?_)
  refine gl_pure 1 [0, 1, 2, 3, 4, 5, 12] (K' := [(0, .int .i64 a0), (1, .float .f64 b1_0), (2, .float .f64 b2_0), (3, .slice A3_0 a3.length n3_0), (4, .float .f64 b4_0), (5, .bool a5), (12, .pointer (some ⟨gb1, 0, none⟩))]) (by kernel_rfl) ?_
  refine gl_atE (by kernel_rfl) ?_
  refine ge_seq ?_
  refine gk_seq (by kernel_rfl) ?_
  refine gk_seq (by kernel_rfl) ?_
  refine gk_region (by kernel_rfl) ?_
  refine gl_pure 2 [0, 1, 2, 3, 4, 5, 12, 19] (K' := [(0, .int .i64 a0), (1, .float .f64 b1_0), (2, .float .f64 b2_0), (3, .slice A3_0 a3.length n3_0), (4, .float .f64 b4_0), (5, .bool a5), (12, .pointer (some ⟨gb1, 0, none⟩)), (19, .bool (decide (a0 ≤ 6)))]) (by kernel_rfl) ?_
  refine gl_atE (by kernel_rfl) ?_
  refine ge_seq ?_
  refine gk_cond (b := (decide (a0 ≤ 6))) (by kernel_rfl) (by kernel_rfl) (fun hc2 => ?_) (fun hc2 => ?_)
  · have hr := cond_t hc2 hr
    refine gk_seq (by kernel_rfl) ?_
    refine gk_region (by kernel_rfl) ?_
    refine gl_pure 3 [3, 12, 21, 22, 23] (K' := [(3, .slice A3_0 a3.length n3_0), (12, .pointer (some ⟨gb1, 0, none⟩)), (21, .int .i64 a0), (22, .float .f64 b1_0), (23, .float .f64 b2_0)]) (by kernel_rfl) ?_
    obtain ⟨y3, hx4, hr⟩ := bind_some hr
    refine gl_call (by kernel_rfl) (vec_Arith_walk (r := y3) hf1_0 hf2_0 hx4 _) ?_
    rintro v I5 L6 hI7 ⟨z8, hO9, rfl, rfl⟩
    refine gl_pure 5 [3, 12, 14] (K' := [(3, .slice A3_0 a3.length n3_0), (12, .pointer (some ⟨gb1, 0, none⟩)), (14, .float .f64 z8)]) (by kernel_rfl) ?_
    refine gl_atE (by kernel_rfl) ?_
    refine ge_seq ?_
    refine gk_seq (by kernel_rfl) ?_
    refine gk_region (by kernel_rfl) ?_
    refine gl_pure 1 [12, 14, 27] (K' := [(12, .pointer (some ⟨gb1, 0, none⟩)), (14, .float .f64 z8), (27, .slice A3_0 a3.length n3_0)]) (by kernel_rfl) ?_
    obtain ⟨y10, hx11, hr⟩ := bind_some hr
    refine gl_call (by kernel_rfl) (vec_nameless_walk (r := y10) (hG.mono hI7) (hf3_0.mono hI7) hx11 _) ?_
    rintro v I12 L13 hI14 ⟨A15, c16, C17, hO18, rfl, rfl⟩
    refine gl_pure 2 [12, 30] (K' := [(12, .pointer (some ⟨gb1, 0, none⟩)), (30, .agg #[.slice A15 y10.length c16, .float .f64 z8])]) (by kernel_rfl) ?_
    refine gl_storeB (T' := 39) (xp := (.tmp 12)) (xv := (.tmp 30)) (v := .agg #[.slice A15 y10.length c16, .float .f64 z8]) (g := gb1) (off := 0) (cs := #[.slice none 0 0, .float .f64 0]) (cs' := #[.slice A15 y10.length c16, .float .f64 z8]) (by kernel_rfl) (by kernel_rfl) (by kernel_rfl) (by kernel_rfl) (by kernel_rfl) (Upd.app _ (Upd.set _ _ _ _)) ?_ (by kernel_rfl)
    refine gl_pure 1 [12, 13] (K' := [(12, .pointer (some ⟨gb1, 0, none⟩)), (13, .bool true)]) (by kernel_rfl) ?_
    refine gl_atE (by kernel_rfl) ?_
    refine ge_seq ?_
    refine gk_rest (Tk.step (Upd.rmC _ _) (Tk.step (Upd.rm1 _ _) (Tk.nil _))) (fun J19 hJ20 hC21 => ?_)
    have hf22 := (OwnS.rest hO18 hJ20 hC21.left)
    have hf23 := hC21.right.left.blk
    refine gk_ret (by kernel_rfl) ?_
    refine ge_seq_ret ?_
    obtain rfl := some_inj hr
    exact ge_result trivial (ResOk.cell (v := .agg #[.slice A15 y10.length c16, .float .f64 z8]) (by kernel_rfl) (loadR_agg (cs := [.slice A15 y10.length c16, .float .f64 z8]) (by kernel_rfl) (RunAt.take hf23 2)) (ResOk.tmp (by kernel_rfl) ResOk.nil)) (Imm.trans (Imm.trans hI7 hI14) hJ20) ⟨A15, c16, z8, hf22, hO9, rfl, rfl⟩
  · have hr := cond_f hc2 hr
    refine gk_skip (by kernel_rfl) ?_
    refine ge_seq ?_
    refine gk_seq (by kernel_rfl) ?_
    refine gk_region (by kernel_rfl) ?_
    refine gl_pure 3 [3, 4, 5, 12, 32, 33, 34] (K' := [(3, .slice A3_0 a3.length n3_0), (4, .float .f64 b4_0), (5, .bool a5), (12, .pointer (some ⟨gb1, 0, none⟩)), (32, .int .i64 a0), (33, .float .f64 b1_0), (34, .float .f64 b2_0)]) (by kernel_rfl) ?_
    obtain ⟨y24, hx25, hr⟩ := bind_some hr
    refine gl_callQ (by kernel_rfl) (vec_Holds_walk (r := y24) hf1_0 hf2_0 hx25 _) ?_
    refine gl_pure 5 [3, 4, 5, 12, 16] (K' := [(3, .slice A3_0 a3.length n3_0), (4, .float .f64 b4_0), (5, .bool a5), (12, .pointer (some ⟨gb1, 0, none⟩)), (16, .bool y24.1)]) (by kernel_rfl) ?_
    refine gl_atE (by kernel_rfl) ?_
    refine ge_seq ?_
    refine gk_seq (by kernel_rfl) ?_
    refine gk_block (by kernel_rfl) ?_
    refine gk_seq (by kernel_rfl) ?_
    refine gk_join (fun t I' L' => I ≤ I' ∧ (gb1, .cells #[.slice none 0 0, .float .f64 0] 39) :: L = L' ∧ Knows 55 [(3, .slice A3_0 a3.length n3_0), (4, .float .f64 b4_0), (5, .bool a5), (12, .pointer (some ⟨gb1, 0, none⟩)), (16, .bool y24.1), (38, .bool (a5 && y24.1))] t) ?_ ?_
    · refine gk_region (by kernel_rfl) ?_
      refine gl_pure 2 [3, 4, 5, 12, 16, 40] (K' := [(3, .slice A3_0 a3.length n3_0), (4, .float .f64 b4_0), (5, .bool a5), (12, .pointer (some ⟨gb1, 0, none⟩)), (16, .bool y24.1), (40, .bool a5)]) (by kernel_rfl) ?_
      refine gl_case 40 (b := a5) (by kernel_rfl) (fun hc29 => ?_) (fun hc29 => ?_)
      · refine gl_pure 3 [3, 4, 5, 12, 16, 38] (K' := [(3, .slice A3_0 a3.length n3_0), (4, .float .f64 b4_0), (5, .bool a5), (12, .pointer (some ⟨gb1, 0, none⟩)), (16, .bool y24.1), (38, .bool y24.1)]) (by kernel_rfl) ?_
        refine gl_atE (by kernel_rfl) ?_
        exact ge_mid fun t ht => ⟨(Imm.refl _), rfl, by rw [(show (a5 && y24.1) = y24.1 from by first | (rw [hc29]; done) | (rw [hc29]; rfl) | (simp [hc29]; done) | (simp only [hc29]; rfl) | (simp at *; omega))]; exact ht.pick (l := [3, 4, 5, 12, 16, 38]) (by kernel_rfl)⟩
      · refine gl_pure 3 [3, 4, 5, 12, 16, 38] (K' := [(3, .slice A3_0 a3.length n3_0), (4, .float .f64 b4_0), (5, .bool a5), (12, .pointer (some ⟨gb1, 0, none⟩)), (16, .bool y24.1), (38, .bool false)]) (by kernel_rfl) ?_
        refine gl_atE (by kernel_rfl) ?_
        exact ge_mid fun t ht => ⟨(Imm.refl _), rfl, by rw [(show (a5 && y24.1) = false from by first | (rw [hc29]; done) | (rw [hc29]; rfl) | (simp [hc29]; done) | (simp only [hc29]; rfl) | (simp at *; omega))]; exact ht.pick (l := [3, 4, 5, 12, 16, 38]) (by kernel_rfl)⟩
    · rintro t I28 L' ⟨hI26, rfl, hK27⟩
      refine ge_at hK27 ?_
      refine ge_seq ?_
      refine gk_cond (b := (a5 && y24.1)) (by kernel_rfl) (by kernel_rfl) (fun hc30 => ?_) (fun hc30 => ?_)
      · have hr := cond_t hc30 hr
        refine gk_seq (by kernel_rfl) ?_
        refine gk_region (by kernel_rfl) ?_
        refine gl_pure 1 [12, 43] (K' := [(12, .pointer (some ⟨gb1, 0, none⟩)), (43, .slice A3_0 a3.length n3_0)]) (by kernel_rfl) ?_
        obtain ⟨y31, hx32, hr⟩ := bind_some hr
        refine gl_call (by kernel_rfl) (vec_nameless_walk (r := y31) (hG.mono hI26) (hf3_0.mono hI26) hx32 _) ?_
        rintro v I33 L34 hI35 ⟨A36, c37, C38, hO39, rfl, rfl⟩
        refine gl_pure 1 [12, 45] (K' := [(12, .pointer (some ⟨gb1, 0, none⟩)), (45, .agg #[.slice A36 y31.length c37, .float .f64 4607182418800017408])]) (by kernel_rfl) ?_
        refine gl_storeB (T' := 39) (xp := (.tmp 12)) (xv := (.tmp 45)) (v := .agg #[.slice A36 y31.length c37, .float .f64 4607182418800017408]) (g := gb1) (off := 0) (cs := #[.slice none 0 0, .float .f64 0]) (cs' := #[.slice A36 y31.length c37, .float .f64 4607182418800017408]) (by kernel_rfl) (by kernel_rfl) (by kernel_rfl) (by kernel_rfl) (by kernel_rfl) (Upd.app _ (Upd.set _ _ _ _)) ?_ (by kernel_rfl)
        refine gl_pure 1 [12, 13] (K' := [(12, .pointer (some ⟨gb1, 0, none⟩)), (13, .bool true)]) (by kernel_rfl) ?_
        refine gl_atE (by kernel_rfl) ?_
        refine ge_seq ?_
        refine gk_rest (Tk.step (Upd.rmC _ _) (Tk.step (Upd.rm1 _ _) (Tk.nil _))) (fun J40 hJ41 hC42 => ?_)
        have hf43 := (OwnS.rest hO39 hJ41 hC42.left)
        have hf44 := hC42.right.left.blk
        refine gk_ret (by kernel_rfl) ?_
        refine ge_block_ret ?_
        refine ge_seq_ret ?_
        obtain rfl := some_inj hr
        exact ge_result trivial (ResOk.cell (v := .agg #[.slice A36 y31.length c37, .float .f64 4607182418800017408]) (by kernel_rfl) (loadR_agg (cs := [.slice A36 y31.length c37, .float .f64 4607182418800017408]) (by kernel_rfl) (RunAt.take hf44 2)) (ResOk.tmp (by kernel_rfl) ResOk.nil)) (Imm.trans (Imm.trans hI26 hI35) hJ41) ⟨A36, c37, 4607182418800017408, hf43, (FRep.of 4607182418800017408), rfl, rfl⟩
      · have hr := cond_f hc30 hr
        refine gk_seq (by kernel_rfl) ?_
        refine gk_region (by kernel_rfl) ?_
        refine gl_pure 2 [3, 4, 12, 16, 46] (K' := [(3, .slice A3_0 a3.length n3_0), (4, .float .f64 b4_0), (12, .pointer (some ⟨gb1, 0, none⟩)), (16, .bool y24.1), (46, .bool a5)]) (by kernel_rfl) ?_
        refine gl_atE (by kernel_rfl) ?_
        refine ge_seq ?_
        refine gk_cond (b := a5) (by kernel_rfl) (by kernel_rfl) (fun hc45 => ?_) (fun hc45 => ?_)
        · have hr := cond_t hc45 hr
          refine gk_seq (by kernel_rfl) ?_
          refine gk_region (by kernel_rfl) ?_
          refine gl_pure 1 [12, 48] (K' := [(12, .pointer (some ⟨gb1, 0, none⟩)), (48, .slice A3_0 a3.length n3_0)]) (by kernel_rfl) ?_
          obtain ⟨y46, hx47, hr⟩ := bind_some hr
          refine gl_call (by kernel_rfl) (vec_nameless_walk (r := y46) (hG.mono hI26) (hf3_0.mono hI26) hx47 _) ?_
          rintro v I48 L49 hI50 ⟨A51, c52, C53, hO54, rfl, rfl⟩
          refine gl_pure 1 [12, 50] (K' := [(12, .pointer (some ⟨gb1, 0, none⟩)), (50, .agg #[.slice A51 y46.length c52, .float .f64 0])]) (by kernel_rfl) ?_
          refine gl_storeB (T' := 39) (xp := (.tmp 12)) (xv := (.tmp 50)) (v := .agg #[.slice A51 y46.length c52, .float .f64 0]) (g := gb1) (off := 0) (cs := #[.slice none 0 0, .float .f64 0]) (cs' := #[.slice A51 y46.length c52, .float .f64 0]) (by kernel_rfl) (by kernel_rfl) (by kernel_rfl) (by kernel_rfl) (by kernel_rfl) (Upd.app _ (Upd.set _ _ _ _)) ?_ (by kernel_rfl)
          refine gl_pure 1 [12, 13] (K' := [(12, .pointer (some ⟨gb1, 0, none⟩)), (13, .bool true)]) (by kernel_rfl) ?_
          refine gl_atE (by kernel_rfl) ?_
          refine ge_seq ?_
          refine gk_rest (Tk.step (Upd.rmC _ _) (Tk.step (Upd.rm1 _ _) (Tk.nil _))) (fun J55 hJ56 hC57 => ?_)
          have hf58 := (OwnS.rest hO54 hJ56 hC57.left)
          have hf59 := hC57.right.left.blk
          refine gk_ret (by kernel_rfl) ?_
          refine ge_block_ret ?_
          refine ge_seq_ret ?_
          obtain rfl := some_inj hr
          exact ge_result trivial (ResOk.cell (v := .agg #[.slice A51 y46.length c52, .float .f64 0]) (by kernel_rfl) (loadR_agg (cs := [.slice A51 y46.length c52, .float .f64 0]) (by kernel_rfl) (RunAt.take hf59 2)) (ResOk.tmp (by kernel_rfl) ResOk.nil)) (Imm.trans (Imm.trans hI26 hI50) hJ56) ⟨A51, c52, 0, hf58, (FRep.of 0), rfl, rfl⟩
        · have hr := cond_f hc45 hr
          refine gk_skip (by kernel_rfl) ?_
          refine ge_block_normal ?_
          refine ge_seq ?_
          refine gk_seq (by kernel_rfl) ?_
          refine gk_region (by kernel_rfl) ?_
          refine gl_pure 4 [12, 53, 54] (K' := [(12, .pointer (some ⟨gb1, 0, none⟩)), (53, .agg #[.slice A3_0 a3.length n3_0, .float .f64 b4_0]), (54, .bool y24.1)]) (by kernel_rfl) ?_
          refine gl_storeB (T' := 39) (xp := (.tmp 12)) (xv := (.tmp 53)) (v := .agg #[.slice A3_0 a3.length n3_0, .float .f64 b4_0]) (g := gb1) (off := 0) (cs := #[.slice none 0 0, .float .f64 0]) (cs' := #[.slice A3_0 a3.length n3_0, .float .f64 b4_0]) (by kernel_rfl) (by kernel_rfl) (by kernel_rfl) (by kernel_rfl) (by kernel_rfl) (Upd.set _ _ _ _) ?_ (by kernel_rfl)
          refine gl_pure 1 [12, 13] (K' := [(12, .pointer (some ⟨gb1, 0, none⟩)), (13, .bool y24.1)]) (by kernel_rfl) ?_
          refine gl_atE (by kernel_rfl) ?_
          refine ge_seq ?_
          refine gk_rest (Tk.step (Upd.rm1 _ _) (Tk.nil _)) (fun J60 hJ61 hC62 => ?_)
          have hf63 := hC62.left.blk
          refine gk_ret (by kernel_rfl) ?_
          obtain rfl := some_inj hr
          exact ge_result trivial (ResOk.cell (v := .agg #[.slice A3_0 a3.length n3_0, .float .f64 b4_0]) (by kernel_rfl) (loadR_agg (cs := [.slice A3_0 a3.length n3_0, .float .f64 b4_0]) (by kernel_rfl) (RunAt.take hf63 2)) (ResOk.tmp (by kernel_rfl) ResOk.nil)) (Imm.trans hI26 hJ61) ⟨A3_0, n3_0, b4_0, (hf3_0.mono (Imm.trans hI26 hJ61)), hf4_0, rfl, rfl⟩
/-! 128 vec_include_1  -/
noncomputable def vec_include_1 (a0 : S76) (a1 : S76) : Int :=
  bif (Op.bytesLess a0.f0.toList a1.f0.toList) then
  ((-1))
  else
  (bif (!((Op.bytesLess a0.f0.toList a1.f0.toList) || (a0.f0.toList == a1.f0.toList))) then
    (1)
    else
    (0))
theorem vec_include_1_walk {a0 : S76} {a1 : S76} {I : Imm} {r : Int}  (hr : vec_include_1 a0 a1 = r) (L : Own) :
    CallsTo Tryz.prog 128 #[.agg #[.string a0.f0, .string a0.f1], .agg #[.string a1.f0, .string a1.f1]] I L (fun v I' L' => v = .int .i64 r ∧ L = L') := by
  replace hr : some (vec_include_1 a0 a1) = some r := congrArg some hr
  unfold vec_include_1 at hr
  refine callsTo_body (N := 17) Tryz.func128 (by kernel_rfl) (by kernel_rfl) (by kernel_rfl) ?_
  refine gk_pick [0, 1] (K' := [(0, .agg #[.string a0.f0, .string a0.f1]), (1, .agg #[.string a1.f0, .string a1.f1])]) (by kernel_rfl) ?_
  refine gk_seq (by kernel_rfl) ?_
  refine gk_region (by kernel_rfl) ?_
  refine gl_box (T' := 77) (x := (.tmp 0)) (v := .agg #[.string a0.f0, .string a0.f1]) (cs := #[.string a0.f0, .string a0.f1]) (by kernel_rfl) (by kernel_rfl) (by kernel_rfl) (by kernel_rfl) (fun gb1 => ?_)
  refine gl_box (T' := 77) (x := (.tmp 1)) (v := .agg #[.string a1.f0, .string a1.f1]) (cs := #[.string a1.f0, .string a1.f1]) (by kernel_rfl) (by kernel_rfl) (by kernel_rfl) (by kernel_rfl) (fun g2 => ?_)
  refine gl_pure 1 [2, 3] (K' := [(2, .pointer (some ⟨gb1, 0, none⟩)), (3, .pointer (some ⟨g2, 0, none⟩))]) (by kernel_rfl) ?_
  refine gl_atE (by kernel_rfl) ?_
  refine ge_seq ?_
  refine gk_seq (by kernel_rfl) ?_
  refine gk_block (by kernel_rfl) ?_
  refine gk_seq (by kernel_rfl) ?_
  refine gk_region (by kernel_rfl) ?_
  refine gl_pure 1 [2, 3, 6] (K' := [(2, .pointer (some ⟨gb1, 0, none⟩)), (3, .pointer (some ⟨g2, 0, none⟩)), (6, .pointer (some ⟨gb1, 0, none⟩))]) (by kernel_rfl) ?_
  refine gl_loadB (T' := 9) (xp := (.tmp 6)) (v := .string a0.f0) (g := gb1) (off := 0) (cs := #[.string a0.f0, .string a0.f1]) (e := 77) (fz := (0, 0)) (by kernel_rfl) (by kernel_rfl) (by kernel_rfl) (List.mem_cons_of_mem _ List.mem_cons_self) (by kernel_rfl) ?_
  refine gl_pure 1 [2, 3, 7, 8] (K' := [(2, .pointer (some ⟨gb1, 0, none⟩)), (3, .pointer (some ⟨g2, 0, none⟩)), (7, .string a0.f0), (8, .pointer (some ⟨g2, 0, none⟩))]) (by kernel_rfl) ?_
  refine gl_loadB (T' := 9) (xp := (.tmp 8)) (v := .string a1.f0) (g := g2) (off := 0) (cs := #[.string a1.f0, .string a1.f1]) (e := 77) (fz := (0, 0)) (by kernel_rfl) (by kernel_rfl) (by kernel_rfl) List.mem_cons_self (by kernel_rfl) ?_
  refine gl_pure 2 [2, 3, 5] (K' := [(2, .pointer (some ⟨gb1, 0, none⟩)), (3, .pointer (some ⟨g2, 0, none⟩)), (5, .bool (Op.bytesLess a0.f0.toList a1.f0.toList))]) (by kernel_rfl) ?_
  refine gl_atE (by kernel_rfl) ?_
  refine ge_seq ?_
  refine gk_cond (b := (Op.bytesLess a0.f0.toList a1.f0.toList)) (by kernel_rfl) (by kernel_rfl) (fun hc3 => ?_) (fun hc3 => ?_)
  · have hr := scond_t hc3 hr
    refine gk_seq (by kernel_rfl) ?_
    refine gk_region (by kernel_rfl) ?_
    refine gl_pure 1 [4] (K' := [(4, .int .i64 (-1))]) (by kernel_rfl) ?_
    refine gl_atE (by kernel_rfl) ?_
    refine ge_seq ?_
    refine gk_reord (D := L) (Reord.skip (Reord.skip (Reord.refl _))) ?_
    refine gk_ret (by kernel_rfl) ?_
    refine ge_block_ret ?_
    refine ge_seq_ret ?_
    obtain rfl := some_inj hr
    exact ge_result trivial (ResOk.tmp (by kernel_rfl) ResOk.nil) (Imm.refl _) ⟨rfl, rfl⟩
  · have hr := scond_f hc3 hr
    refine gk_seq (by kernel_rfl) ?_
    refine gk_region (by kernel_rfl) ?_
    refine gl_pure 1 [3, 12] (K' := [(3, .pointer (some ⟨g2, 0, none⟩)), (12, .pointer (some ⟨gb1, 0, none⟩))]) (by kernel_rfl) ?_
    refine gl_loadB (T' := 9) (xp := (.tmp 12)) (v := .string a0.f0) (g := gb1) (off := 0) (cs := #[.string a0.f0, .string a0.f1]) (e := 77) (fz := (0, 0)) (by kernel_rfl) (by kernel_rfl) (by kernel_rfl) (List.mem_cons_of_mem _ List.mem_cons_self) (by kernel_rfl) ?_
    refine gl_pure 1 [13, 14] (K' := [(13, .string a0.f0), (14, .pointer (some ⟨g2, 0, none⟩))]) (by kernel_rfl) ?_
    refine gl_loadB (T' := 9) (xp := (.tmp 14)) (v := .string a1.f0) (g := g2) (off := 0) (cs := #[.string a1.f0, .string a1.f1]) (e := 77) (fz := (0, 0)) (by kernel_rfl) (by kernel_rfl) (by kernel_rfl) List.mem_cons_self (by kernel_rfl) ?_
    refine gl_pure 2 [11] (K' := [(11, .bool (!((Op.bytesLess a0.f0.toList a1.f0.toList) || (a0.f0.toList == a1.f0.toList))))]) (by kernel_rfl) ?_
    refine gl_atE (by kernel_rfl) ?_
    refine ge_seq ?_
    refine gk_cond (b := (!((Op.bytesLess a0.f0.toList a1.f0.toList) || (a0.f0.toList == a1.f0.toList)))) (by kernel_rfl) (by kernel_rfl) (fun hc4 => ?_) (fun hc4 => ?_)
    · have hr := scond_t hc4 hr
      refine gk_seq (by kernel_rfl) ?_
      refine gk_region (by kernel_rfl) ?_
      refine gl_pure 1 [4] (K' := [(4, .int .i64 1)]) (by kernel_rfl) ?_
      refine gl_atE (by kernel_rfl) ?_
      refine ge_seq ?_
      refine gk_reord (D := L) (Reord.skip (Reord.skip (Reord.refl _))) ?_
      refine gk_ret (by kernel_rfl) ?_
      refine ge_block_ret ?_
      refine ge_seq_ret ?_
      obtain rfl := some_inj hr
      exact ge_result trivial (ResOk.tmp (by kernel_rfl) ResOk.nil) (Imm.refl _) ⟨rfl, rfl⟩
    · have hr := scond_f hc4 hr
      refine gk_skip (by kernel_rfl) ?_
      refine ge_block_normal ?_
      refine ge_seq ?_
      refine gk_seq (by kernel_rfl) ?_
      refine gk_region (by kernel_rfl) ?_
      refine gl_pure 1 [4] (K' := [(4, .int .i64 0)]) (by kernel_rfl) ?_
      refine gl_atE (by kernel_rfl) ?_
      refine ge_seq ?_
      refine gk_reord (D := L) (Reord.skip (Reord.skip (Reord.refl _))) ?_
      refine gk_ret (by kernel_rfl) ?_
      obtain rfl := some_inj hr
      exact ge_result trivial (ResOk.tmp (by kernel_rfl) ResOk.nil) (Imm.refl _) ⟨rfl, rfl⟩
def lays_sortK127_ren : Go.Shelf.Ren := ⟨fun x => if x = 6 then 127 else if x = 15 then 89 else if x = 14 then 162 else if x = 28 then 140 else if x = 29 then 141 else if x = 20 then 180 else if x = 21 then 181 else if x = 22 then 182 else if x = 23 then 183 else if x = 24 then 184 else if x = 25 then 185 else if x = 26 then 186 else if x = 27 then 187 else if x = 46 then 198 else if x = 47 then 169 else if x = 48 then 170 else if x = 49 then 199 else if x = 50 then 200 else if x = 57 then 206 else x, fun x => if x = 22 then 36 else if x = 24 then 77 else if x = 25 then 130 else if x = 39 then 127 else if x = 53 then 157 else if x = 55 then 85 else if x = 46 then 151 else if x = 45 then 150 else if x = 50 then 101 else if x = 66 then 175 else if x = 70 then 179 else if x = 76 then 190 else if x = 77 then 191 else x, fun x => x⟩
theorem lays_sortK127 : Go.Proofs.SlLaysF0.n6 Tryz.prog lays_sortK127_ren := {
  mixed := by kernel_rfl,
  f6 := ⟨Tryz.f127.name, by decide, Tryz.func127.trans (congrArg some (by kernel_rfl))⟩,
  f14 := ⟨Tryz.f162.name, by decide, Tryz.func162.trans (congrArg some (by kernel_rfl))⟩,
  f15 := Tryz.func89.trans (congrArg some (by kernel_rfl)),
  f20 := ⟨Tryz.f180.name, by decide, Tryz.func180.trans (congrArg some (by kernel_rfl))⟩,
  f21 := ⟨Tryz.f181.name, by decide, Tryz.func181.trans (congrArg some (by kernel_rfl))⟩,
  f22 := ⟨Tryz.f182.name, by decide, Tryz.func182.trans (congrArg some (by kernel_rfl))⟩,
  f23 := ⟨Tryz.f183.name, by decide, Tryz.func183.trans (congrArg some (by kernel_rfl))⟩,
  f24 := ⟨Tryz.f184.name, by decide, Tryz.func184.trans (congrArg some (by kernel_rfl))⟩,
  f25 := ⟨Tryz.f185.name, by decide, Tryz.func185.trans (congrArg some (by kernel_rfl))⟩,
  f26 := ⟨Tryz.f186.name, by decide, Tryz.func186.trans (congrArg some (by kernel_rfl))⟩,
  f27 := ⟨Tryz.f187.name, by decide, Tryz.func187.trans (congrArg some (by kernel_rfl))⟩,
  f28 := Tryz.func140.trans (congrArg some (by kernel_rfl)),
  f29 := Tryz.func141.trans (congrArg some (by kernel_rfl)),
  f46 := ⟨Tryz.f198.name, by decide, Tryz.func198.trans (congrArg some (by kernel_rfl))⟩,
  f47 := Tryz.func169.trans (congrArg some (by kernel_rfl)),
  f48 := Tryz.func170.trans (congrArg some (by kernel_rfl)),
  f49 := ⟨Tryz.f199.name, by decide, Tryz.func199.trans (congrArg some (by kernel_rfl))⟩,
  f50 := ⟨Tryz.f200.name, by decide, Tryz.func200.trans (congrArg some (by kernel_rfl))⟩,
  f57 := ⟨Tryz.f206.name, by decide, Tryz.func206.trans (congrArg some (by kernel_rfl))⟩,
  t0 := Tryz.underlying0,
  a0 := Tryz.isAgg0,
  z0 := Tryz.sizeOf0,
  v0 := Tryz.zeroValue0,
  t3 := Tryz.underlying3,
  a3 := Tryz.isAgg3,
  z3 := Tryz.sizeOf3,
  v3 := Tryz.zeroValue3,
  t4 := Tryz.underlying4,
  a4 := Tryz.isAgg4,
  z4 := Tryz.sizeOf4,
  v4 := Tryz.zeroValue4,
  t5 := Tryz.underlying5,
  a5 := Tryz.isAgg5,
  z5 := Tryz.sizeOf5,
  v5 := Tryz.zeroValue5,
  t9 := Tryz.underlying9,
  a9 := Tryz.isAgg9,
  z9 := Tryz.sizeOf9,
  v9 := Tryz.zeroValue9,
  t22 := Tryz.underlying36,
  a22 := Tryz.isAgg36,
  z22 := Tryz.sizeOf36,
  v22 := Tryz.zeroValue36,
  t25 := Tryz.underlying130,
  a25 := Tryz.isAgg130,
  z25 := Tryz.sizeOf130,
  v25 := Tryz.zeroValue130,
  t39 := Tryz.underlying127,
  a39 := Tryz.isAgg127,
  z39 := Tryz.sizeOf127,
  v39 := Tryz.zeroValue127,
  t45 := Tryz.underlying150,
  a45 := Tryz.isAgg150,
  z45 := Tryz.sizeOf150,
  v45 := Tryz.zeroValue150,
  t46 := Tryz.underlying151,
  a46 := Tryz.isAgg151,
  z46 := Tryz.sizeOf151,
  v46 := Tryz.zeroValue151,
  t50 := Tryz.underlying101,
  a50 := Tryz.isAgg101,
  z50 := Tryz.sizeOf101,
  v50 := Tryz.zeroValue101,
  t53 := Tryz.underlying157,
  a53 := Tryz.isAgg157,
  z53 := Tryz.sizeOf157,
  v53 := Tryz.zeroValue157,
  t55 := Tryz.underlying85,
  a55 := Tryz.isAgg85,
  z55 := Tryz.sizeOf85,
  v55 := Tryz.zeroValue85,
  t66 := Tryz.underlying175,
  a66 := Tryz.isAgg175,
  z66 := Tryz.sizeOf175,
  v66 := Tryz.zeroValue175,
  t70 := Tryz.underlying179,
  a70 := Tryz.isAgg179,
  z70 := Tryz.sizeOf179,
  v70 := Tryz.zeroValue179,
  t76 := Tryz.underlying190,
  a76 := Tryz.isAgg190,
  z76 := Tryz.sizeOf190,
  v76 := Tryz.zeroValue190,
  t77 := Tryz.underlying191,
  a77 := Tryz.isAgg191,
  z77 := Tryz.sizeOf191,
  v77 := Tryz.zeroValue191 }

theorem slices_SortFunc_127_128_walk {a0 : List S76} {A : Option Addr} {c : Nat} {C : Own} {I : Imm}  (hO : OwnS kS76 77 I A c a0 C)  (hr : SortAble (fun x0 x1 => some (vec_include_1 x0 x1 )) a0) (L : Own) :
    CallsTo Tryz.prog 127 #[.slice A a0.length c, .func (.func 128) #[] #[]] I (C ++ L) (fun v I' L' => ∃ r C', SortRel (fun x0 x1 => some (vec_include_1 x0 x1 )) a0 r ∧ OwnS kS76 77 I' A c r C' ∧ v = .tuple #[] ∧ C' ++ L = L') :=
  callsTo_sortK lays_sortK127 (by kernel_rfl) hO hr (enters_of Tryz.func128 (by kernel_rfl) rfl)
    (fun {J} {x0 x1} {_ _} {k} hJ h0 h1 hk L => by
      obtain rfl := kS76_open h0
      obtain rfl := kS76_open h1
      simp only [List.append_toArray, List.nil_append, List.append_nil, Array.append_empty, Array.empty_append, List.push_append_toArray, List.cons_append]
      exact vec_include_1_walk   (some_inj hk) L) L
/-! 79 vec_include  -/
noncomputable def vec_include (a0 : List S76) (a1 : List S76) (a2 : List ByteArray) : Option (List S76) :=
  Option.bind (labels_Without a0 a2) fun (y1 : (List S76) × Int) =>
  Option.bind (labels_Keep a1 a2) fun (y10 : (List S76) × Int) =>
  Option.bind (app y1.1 y10.1) fun (zs19 : List S76) =>
  sortBind (fun x0 x1 => some (vec_include_1 x0 x1)) zs19 fun (zs25 : List S76) =>
  some zs25
theorem vec_include_walk {a0 : List S76} {A0_0 : Option Addr} {n0_0 : Nat} {a1 : List S76} {A1_0 : Option Addr} {n1_0 : Nat} {a2 : List ByteArray} {A2_0 : Option Addr} {n2_0 : Nat} {I : Imm} {r : (List S76)} (hG : Gl I)  (hf0_0 : RepS kS76 I A0_0 n0_0 a0)  (hf1_0 : RepS kS76 I A1_0 n1_0 a1)  (hf2_0 : RepS Kd.str I A2_0 n2_0 a2) (hr : vec_include a0 a1 a2 = some r) (L : Own) :
    CallsTo Tryz.prog 79 #[.slice A0_0 a0.length n0_0, .slice A1_0 a1.length n1_0, .slice A2_0 a2.length n2_0] I L (fun v I' L' => ∃ A0 c0 C0, OwnS kS76 77 I' A0 c0 r C0 ∧ v = .slice A0 r.length c0 ∧ C0 ++ L = L') := by
  unfold vec_include at hr
  refine callsTo_body (N := 29) Tryz.func79 (by kernel_rfl) (by kernel_rfl) (by kernel_rfl) ?_
  refine gk_pick [0, 1, 2] (K' := [(0, .slice A0_0 a0.length n0_0), (1, .slice A1_0 a1.length n1_0), (2, .slice A2_0 a2.length n2_0)]) (by kernel_rfl) ?_
  refine gk_seq (by kernel_rfl) ?_
  refine gk_region (by kernel_rfl) ?_
  refine gl_pure 1 [0, 1, 2] (K' := [(0, .slice A0_0 a0.length n0_0), (1, .slice A1_0 a1.length n1_0), (2, .slice A2_0 a2.length n2_0)]) (by kernel_rfl) ?_
  refine gl_atE (by kernel_rfl) ?_
  refine ge_seq ?_
  refine gk_seq (by kernel_rfl) ?_
  refine gk_region (by kernel_rfl) ?_
  refine gl_pure 2 [1, 2, 12, 13] (K' := [(1, .slice A1_0 a1.length n1_0), (2, .slice A2_0 a2.length n2_0), (12, .slice A0_0 a0.length n0_0), (13, .slice A2_0 a2.length n2_0)]) (by kernel_rfl) ?_
  obtain ⟨y1, hx2, hr⟩ := bind_some hr
  refine gl_call (by kernel_rfl) (labels_Without_walk (r := y1) hG hf0_0 hf2_0 hx2 _) ?_
  rintro v I3 L4 hI5 ⟨A6, c7, C8, hO9, rfl, rfl⟩
  refine gl_pure 5 [1, 2, 7] (K' := [(1, .slice A1_0 a1.length n1_0), (2, .slice A2_0 a2.length n2_0), (7, .slice A6 y1.1.length c7)]) (by kernel_rfl) ?_
  refine gl_atE (by kernel_rfl) ?_
  refine ge_seq ?_
  refine gk_seq (by kernel_rfl) ?_
  refine gk_region (by kernel_rfl) ?_
  refine gl_pure 2 [7, 18, 19] (K' := [(7, .slice A6 y1.1.length c7), (18, .slice A1_0 a1.length n1_0), (19, .slice A2_0 a2.length n2_0)]) (by kernel_rfl) ?_
  obtain ⟨y10, hx11, hr⟩ := bind_some hr
  refine gl_call (by kernel_rfl) (labels_Keep_walk (r := y10) (hG.mono hI5) (hf1_0.mono hI5) (hf2_0.mono hI5) hx11 _) ?_
  rintro v I12 L13 hI14 ⟨A15, c16, C17, hO18, rfl, rfl⟩
  refine gl_pure 5 [7, 9] (K' := [(7, .slice A6 y1.1.length c7), (9, .slice A15 y10.1.length c16)]) (by kernel_rfl) ?_
  refine gl_atE (by kernel_rfl) ?_
  refine ge_seq ?_
  refine gk_seq (by kernel_rfl) ?_
  refine gk_region (by kernel_rfl) ?_
  refine gl_pure 2 [23, 24] (K' := [(23, .slice A6 y1.1.length c7), (24, .slice A15 y10.1.length c16)]) (by kernel_rfl) ?_
  obtain ⟨zs19, hz20, hr⟩ := bind_some hr
  refine gl_append (xv := .slice A15 y10.1.length c16) (d := kS76) (t := 36) (tx := 36) (e := 77) (s := (.tmp 23)) (x := (.tmp 24)) (xs := y1.1) (fun X => C17 ++ (X ++ L)) hz20 (by kernel_rfl) (by kernel_rfl) (by kernel_rfl) (by kernel_rfl) (by kernel_rfl) (by kernel_rfl) (fun X => (Upd.app _ (Upd.head _ X _))) (hO9.mono hI14) (SrcOk.slice (c := c16) (e := 77) (n := 2) (OwnS.rd hO18 (Upd.selfC _ _)) (by kernel_rfl)) (fun A21 n22 C23 hO24 => ?_)
  refine gl_pure 1 [7] (K' := [(7, .slice A21 zs19.length n22)]) (by kernel_rfl) ?_
  refine gl_atE (by kernel_rfl) ?_
  refine ge_seq ?_
  refine gk_seq (by kernel_rfl) ?_
  refine gk_region (by kernel_rfl) ?_
  refine gl_pure 1 [7, 26] (K' := [(7, .slice A21 zs19.length n22), (26, .slice A21 zs19.length n22)]) (by kernel_rfl) ?_
  obtain ⟨hsa26, hsr27⟩ := sortBind_some hr
  refine gl_reord (D := C23 ++ (C17 ++ L)) (Reord.step (Upd.app _ (Upd.rmC _ _)) (Reord.step (Upd.rmC _ _) (Reord.refl _))) ?_
  refine gl_call (by kernel_rfl) (slices_SortFunc_127_128_walk (a0 := zs19) (A := A21) (c := n22) (C := C23) hO24  hsa26 _) ?_
  rintro v I31 L32 hI33 ⟨zs25, C29, hz28, hO30, rfl, rfl⟩
  replace hr := hsr27 _ hz28
  have hl34 : zs19.length = zs25.length := hz28.1.length_eq.symm
  try rw [hl34]
  refine gl_atE (by kernel_rfl) ?_
  refine ge_seq ?_
  refine gk_seq (by kernel_rfl) ?_
  refine gk_region (by kernel_rfl) ?_
  refine gl_pure 2 [6] (K' := [(6, .slice A21 zs25.length n22)]) (by kernel_rfl) ?_
  refine gl_atE (by kernel_rfl) ?_
  refine ge_seq ?_
  refine gk_reord (D := C29 ++ L) (Reord.step (Upd.rmC _ _) (Reord.skipC (Reord.refl _))) ?_
  refine gk_ret (by kernel_rfl) ?_
  obtain rfl := some_inj hr
  exact ge_result trivial (ResOk.tmp (by kernel_rfl) ResOk.nil) (Imm.trans (Imm.trans hI5 hI14) hI33) ⟨A21, n22, C29, hO30, rfl, rfl⟩
/-! 39 vec_shown  -/
noncomputable def vec_shown (a0 : S38) (a1 : S38) (a2 : S24) : Option (List S76) :=
  bif (a2.f0 != 0) then
  (Option.bind (vec_include a0.f0 a1.f0 a2.f3) fun (y5 : (List S76)) =>
    some y5)
  else
  (bif a2.f1 then
    (Option.bind (labels_Keep a0.f0 a2.f2) fun (y15 : (List S76) × Int) =>
      some y15.1)
    else
    (Option.bind (labels_Without a0.f0 a2.f2) fun (y24 : (List S76) × Int) =>
      some y24.1))
theorem vec_shown_walk {a0 : S38} {A0_0 : Option Addr} {n0_0 : Nat} {b0_1 : Nat} {a1 : S38} {A1_0 : Option Addr} {n1_0 : Nat} {b1_1 : Nat} {a2 : S24} {A2_2 : Option Addr} {n2_2 : Nat} {A2_3 : Option Addr} {n2_3 : Nat} {I : Imm} {r : (List S76)} (hG : Gl I)  (hf0_0 : RepS kS76 I A0_0 n0_0 a0.f0) (hf0_1 : FRep a0.f1 b0_1)  (hf1_0 : RepS kS76 I A1_0 n1_0 a1.f0) (hf1_1 : FRep a1.f1 b1_1)  (hf2_2 : RepS Kd.str I A2_2 n2_2 a2.f2) (hf2_3 : RepS Kd.str I A2_3 n2_3 a2.f3) (hr : vec_shown a0 a1 a2 = some r) (L : Own) :
    CallsTo Tryz.prog 39 #[.agg #[.slice A0_0 a0.f0.length n0_0, .float .f64 b0_1], .agg #[.slice A1_0 a1.f0.length n1_0, .float .f64 b1_1], .agg #[.int .i64 a2.f0, .bool a2.f1, .slice A2_2 a2.f2.length n2_2, .slice A2_3 a2.f3.length n2_3]] I L (fun v I' L' => ∃ A0 c0 C0, OwnS kS76 77 I' A0 c0 r C0 ∧ v = .slice A0 r.length c0 ∧ C0 ++ L = L') := by
  unfold vec_shown at hr
  refine callsTo_body (N := 43) Tryz.func39 (by kernel_rfl) (by kernel_rfl) (by kernel_rfl) ?_
  refine gk_pick [0, 1, 2] (K' := [(0, .agg #[.slice A0_0 a0.f0.length n0_0, .float .f64 b0_1]), (1, .agg #[.slice A1_0 a1.f0.length n1_0, .float .f64 b1_1]), (2, .agg #[.int .i64 a2.f0, .bool a2.f1, .slice A2_2 a2.f2.length n2_2, .slice A2_3 a2.f3.length n2_3])]) (by kernel_rfl) ?_
  refine gk_seq (by kernel_rfl) ?_
  refine gk_region (by kernel_rfl) ?_
  refine gl_box (T' := 39) (x := (.tmp 0)) (v := .agg #[.slice A0_0 a0.f0.length n0_0, .float .f64 b0_1]) (cs := #[.slice A0_0 a0.f0.length n0_0, .float .f64 b0_1]) (by kernel_rfl) (by kernel_rfl) (by kernel_rfl) (by kernel_rfl) (fun gb1 => ?_)
  refine gl_box (T' := 39) (x := (.tmp 1)) (v := .agg #[.slice A1_0 a1.f0.length n1_0, .float .f64 b1_1]) (cs := #[.slice A1_0 a1.f0.length n1_0, .float .f64 b1_1]) (by kernel_rfl) (by kernel_rfl) (by kernel_rfl) (by kernel_rfl) (fun gb2 => ?_)
  refine gl_box (T' := 25) (x := (.tmp 2)) (v := .agg #[.int .i64 a2.f0, .bool a2.f1, .slice A2_2 a2.f2.length n2_2, .slice A2_3 a2.f3.length n2_3]) (cs := #[.int .i64 a2.f0, .bool a2.f1, .slice A2_2 a2.f2.length n2_2, .slice A2_3 a2.f3.length n2_3]) (by kernel_rfl) (by kernel_rfl) (by kernel_rfl) (by kernel_rfl) (fun g3 => ?_)
  refine gl_pure 1 [3, 4, 5] (K' := [(3, .pointer (some ⟨gb1, 0, none⟩)), (4, .pointer (some ⟨gb2, 0, none⟩)), (5, .pointer (some ⟨g3, 0, none⟩))]) (by kernel_rfl) ?_
  refine gl_atE (by kernel_rfl) ?_
  refine ge_seq ?_
  refine gk_seq (by kernel_rfl) ?_
  refine gk_block (by kernel_rfl) ?_
  refine gk_seq (by kernel_rfl) ?_
  refine gk_region (by kernel_rfl) ?_
  refine gl_pure 1 [3, 4, 5, 12] (K' := [(3, .pointer (some ⟨gb1, 0, none⟩)), (4, .pointer (some ⟨gb2, 0, none⟩)), (5, .pointer (some ⟨g3, 0, none⟩)), (12, .pointer (some ⟨g3, 0, none⟩))]) (by kernel_rfl) ?_
  refine gl_loadB (T' := 3) (xp := (.tmp 12)) (v := .int .i64 a2.f0) (g := g3) (off := 0) (cs := #[.int .i64 a2.f0, .bool a2.f1, .slice A2_2 a2.f2.length n2_2, .slice A2_3 a2.f3.length n2_3]) (e := 25) (fz := (0, 0)) (by kernel_rfl) (by kernel_rfl) (by kernel_rfl) List.mem_cons_self (by kernel_rfl) ?_
  refine gl_pure 2 [3, 4, 5, 11] (K' := [(3, .pointer (some ⟨gb1, 0, none⟩)), (4, .pointer (some ⟨gb2, 0, none⟩)), (5, .pointer (some ⟨g3, 0, none⟩)), (11, .bool (a2.f0 != 0))]) (by kernel_rfl) ?_
  refine gl_atE (by kernel_rfl) ?_
  refine ge_seq ?_
  refine gk_cond (b := (a2.f0 != 0)) (by kernel_rfl) (by kernel_rfl) (fun hc4 => ?_) (fun hc4 => ?_)
  · have hr := cond_t hc4 hr
    refine gk_seq (by kernel_rfl) ?_
    refine gk_region (by kernel_rfl) ?_
    refine gl_pure 1 [4, 5, 15] (K' := [(4, .pointer (some ⟨gb2, 0, none⟩)), (5, .pointer (some ⟨g3, 0, none⟩)), (15, .pointer (some ⟨gb1, 0, none⟩))]) (by kernel_rfl) ?_
    refine gl_loadB (T' := 36) (xp := (.tmp 15)) (v := .slice A0_0 a0.f0.length n0_0) (g := gb1) (off := 0) (cs := #[.slice A0_0 a0.f0.length n0_0, .float .f64 b0_1]) (e := 39) (fz := (0, 0)) (by kernel_rfl) (by kernel_rfl) (by kernel_rfl) (List.mem_cons_of_mem _ (List.mem_cons_of_mem _ List.mem_cons_self)) (by kernel_rfl) ?_
    refine gl_pure 1 [5, 16, 17] (K' := [(5, .pointer (some ⟨g3, 0, none⟩)), (16, .slice A0_0 a0.f0.length n0_0), (17, .pointer (some ⟨gb2, 0, none⟩))]) (by kernel_rfl) ?_
    refine gl_loadB (T' := 36) (xp := (.tmp 17)) (v := .slice A1_0 a1.f0.length n1_0) (g := gb2) (off := 0) (cs := #[.slice A1_0 a1.f0.length n1_0, .float .f64 b1_1]) (e := 39) (fz := (0, 0)) (by kernel_rfl) (by kernel_rfl) (by kernel_rfl) (List.mem_cons_of_mem _ List.mem_cons_self) (by kernel_rfl) ?_
    refine gl_pure 1 [16, 18, 19] (K' := [(16, .slice A0_0 a0.f0.length n0_0), (18, .slice A1_0 a1.f0.length n1_0), (19, .pointer (some ⟨g3, 3, none⟩))]) (by kernel_rfl) ?_
    refine gl_loadB (T' := 23) (xp := (.tmp 19)) (v := .slice A2_3 a2.f3.length n2_3) (g := g3) (off := 3) (cs := #[.int .i64 a2.f0, .bool a2.f1, .slice A2_2 a2.f2.length n2_2, .slice A2_3 a2.f3.length n2_3]) (e := 25) (fz := (0, 0)) (by kernel_rfl) (by kernel_rfl) (by kernel_rfl) List.mem_cons_self (by kernel_rfl) ?_
    obtain ⟨y5, hx6, hr⟩ := bind_some hr
    refine gl_call (by kernel_rfl) (vec_include_walk (r := y5) hG hf0_0 hf1_0 hf2_3 hx6 _) ?_
    rintro v I7 L8 hI9 ⟨A10, c11, C12, hO13, rfl, rfl⟩
    refine gl_pure 1 [6] (K' := [(6, .slice A10 y5.length c11)]) (by kernel_rfl) ?_
    refine gl_atE (by kernel_rfl) ?_
    refine ge_seq ?_
    refine gk_reord (D := C12 ++ L) (Reord.step (Upd.rmC _ _) (Reord.skip (Reord.skip (Reord.skip (Reord.refl _))))) ?_
    refine gk_ret (by kernel_rfl) ?_
    refine ge_block_ret ?_
    refine ge_seq_ret ?_
    obtain rfl := some_inj hr
    exact ge_result trivial (ResOk.tmp (by kernel_rfl) ResOk.nil) hI9 ⟨A10, c11, C12, hO13, rfl, rfl⟩
  · have hr := cond_f hc4 hr
    refine gk_seq (by kernel_rfl) ?_
    refine gk_region (by kernel_rfl) ?_
    refine gl_pure 1 [3, 5, 23] (K' := [(3, .pointer (some ⟨gb1, 0, none⟩)), (5, .pointer (some ⟨g3, 0, none⟩)), (23, .pointer (some ⟨g3, 1, none⟩))]) (by kernel_rfl) ?_
    refine gl_loadB (T' := 4) (xp := (.tmp 23)) (v := .bool a2.f1) (g := g3) (off := 1) (cs := #[.int .i64 a2.f0, .bool a2.f1, .slice A2_2 a2.f2.length n2_2, .slice A2_3 a2.f3.length n2_3]) (e := 25) (fz := (0, 0)) (by kernel_rfl) (by kernel_rfl) (by kernel_rfl) List.mem_cons_self (by kernel_rfl) ?_
    refine gl_pure 1 [3, 5, 22] (K' := [(3, .pointer (some ⟨gb1, 0, none⟩)), (5, .pointer (some ⟨g3, 0, none⟩)), (22, .bool a2.f1)]) (by kernel_rfl) ?_
    refine gl_atE (by kernel_rfl) ?_
    refine ge_seq ?_
    refine gk_cond (b := a2.f1) (by kernel_rfl) (by kernel_rfl) (fun hc14 => ?_) (fun hc14 => ?_)
    · have hr := cond_t hc14 hr
      refine gk_seq (by kernel_rfl) ?_
      refine gk_region (by kernel_rfl) ?_
      refine gl_pure 1 [5, 26] (K' := [(5, .pointer (some ⟨g3, 0, none⟩)), (26, .pointer (some ⟨gb1, 0, none⟩))]) (by kernel_rfl) ?_
      refine gl_loadB (T' := 36) (xp := (.tmp 26)) (v := .slice A0_0 a0.f0.length n0_0) (g := gb1) (off := 0) (cs := #[.slice A0_0 a0.f0.length n0_0, .float .f64 b0_1]) (e := 39) (fz := (0, 0)) (by kernel_rfl) (by kernel_rfl) (by kernel_rfl) (List.mem_cons_of_mem _ (List.mem_cons_of_mem _ List.mem_cons_self)) (by kernel_rfl) ?_
      refine gl_pure 1 [27, 28] (K' := [(27, .slice A0_0 a0.f0.length n0_0), (28, .pointer (some ⟨g3, 2, none⟩))]) (by kernel_rfl) ?_
      refine gl_loadB (T' := 23) (xp := (.tmp 28)) (v := .slice A2_2 a2.f2.length n2_2) (g := g3) (off := 2) (cs := #[.int .i64 a2.f0, .bool a2.f1, .slice A2_2 a2.f2.length n2_2, .slice A2_3 a2.f3.length n2_3]) (e := 25) (fz := (0, 0)) (by kernel_rfl) (by kernel_rfl) (by kernel_rfl) List.mem_cons_self (by kernel_rfl) ?_
      obtain ⟨y15, hx16, hr⟩ := bind_some hr
      refine gl_call (by kernel_rfl) (labels_Keep_walk (r := y15) hG hf0_0 hf2_2 hx16 _) ?_
      rintro v I17 L18 hI19 ⟨A20, c21, C22, hO23, rfl, rfl⟩
      refine gl_pure 5 [7] (K' := [(7, .slice A20 y15.1.length c21)]) (by kernel_rfl) ?_
      refine gl_atE (by kernel_rfl) ?_
      refine ge_seq ?_
      refine gk_seq (by kernel_rfl) ?_
      refine gk_region (by kernel_rfl) ?_
      refine gl_pure 2 [6] (K' := [(6, .slice A20 y15.1.length c21)]) (by kernel_rfl) ?_
      refine gl_atE (by kernel_rfl) ?_
      refine ge_seq ?_
      refine gk_reord (D := C22 ++ L) (Reord.step (Upd.rmC _ _) (Reord.skip (Reord.skip (Reord.skip (Reord.refl _))))) ?_
      refine gk_ret (by kernel_rfl) ?_
      refine ge_block_ret ?_
      refine ge_seq_ret ?_
      obtain rfl := some_inj hr
      exact ge_result trivial (ResOk.tmp (by kernel_rfl) ResOk.nil) hI19 ⟨A20, c21, C22, hO23, rfl, rfl⟩
    · have hr := cond_f hc14 hr
      refine gk_skip (by kernel_rfl) ?_
      refine ge_block_normal ?_
      refine ge_seq ?_
      refine gk_seq (by kernel_rfl) ?_
      refine gk_region (by kernel_rfl) ?_
      refine gl_pure 1 [5, 35] (K' := [(5, .pointer (some ⟨g3, 0, none⟩)), (35, .pointer (some ⟨gb1, 0, none⟩))]) (by kernel_rfl) ?_
      refine gl_loadB (T' := 36) (xp := (.tmp 35)) (v := .slice A0_0 a0.f0.length n0_0) (g := gb1) (off := 0) (cs := #[.slice A0_0 a0.f0.length n0_0, .float .f64 b0_1]) (e := 39) (fz := (0, 0)) (by kernel_rfl) (by kernel_rfl) (by kernel_rfl) (List.mem_cons_of_mem _ (List.mem_cons_of_mem _ List.mem_cons_self)) (by kernel_rfl) ?_
      refine gl_pure 1 [36, 37] (K' := [(36, .slice A0_0 a0.f0.length n0_0), (37, .pointer (some ⟨g3, 2, none⟩))]) (by kernel_rfl) ?_
      refine gl_loadB (T' := 23) (xp := (.tmp 37)) (v := .slice A2_2 a2.f2.length n2_2) (g := g3) (off := 2) (cs := #[.int .i64 a2.f0, .bool a2.f1, .slice A2_2 a2.f2.length n2_2, .slice A2_3 a2.f3.length n2_3]) (e := 25) (fz := (0, 0)) (by kernel_rfl) (by kernel_rfl) (by kernel_rfl) List.mem_cons_self (by kernel_rfl) ?_
      obtain ⟨y24, hx25, hr⟩ := bind_some hr
      refine gl_call (by kernel_rfl) (labels_Without_walk (r := y24) hG hf0_0 hf2_2 hx25 _) ?_
      rintro v I26 L27 hI28 ⟨A29, c30, C31, hO32, rfl, rfl⟩
      refine gl_pure 5 [9] (K' := [(9, .slice A29 y24.1.length c30)]) (by kernel_rfl) ?_
      refine gl_atE (by kernel_rfl) ?_
      refine ge_seq ?_
      refine gk_seq (by kernel_rfl) ?_
      refine gk_region (by kernel_rfl) ?_
      refine gl_pure 2 [6] (K' := [(6, .slice A29 y24.1.length c30)]) (by kernel_rfl) ?_
      refine gl_atE (by kernel_rfl) ?_
      refine ge_seq ?_
      refine gk_reord (D := C31 ++ L) (Reord.step (Upd.rmC _ _) (Reord.skip (Reord.skip (Reord.skip (Reord.refl _))))) ?_
      refine gk_ret (by kernel_rfl) ?_
      obtain rfl := some_inj hr
      exact ge_result trivial (ResOk.tmp (by kernel_rfl) ResOk.nil) hI28 ⟨A29, c30, C31, hO32, rfl, rfl⟩
end Go.Proofs.YtkjkkimnjpodiaaGreatDoor
