/- LabelsNil. -/
import Derived.Test.YtnlkfajnaelnnaaGreatDoorNIbv
import Derived.Test.YtnlkfajnaelnnaaGreatDoorM1v
import Derived.Test.YtnlkfajnaelnnaaGreatDoorRows
import Derived.Deep.Slices
import Derived.Below
import Derived.Test.YtnlkfajnaelnnaaGreatDoorGB12v
import Derived.KernelRfl
import Derived.Lib.LaidU8T
import Derived.Shelf.Unicode.ValidAny
set_option linter.unusedVariables false
set_option linter.unusedSimpArgs false
set_option maxRecDepth 100000
namespace Go.Proofs.YtnlkfajnaelnnaaGreatDoor
open Go.GB
/-! 23 labels_Print  -/
noncomputable def labels_Print_l72 (j8 : ByteArray × (List S49)) : ((List ByteArray) × Int) → Option (((List ByteArray) × Int) ⊕ ((List ByteArray))) := fun s55 =>
  bif (decide (s55.2 < (j8.2.length : Int))) then
  (Option.bind (ix j8.2 s55.2) fun (x75 : S49) =>
    Option.bind (sadd x75.f0 (⟨#[61]⟩ : ByteArray)) fun (s84 : ByteArray) =>
    Option.bind (labels_quoted x75.f1) fun (y86 : ByteArray) =>
    Option.bind (sadd s84 y86) fun (s88 : ByteArray) =>
    Option.bind (app s55.1 [s88]) fun (zs94 : List ByteArray) =>
    some (Sum.inl (zs94, (IntKind.wrap .i64 (s55.2 + 1)))))
  else
  (some (Sum.inr s55.1))
noncomputable def labels_Print (a0 : List S49) : Option (ByteArray × Int) :=
  Option.bind (labels_right a0) fun (y1 : Int) =>
  bif (y1 != 0) then
  (some ((⟨#[]⟩ : ByteArray), y1))
  else
  (Option.bind (labels_Get a0 (⟨#[95, 95, 110, 97, 109, 101, 95, 95]⟩ : ByteArray)) fun (y4 : ByteArray) =>
    Option.bind (labels_Metric y4) fun (y6 : Bool) =>
    Option.bind (bif y6 then
      (Option.bind (labels_pick a0 false [(⟨#[95, 95, 110, 97, 109, 101, 95, 95]⟩ : ByteArray)]) fun (y25 : (List S49)) =>
        some (y4, y25))
      else
      (some ((⟨#[]⟩ : ByteArray), a0))) fun (j8 : ByteArray × (List S49)) =>
    bif ((!(j8.1.toList == (⟨#[]⟩ : ByteArray).toList)) && ((j8.2.length : Int) == 0)) then
    (some (j8.1, 0))
    else
    (Option.bind (loopO (labels_Print_l72 j8) ([], 0)) fun (r53 : (List ByteArray)) =>
      Option.bind (sadd j8.1 (⟨#[123]⟩ : ByteArray)) fun (s100 : ByteArray) =>
      Option.bind (strings_Join r53 (⟨#[44]⟩ : ByteArray)) fun (y102 : ByteArray) =>
      Option.bind (sadd s100 y102) fun (s104 : ByteArray) =>
      Option.bind (sadd s104 (⟨#[125]⟩ : ByteArray)) fun (s106 : ByteArray) =>
      some (s106, 0)))
theorem labels_Print_walk {a0 : List S49} {A0_0 : Option Addr} {n0_0 : Nat} {I : Imm} {r : ByteArray × Int} (hG : Gl I)  (hf0_0 : RepS kS49 I A0_0 n0_0 a0) (hr : labels_Print a0 = some r) (L : Own) :
    CallsTo Tryz.prog 23 #[.slice A0_0 a0.length n0_0] I L (fun v I' L' => v = .tuple #[.string r.1, .int .i64 r.2] ∧ L = L') := by
  unfold labels_Print at hr
  refine callsTo_body (N := 54) Tryz.func23 (by kernel_rfl) (by kernel_rfl) (by kernel_rfl) ?_
  refine gk_pick [0] (K' := [(0, .slice A0_0 a0.length n0_0)]) (by kernel_rfl) ?_
  refine gk_seq (by kernel_rfl) ?_
  refine gk_region (by kernel_rfl) ?_
  refine gl_pure 2 [0] (K' := [(0, .slice A0_0 a0.length n0_0)]) (by kernel_rfl) ?_
  refine gl_atE (by kernel_rfl) ?_
  refine ge_seq ?_
  refine gk_seq (by kernel_rfl) ?_
  refine gk_seq (by kernel_rfl) ?_
  refine gk_region (by kernel_rfl) ?_
  refine gl_pure 1 [0, 10] (K' := [(0, .slice A0_0 a0.length n0_0), (10, .slice A0_0 a0.length n0_0)]) (by kernel_rfl) ?_
  obtain ⟨y1, hx2, hr⟩ := bind_some hr
  refine gl_callQ (by kernel_rfl) (labels_right_walk (r := y1) hG hf0_0 hx2 _) ?_
  refine gl_pure 1 [0, 4] (K' := [(0, .slice A0_0 a0.length n0_0), (4, .int .i64 y1)]) (by kernel_rfl) ?_
  refine gl_atE (by kernel_rfl) ?_
  refine ge_seq ?_
  refine gk_seq (by kernel_rfl) ?_
  refine gk_region (by kernel_rfl) ?_
  refine gl_pure 2 [0, 4, 13] (K' := [(0, .slice A0_0 a0.length n0_0), (4, .int .i64 y1), (13, .bool (y1 != 0))]) (by kernel_rfl) ?_
  refine gl_atE (by kernel_rfl) ?_
  refine ge_seq ?_
  refine gk_cond (b := (y1 != 0)) (by kernel_rfl) (by kernel_rfl) (fun hc3 => ?_) (fun hc3 => ?_)
  · have hr := cond_t hc3 hr
    refine gk_seq (by kernel_rfl) ?_
    refine gk_region (by kernel_rfl) ?_
    refine gl_pure 3 [2, 3] (K' := [(2, .string (⟨#[]⟩ : ByteArray)), (3, .int .i64 y1)]) (by kernel_rfl) ?_
    refine gl_atE (by kernel_rfl) ?_
    refine ge_seq ?_
    refine gk_ret (by kernel_rfl) ?_
    refine ge_seq_ret ?_
    obtain rfl := some_inj hr
    exact ge_result trivial (ResOk.tmp (by kernel_rfl) (ResOk.tmp (by kernel_rfl) ResOk.nil)) (Imm.refl _) ⟨rfl, rfl⟩
  · have hr := cond_f hc3 hr
    refine gk_skip (by kernel_rfl) ?_
    refine ge_seq ?_
    refine gk_seq (by kernel_rfl) ?_
    refine gk_region (by kernel_rfl) ?_
    refine gl_pure 1 [0, 15] (K' := [(0, .slice A0_0 a0.length n0_0), (15, .slice A0_0 a0.length n0_0)]) (by kernel_rfl) ?_
    obtain ⟨y4, hx5, hr⟩ := bind_some hr
    refine gl_callQ (by kernel_rfl) (labels_Get_walk (r := y4) hf0_0 hx5 _) ?_
    refine gl_pure 1 [0, 5] (K' := [(0, .slice A0_0 a0.length n0_0), (5, .string y4)]) (by kernel_rfl) ?_
    refine gl_atE (by kernel_rfl) ?_
    refine ge_seq ?_
    refine gk_seq (by kernel_rfl) ?_
    refine gk_region (by kernel_rfl) ?_
    refine gl_pure 2 [0, 5, 6] (K' := [(0, .slice A0_0 a0.length n0_0), (5, .string y4), (6, .slice A0_0 a0.length n0_0)]) (by kernel_rfl) ?_
    refine gl_atE (by kernel_rfl) ?_
    refine ge_seq ?_
    refine gk_seq (by kernel_rfl) ?_
    refine gk_seq (by kernel_rfl) ?_
    refine gk_region (by kernel_rfl) ?_
    refine gl_pure 1 [0, 5, 6, 18] (K' := [(0, .slice A0_0 a0.length n0_0), (5, .string y4), (6, .slice A0_0 a0.length n0_0), (18, .string y4)]) (by kernel_rfl) ?_
    obtain ⟨y6, hx7, hr⟩ := bind_some hr
    refine gl_callQ (by kernel_rfl) (labels_Metric_walk (r := y6)  hx7 _) ?_
    refine gl_atE (by kernel_rfl) ?_
    refine ge_seq ?_
    obtain ⟨j8, hj9, hr⟩ := bind_some hr
    refine gk_join (fun t I' L' => ∃ A11 n12, RepS kS49 I' A11 n12 j8.2 ∧ I ≤ I' ∧ L = L' ∧ Knows 54 [(5, .string j8.1), (6, .slice A11 j8.2.length n12)] t) ?_ ?_
    · refine gk_cond (b := y6) (by kernel_rfl) (by kernel_rfl) (fun hc16 => ?_) (fun hc16 => ?_)
      · have hj9 := cond_t hc16 hj9
        refine gk_region (by kernel_rfl) ?_
        refine gl_pure 1 [5, 20] (K' := [(5, .string y4), (20, .slice A0_0 a0.length n0_0)]) (by kernel_rfl) ?_
        refine gl_buildSlice (T' := 44) (e := 9) (n := 1) (len := 1) (parts := #[(0, (.const (.string (⟨#[95, 95, 110, 97, 109, 101, 95, 95]⟩ : ByteArray))))]) (l := [(0, .string (⟨#[95, 95, 110, 97, 109, 101, 95, 95]⟩ : ByteArray))]) (cs := #[.string (⟨#[95, 95, 110, 97, 109, 101, 95, 95]⟩ : ByteArray)]) (by kernel_rfl) (by kernel_rfl) (by kernel_rfl) (by kernel_rfl) (by kernel_rfl) (fun g17 => ?_)
        have hO18 : OwnS Kd.str 9 I (some ⟨g17, 0, none⟩) 1 [(⟨#[95, 95, 110, 97, 109, 101, 95, 95]⟩ : ByteArray)] [(g17, .cells #[.string (⟨#[95, 95, 110, 97, 109, 101, 95, 95]⟩ : ByteArray)] 9)] := OwnS.lit (row_cons (l := [.string (⟨#[95, 95, 110, 97, 109, 101, 95, 95]⟩ : ByteArray)]) rfl (row_nil _ _)) rfl rfl rfl
        refine gl_reord (D := [(g17, .cells #[.string (⟨#[95, 95, 110, 97, 109, 101, 95, 95]⟩ : ByteArray)] 9)] ++ L) (Reord.refl _) ?_
        refine gl_rest (Tk.step (Upd.rmC _ _) (Tk.nil _)) (fun J21 hJ22 hC23 => ?_)
        have hf24 := (OwnS.rest hO18 hJ22 hC23.left)
        obtain ⟨y25, hx26, hj9⟩ := bind_some hj9
        refine gl_call (by kernel_rfl) (labels_pick_walk (r := y25) (hf0_0.mono hJ22) hf24 hx26 _) ?_
        rintro v I27 L28 hI29 ⟨A30, c31, C32, hO33, rfl, rfl⟩
        refine gl_pure 1 [5, 6] (K' := [(5, .string y4), (6, .slice A30 y25.length c31)]) (by kernel_rfl) ?_
        refine gl_rest (Tk.step (Upd.rmC _ _) (Tk.nil _)) (fun J34 hJ35 hC36 => ?_)
        have hf37 := (OwnS.rest hO33 hJ35 hC36.left)
        refine gl_atE (by kernel_rfl) ?_
        obtain rfl := some_inj hj9
        exact ge_mid fun t ht => ⟨A30, c31, hf37, (Imm.trans (Imm.trans hJ22 hI29) hJ35), rfl, ht.pick (l := [5, 6]) (by kernel_rfl)⟩
      · have hj9 := cond_f hc16 hj9
        refine gk_region (by kernel_rfl) ?_
        refine gl_pure 1 [5, 6] (K' := [(5, .string (⟨#[]⟩ : ByteArray)), (6, .slice A0_0 a0.length n0_0)]) (by kernel_rfl) ?_
        refine gl_atE (by kernel_rfl) ?_
        obtain rfl := some_inj hj9
        exact ge_mid fun t ht => ⟨A0_0, n0_0, hf0_0, (Imm.refl _), rfl, ht.pick (l := [5, 6]) (by kernel_rfl)⟩
    · rintro t I15 L' ⟨A11, n12, hf13, hI10, rfl, hK14⟩
      refine ge_at hK14 ?_
      refine ge_seq ?_
      refine gk_seq (by kernel_rfl) ?_
      refine gk_seq (by kernel_rfl) ?_
      obtain ⟨b40, hb41⟩ : ∃ z, z = ((!(j8.1.toList == (⟨#[]⟩ : ByteArray).toList)) && ((j8.2.length : Int) == 0)) := ⟨_, rfl⟩
      refine gk_join (fun t I' L' => I15 ≤ I' ∧ L = L' ∧ Knows 54 [(5, .string j8.1), (6, .slice A11 j8.2.length n12), (29, .bool b40)] t) ?_ ?_
      · refine gk_region (by kernel_rfl) ?_
        refine gl_pure 3 [5, 6, 25] (K' := [(5, .string j8.1), (6, .slice A11 j8.2.length n12), (25, .bool (!(j8.1.toList == (⟨#[]⟩ : ByteArray).toList)))]) (by kernel_rfl) ?_
        refine gl_case 25 (b := (!(j8.1.toList == (⟨#[]⟩ : ByteArray).toList))) (by kernel_rfl) (fun hc43 => ?_) (fun hc43 => ?_)
        · refine gl_pure 4 [5, 6, 29] (K' := [(5, .string j8.1), (6, .slice A11 j8.2.length n12), (29, .bool ((j8.2.length : Int) == 0))]) (by kernel_rfl) ?_
          refine gl_atE (by kernel_rfl) ?_
          exact ge_mid fun t ht => ⟨(Imm.refl _), rfl, by rw [(show b40 = ((j8.2.length : Int) == 0) from hb41.trans (by first | (rw [hc43]; done) | (rw [hc43]; rfl) | (simp [hc43]; done) | (simp only [hc43]; rfl) | (simp at *; omega)))]; exact ht.pick (l := [5, 6, 29]) (by kernel_rfl)⟩
        · refine gl_pure 4 [5, 6, 29] (K' := [(5, .string j8.1), (6, .slice A11 j8.2.length n12), (29, .bool false)]) (by kernel_rfl) ?_
          refine gl_atE (by kernel_rfl) ?_
          exact ge_mid fun t ht => ⟨(Imm.refl _), rfl, by rw [(show b40 = false from hb41.trans (by first | (rw [hc43]; done) | (rw [hc43]; rfl) | (simp [hc43]; done) | (simp only [hc43]; rfl) | (simp at *; omega)))]; exact ht.pick (l := [5, 6, 29]) (by kernel_rfl)⟩
      · rintro t I42 L' ⟨hI38, rfl, hK39⟩
        subst hb41
        refine ge_at hK39 ?_
        refine ge_seq ?_
        refine gk_cond (b := ((!(j8.1.toList == (⟨#[]⟩ : ByteArray).toList)) && ((j8.2.length : Int) == 0))) (by kernel_rfl) (by kernel_rfl) (fun hc44 => ?_) (fun hc44 => ?_)
        · have hr := cond_t hc44 hr
          refine gk_seq (by kernel_rfl) ?_
          refine gk_region (by kernel_rfl) ?_
          refine gl_pure 3 [2, 3] (K' := [(2, .string j8.1), (3, .int .i64 0)]) (by kernel_rfl) ?_
          refine gl_atE (by kernel_rfl) ?_
          refine ge_seq ?_
          refine gk_ret (by kernel_rfl) ?_
          refine ge_seq_ret ?_
          obtain rfl := some_inj hr
          exact ge_result trivial (ResOk.tmp (by kernel_rfl) (ResOk.tmp (by kernel_rfl) ResOk.nil)) (Imm.trans hI10 hI38) ⟨rfl, rfl⟩
        · have hr := cond_f hc44 hr
          refine gk_skip (by kernel_rfl) ?_
          refine ge_seq ?_
          refine gk_seq (by kernel_rfl) ?_
          refine gk_region (by kernel_rfl) ?_
          refine gl_pure 1 [5, 6, 7] (K' := [(5, .string j8.1), (6, .slice A11 j8.2.length n12), (7, .slice none 0 0)]) (by kernel_rfl) ?_
          refine gl_atE (by kernel_rfl) ?_
          refine ge_seq ?_
          refine gk_seq (by kernel_rfl) ?_
          refine gk_seq (by kernel_rfl) ?_
          refine gk_region (by kernel_rfl) ?_
          refine gl_pure 3 [5, 7, 31, 32, 33] (K' := [(5, .string j8.1), (7, .slice none 0 0), (31, .slice A11 j8.2.length n12), (32, .int .i64 (j8.2.length : Int)), (33, .int .i64 0)]) (by kernel_rfl) ?_
          refine gl_atE (by kernel_rfl) ?_
          refine ge_seq ?_
          obtain ⟨r53, hl54, hr⟩ := bind_some hr
          refine gk_join (fun t I' L' => ∃ A66 n67 C68, OwnS Kd.str 9 I' A66 n67 r53 C68 ∧ I42 ≤ I' ∧ C68 ++ L = L' ∧ Knows 54 [(5, .string j8.1), (7, .slice A66 r53.length n67)] t) ?_ ?_
          · refine gk_block (by kernel_rfl) ?_
            refine gk_pick [5, 7, 31, 32, 33] (K' := [(5, .string j8.1), (7, .slice none 0 0), (31, .slice A11 j8.2.length n12), (32, .int .i64 (j8.2.length : Int)), (33, .int .i64 0)]) (by kernel_rfl) ?_
            intro t hK
            refine gc_loop (labels_Print_l72 j8) (fun s55 t I' L' => ∃ A59 n60 C61, OwnS Kd.str 9 I' A59 n60 s55.1 C61 ∧ I42 ≤ I' ∧ C61 ++ L = L' ∧ Knows 54 [(5, .string j8.1), (7, .slice A59 s55.1.length n60), (31, .slice A11 j8.2.length n12), (32, .int .i64 (j8.2.length : Int)), (33, .int .i64 s55.2)] t) (by kernel_rfl) ?_ hl54 ⟨none, 0, [], OwnS.nil _ _ _ _, (Imm.refl _), rfl, hK⟩
            rintro s55 o56 t I64 L' hb57 ⟨A59, n60, C61, hO62, hI58, rfl, hK63⟩
            unfold labels_Print_l72 at hb57
            refine gk_at hK63 ?_
            refine gk_seq (by kernel_rfl) ?_
            refine gk_region (by kernel_rfl) ?_
            refine gl_pure 1 [5, 7, 31, 32, 33, 34] (K' := [(5, .string j8.1), (7, .slice A59 s55.1.length n60), (31, .slice A11 j8.2.length n12), (32, .int .i64 (j8.2.length : Int)), (33, .int .i64 s55.2), (34, .bool (decide (s55.2 < (j8.2.length : Int))))]) (by kernel_rfl) ?_
            refine gl_atE (by kernel_rfl) ?_
            refine ge_seq ?_
            refine gk_seq (by kernel_rfl) ?_
            refine gk_cond (b := (decide (s55.2 < (j8.2.length : Int)))) (by kernel_rfl) (by kernel_rfl) (fun hc74 => ?_) (fun hc74 => ?_)
            · have hb57 := cond_t hc74 hb57
              refine gk_skip (by kernel_rfl) ?_
              refine ge_seq ?_
              refine gk_seq (by kernel_rfl) ?_
              refine gk_block (by kernel_rfl) ?_
              refine gk_seq (by kernel_rfl) ?_
              refine gk_region (by kernel_rfl) ?_
              obtain ⟨x75, hx76, hb57⟩ := bind_some hb57
              obtain ⟨p77, cs78, hR79, hA80, ha81⟩ := RepS.ixAt hx76 (hf13.mono (Imm.trans hI38 hI58))
              have hi82 := ix_some hx76
              obtain rfl := kS49_open hR79
              refine gl_indexAddrF (c := n12) (T' := 22) (e := 50) (xs := (.tmp 31)) (xi := (.tmp 33)) (kd := .i64) ha81 hi82.1 hi82.2.1 (by kernel_rfl) (by kernel_rfl) (by kernel_rfl) (by kernel_rfl) (by kernel_rfl) ?_
              refine gl_loadA (T' := 50) (xp := (.tmp 35)) (p := p77) (cs := [.string x75.f0, .string x75.f1]) (by kernel_rfl) (by kernel_rfl) (by kernel_rfl) (by kernel_rfl) (hA80.take 2) ?_
              refine gl_alloc (T' := 50) (cs := #[.string (⟨#[]⟩ : ByteArray), .string (⟨#[]⟩ : ByteArray)]) (by kernel_rfl) (by kernel_rfl) (by kernel_rfl) (fun g83 => ?_)
              refine gl_storeB (T' := 50) (xp := (.tmp 9)) (xv := (.tmp 36)) (v := .agg #[.string x75.f0, .string x75.f1]) (g := g83) (off := 0) (cs := #[.string (⟨#[]⟩ : ByteArray), .string (⟨#[]⟩ : ByteArray)]) (cs' := #[.string x75.f0, .string x75.f1]) (by kernel_rfl) (by kernel_rfl) (by kernel_rfl) (by kernel_rfl) (by kernel_rfl) (Upd.set _ _ _ _) ?_ (by kernel_rfl)
              refine gl_atE (by kernel_rfl) ?_
              refine ge_seq ?_
              refine gk_draw 9 [(0, true), (1, true), (2, true), (3, true), (4, true), (5, true), (6, true), (7, true), (8, false)] [(g83, .cells #[.string x75.f0, .string x75.f1] 50)] (List.forall_mem_cons.2 ⟨List.mem_cons_self, (fun p hp => by cases hp)⟩) (by kernel_rfl) (by kernel_rfl) (by kernel_rfl) ?_ (by kernel_rfl)
              refine gd_pure 2 [5, 7, 9, 31, 32, 33, 37, 38] (K' := [(5, .string j8.1), (7, .slice A59 s55.1.length n60), (9, .pointer (some ⟨g83, 0, none⟩)), (31, .slice A11 j8.2.length n12), (32, .int .i64 (j8.2.length : Int)), (33, .int .i64 s55.2), (37, .slice A59 s55.1.length n60), (38, .pointer (some ⟨g83, 0, none⟩))]) (s' := [(2, true), (3, true), (4, true), (5, true), (6, true), (7, true), (8, false)]) (CC.refl (List.forall_mem_cons.2 ⟨List.mem_cons_self, (fun p hp => by cases hp)⟩)) (by kernel_rfl) ?_
              refine gd_q (v := .string x75.f0) (by kernel_rfl) (by kernel_rfl) (CC.refl (List.forall_mem_cons.2 ⟨List.mem_cons_self, (fun p hp => by cases hp)⟩)) (fun I' L' T hC kk => gl_loadB (T' := 9) (xp := (.tmp 38)) (v := .string x75.f0) (g := g83) (off := 0) (cs := #[.string x75.f0, .string x75.f1]) (e := 50) (fz := (0, 0)) (by kernel_rfl) (by kernel_rfl) (by kernel_rfl) (hC.sub _ List.mem_cons_self) (by kernel_rfl) kk) ?_
              obtain ⟨s84, hx85, hb57⟩ := bind_some hb57
              refine gd_q (v := .string s84) (by kernel_rfl) (by kernel_rfl) (CC.refl (List.forall_mem_cons.2 ⟨List.mem_cons_self, (fun p hp => by cases hp)⟩)) (fun I' L' T hC kk => gl_sadd (t := 9) (t' := 9) (x := (.tmp 39)) (y := (.const (.string (⟨#[61]⟩ : ByteArray)))) hx85 (by kernel_rfl) (by kernel_rfl) (by kernel_rfl) (by kernel_rfl) kk) ?_
              refine gd_pure 1 [5, 7, 31, 32, 33, 37, 40, 41] (K' := [(5, .string j8.1), (7, .slice A59 s55.1.length n60), (31, .slice A11 j8.2.length n12), (32, .int .i64 (j8.2.length : Int)), (33, .int .i64 s55.2), (37, .slice A59 s55.1.length n60), (40, .string s84), (41, .pointer (some ⟨g83, 1, none⟩))]) (s' := [(5, true), (6, true), (7, true), (8, false)]) (CC.refl (List.forall_mem_cons.2 ⟨List.mem_cons_self, (fun p hp => by cases hp)⟩)) (by kernel_rfl) ?_
              refine gd_q (v := .string x75.f1) (by kernel_rfl) (by kernel_rfl) (CC.refl (List.forall_mem_cons.2 ⟨List.mem_cons_self, (fun p hp => by cases hp)⟩)) (fun I' L' T hC kk => gl_loadB (T' := 9) (xp := (.tmp 41)) (v := .string x75.f1) (g := g83) (off := 1) (cs := #[.string x75.f0, .string x75.f1]) (e := 50) (fz := (0, 0)) (by kernel_rfl) (by kernel_rfl) (by kernel_rfl) (hC.sub _ List.mem_cons_self) (by kernel_rfl) kk) ?_
              obtain ⟨y86, hx87, hb57⟩ := bind_some hb57
              refine gd_q (v := .string y86) (by kernel_rfl) (by kernel_rfl) (CC.refl (List.forall_mem_cons.2 ⟨List.mem_cons_self, (fun p hp => by cases hp)⟩)) (fun I' L' T hC kk => gl_callQ (by kernel_rfl) (labels_quoted_walk (r := y86) ((hG.mono (Imm.trans (Imm.trans hI10 hI38) hI58)).mono hC.le) hx87 _) kk) ?_
              obtain ⟨s88, hx89, hb57⟩ := bind_some hb57
              refine gd_q (v := .string s88) (by kernel_rfl) (by kernel_rfl) (CC.refl (List.forall_mem_cons.2 ⟨List.mem_cons_self, (fun p hp => by cases hp)⟩)) (fun I' L' T hC kk => gl_sadd (t := 9) (t' := 9) (x := (.tmp 40)) (y := (.tmp 43)) hx89 (by kernel_rfl) (by kernel_rfl) (by kernel_rfl) (by kernel_rfl) kk) ?_
              refine gd_one (by kernel_rfl) ?_
              refine gl_buildSlice (T' := 44) (e := 9) (n := 1) (len := 1) (parts := #[(0, (.tmp 44))]) (l := [(0, .string s88)]) (cs := #[.string s88]) (by kernel_rfl) (by kernel_rfl) (by kernel_rfl) (by kernel_rfl) (by kernel_rfl) (fun g90 => ?_)
              have hO91 : OwnS Kd.str 9 I64 (some ⟨g90, 0, none⟩) 1 [s88] [(g90, .cells #[.string s88] 9)] := OwnS.lit (row_cons (l := [.string s88]) rfl (row_nil _ _)) rfl rfl rfl
              refine gl_reord (D := [(g90, .cells #[.string s88] 9)] ++ ((g83, .cells #[.string x75.f0, .string x75.f1] 50) :: (C61 ++ L))) (Reord.refl _) ?_
              refine gl_toD (by kernel_rfl) ⟨(Imm.refl _), (List.forall_mem_cons.2 ⟨(List.mem_append_right _ List.mem_cons_self), (fun p hp => by cases hp)⟩)⟩ ?_
              refine gd_done ?_
              obtain ⟨zs94, hz95, hb57⟩ := bind_some hb57
              refine gl_append (xv := .slice (some ⟨g90, 0, none⟩) [s88].length 1) (d := Kd.str) (t := 44) (tx := 44) (e := 9) (s := (.tmp 37)) (x := (.tmp 45)) (xs := s55.1) (fun X => [(g90, .cells #[.string s88] 9)] ++ ((g83, .cells #[.string x75.f0, .string x75.f1] 50) :: (X ++ L))) hz95 (by kernel_rfl) (by kernel_rfl) (by kernel_rfl) (by kernel_rfl) (by kernel_rfl) (by kernel_rfl) (fun X => (Upd.app _ (Upd.one _ (Upd.head _ X _)))) hO62 (SrcOk.slice (c := 1) (e := 9) (n := 1) (OwnS.rd hO91 (Upd.selfC _ _)) (by kernel_rfl)) (fun A96 n97 C98 hO99 => ?_)
              refine gl_pure 1 [5, 7, 31, 32, 33] (K' := [(5, .string j8.1), (7, .slice A96 zs94.length n97), (31, .slice A11 j8.2.length n12), (32, .int .i64 (j8.2.length : Int)), (33, .int .i64 s55.2)]) (by kernel_rfl) ?_
              refine gl_atE (by kernel_rfl) ?_
              refine ge_block_normal ?_
              refine ge_seq ?_
              refine gk_region (by kernel_rfl) ?_
              refine gl_pure 2 [5, 7, 31, 32, 33] (K' := [(5, .string j8.1), (7, .slice A96 zs94.length n97), (31, .slice A11 j8.2.length n12), (32, .int .i64 (j8.2.length : Int)), (33, .int .i64 (IntKind.wrap .i64 (s55.2 + 1)))]) (by kernel_rfl) ?_
              refine gl_reord (D := C98 ++ L) (Reord.step (Upd.app _ (Upd.one _ (Upd.rmC _ _))) (Reord.skipC (Reord.skip (Reord.refl _)))) ?_
              refine gl_atE (by kernel_rfl) ?_
              obtain rfl := some_inj hb57
              exact ge_round fun t ht => ⟨A96, n97, C98, hO99, hI58, rfl, ht.pick (l := [5, 7, 31, 32, 33]) (by kernel_rfl)⟩
            · have hb57 := cond_f hc74 hb57
              refine gk_exit (by kernel_rfl) ?_
              refine ge_seq_exit ?_
              obtain rfl := some_inj hb57
              refine ge_round_out (fun hrr => ?_) (by intro h; cases h)
              obtain rfl := hrr
              refine ge_block_hit (by kernel_rfl) ?_
              exact ge_mid fun t ht => ⟨A59, n60, C61, hO62, hI58, rfl, ht.pick (l := [5, 7]) (by kernel_rfl)⟩
          · rintro t I71 L' ⟨A66, n67, C68, hO69, hI65, rfl, hK70⟩
            refine ge_at hK70 ?_
            refine ge_seq ?_
            refine gk_seq (by kernel_rfl) ?_
            refine gk_region (by kernel_rfl) ?_
            refine gl_pure 1 [7, 48] (K' := [(7, .slice A66 r53.length n67), (48, .string j8.1)]) (by kernel_rfl) ?_
            obtain ⟨s100, hx101, hr⟩ := bind_some hr
            refine gl_sadd (t := 9) (t' := 9) (x := (.tmp 48)) (y := (.const (.string (⟨#[123]⟩ : ByteArray)))) hx101 (by kernel_rfl) (by kernel_rfl) (by kernel_rfl) (by kernel_rfl) ?_
            refine gl_pure 1 [49, 50] (K' := [(49, .string s100), (50, .slice A66 r53.length n67)]) (by kernel_rfl) ?_
            obtain ⟨y102, hx103, hr⟩ := bind_some hr
            refine gl_callB (r := .string y102) (Tk.step (Upd.rmC _ _) (Tk.nil _)) (by kernel_rfl) (fun J hJ hC => strings_Join_walk (r := y102) (OwnS.rest hO69 hJ hC.left) hx103 _) ?_
            obtain ⟨s104, hx105, hr⟩ := bind_some hr
            refine gl_sadd (t := 9) (t' := 9) (x := (.tmp 49)) (y := (.tmp 51)) hx105 (by kernel_rfl) (by kernel_rfl) (by kernel_rfl) (by kernel_rfl) ?_
            obtain ⟨s106, hx107, hr⟩ := bind_some hr
            refine gl_sadd (t := 9) (t' := 9) (x := (.tmp 52)) (y := (.const (.string (⟨#[125]⟩ : ByteArray)))) hx107 (by kernel_rfl) (by kernel_rfl) (by kernel_rfl) (by kernel_rfl) ?_
            refine gl_pure 2 [2, 3] (K' := [(2, .string s106), (3, .int .i64 0)]) (by kernel_rfl) ?_
            refine gl_atE (by kernel_rfl) ?_
            refine ge_seq ?_
            refine gk_reord (D := L) (Reord.skipC (Reord.refl _)) ?_
            refine gk_ret (by kernel_rfl) ?_
            obtain rfl := some_inj hr
            exact ge_result trivial (ResOk.tmp (by kernel_rfl) (ResOk.tmp (by kernel_rfl) ResOk.nil)) (Imm.trans (Imm.trans hI10 hI38) hI65) ⟨rfl, rfl⟩
/-! 85 labels_Hash_1 ('imm', 'obj') -/
noncomputable def labels_Hash_1_l16 (a0 : ByteArray) : (Int × Int) → Option ((Int × Int) ⊕ (Int)) := fun s7 =>
  bif (decide (s7.2 < (a0.size : Int))) then
  (Option.bind (bx a0 s7.2) fun (c19 : Int) =>
    some (Sum.inl ((IntKind.wrap .u64 ((bitXor .u64 s7.1 (IntKind.wrap .u64 c19)) * 1099511628211)), (IntKind.wrap .i64 (s7.2 + 1)))))
  else
  (some (Sum.inr s7.1))
noncomputable def labels_Hash_1 (a0 : ByteArray) (a1 : Int) : Option Int :=
  Option.bind (loopO (labels_Hash_1_l16 a0) (a1, 0)) fun (r5 : Int) =>
  some (IntKind.wrap .u64 ((bitXor .u64 r5 255) * 1099511628211))
theorem labels_Hash_1_walk {a0 : ByteArray} {a1 : Int} {g1 : Nat} {T1 : TypeId} {I : Imm} {r : Int}  (hr : labels_Hash_1 a0 a1 = some r) (L : Own) :
    CallsTo Tryz.prog 85 #[.string a0, .pointer (some ⟨g1, 0, none⟩)] I ((g1, .cells #[.int .u64 a1] T1) :: L) (fun v I' L' => v = .tuple #[] ∧ (g1, .cells #[.int .u64 r] T1) :: L = L') := by
  unfold labels_Hash_1 at hr
  refine callsTo_body (N := 20) Tryz.func85 (by kernel_rfl) (by kernel_rfl) (by kernel_rfl) ?_
  refine gk_pick [0, 1] (K' := [(0, .string a0), (1, .pointer (some ⟨g1, 0, none⟩))]) (by kernel_rfl) ?_
  refine gk_seq (by kernel_rfl) ?_
  refine gk_seq (by kernel_rfl) ?_
  refine gk_region (by kernel_rfl) ?_
  refine gl_pure 3 [0, 1, 5, 6] (K' := [(0, .string a0), (1, .pointer (some ⟨g1, 0, none⟩)), (5, .int .i64 (a0.size : Int)), (6, .int .i64 0)]) (by kernel_rfl) ?_
  refine gl_atE (by kernel_rfl) ?_
  refine ge_seq ?_
  obtain ⟨r5, hl6, hr⟩ := bind_some hr
  refine gk_join (fun t I' L' => I ≤ I' ∧ (g1, .cells #[.int .u64 r5] T1) :: L = L' ∧ Knows 20 [(1, .pointer (some ⟨g1, 0, none⟩))] t) ?_ ?_
  · refine gk_block (by kernel_rfl) ?_
    refine gk_pick [0, 1, 5, 6] (K' := [(0, .string a0), (1, .pointer (some ⟨g1, 0, none⟩)), (5, .int .i64 (a0.size : Int)), (6, .int .i64 0)]) (by kernel_rfl) ?_
    intro t hK
    refine gc_loop (labels_Hash_1_l16 a0) (fun s7 t I' L' => I ≤ I' ∧ (g1, .cells #[.int .u64 s7.1] T1) :: L = L' ∧ Knows 20 [(0, .string a0), (1, .pointer (some ⟨g1, 0, none⟩)), (5, .int .i64 (a0.size : Int)), (6, .int .i64 s7.2)] t) (by kernel_rfl) ?_ hl6 ⟨(Imm.refl _), rfl, hK⟩
    rintro s7 o8 t I12 L' hb9 ⟨hI10, rfl, hK11⟩
    unfold labels_Hash_1_l16 at hb9
    refine gk_at hK11 ?_
    refine gk_seq (by kernel_rfl) ?_
    refine gk_region (by kernel_rfl) ?_
    refine gl_pure 1 [0, 1, 5, 6, 7] (K' := [(0, .string a0), (1, .pointer (some ⟨g1, 0, none⟩)), (5, .int .i64 (a0.size : Int)), (6, .int .i64 s7.2), (7, .bool (decide (s7.2 < (a0.size : Int))))]) (by kernel_rfl) ?_
    refine gl_atE (by kernel_rfl) ?_
    refine ge_seq ?_
    refine gk_seq (by kernel_rfl) ?_
    refine gk_cond (b := (decide (s7.2 < (a0.size : Int)))) (by kernel_rfl) (by kernel_rfl) (fun hc18 => ?_) (fun hc18 => ?_)
    · have hb9 := cond_t hc18 hb9
      refine gk_skip (by kernel_rfl) ?_
      refine ge_seq ?_
      refine gk_seq (by kernel_rfl) ?_
      refine gk_block (by kernel_rfl) ?_
      refine gk_seq (by kernel_rfl) ?_
      refine gk_region (by kernel_rfl) ?_
      refine gl_pure 2 [0, 1, 3, 5, 6] (K' := [(0, .string a0), (1, .pointer (some ⟨g1, 0, none⟩)), (3, .int .i64 s7.2), (5, .int .i64 (a0.size : Int)), (6, .int .i64 s7.2)]) (by kernel_rfl) ?_
      refine gl_atE (by kernel_rfl) ?_
      refine ge_seq ?_
      refine gk_draw 7 [(0, true), (1, true), (2, true), (3, true), (4, true), (5, true), (6, true)] [(g1, .cells #[.int .u64 s7.1] T1)] (List.forall_mem_cons.2 ⟨List.mem_cons_self, (fun p hp => by cases hp)⟩) (by kernel_rfl) (by kernel_rfl) (by kernel_rfl) ?_ (by kernel_rfl)
      refine gd_q (v := .int .u64 s7.1) (by kernel_rfl) (by kernel_rfl) (CC.refl (List.forall_mem_cons.2 ⟨List.mem_cons_self, (fun p hp => by cases hp)⟩)) (fun I' L' T hC kk => gl_loadB (T' := 41) (xp := (.tmp 1)) (v := .int .u64 s7.1) (g := g1) (off := 0) (cs := #[.int .u64 s7.1]) (e := T1) (fz := (0, 0)) (by kernel_rfl) (by kernel_rfl) (by kernel_rfl) (hC.sub _ List.mem_cons_self) (by kernel_rfl) kk) ?_
      refine gd_pure 2 [0, 1, 5, 6, 9, 10, 11] (K' := [(0, .string a0), (1, .pointer (some ⟨g1, 0, none⟩)), (5, .int .i64 (a0.size : Int)), (6, .int .i64 s7.2), (9, .int .u64 s7.1), (10, .string a0), (11, .int .i64 s7.2)]) (s' := [(3, true), (4, true), (5, true), (6, true)]) (CC.refl (List.forall_mem_cons.2 ⟨List.mem_cons_self, (fun p hp => by cases hp)⟩)) (by kernel_rfl) ?_
      obtain ⟨c19, hx20, hb9⟩ := bind_some hb9
      refine gd_q (v := .int .u8 c19) (by kernel_rfl) (by kernel_rfl) (CC.refl (List.forall_mem_cons.2 ⟨List.mem_cons_self, (fun p hp => by cases hp)⟩)) (fun I' L' T hC kk => gl_index' (T' := 9) (xs := (.tmp 10)) (xi := (.tmp 11)) (kd := .i64) hx20 (by kernel_rfl) (by kernel_rfl) (by kernel_rfl) (by kernel_rfl) (by kernel_rfl) kk) ?_
      refine gd_pure 3 [0, 1, 5, 6, 15] (K' := [(0, .string a0), (1, .pointer (some ⟨g1, 0, none⟩)), (5, .int .i64 (a0.size : Int)), (6, .int .i64 s7.2), (15, .int .u64 (IntKind.wrap .u64 ((bitXor .u64 s7.1 (IntKind.wrap .u64 c19)) * 1099511628211)))]) (s' := []) (CC.refl (List.forall_mem_cons.2 ⟨List.mem_cons_self, (fun p hp => by cases hp)⟩)) (by kernel_rfl) ?_
      refine gd_done ?_
      refine gl_storeB (T' := 41) (xp := (.tmp 1)) (xv := (.tmp 15)) (v := .int .u64 (IntKind.wrap .u64 ((bitXor .u64 s7.1 (IntKind.wrap .u64 c19)) * 1099511628211))) (g := g1) (off := 0) (cs := #[.int .u64 s7.1]) (cs' := #[.int .u64 (IntKind.wrap .u64 ((bitXor .u64 s7.1 (IntKind.wrap .u64 c19)) * 1099511628211))]) (by kernel_rfl) (by kernel_rfl) (by kernel_rfl) (by kernel_rfl) (by kernel_rfl) (Upd.set _ _ _ _) ?_ (by kernel_rfl)
      refine gl_atE (by kernel_rfl) ?_
      refine ge_block_normal ?_
      refine ge_seq ?_
      refine gk_region (by kernel_rfl) ?_
      refine gl_pure 2 [0, 1, 5, 6] (K' := [(0, .string a0), (1, .pointer (some ⟨g1, 0, none⟩)), (5, .int .i64 (a0.size : Int)), (6, .int .i64 (IntKind.wrap .i64 (s7.2 + 1)))]) (by kernel_rfl) ?_
      refine gl_atE (by kernel_rfl) ?_
      obtain rfl := some_inj hb9
      exact ge_round fun t ht => ⟨hI10, rfl, ht.pick (l := [0, 1, 5, 6]) (by kernel_rfl)⟩
    · have hb9 := cond_f hc18 hb9
      refine gk_exit (by kernel_rfl) ?_
      refine ge_seq_exit ?_
      obtain rfl := some_inj hb9
      refine ge_round_out (fun hrr => ?_) (by intro h; cases h)
      obtain rfl := hrr
      refine ge_block_hit (by kernel_rfl) ?_
      exact ge_mid fun t ht => ⟨hI10, rfl, ht.pick (l := [1]) (by kernel_rfl)⟩
  · rintro t I15 L' ⟨hI13, rfl, hK14⟩
    refine ge_at hK14 ?_
    refine ge_seq ?_
    refine gk_region (by kernel_rfl) ?_
    refine gl_loadB (T' := 41) (xp := (.tmp 1)) (v := .int .u64 r5) (g := g1) (off := 0) (cs := #[.int .u64 r5]) (e := T1) (fz := (0, 0)) (by kernel_rfl) (by kernel_rfl) (by kernel_rfl) List.mem_cons_self (by kernel_rfl) ?_
    refine gl_pure 2 [1, 19] (K' := [(1, .pointer (some ⟨g1, 0, none⟩)), (19, .int .u64 (IntKind.wrap .u64 ((bitXor .u64 r5 255) * 1099511628211)))]) (by kernel_rfl) ?_
    refine gl_storeB (T' := 41) (xp := (.tmp 1)) (xv := (.tmp 19)) (v := .int .u64 (IntKind.wrap .u64 ((bitXor .u64 r5 255) * 1099511628211))) (g := g1) (off := 0) (cs := #[.int .u64 r5]) (cs' := #[.int .u64 (IntKind.wrap .u64 ((bitXor .u64 r5 255) * 1099511628211))]) (by kernel_rfl) (by kernel_rfl) (by kernel_rfl) (by kernel_rfl) (by kernel_rfl) (Upd.set _ _ _ _) ?_ (by kernel_rfl)
    refine gl_atE (by kernel_rfl) ?_
    obtain rfl := some_inj hr
    exact ge_result trivial ResOk.nil hI13 ⟨rfl, rfl⟩
/-! 35 labels_Hash  -/
noncomputable def labels_Hash_l17 (a0 : List S49) : (Int × Int) → Option ((Int × Int) ⊕ (Int)) := fun s8 =>
  bif (decide (s8.2 < (a0.length : Int))) then
  (Option.bind (ix a0 s8.2) fun (x20 : S49) =>
    Option.bind (labels_Hash_1 x20.f0 s8.1) fun (y29 : Int) =>
    Option.bind (labels_Hash_1 x20.f1 y29) fun (y34 : Int) =>
    some (Sum.inl (y34, (IntKind.wrap .i64 (s8.2 + 1)))))
  else
  (some (Sum.inr s8.1))
noncomputable def labels_Hash (a0 : List S49) : Option Int :=
  Option.bind (loopO (labels_Hash_l17 a0) (14695981039346656037, 0)) fun (r6 : Int) =>
  some r6
theorem labels_Hash_walk {a0 : List S49} {A0_0 : Option Addr} {n0_0 : Nat} {I : Imm} {r : Int}  (hf0_0 : RepS kS49 I A0_0 n0_0 a0) (hr : labels_Hash a0 = some r) (L : Own) :
    CallsTo Tryz.prog 35 #[.slice A0_0 a0.length n0_0] I L (fun v I' L' => v = .int .u64 r ∧ L = L') := by
  unfold labels_Hash at hr
  refine callsTo_body (N := 24) Tryz.func35 (by kernel_rfl) (by kernel_rfl) (by kernel_rfl) ?_
  refine gk_pick [0] (K' := [(0, .slice A0_0 a0.length n0_0)]) (by kernel_rfl) ?_
  refine gk_seq (by kernel_rfl) ?_
  refine gk_region (by kernel_rfl) ?_
  refine gl_pure 1 [0] (K' := [(0, .slice A0_0 a0.length n0_0)]) (by kernel_rfl) ?_
  refine gl_atE (by kernel_rfl) ?_
  refine ge_seq ?_
  refine gk_seq (by kernel_rfl) ?_
  refine gk_region (by kernel_rfl) ?_
  refine gl_alloc (T' := 41) (cs := #[.int .u64 0]) (by kernel_rfl) (by kernel_rfl) (by kernel_rfl) (fun g1 => ?_)
  refine gl_storeB (T' := 41) (xp := (.tmp 3)) (xv := (.const (.int .u64 14695981039346656037))) (v := .int .u64 14695981039346656037) (g := g1) (off := 0) (cs := #[.int .u64 0]) (cs' := #[.int .u64 14695981039346656037]) (by kernel_rfl) (by kernel_rfl) (by kernel_rfl) (by kernel_rfl) (by kernel_rfl) (Upd.set _ _ _ _) ?_ (by kernel_rfl)
  refine gl_atE (by kernel_rfl) ?_
  refine ge_seq ?_
  refine gk_seq (by kernel_rfl) ?_
  refine gk_region (by kernel_rfl) ?_
  refine gl_pure 2 [0, 3, 4] (K' := [(0, .slice A0_0 a0.length n0_0), (3, .pointer (some ⟨g1, 0, none⟩)), (4, .func (.func 85) #[] #[.pointer (some ⟨g1, 0, none⟩)])]) (by kernel_rfl) ?_
  refine gl_atE (by kernel_rfl) ?_
  refine ge_seq ?_
  refine gk_seq (by kernel_rfl) ?_
  refine gk_seq (by kernel_rfl) ?_
  refine gk_region (by kernel_rfl) ?_
  refine gl_pure 3 [3, 4, 8, 9, 10] (K' := [(3, .pointer (some ⟨g1, 0, none⟩)), (4, .func (.func 85) #[] #[.pointer (some ⟨g1, 0, none⟩)]), (8, .slice A0_0 a0.length n0_0), (9, .int .i64 (a0.length : Int)), (10, .int .i64 0)]) (by kernel_rfl) ?_
  refine gl_atE (by kernel_rfl) ?_
  refine ge_seq ?_
  obtain ⟨r6, hl7, hr⟩ := bind_some hr
  refine gk_join (fun t I' L' => I ≤ I' ∧ (g1, .cells #[.int .u64 r6] 41) :: L = L' ∧ Knows 24 [(3, .pointer (some ⟨g1, 0, none⟩))] t) ?_ ?_
  · refine gk_block (by kernel_rfl) ?_
    refine gk_pick [3, 4, 8, 9, 10] (K' := [(3, .pointer (some ⟨g1, 0, none⟩)), (4, .func (.func 85) #[] #[.pointer (some ⟨g1, 0, none⟩)]), (8, .slice A0_0 a0.length n0_0), (9, .int .i64 (a0.length : Int)), (10, .int .i64 0)]) (by kernel_rfl) ?_
    intro t hK
    refine gc_loop (labels_Hash_l17 a0) (fun s8 t I' L' => I ≤ I' ∧ (g1, .cells #[.int .u64 s8.1] 41) :: L = L' ∧ Knows 24 [(3, .pointer (some ⟨g1, 0, none⟩)), (4, .func (.func 85) #[] #[.pointer (some ⟨g1, 0, none⟩)]), (8, .slice A0_0 a0.length n0_0), (9, .int .i64 (a0.length : Int)), (10, .int .i64 s8.2)] t) (by kernel_rfl) ?_ hl7 ⟨(Imm.refl _), rfl, hK⟩
    rintro s8 o9 t I13 L' hb10 ⟨hI11, rfl, hK12⟩
    unfold labels_Hash_l17 at hb10
    refine gk_at hK12 ?_
    refine gk_seq (by kernel_rfl) ?_
    refine gk_region (by kernel_rfl) ?_
    refine gl_pure 1 [3, 4, 8, 9, 10, 11] (K' := [(3, .pointer (some ⟨g1, 0, none⟩)), (4, .func (.func 85) #[] #[.pointer (some ⟨g1, 0, none⟩)]), (8, .slice A0_0 a0.length n0_0), (9, .int .i64 (a0.length : Int)), (10, .int .i64 s8.2), (11, .bool (decide (s8.2 < (a0.length : Int))))]) (by kernel_rfl) ?_
    refine gl_atE (by kernel_rfl) ?_
    refine ge_seq ?_
    refine gk_seq (by kernel_rfl) ?_
    refine gk_cond (b := (decide (s8.2 < (a0.length : Int)))) (by kernel_rfl) (by kernel_rfl) (fun hc19 => ?_) (fun hc19 => ?_)
    · have hb10 := cond_t hc19 hb10
      refine gk_skip (by kernel_rfl) ?_
      refine ge_seq ?_
      refine gk_seq (by kernel_rfl) ?_
      refine gk_block (by kernel_rfl) ?_
      refine gk_seq (by kernel_rfl) ?_
      refine gk_region (by kernel_rfl) ?_
      obtain ⟨x20, hx21, hb10⟩ := bind_some hb10
      obtain ⟨p22, cs23, hR24, hA25, ha26⟩ := RepS.ixAt hx21 (hf0_0.mono hI11)
      have hi27 := ix_some hx21
      obtain rfl := kS49_open hR24
      refine gl_indexAddrF (c := n0_0) (T' := 22) (e := 50) (xs := (.tmp 8)) (xi := (.tmp 10)) (kd := .i64) ha26 hi27.1 hi27.2.1 (by kernel_rfl) (by kernel_rfl) (by kernel_rfl) (by kernel_rfl) (by kernel_rfl) ?_
      refine gl_loadA (T' := 50) (xp := (.tmp 12)) (p := p22) (cs := [.string x20.f0, .string x20.f1]) (by kernel_rfl) (by kernel_rfl) (by kernel_rfl) (by kernel_rfl) (hA25.take 2) ?_
      refine gl_alloc (T' := 50) (cs := #[.string (⟨#[]⟩ : ByteArray), .string (⟨#[]⟩ : ByteArray)]) (by kernel_rfl) (by kernel_rfl) (by kernel_rfl) (fun g28 => ?_)
      refine gl_storeB (T' := 50) (xp := (.tmp 6)) (xv := (.tmp 13)) (v := .agg #[.string x20.f0, .string x20.f1]) (g := g28) (off := 0) (cs := #[.string (⟨#[]⟩ : ByteArray), .string (⟨#[]⟩ : ByteArray)]) (cs' := #[.string x20.f0, .string x20.f1]) (by kernel_rfl) (by kernel_rfl) (by kernel_rfl) (by kernel_rfl) (by kernel_rfl) (Upd.set _ _ _ _) ?_ (by kernel_rfl)
      refine gl_atE (by kernel_rfl) ?_
      refine ge_seq ?_
      refine gk_seq (by kernel_rfl) ?_
      refine gk_region (by kernel_rfl) ?_
      refine gl_pure 2 [3, 4, 6, 8, 9, 10, 14, 15] (K' := [(3, .pointer (some ⟨g1, 0, none⟩)), (4, .func (.func 85) #[] #[.pointer (some ⟨g1, 0, none⟩)]), (6, .pointer (some ⟨g28, 0, none⟩)), (8, .slice A0_0 a0.length n0_0), (9, .int .i64 (a0.length : Int)), (10, .int .i64 s8.2), (14, .func (.func 85) #[] #[.pointer (some ⟨g1, 0, none⟩)]), (15, .pointer (some ⟨g28, 0, none⟩))]) (by kernel_rfl) ?_
      refine gl_loadB (T' := 9) (xp := (.tmp 15)) (v := .string x20.f0) (g := g28) (off := 0) (cs := #[.string x20.f0, .string x20.f1]) (e := 50) (fz := (0, 0)) (by kernel_rfl) (by kernel_rfl) (by kernel_rfl) List.mem_cons_self (by kernel_rfl) ?_
      obtain ⟨y29, hx30, hb10⟩ := bind_some hb10
      refine gl_reord (D := (g1, .cells #[.int .u64 s8.1] 41) :: ((g28, .cells #[.string x20.f0, .string x20.f1] 50) :: L)) (Reord.step1 (Upd.one _ (Upd.rm1 _ _)) (Reord.step1 (Upd.rm1 _ _) (Reord.refl _))) ?_
      refine gl_call (by kernel_rfl) (labels_Hash_1_walk (r := y29) (g1 := g1) (T1 := 41) (a1 := s8.1) hx30 _) ?_
      rintro v I31 L32 hI33 ⟨rfl, rfl⟩
      refine gl_atE (by kernel_rfl) ?_
      refine ge_seq ?_
      refine gk_region (by kernel_rfl) ?_
      refine gl_pure 2 [3, 4, 8, 9, 10, 18, 19] (K' := [(3, .pointer (some ⟨g1, 0, none⟩)), (4, .func (.func 85) #[] #[.pointer (some ⟨g1, 0, none⟩)]), (8, .slice A0_0 a0.length n0_0), (9, .int .i64 (a0.length : Int)), (10, .int .i64 s8.2), (18, .func (.func 85) #[] #[.pointer (some ⟨g1, 0, none⟩)]), (19, .pointer (some ⟨g28, 1, none⟩))]) (by kernel_rfl) ?_
      refine gl_loadB (T' := 9) (xp := (.tmp 19)) (v := .string x20.f1) (g := g28) (off := 1) (cs := #[.string x20.f0, .string x20.f1]) (e := 50) (fz := (0, 0)) (by kernel_rfl) (by kernel_rfl) (by kernel_rfl) (List.mem_cons_of_mem _ List.mem_cons_self) (by kernel_rfl) ?_
      obtain ⟨y34, hx35, hb10⟩ := bind_some hb10
      refine gl_call (by kernel_rfl) (labels_Hash_1_walk (r := y34) (g1 := g1) (T1 := 41) (a1 := y29) hx35 _) ?_
      rintro v I36 L37 hI38 ⟨rfl, rfl⟩
      refine gl_atE (by kernel_rfl) ?_
      refine ge_block_normal ?_
      refine ge_seq ?_
      refine gk_region (by kernel_rfl) ?_
      refine gl_pure 2 [3, 4, 8, 9, 10] (K' := [(3, .pointer (some ⟨g1, 0, none⟩)), (4, .func (.func 85) #[] #[.pointer (some ⟨g1, 0, none⟩)]), (8, .slice A0_0 a0.length n0_0), (9, .int .i64 (a0.length : Int)), (10, .int .i64 (IntKind.wrap .i64 (s8.2 + 1)))]) (by kernel_rfl) ?_
      refine gl_reord (D := (g1, .cells #[.int .u64 y34] 41) :: L) (Reord.step1 (Upd.rm1 _ _) (Reord.skip (Reord.refl _))) ?_
      refine gl_atE (by kernel_rfl) ?_
      obtain rfl := some_inj hb10
      exact ge_round fun t ht => ⟨(Imm.trans (Imm.trans hI11 hI33) hI38), rfl, ht.pick (l := [3, 4, 8, 9, 10]) (by kernel_rfl)⟩
    · have hb10 := cond_f hc19 hb10
      refine gk_exit (by kernel_rfl) ?_
      refine ge_seq_exit ?_
      obtain rfl := some_inj hb10
      refine ge_round_out (fun hrr => ?_) (by intro h; cases h)
      obtain rfl := hrr
      refine ge_block_hit (by kernel_rfl) ?_
      exact ge_mid fun t ht => ⟨hI11, rfl, ht.pick (l := [3]) (by kernel_rfl)⟩
  · rintro t I16 L' ⟨hI14, rfl, hK15⟩
    refine ge_at hK15 ?_
    refine ge_seq ?_
    refine gk_seq (by kernel_rfl) ?_
    refine gk_region (by kernel_rfl) ?_
    refine gl_loadB (T' := 41) (xp := (.tmp 3)) (v := .int .u64 r6) (g := g1) (off := 0) (cs := #[.int .u64 r6]) (e := 41) (fz := (0, 0)) (by kernel_rfl) (by kernel_rfl) (by kernel_rfl) List.mem_cons_self (by kernel_rfl) ?_
    refine gl_pure 1 [2] (K' := [(2, .int .u64 r6)]) (by kernel_rfl) ?_
    refine gl_atE (by kernel_rfl) ?_
    refine ge_seq ?_
    refine gk_reord (D := L) (Reord.skip (Reord.refl _)) ?_
    refine gk_ret (by kernel_rfl) ?_
    obtain rfl := some_inj hr
    exact ge_result trivial (ResOk.tmp (by kernel_rfl) ResOk.nil) hI14 ⟨rfl, rfl⟩
/-! 22 tocsinlaw04_awake  -/
noncomputable def tocsinlaw04_awake : Option Bool :=
  Option.bind (labels_Parse (⟨#[117, 112, 32, 123, 32, 106, 111, 98, 32, 61, 32, 34, 120, 34, 32, 44, 32, 125]⟩ : ByteArray)) fun (y1 : (List S49) × Int × Int) =>
  Option.bind (labels_Print y1.1) fun (y10 : ByteArray × Int) =>
  Option.bind (bif (y1.2.1 == 0) then
    (bif (y10.2 == 0) then
      (bif (y10.1.toList == (⟨#[117, 112, 123, 106, 111, 98, 61, 34, 120, 34, 125]⟩ : ByteArray).toList) then
        (Option.bind (labels_Get y1.1 (⟨#[106, 111, 98]⟩ : ByteArray)) fun (y20 : ByteArray) =>
          bif (y20.toList == (⟨#[120]⟩ : ByteArray).toList) then
          (Option.bind (labels_Hash []) fun (y23 : Int) =>
            some (y23 == 14695981039346656037))
          else
          (some false))
        else
        (some false))
      else
      (some false))
    else
    (some false)) fun (j12 : Bool) =>
  some j12
theorem tocsinlaw04_awake_walk  {I : Imm} {r : Bool} (hG : Gl I) (hr : tocsinlaw04_awake = some r) (L : Own) :
    CallsTo Tryz.prog 22 #[] I L (fun v I' L' => v = .bool r ∧ L = L') := by
  unfold tocsinlaw04_awake at hr
  refine callsTo_body (N := 35) Tryz.func22 (by kernel_rfl) (by kernel_rfl) (by kernel_rfl) ?_
  refine gk_pick [] (K' := []) (by kernel_rfl) ?_
  refine gk_seq (by kernel_rfl) ?_
  refine gk_region (by kernel_rfl) ?_
  refine gl_pure 1 [] (K' := []) (by kernel_rfl) ?_
  refine gl_atE (by kernel_rfl) ?_
  refine ge_seq ?_
  refine gk_seq (by kernel_rfl) ?_
  refine gk_region (by kernel_rfl) ?_
  obtain ⟨y1, hx2, hr⟩ := bind_some hr
  refine gl_call (by kernel_rfl) (labels_Parse_walk (r := y1) hG hx2 _) ?_
  rintro v I3 L4 hI5 ⟨A6, c7, C8, hO9, rfl, rfl⟩
  refine gl_pure 7 [1, 2] (K' := [(1, .slice A6 y1.1.length c7), (2, .int .i64 y1.2.1)]) (by kernel_rfl) ?_
  refine gl_atE (by kernel_rfl) ?_
  refine ge_seq ?_
  refine gk_seq (by kernel_rfl) ?_
  refine gk_region (by kernel_rfl) ?_
  refine gl_pure 1 [1, 2, 12] (K' := [(1, .slice A6 y1.1.length c7), (2, .int .i64 y1.2.1), (12, .slice A6 y1.1.length c7)]) (by kernel_rfl) ?_
  obtain ⟨y10, hx11, hr⟩ := bind_some hr
  refine gl_callB (r := .tuple #[.string y10.1, .int .i64 y10.2]) (Tk.step (Upd.rmC _ _) (Tk.nil _)) (by kernel_rfl) (fun J hJ hC => labels_Print_walk (r := y10) (hG.mono (Imm.trans hI5 hJ)) (OwnS.rest hO9 hJ hC.left) hx11 _) ?_
  refine gl_pure 5 [1, 2, 4, 5] (K' := [(1, .slice A6 y1.1.length c7), (2, .int .i64 y1.2.1), (4, .string y10.1), (5, .int .i64 y10.2)]) (by kernel_rfl) ?_
  refine gl_atE (by kernel_rfl) ?_
  refine ge_seq ?_
  refine gk_seq (by kernel_rfl) ?_
  obtain ⟨j12, hj13, hr⟩ := bind_some hr
  refine gk_join (fun t I' L' => I3 ≤ I' ∧ L = L' ∧ Knows 35 [(0, .bool j12)] t) ?_ ?_
  · refine gk_region (by kernel_rfl) ?_
    refine gl_pure 3 [1, 4, 5, 18] (K' := [(1, .slice A6 y1.1.length c7), (4, .string y10.1), (5, .int .i64 y10.2), (18, .bool (y1.2.1 == 0))]) (by kernel_rfl) ?_
    refine gl_case 18 (b := (y1.2.1 == 0)) (by kernel_rfl) (fun hc17 => ?_) (fun hc17 => ?_)
    · have hj13 := cond_t hc17 hj13
      refine gl_pure 4 [1, 4, 22] (K' := [(1, .slice A6 y1.1.length c7), (4, .string y10.1), (22, .bool (y10.2 == 0))]) (by kernel_rfl) ?_
      refine gl_case 22 (b := (y10.2 == 0)) (by kernel_rfl) (fun hc18 => ?_) (fun hc18 => ?_)
      · have hj13 := cond_t hc18 hj13
        refine gl_pure 4 [1, 26] (K' := [(1, .slice A6 y1.1.length c7), (26, .bool (y10.1.toList == (⟨#[117, 112, 123, 106, 111, 98, 61, 34, 120, 34, 125]⟩ : ByteArray).toList))]) (by kernel_rfl) ?_
        refine gl_case 26 (b := (y10.1.toList == (⟨#[117, 112, 123, 106, 111, 98, 61, 34, 120, 34, 125]⟩ : ByteArray).toList)) (by kernel_rfl) (fun hc19 => ?_) (fun hc19 => ?_)
        · have hj13 := cond_t hc19 hj13
          refine gl_pure 1 [26, 27] (K' := [(26, .bool true), (27, .slice A6 y1.1.length c7)]) (by kernel_rfl) ?_
          obtain ⟨y20, hx21, hj13⟩ := bind_some hj13
          refine gl_callB (r := .string y20) (Tk.step (Upd.rmC _ _) (Tk.nil _)) (by kernel_rfl) (fun J hJ hC => labels_Get_walk (r := y20) (OwnS.rest hO9 hJ hC.left) hx21 _) ?_
          refine gl_pure 3 [31] (K' := [(31, .bool (y20.toList == (⟨#[120]⟩ : ByteArray).toList))]) (by kernel_rfl) ?_
          refine gl_case 31 (b := (y20.toList == (⟨#[120]⟩ : ByteArray).toList)) (by kernel_rfl) (fun hc22 => ?_) (fun hc22 => ?_)
          · have hj13 := cond_t hc22 hj13
            obtain ⟨y23, hx24, hj13⟩ := bind_some hj13
            refine gl_callQ (by kernel_rfl) (labels_Hash_walk (r := y23) (RepS.nil _ _) hx24 _) ?_
            refine gl_pure 3 [0] (K' := [(0, .bool (y23 == 14695981039346656037))]) (by kernel_rfl) ?_
            refine gl_reord (D := L) (Reord.skipC (Reord.refl _)) ?_
            refine gl_atE (by kernel_rfl) ?_
            obtain rfl := some_inj hj13
            exact ge_mid fun t ht => ⟨(Imm.refl _), rfl, ht.pick (l := [0]) (by kernel_rfl)⟩
          · have hj13 := cond_f hc22 hj13
            refine gl_pure 4 [0] (K' := [(0, .bool false)]) (by kernel_rfl) ?_
            refine gl_reord (D := L) (Reord.skipC (Reord.refl _)) ?_
            refine gl_atE (by kernel_rfl) ?_
            obtain rfl := some_inj hj13
            exact ge_mid fun t ht => ⟨(Imm.refl _), rfl, ht.pick (l := [0]) (by kernel_rfl)⟩
        · have hj13 := cond_f hc19 hj13
          refine gl_pure 9 [0] (K' := [(0, .bool false)]) (by kernel_rfl) ?_
          refine gl_reord (D := L) (Reord.skipC (Reord.refl _)) ?_
          refine gl_atE (by kernel_rfl) ?_
          obtain rfl := some_inj hj13
          exact ge_mid fun t ht => ⟨(Imm.refl _), rfl, ht.pick (l := [0]) (by kernel_rfl)⟩
      · have hj13 := cond_f hc18 hj13
        refine gl_pure 13 [0] (K' := [(0, .bool false)]) (by kernel_rfl) ?_
        refine gl_reord (D := L) (Reord.skipC (Reord.refl _)) ?_
        refine gl_atE (by kernel_rfl) ?_
        obtain rfl := some_inj hj13
        exact ge_mid fun t ht => ⟨(Imm.refl _), rfl, ht.pick (l := [0]) (by kernel_rfl)⟩
    · have hj13 := cond_f hc17 hj13
      refine gl_pure 17 [0] (K' := [(0, .bool false)]) (by kernel_rfl) ?_
      refine gl_reord (D := L) (Reord.skipC (Reord.refl _)) ?_
      refine gl_atE (by kernel_rfl) ?_
      obtain rfl := some_inj hj13
      exact ge_mid fun t ht => ⟨(Imm.refl _), rfl, ht.pick (l := [0]) (by kernel_rfl)⟩
  · rintro t I16 L' ⟨hI14, rfl, hK15⟩
    refine ge_at hK15 ?_
    refine ge_seq ?_
    refine gk_ret (by kernel_rfl) ?_
    obtain rfl := some_inj hr
    exact ge_result trivial (ResOk.tmp (by kernel_rfl) ResOk.nil) (Imm.trans hI5 hI14) ⟨rfl, rfl⟩
/-! 12 tocsinlaw04_LabelsNil  -/
noncomputable def tocsinlaw04_LabelsNil (a0 : List S49) (a1 : Int) : Option Bool :=
  Option.bind (bif (((labels_Ids_Put a0).1) == 0) then
    (bif (((labels_Ids_Put a0).2) == 2) then
      (bif (((labels_Ids_Find a0).1) == 0) then
        (bif (!((labels_Ids_Find a0).2)) then
          (bif ((((labels_Ids_Labels a1).1).length : Int) == 0) then
            (bif (((labels_Ids_Labels a1).2) == 2) then
              (bif ((labels_Ids_Drop a0) == 2) then
                (Option.bind (tocsinlaw04_told (⟨[], 0⟩ : S62)) fun (y20 : Bool) =>
                  bif y20 then
                  (Option.bind tocsinlaw04_awake fun (y26 : Bool) =>
                    some y26)
                  else
                  (some false))
                else
                (some false))
              else
              (some false))
            else
            (some false))
          else
          (some false))
        else
        (some false))
      else
      (some false))
    else
    (some false)) fun (j7 : Bool) =>
  some j7
theorem tocsinlaw04_LabelsNil_walk {a0 : List S49} {A0_0 : Option Addr} {n0_0 : Nat} {a1 : Int} {I : Imm} {r : Bool} (hG : Gl I)  (hf0_0 : RepS kS49 I A0_0 n0_0 a0) (hr : tocsinlaw04_LabelsNil a0 a1 = some r) (L : Own) :
    CallsTo Tryz.prog 12 #[.slice A0_0 a0.length n0_0, .int .i64 a1] I L (fun v I' L' => v = .bool r ∧ L = L') := by
  unfold tocsinlaw04_LabelsNil at hr
  refine callsTo_body (N := 68) Tryz.func12 (by kernel_rfl) (by kernel_rfl) (by kernel_rfl) ?_
  refine gk_pick [0, 1] (K' := [(0, .slice A0_0 a0.length n0_0), (1, .int .i64 a1)]) (by kernel_rfl) ?_
  refine gk_seq (by kernel_rfl) ?_
  refine gk_region (by kernel_rfl) ?_
  refine gl_pure 1 [0, 1] (K' := [(0, .slice A0_0 a0.length n0_0), (1, .int .i64 a1)]) (by kernel_rfl) ?_
  refine gl_atE (by kernel_rfl) ?_
  refine ge_seq ?_
  refine gk_seq (by kernel_rfl) ?_
  refine gk_region (by kernel_rfl) ?_
  refine gl_pure 1 [0, 1, 5] (K' := [(0, .slice A0_0 a0.length n0_0), (1, .int .i64 a1), (5, .pointer none)]) (by kernel_rfl) ?_
  refine gl_atE (by kernel_rfl) ?_
  refine ge_seq ?_
  refine gk_seq (by kernel_rfl) ?_
  refine gk_region (by kernel_rfl) ?_
  refine gl_pure 2 [0, 1, 5, 13, 14] (K' := [(0, .slice A0_0 a0.length n0_0), (1, .int .i64 a1), (5, .pointer none), (13, .pointer none), (14, .slice A0_0 a0.length n0_0)]) (by kernel_rfl) ?_
  refine gl_callQ (by kernel_rfl) (labels_Ids_Put_walk (r := (labels_Ids_Put a0)) hf0_0 rfl _) ?_
  refine gl_pure 5 [0, 1, 5, 6, 7] (K' := [(0, .slice A0_0 a0.length n0_0), (1, .int .i64 a1), (5, .pointer none), (6, .int .i64 ((labels_Ids_Put a0).1)), (7, .int .i64 ((labels_Ids_Put a0).2))]) (by kernel_rfl) ?_
  refine gl_atE (by kernel_rfl) ?_
  refine ge_seq ?_
  refine gk_seq (by kernel_rfl) ?_
  refine gk_region (by kernel_rfl) ?_
  refine gl_pure 2 [0, 1, 5, 6, 7, 19, 20] (K' := [(0, .slice A0_0 a0.length n0_0), (1, .int .i64 a1), (5, .pointer none), (6, .int .i64 ((labels_Ids_Put a0).1)), (7, .int .i64 ((labels_Ids_Put a0).2)), (19, .pointer none), (20, .slice A0_0 a0.length n0_0)]) (by kernel_rfl) ?_
  refine gl_callQ (by kernel_rfl) (labels_Ids_Find_walk (r := (labels_Ids_Find a0)) hf0_0 rfl _) ?_
  refine gl_pure 5 [0, 1, 5, 6, 7, 8, 9] (K' := [(0, .slice A0_0 a0.length n0_0), (1, .int .i64 a1), (5, .pointer none), (6, .int .i64 ((labels_Ids_Put a0).1)), (7, .int .i64 ((labels_Ids_Put a0).2)), (8, .int .i64 ((labels_Ids_Find a0).1)), (9, .bool ((labels_Ids_Find a0).2))]) (by kernel_rfl) ?_
  refine gl_atE (by kernel_rfl) ?_
  refine ge_seq ?_
  refine gk_seq (by kernel_rfl) ?_
  refine gk_region (by kernel_rfl) ?_
  refine gl_pure 2 [0, 5, 6, 7, 8, 9, 25, 26] (K' := [(0, .slice A0_0 a0.length n0_0), (5, .pointer none), (6, .int .i64 ((labels_Ids_Put a0).1)), (7, .int .i64 ((labels_Ids_Put a0).2)), (8, .int .i64 ((labels_Ids_Find a0).1)), (9, .bool ((labels_Ids_Find a0).2)), (25, .pointer none), (26, .int .i64 a1)]) (by kernel_rfl) ?_
  refine gl_call (by kernel_rfl) (labels_Ids_Labels_walk (r := (labels_Ids_Labels a1))  rfl _) ?_
  rintro v I1 L2 hI3 ⟨A4, c5, hf6, rfl, rfl⟩
  refine gl_pure 5 [0, 5, 6, 7, 8, 9, 10, 11] (K' := [(0, .slice A0_0 a0.length n0_0), (5, .pointer none), (6, .int .i64 ((labels_Ids_Put a0).1)), (7, .int .i64 ((labels_Ids_Put a0).2)), (8, .int .i64 ((labels_Ids_Find a0).1)), (9, .bool ((labels_Ids_Find a0).2)), (10, .slice A4 ((labels_Ids_Labels a1).1).length c5), (11, .int .i64 ((labels_Ids_Labels a1).2))]) (by kernel_rfl) ?_
  refine gl_atE (by kernel_rfl) ?_
  refine ge_seq ?_
  refine gk_seq (by kernel_rfl) ?_
  obtain ⟨j7, hj8, hr⟩ := bind_some hr
  refine gk_join (fun t I' L' => I1 ≤ I' ∧ L = L' ∧ Knows 68 [(4, .bool j7)] t) ?_ ?_
  · refine gk_region (by kernel_rfl) ?_
    refine gl_pure 3 [0, 5, 7, 8, 9, 10, 11, 32] (K' := [(0, .slice A0_0 a0.length n0_0), (5, .pointer none), (7, .int .i64 ((labels_Ids_Put a0).2)), (8, .int .i64 ((labels_Ids_Find a0).1)), (9, .bool ((labels_Ids_Find a0).2)), (10, .slice A4 ((labels_Ids_Labels a1).1).length c5), (11, .int .i64 ((labels_Ids_Labels a1).2)), (32, .bool (((labels_Ids_Put a0).1) == 0))]) (by kernel_rfl) ?_
    refine gl_case 32 (b := (((labels_Ids_Put a0).1) == 0)) (by kernel_rfl) (fun hc12 => ?_) (fun hc12 => ?_)
    · have hj8 := cond_t hc12 hj8
      refine gl_pure 4 [0, 5, 8, 9, 10, 11, 36] (K' := [(0, .slice A0_0 a0.length n0_0), (5, .pointer none), (8, .int .i64 ((labels_Ids_Find a0).1)), (9, .bool ((labels_Ids_Find a0).2)), (10, .slice A4 ((labels_Ids_Labels a1).1).length c5), (11, .int .i64 ((labels_Ids_Labels a1).2)), (36, .bool (((labels_Ids_Put a0).2) == 2))]) (by kernel_rfl) ?_
      refine gl_case 36 (b := (((labels_Ids_Put a0).2) == 2)) (by kernel_rfl) (fun hc13 => ?_) (fun hc13 => ?_)
      · have hj8 := cond_t hc13 hj8
        refine gl_pure 4 [0, 5, 9, 10, 11, 40] (K' := [(0, .slice A0_0 a0.length n0_0), (5, .pointer none), (9, .bool ((labels_Ids_Find a0).2)), (10, .slice A4 ((labels_Ids_Labels a1).1).length c5), (11, .int .i64 ((labels_Ids_Labels a1).2)), (40, .bool (((labels_Ids_Find a0).1) == 0))]) (by kernel_rfl) ?_
        refine gl_case 40 (b := (((labels_Ids_Find a0).1) == 0)) (by kernel_rfl) (fun hc14 => ?_) (fun hc14 => ?_)
        · have hj8 := cond_t hc14 hj8
          refine gl_pure 4 [0, 5, 10, 11, 44] (K' := [(0, .slice A0_0 a0.length n0_0), (5, .pointer none), (10, .slice A4 ((labels_Ids_Labels a1).1).length c5), (11, .int .i64 ((labels_Ids_Labels a1).2)), (44, .bool (!((labels_Ids_Find a0).2)))]) (by kernel_rfl) ?_
          refine gl_case 44 (b := (!((labels_Ids_Find a0).2))) (by kernel_rfl) (fun hc15 => ?_) (fun hc15 => ?_)
          · have hj8 := cond_t hc15 hj8
            refine gl_pure 5 [0, 5, 11, 49] (K' := [(0, .slice A0_0 a0.length n0_0), (5, .pointer none), (11, .int .i64 ((labels_Ids_Labels a1).2)), (49, .bool ((((labels_Ids_Labels a1).1).length : Int) == 0))]) (by kernel_rfl) ?_
            refine gl_case 49 (b := ((((labels_Ids_Labels a1).1).length : Int) == 0)) (by kernel_rfl) (fun hc16 => ?_) (fun hc16 => ?_)
            · have hj8 := cond_t hc16 hj8
              refine gl_pure 4 [0, 5, 53] (K' := [(0, .slice A0_0 a0.length n0_0), (5, .pointer none), (53, .bool (((labels_Ids_Labels a1).2) == 2))]) (by kernel_rfl) ?_
              refine gl_case 53 (b := (((labels_Ids_Labels a1).2) == 2)) (by kernel_rfl) (fun hc17 => ?_) (fun hc17 => ?_)
              · have hj8 := cond_t hc17 hj8
                refine gl_pure 2 [5, 53, 54, 55] (K' := [(5, .pointer none), (53, .bool true), (54, .pointer none), (55, .slice A0_0 a0.length n0_0)]) (by kernel_rfl) ?_
                refine gl_callQ (by kernel_rfl) (labels_Ids_Drop_walk (r := (labels_Ids_Drop a0)) (hf0_0.mono hI3) rfl _) ?_
                refine gl_pure 3 [5, 59] (K' := [(5, .pointer none), (59, .bool ((labels_Ids_Drop a0) == 2))]) (by kernel_rfl) ?_
                refine gl_case 59 (b := ((labels_Ids_Drop a0) == 2)) (by kernel_rfl) (fun hc18 => ?_) (fun hc18 => ?_)
                · have hj8 := cond_t hc18 hj8
                  refine gl_pure 2 [59, 60, 61] (K' := [(59, .bool true), (60, .pointer none), (61, .agg #[.slice none 0 0, .int .i64 0])]) (by kernel_rfl) ?_
                  refine gl_box (T' := 63) (x := (.tmp 61)) (v := .agg #[.slice none 0 0, .int .i64 0]) (cs := #[.slice none 0 0, .int .i64 0]) (by kernel_rfl) (by kernel_rfl) (by kernel_rfl) (by kernel_rfl) (fun g19 => ?_)
                  obtain ⟨y20, hx21, hj8⟩ := bind_some hj8
                  refine gl_call (by kernel_rfl) (tocsinlaw04_told_walk (r := y20) (g1 := g19) (T1 := 63) (A1_0 := none) (c1_0 := 0) (C1_0 := []) (a1 := (⟨[], 0⟩ : S62)) (hG.mono hI3) (OwnS.nil _ _ _ _) hx21 _) ?_
                  rintro v I22 L23 hI24 ⟨rfl, rfl⟩
                  refine gl_pure 2 [65] (K' := [(65, .bool y20)]) (by kernel_rfl) ?_
                  refine gl_case 65 (b := y20) (by kernel_rfl) (fun hc25 => ?_) (fun hc25 => ?_)
                  · have hj8 := cond_t hc25 hj8
                    obtain ⟨y26, hx27, hj8⟩ := bind_some hj8
                    refine gl_callQ (by kernel_rfl) (tocsinlaw04_awake_walk (r := y26) (hG.mono (Imm.trans hI3 hI24)) hx27 _) ?_
                    refine gl_pure 2 [4] (K' := [(4, .bool y26)]) (by kernel_rfl) ?_
                    refine gl_reord (D := L) (Reord.skip (Reord.refl _)) ?_
                    refine gl_atE (by kernel_rfl) ?_
                    obtain rfl := some_inj hj8
                    exact ge_mid fun t ht => ⟨hI24, rfl, ht.pick (l := [4]) (by kernel_rfl)⟩
                  · have hj8 := cond_f hc25 hj8
                    refine gl_pure 3 [4] (K' := [(4, .bool false)]) (by kernel_rfl) ?_
                    refine gl_reord (D := L) (Reord.skip (Reord.refl _)) ?_
                    refine gl_atE (by kernel_rfl) ?_
                    obtain rfl := some_inj hj8
                    exact ge_mid fun t ht => ⟨hI24, rfl, ht.pick (l := [4]) (by kernel_rfl)⟩
                · have hj8 := cond_f hc18 hj8
                  refine gl_pure 9 [4] (K' := [(4, .bool false)]) (by kernel_rfl) ?_
                  refine gl_atE (by kernel_rfl) ?_
                  obtain rfl := some_inj hj8
                  exact ge_mid fun t ht => ⟨(Imm.refl _), rfl, ht.pick (l := [4]) (by kernel_rfl)⟩
              · have hj8 := cond_f hc17 hj8
                refine gl_pure 15 [4] (K' := [(4, .bool false)]) (by kernel_rfl) ?_
                refine gl_atE (by kernel_rfl) ?_
                obtain rfl := some_inj hj8
                exact ge_mid fun t ht => ⟨(Imm.refl _), rfl, ht.pick (l := [4]) (by kernel_rfl)⟩
            · have hj8 := cond_f hc16 hj8
              refine gl_pure 19 [4] (K' := [(4, .bool false)]) (by kernel_rfl) ?_
              refine gl_atE (by kernel_rfl) ?_
              obtain rfl := some_inj hj8
              exact ge_mid fun t ht => ⟨(Imm.refl _), rfl, ht.pick (l := [4]) (by kernel_rfl)⟩
          · have hj8 := cond_f hc15 hj8
            refine gl_pure 24 [4] (K' := [(4, .bool false)]) (by kernel_rfl) ?_
            refine gl_atE (by kernel_rfl) ?_
            obtain rfl := some_inj hj8
            exact ge_mid fun t ht => ⟨(Imm.refl _), rfl, ht.pick (l := [4]) (by kernel_rfl)⟩
        · have hj8 := cond_f hc14 hj8
          refine gl_pure 28 [4] (K' := [(4, .bool false)]) (by kernel_rfl) ?_
          refine gl_atE (by kernel_rfl) ?_
          obtain rfl := some_inj hj8
          exact ge_mid fun t ht => ⟨(Imm.refl _), rfl, ht.pick (l := [4]) (by kernel_rfl)⟩
      · have hj8 := cond_f hc13 hj8
        refine gl_pure 32 [4] (K' := [(4, .bool false)]) (by kernel_rfl) ?_
        refine gl_atE (by kernel_rfl) ?_
        obtain rfl := some_inj hj8
        exact ge_mid fun t ht => ⟨(Imm.refl _), rfl, ht.pick (l := [4]) (by kernel_rfl)⟩
    · have hj8 := cond_f hc12 hj8
      refine gl_pure 36 [4] (K' := [(4, .bool false)]) (by kernel_rfl) ?_
      refine gl_atE (by kernel_rfl) ?_
      obtain rfl := some_inj hj8
      exact ge_mid fun t ht => ⟨(Imm.refl _), rfl, ht.pick (l := [4]) (by kernel_rfl)⟩
  · rintro t I11 L' ⟨hI9, rfl, hK10⟩
    refine ge_at hK10 ?_
    refine ge_seq ?_
    refine gk_ret (by kernel_rfl) ?_
    obtain rfl := some_inj hr
    exact ge_result trivial (ResOk.tmp (by kernel_rfl) ResOk.nil) (Imm.trans hI3 hI9) ⟨rfl, rfl⟩
end Go.Proofs.YtnlkfajnaelnnaaGreatDoor

/- From data that are read to what the walks ask: rows. -/
set_option linter.unusedVariables false
namespace Go.GB
open Go Go.RowKit
open Go.Proofs.YtnlkfajnaelnnaaGreatDoor.Rows (uptoBulk uptoBulkAll)

def immOf (W : World) : Imm := ⟨fun b => W.heap[b]?, W.os, W.tape, W.output, 0⟩
theorem holds_immOf (W : World) : Holds (immOf W) [] W := ⟨fun _ _ h => h, by simp, by simp, by simp, rfl, rfl, rfl, Nat.zero_le _⟩
theorem below_of {I' : Imm} {L' : Own} {W W' : World} (h : Holds I' L' W') (hI : immOf W ≤ I') : Below W.heap.size W W' := by
  refine ⟨by rw [h.os, hI.os]; rfl, by rw [h.tape, hI.tape]; rfl, by rw [h.out, hI.out]; rfl, ?_, fun k hk => ?_⟩
  · rcases Nat.eq_zero_or_pos W.heap.size with h0 | h0
    · omega
    · have : W.heap[W.heap.size - 1]? = some (W.heap[W.heap.size - 1]'(by omega)) := Array.getElem?_eq_getElem _
      have := lt_of_heap (h.imm _ _ (hI.h _ _ this))
      omega
  · have : W.heap[k]? = some (W.heap[k]) := Array.getElem?_eq_getElem hk
    rw [this]; exact h.imm _ _ (hI.h _ _ this)
theorem imm_cell {W : World} {a : Addr} {v : Value} (h : W.cell? a = some v) : (immOf W).cell a = some v := h
theorem run_of_cells {W : World} {a : Addr} {n : Nat} {cs : List Value} (h : W.cells? 0 a n = some cs) : RunAt (immOf W) a cs := fun j v hj => by
  unfold World.cells? at h
  rw [if_pos (Nat.zero_le _)] at h
  have hl := mapM_some_length h
  have hj' : j < n := by have := (List.getElem?_eq_some_iff.1 hj).1; simpa [hl] using this
  have := mapM_some_get h j j (by simp [hj'])
  exact imm_cell (this.trans hj)

def Reads {α : Type} (P : Program) (T : TypeId) (d : Kd α) (w : α → Nat → Prop) : Prop := ∀ {H : Type} {enc : TypeId × Value → H} {W : World} {spare : Nat → Bool} {held : Bool} {fuel : Nat} {cs : List Value} {x : DataW H × List MemPlace},
  DataW.trod enc P W 0 spare held fuel T cs = some x → uptoBulk x.1 ≤ 1048576 → ∃ y, d.R (immOf W) y cs ∧ w y (uptoBulk x.1)
theorem reads_int {P : Program} {T : TypeId} {k : IntKind} (h : P.underlying T = some (.int k)) : Reads P T (Kd.int k) (wInt k) := fun ht _ => by
  obtain ⟨n, rfl, _, hw⟩ := DataW.trod_int h ht
  simp only [Lit.wf, Bool.and_eq_true, decide_eq_true_eq] at hw
  exact ⟨n, rfl, hw⟩
theorem reads_str {P : Program} {T : TypeId} (h : P.underlying T = some .string) : Reads P T Kd.str wStr := fun ht _ => by
  obtain ⟨n, rfl, rfl, _⟩ := DataW.trod_string h ht
  exact ⟨n, rfl, by simp [uptoBulk, wStr]⟩
theorem bulk_pos {H : Type} (d : DataW H) : 1 ≤ uptoBulk d := by
  cases d with
  | lit l => cases l <;> simp [uptoBulk]
  | _ => simp [uptoBulk]
theorem bulkAll_ge {H : Type} : ∀ (l : List (DataW H)), l.length ≤ uptoBulkAll l
  | [] => by simp
  | d :: r => by have := bulk_pos d; have := bulkAll_ge r; simp only [uptoBulkAll, List.length_cons]; omega
theorem bulkAll_mem {H : Type} {d : DataW H} : ∀ {l : List (DataW H)}, d ∈ l → uptoBulk d ≤ uptoBulkAll l
  | [], h => by cases h
  | e :: r, h => by
    simp only [uptoBulkAll]
    rcases List.mem_cons.1 h with rfl | h
    · omega
    · have := bulkAll_mem h; omega
theorem choose_list {α : Type} {p : Nat → α → Prop} : ∀ (n : Nat), (∀ i, i < n → ∃ y, p i y) → ∃ xs : List α, xs.length = n ∧ ∀ i x, xs[i]? = some x → p i x
  | 0, _ => ⟨[], rfl, fun i x h => by simp at h⟩
  | m + 1, key => by
    obtain ⟨xs, hxl, hx⟩ := choose_list m (fun i hi => key i (by omega))
    obtain ⟨y, hy⟩ := key m (by omega)
    refine ⟨xs ++ [y], by simp [hxl], fun i x h => ?_⟩
    rcases Nat.lt_or_ge i m with hi | hi
    · rw [List.getElem?_append_left (by omega)] at h; exact hx i x h
    · rw [List.getElem?_append_right (by omega), hxl] at h
      have hi0 : i - m = 0 := by have := (List.getElem?_eq_some_iff.1 h).1; simpa using this
      rw [hi0] at h
      simp only [List.getElem?_cons_zero, Option.some.injEq] at h
      subst h
      rw [show i = m from by omega]
      exact hy
theorem wSl_of {α H : Type} {w : α → Nat → Prop} : ∀ (xs : List α) (es : List (DataW H)), xs.length = es.length → (∀ (i : Nat) (x : α) (e : DataW H), xs[i]? = some x → es[i]? = some e → w x (uptoBulk e)) → wSl w xs (uptoBulkAll es)
  | [], _, _, _ => trivial
  | x :: r, [], h, _ => by simp at h
  | x :: r, e :: es, h, hw => ⟨uptoBulk e, uptoBulkAll es, hw 0 x e rfl rfl, wSl_of r es (by simpa using h) (fun i x' e' h1 h2 => hw (i + 1) x' e' (by simpa using h1) (by simpa using h2)), by simp [uptoBulkAll], bulk_pos e⟩
theorem reads_slice {α : Type} {P : Program} {T e : TypeId} {d : Kd α} {w : α → Nat → Prop} (hu : P.underlying T = some (.slice e)) (hn : P.cellsOf e = d.n) (hr : Reads P e d w) : Reads P T (Kd.sl d) (wSl w) := by
  intro H enc W spare held fuel cs x ht hb
  rcases DataW.trod_slice hu ht with ⟨rfl, rfl⟩ | ⟨a, len, cap, elems, rest, n, rfl, rfl, rfl, _, hlc, hcm, hel, hat, _, _⟩
  · exact ⟨[], ⟨none, 0, rfl, RepS.nil _ _⟩, trivial⟩
  · simp only [uptoBulk] at hb
    have hlen := bulkAll_ge (elems.map (·.1))
    rw [List.length_map, hel] at hlen
    have key : ∀ i, i < len → ∃ y, (∃ cs', d.R (immOf W) y cs' ∧ RunAt (immOf W) (a.add (i * d.n)) cs') ∧ ∀ e, (elems.map (·.1))[i]? = some e → w y (uptoBulk e) := fun i hi => by
      have h1 := hat i hi
      have hie : i < elems.length := by omega
      rw [List.getElem?_eq_getElem hie] at h1
      simp only [Option.bind_eq_some_iff] at h1
      obtain ⟨cs', h2, h3⟩ := h1
      obtain ⟨y, hy, hw⟩ := hr h3 (by
        have := bulkAll_mem (l := elems.map (·.1)) (List.mem_map_of_mem (List.getElem_mem hie))
        omega)
      refine ⟨y, ⟨cs', hy, ?_⟩, fun e he => ?_⟩
      · rw [← hn]
        exact run_of_cells h2
      · rw [List.getElem?_map, List.getElem?_eq_getElem hie] at he
        cases he; exact hw
    have hex := choose_list (p := fun i y => (∃ cs', d.R (immOf W) y cs' ∧ RunAt (immOf W) (a.add (i * d.n)) cs') ∧ ∀ e, (elems.map (·.1))[i]? = some e → w y (uptoBulk e)) len key
    obtain ⟨xs, hxl, hx⟩ := hex
    refine ⟨xs, ⟨some a, cap, by rw [hxl], by omega, by unfold maxLen'; omega, fun i x h => ?_⟩, ?_⟩
    · obtain ⟨⟨cs', h1, h2⟩, _⟩ := hx i x h
      exact ⟨a, cs', rfl, h1, h2⟩
    · exact (wSl_of xs (elems.map (·.1)) (by simp [hxl, hel]) (fun i x e h1 h2 => (hx i x h1).2 e h2)).le (by simp only [uptoBulk]; omega)
theorem pairR {α β : Type} {a : Kd α} {b : Kd β} {I : Imm} {x : α} {y : β} {cs : List Value} {o n m : Nat} (h0 : a.R I x ((cs.drop o).take n)) (h1 : b.R I y (cs.drop m)) (hm : m = o + n) : (Kd.pair a b).R I (x, y) (cs.drop o) := by
  subst hm
  exact ⟨(cs.drop o).take n, (cs.drop o).drop n, (List.take_append_drop _ _).symm, h0, by rw [List.drop_drop]; exact h1⟩
theorem lastR {α : Type} {a : Kd α} {I : Imm} {x : α} {cs : List Value} {o n : Nat} (h : a.R I x ((cs.drop o).take n)) (hl : cs.length = o + n) : a.R I x (cs.drop o) := by
  rwa [List.take_of_length_le (by rw [List.length_drop]; omega)] at h
def fieldD (P : Program) (T : TypeId) (i : Nat) : Field := (P.fieldsOf T).getD i default
/-- A field of a struct that is read. -/
theorem field_read {α : Type} {H : Type} {enc : TypeId × Value → H} {P : Program} {W : World} {spare : Nat → Bool} {held : Bool} {m : Nat} {T t : TypeId} {d : Kd α} {w : α → Nat → Prop} {cs : List Value} {xs : List (DataW H × List MemPlace)} {x : DataW H × List MemPlace} {i o n : Nat}
    (hf : ∀ (i : Nat) (f : Field), (P.fieldsOf T)[i]? = some f → DataW.trod enc P W 0 spare held m f.type ((cs.drop f.offset).take (P.cellsOf f.type)) = xs[i]?)
    (hx : xs[i]? = some x) (h1 : (P.fieldsOf T)[i]? = some (fieldD P T i)) (h2 : (fieldD P T i).type = t) (h3 : (fieldD P T i).offset = o) (h4 : P.cellsOf t = n) (hr : Reads P t d w) (hb : uptoBulk x.1 ≤ 1048576) : ∃ y, d.R (immOf W) y ((cs.drop o).take n) ∧ w y (uptoBulk x.1) := by
  have := hf i _ h1
  rw [hx, h2, h3, h4] at this
  exact hr this hb
theorem calls_of {P : Program} {f : FuncId} {args : Array Value} {W : World} {b : Value} (h : CallsTo P f args (immOf W) [] (fun v I' L' => v = b ∧ [] = L')) : Calls P f args W fun e W' => e = .returned b ∧ Below W.heap.size W W' :=
  (h W (holds_immOf W)).mono fun e W' ⟨v, I', L', he, hI, hh, hv, _⟩ => ⟨by rw [he, hv], below_of hh hI⟩
end Go.GB

/- Functions that can be run out: twins with a bound on rounds. -/
set_option linter.unusedVariables false
namespace Go.GB
def loopF {σ ρ : Type} : Nat → (σ → Option (σ ⊕ ρ)) → σ → Option ρ
  | 0, _, _ => none
  | n + 1, body, s => match body s with
    | none => none
    | some (.inr r) => some r
    | some (.inl s') => loopF n body s'
def OLe {α : Type} (x y : Option α) : Prop := ∀ r, x = some r → y = some r
theorem OLe.refl {α : Type} (x : Option α) : OLe x x := fun _ h => h
theorem OLe.bind {α β : Type} {x y : Option α} {f g : α → Option β} (h : OLe x y) (hf : ∀ a, OLe (f a) (g a)) : OLe (Option.bind x f) (Option.bind y g) := fun r hr => by
  obtain ⟨a, ha, hb⟩ := bind_some hr
  rw [h a ha]; exact hf a r hb
theorem OLe.cond {α : Type} {b : Bool} {x y x' y' : Option α} (h : OLe x x') (h' : OLe y y') : OLe (bif b then x else y) (bif b then x' else y') := by
  cases b
  · exact h'
  · exact h
theorem loopF_R {σ ρ : Type} {body body' : σ → Option (σ ⊕ ρ)} (h : ∀ s, OLe (body s) (body' s)) : ∀ (n : Nat) (s : σ) (r : ρ), loopF n body s = some r → LoopR body' s r
  | 0, _, _, hr => by cases hr
  | n + 1, s, r, hr => by
    unfold loopF at hr
    cases hb : body s with
    | none => rw [hb] at hr; cases hr
    | some o =>
      rw [hb] at hr
      cases o with
      | inl s' => exact .step (h s _ hb) (loopF_R h n s' r hr)
      | inr r' => cases hr; exact .done (h s _ hb)
theorem OLe.loop {σ ρ : Type} {body body' : σ → Option (σ ⊕ ρ)} {n : Nat} {s : σ} (h : ∀ s, OLe (body s) (body' s)) : OLe (loopF n body s) (loopO body' s) := fun r hr => loopO_of (loopF_R h n s r hr)

/-! ### Loops that go up -/
end Go.GB

set_option linter.unusedVariables false
set_option linter.unusedSimpArgs false
set_option maxRecDepth 100000
namespace Go.Proofs.YtnlkfajnaelnnaaGreatDoor
open Go.GB
noncomputable def labels_reader_blanks_l16_c (a0 : S89) : Int → Option ((Int) ⊕ (Int)) := fun s7 =>
  Option.bind (bif (decide (s7 < (a0.f0.size : Int))) then
    (Option.bind (bx a0.f0 s7) fun (c24 : Int) =>
      bif (c24 == 32) then
      (some true)
      else
      (Option.bind (bx a0.f0 s7) fun (c27 : Int) =>
        some (c27 == 9)))
    else
    (some false)) fun (j18 : Bool) =>
  bif j18 then
  (some (Sum.inl (IntKind.wrap .i64 (s7 + 1))))
  else
  (some (Sum.inr s7))
theorem labels_reader_blanks_l16_ev (a0 : S89) (s7 : Int) : OLe (labels_reader_blanks_l16_c a0 s7) (labels_reader_blanks_l16 a0 s7) := by
  unfold labels_reader_blanks_l16_c labels_reader_blanks_l16
  exact (OLe.bind (OLe.cond (OLe.bind (OLe.refl _) (fun _ => (OLe.cond (OLe.refl _) (OLe.bind (OLe.refl _) (fun _ => (OLe.refl _)))))) (OLe.refl _)) (fun _ => (OLe.cond (OLe.refl _) (OLe.refl _))))
noncomputable def labels_reader_blanks_c (a0 : S89) : Option S89 :=
  Option.bind (loopF 1000000 (labels_reader_blanks_l16_c a0) a0.f1) fun (r5 : Int) =>
  some (⟨a0.f0, r5, a0.f2⟩ : S89)
theorem labels_reader_blanks_ev (a0 : S89) : OLe (labels_reader_blanks_c a0) (labels_reader_blanks a0) := by
  unfold labels_reader_blanks_c labels_reader_blanks
  exact (OLe.bind (OLe.loop (fun _ => labels_reader_blanks_l16_ev _ _)) (fun _ => (OLe.refl _)))
noncomputable def labels_named_l33_c (a2 : Bool) (l11 : List Int) : Int → Option ((Int) ⊕ ((Unit) ⊕ (Bool))) := fun s23 =>
  bif (decide (s23 < (l11.length : Int))) then
  (Option.bind (ix l11 s23) fun (x36 : Int) =>
    bif (((!(labels_letter x36)) && (!(labels_digit x36))) && (!(a2 && (x36 == 58)))) then
    (some (Sum.inr (Sum.inr false)))
    else
    (some (Sum.inl (IntKind.wrap .i64 (s23 + 1)))))
  else
  (some (Sum.inr (Sum.inl ())))
theorem labels_named_l33_ev (a2 : Bool) (l11 : List Int) (s23 : Int) : OLe (labels_named_l33_c a2 l11 s23) (labels_named_l33 a2 l11 s23) := by
  unfold labels_named_l33_c labels_named_l33
  exact (OLe.cond (OLe.bind (OLe.refl _) (fun _ => (OLe.cond (OLe.refl _) (OLe.refl _)))) (OLe.refl _))
noncomputable def labels_named_c (a0 : ByteArray) (a1 : Int) (a2 : Bool) : Option Bool :=
  Option.bind (bif (a0.toList == (⟨#[]⟩ : ByteArray).toList) then
    (some true)
    else
    (bif (decide ((a0.size : Int) > a1)) then
      (some true)
      else
      (Option.bind (bx a0 0) fun (c8 : Int) =>
        some (labels_digit c8)))) fun (j1 : Bool) =>
  bif j1 then
  (some false)
  else
  (Option.bind (sb a0) fun (l11 : List Int) =>
    Option.bind (loopF 1000000 (labels_named_l33_c a2 l11) 0) fun (r21 : (Unit) ⊕ (Bool)) =>
    match r21 with
    | Sum.inl r29 => some true
    | Sum.inr v54 => some v54)
theorem labels_named_ev (a0 : ByteArray) (a1 : Int) (a2 : Bool) : OLe (labels_named_c a0 a1 a2) (labels_named a0 a1 a2) := by
  unfold labels_named_c labels_named
  exact (OLe.bind (OLe.cond (OLe.refl _) (OLe.cond (OLe.refl _) (OLe.bind (OLe.refl _) (fun _ => (OLe.refl _))))) (fun _ => (OLe.cond (OLe.refl _) (OLe.bind (OLe.refl _) (fun _ => (OLe.bind (OLe.loop (fun _ => labels_named_l33_ev _ _ _)) (fun j => by cases j with | inl a => exact (OLe.refl _) | inr b => exact (OLe.refl _))))))))
noncomputable def labels_Metric_c (a0 : ByteArray) : Option Bool :=
  Option.bind (labels_named_c a0 256 true) fun (y1 : Bool) =>
  some y1
theorem labels_Metric_ev (a0 : ByteArray) : OLe (labels_Metric_c a0) (labels_Metric a0) := by
  unfold labels_Metric_c labels_Metric
  exact (OLe.bind (labels_named_ev _ _ _) (fun _ => (OLe.refl _)))
noncomputable def labels_Name_c (a0 : ByteArray) : Option Bool :=
  Option.bind (labels_named_c a0 64 false) fun (y1 : Bool) =>
  some y1
theorem labels_Name_ev (a0 : ByteArray) : OLe (labels_Name_c a0) (labels_Name a0) := by
  unfold labels_Name_c labels_Name
  exact (OLe.bind (labels_named_ev _ _ _) (fun _ => (OLe.refl _)))
noncomputable def labels_reader_fail_c (a0 : S89) (a1 : Int) : Option S89 :=
  Option.bind (bif (decide (a0.f2 < 0)) then
    (some a1)
    else
    (some a0.f2)) fun (j1 : Int) =>
  some (⟨a0.f0, a0.f1, j1⟩ : S89)
theorem labels_reader_fail_ev (a0 : S89) (a1 : Int) : OLe (labels_reader_fail_c a0 a1) (labels_reader_fail a0 a1) := by
  unfold labels_reader_fail_c labels_reader_fail
  exact (OLe.bind (OLe.cond (OLe.refl _) (OLe.refl _)) (fun _ => (OLe.refl _)))
noncomputable def labels_reader_name_l22_c (a1 : Bool) (y2 : S89) : Int → Option ((Int) ⊕ (Int)) := fun s13 =>
  Option.bind (bif (decide (s13 < (y2.f0.size : Int))) then
    (Option.bind (bx y2.f0 s13) fun (c30 : Int) =>
      bif (labels_letter c30) then
      (some true)
      else
      (Option.bind (bx y2.f0 s13) fun (c33 : Int) =>
        bif (labels_digit c33) then
        (some true)
        else
        (bif a1 then
          (Option.bind (bx y2.f0 s13) fun (c37 : Int) =>
            some (c37 == 58))
          else
          (some false))))
    else
    (some false)) fun (j24 : Bool) =>
  bif j24 then
  (some (Sum.inl (IntKind.wrap .i64 (s13 + 1))))
  else
  (some (Sum.inr s13))
theorem labels_reader_name_l22_ev (a1 : Bool) (y2 : S89) (s13 : Int) : OLe (labels_reader_name_l22_c a1 y2 s13) (labels_reader_name_l22 a1 y2 s13) := by
  unfold labels_reader_name_l22_c labels_reader_name_l22
  exact (OLe.bind (OLe.cond (OLe.bind (OLe.refl _) (fun _ => (OLe.cond (OLe.refl _) (OLe.bind (OLe.refl _) (fun _ => (OLe.cond (OLe.refl _) (OLe.cond (OLe.bind (OLe.refl _) (fun _ => (OLe.refl _))) (OLe.refl _)))))))) (OLe.refl _)) (fun _ => (OLe.cond (OLe.refl _) (OLe.refl _))))
noncomputable def labels_reader_name_c (a0 : S89) (a1 : Bool) : Option (ByteArray × S89) :=
  bif (decide (a0.f2 ≥ 0)) then
  (some ((⟨#[]⟩ : ByteArray), a0))
  else
  (Option.bind (labels_reader_blanks_c a0) fun (y2 : S89) =>
    Option.bind (loopF 1000000 (labels_reader_name_l22_c a1 y2) y2.f1) fun (r11 : Int) =>
    Option.bind (sx y2.f0 y2.f1 r11) fun (s41 : ByteArray) =>
    Option.bind (bif a1 then
      (Option.bind (labels_Metric_c s41) fun (y48 : Bool) =>
        bif (!y48) then
        (some true)
        else
        (bif (!a1) then
          (Option.bind (labels_Name_c s41) fun (y52 : Bool) =>
            some (!y52))
          else
          (some false)))
      else
      (bif (!a1) then
        (Option.bind (labels_Name_c s41) fun (y55 : Bool) =>
          some (!y55))
        else
        (some false))) fun (j42 : Bool) =>
    Option.bind (bif j42 then
      (Option.bind (bif (s41.toList == (⟨#[]⟩ : ByteArray).toList) then
          (Option.bind (labels_reader_fail_c (⟨y2.f0, r11, y2.f2⟩ : S89) r11) fun (y69 : S89) =>
            some (y69.f0, y69.f1, y69.f2))
          else
          (some (y2.f0, r11, y2.f2))) fun (j63 : ByteArray × Int × Int) =>
        Option.bind (labels_reader_fail_c (⟨j63.1, j63.2.1, j63.2.2⟩ : S89) y2.f1) fun (y74 : S89) =>
        some (y74.f0, y74.f1, y74.f2))
      else
      (some (y2.f0, r11, y2.f2))) fun (j57 : ByteArray × Int × Int) =>
    some (s41, (⟨j57.1, j57.2.1, j57.2.2⟩ : S89)))
theorem labels_reader_name_ev (a0 : S89) (a1 : Bool) : OLe (labels_reader_name_c a0 a1) (labels_reader_name a0 a1) := by
  unfold labels_reader_name_c labels_reader_name
  exact (OLe.cond (OLe.refl _) (OLe.bind (labels_reader_blanks_ev _) (fun _ => (OLe.bind (OLe.loop (fun _ => labels_reader_name_l22_ev _ _ _)) (fun _ => (OLe.bind (OLe.refl _) (fun _ => (OLe.bind (OLe.cond (OLe.bind (labels_Metric_ev _) (fun _ => (OLe.cond (OLe.refl _) (OLe.cond (OLe.bind (labels_Name_ev _) (fun _ => (OLe.refl _))) (OLe.refl _))))) (OLe.cond (OLe.bind (labels_Name_ev _) (fun _ => (OLe.refl _))) (OLe.refl _))) (fun _ => (OLe.bind (OLe.cond (OLe.bind (OLe.cond (OLe.bind (labels_reader_fail_ev _ _) (fun _ => (OLe.refl _))) (OLe.refl _)) (fun _ => (OLe.bind (labels_reader_fail_ev _ _) (fun _ => (OLe.refl _))))) (OLe.refl _)) (fun _ => (OLe.refl _))))))))))))
noncomputable def labels_reader_next_c (a0 : S89) (a1 : Int) : Option (Bool × S89) :=
  bif (decide (a0.f2 ≥ 0)) then
  (some (false, a0))
  else
  (Option.bind (labels_reader_blanks_c a0) fun (y2 : S89) =>
    Option.bind (bif (decide (y2.f1 ≥ (y2.f0.size : Int))) then
      (some true)
      else
      (Option.bind (bx y2.f0 y2.f1) fun (c13 : Int) =>
        some (c13 != a1))) fun (j7 : Bool) =>
    bif j7 then
    (some (false, y2))
    else
    (some (true, (⟨y2.f0, (IntKind.wrap .i64 (y2.f1 + 1)), y2.f2⟩ : S89))))
theorem labels_reader_next_ev (a0 : S89) (a1 : Int) : OLe (labels_reader_next_c a0 a1) (labels_reader_next a0 a1) := by
  unfold labels_reader_next_c labels_reader_next
  exact (OLe.cond (OLe.refl _) (OLe.bind (labels_reader_blanks_ev _) (fun _ => (OLe.bind (OLe.cond (OLe.refl _) (OLe.bind (OLe.refl _) (fun _ => (OLe.refl _)))) (fun _ => (OLe.cond (OLe.refl _) (OLe.refl _)))))))
noncomputable def labels_reader_want_c (a0 : S89) (a1 : Int) : Option S89 :=
  Option.bind (labels_reader_next_c a0 a1) fun (y1 : Bool × S89) =>
  Option.bind (bif (!y1.1) then
    (Option.bind (labels_reader_fail_c y1.2 y1.2.f1) fun (y12 : S89) =>
      some (y12.f0, y12.f1, y12.f2))
    else
    (some (y1.2.f0, y1.2.f1, y1.2.f2))) fun (j6 : ByteArray × Int × Int) =>
  some (⟨j6.1, j6.2.1, j6.2.2⟩ : S89)
theorem labels_reader_want_ev (a0 : S89) (a1 : Int) : OLe (labels_reader_want_c a0 a1) (labels_reader_want a0 a1) := by
  unfold labels_reader_want_c labels_reader_want
  exact (OLe.bind (labels_reader_next_ev _ _) (fun _ => (OLe.bind (OLe.cond (OLe.bind (labels_reader_fail_ev _ _) (fun _ => (OLe.refl _))) (OLe.refl _)) (fun _ => (OLe.refl _)))))
noncomputable def strings_Builder_WriteByte_c (a0 : S127) (a1 : Int) : Option (Unit × S127) :=
  Option.bind (app ((strings_Builder_copyCheck (⟨a0.f1⟩ : S127)).f1) [a1]) fun (zs14 : List Int) =>
  some ((), (⟨zs14⟩ : S127))
theorem strings_Builder_WriteByte_ev (a0 : S127) (a1 : Int) : OLe (strings_Builder_WriteByte_c a0 a1) (strings_Builder_WriteByte a0 a1) := by
  unfold strings_Builder_WriteByte_c strings_Builder_WriteByte
  exact (OLe.bind (OLe.refl _) (fun _ => (OLe.refl _)))
noncomputable def labels_reader_value_l35_c : (ByteArray × Int × Int × Unit × (List Int)) → Option ((ByteArray × Int × Int × Unit × (List Int)) ⊕ ((ByteArray × Int × Int) ⊕ (ByteArray × S89))) := fun s19 =>
  bif ((decide (s19.2.2.1 < 0)) && (decide (s19.2.1 < (s19.1.size : Int)))) then
  (Option.bind (bx s19.1 s19.2.1) fun (c44 : Int) =>
    bif (c44 == 34) then
    (Option.bind (strings_Builder_String (⟨s19.2.2.2.2⟩ : S127)) fun (y47 : ByteArray) =>
      some (Sum.inr (Sum.inr (y47, (⟨s19.1, (IntKind.wrap .i64 (s19.2.1 + 1)), s19.2.2.1⟩ : S89)))))
    else
    (Option.bind (bif (c44 != 92) then
        (Option.bind (strings_Builder_WriteByte_c (⟨s19.2.2.2.2⟩ : S127) c44) fun (y64 : Unit × S127) =>
          some ((), y64.2.f1, s19.1, (IntKind.wrap .i64 (s19.2.1 + 1)), s19.2.2.1))
        else
        (Option.bind (bif (decide ((IntKind.wrap .i64 (s19.2.1 + 1)) ≥ (s19.1.size : Int))) then
            (Option.bind (labels_reader_fail_c (⟨s19.1, (IntKind.wrap .i64 (s19.2.1 + 1)), s19.2.2.1⟩ : S89) (IntKind.wrap .i64 (s19.2.1 + 1))) fun (y87 : S89) =>
              some ((), s19.2.2.2.2, y87.f0, y87.f1, y87.f2))
            else
            (Option.bind (bx s19.1 (IntKind.wrap .i64 (s19.2.1 + 1))) fun (c92 : Int) =>
              Option.bind (bif (c92 == 110) then
                (Option.bind (strings_Builder_WriteByte_c (⟨s19.2.2.2.2⟩ : S127) 10) fun (y106 : Unit × S127) =>
                  some ((), y106.2.f1, s19.1, (IntKind.wrap .i64 (s19.2.1 + 1)), s19.2.2.1))
                else
                (Option.bind (bif ((c92 == 92) || (c92 == 34)) then
                    (Option.bind (strings_Builder_WriteByte_c (⟨s19.2.2.2.2⟩ : S127) c92) fun (y133 : Unit × S127) =>
                      some ((), y133.2.f1, s19.1, (IntKind.wrap .i64 (s19.2.1 + 1)), s19.2.2.1))
                    else
                    (Option.bind (labels_reader_fail_c (⟨s19.1, (IntKind.wrap .i64 (s19.2.1 + 1)), s19.2.2.1⟩ : S89) (IntKind.wrap .i64 ((IntKind.wrap .i64 (s19.2.1 + 1)) - 1))) fun (y144 : S89) =>
                      some ((), s19.2.2.2.2, y144.f0, y144.f1, y144.f2))) fun (j121 : Unit × (List Int) × ByteArray × Int × Int) =>
                  some ((), j121.2.1, j121.2.2.1, j121.2.2.2.1, j121.2.2.2.2))) fun (j94 : Unit × (List Int) × ByteArray × Int × Int) =>
              some ((), j94.2.1, j94.2.2.1, (IntKind.wrap .i64 (j94.2.2.2.1 + 1)), j94.2.2.2.2))) fun (j75 : Unit × (List Int) × ByteArray × Int × Int) =>
          some ((), j75.2.1, j75.2.2.1, j75.2.2.2.1, j75.2.2.2.2))) fun (j52 : Unit × (List Int) × ByteArray × Int × Int) =>
      some (Sum.inl (j52.2.2.1, j52.2.2.2.1, j52.2.2.2.2, (), j52.2.1))))
  else
  (some (Sum.inr (Sum.inl (s19.1, s19.2.1, s19.2.2.1))))
theorem labels_reader_value_l35_ev  (s19 : ByteArray × Int × Int × Unit × (List Int)) : OLe (labels_reader_value_l35_c  s19) (labels_reader_value_l35  s19) := by
  unfold labels_reader_value_l35_c labels_reader_value_l35
  exact (OLe.cond (OLe.bind (OLe.refl _) (fun _ => (OLe.cond (OLe.bind (OLe.refl _) (fun _ => (OLe.refl _))) (OLe.bind (OLe.cond (OLe.bind (strings_Builder_WriteByte_ev _ _) (fun _ => (OLe.refl _))) (OLe.bind (OLe.cond (OLe.bind (labels_reader_fail_ev _ _) (fun _ => (OLe.refl _))) (OLe.bind (OLe.refl _) (fun _ => (OLe.bind (OLe.cond (OLe.bind (strings_Builder_WriteByte_ev _ _) (fun _ => (OLe.refl _))) (OLe.bind (OLe.cond (OLe.bind (strings_Builder_WriteByte_ev _ _) (fun _ => (OLe.refl _))) (OLe.bind (labels_reader_fail_ev _ _) (fun _ => (OLe.refl _)))) (fun _ => (OLe.refl _)))) (fun _ => (OLe.refl _)))))) (fun _ => (OLe.refl _)))) (fun _ => (OLe.refl _)))))) (OLe.refl _))
noncomputable def labels_reader_value_c (a0 : S89) : Option (ByteArray × S89) :=
  Option.bind (labels_reader_want_c a0 34) fun (y1 : S89) =>
  Option.bind (loopF 1000000 labels_reader_value_l35_c (y1.f0, y1.f1, y1.f2, (), [])) fun (r17 : (ByteArray × Int × Int) ⊕ (ByteArray × S89)) =>
  match r17 with
  | Sum.inl r31 => Option.bind (labels_reader_fail_c (⟨r31.1, r31.2.1, r31.2.2⟩ : S89) (r31.1.size : Int)) fun (y149 : S89) =>
    some ((⟨#[]⟩ : ByteArray), y149)
  | Sum.inr v154 => some v154
theorem labels_reader_value_ev (a0 : S89) : OLe (labels_reader_value_c a0) (labels_reader_value a0) := by
  unfold labels_reader_value_c labels_reader_value
  exact (OLe.bind (labels_reader_want_ev _ _) (fun _ => (OLe.bind (OLe.loop (fun _ => labels_reader_value_l35_ev  _)) (fun j => by cases j with | inl a => exact (OLe.bind (labels_reader_fail_ev _ _) (fun _ => (OLe.refl _))) | inr b => exact (OLe.refl _)))))
noncomputable def labels_reader_braces_l29_c : (ByteArray × Int × Int × (List S49)) → Option ((ByteArray × Int × Int × (List S49)) ⊕ (((List S49) × ByteArray × Int × Int) ⊕ ((List S49) × S89))) := fun s11 =>
  Option.bind (labels_reader_next_c (⟨s11.1, s11.2.1, s11.2.2.1⟩ : S89) 125) fun (y31 : Bool × S89) =>
  bif (!y31.1) then
  (Option.bind (labels_reader_name_c y31.2 false) fun (y37 : ByteArray × S89) =>
    Option.bind (labels_reader_want_c y37.2 61) fun (y43 : S89) =>
    Option.bind (labels_reader_value_c y43) fun (y48 : ByteArray × S89) =>
    bif (decide (y48.2.f2 ≥ 0)) then
    (some (Sum.inr (Sum.inr ([], y48.2))))
    else
    (Option.bind (app s11.2.2.2 [(⟨y37.1, y48.1⟩ : S49)]) fun (zs58 : List S49) =>
      Option.bind (labels_reader_next_c y48.2 44) fun (y64 : Bool × S89) =>
      bif (!y64.1) then
      (Option.bind (labels_reader_want_c y64.2 125) fun (y70 : S89) =>
        some (Sum.inr (Sum.inr (zs58, y70))))
      else
      (some (Sum.inl (y64.2.f0, y64.2.f1, y64.2.f2, zs58)))))
  else
  (some (Sum.inr (Sum.inl (s11.2.2.2, y31.2.f0, y31.2.f1, y31.2.f2))))
theorem labels_reader_braces_l29_ev  (s11 : ByteArray × Int × Int × (List S49)) : OLe (labels_reader_braces_l29_c  s11) (labels_reader_braces_l29  s11) := by
  unfold labels_reader_braces_l29_c labels_reader_braces_l29
  exact (OLe.bind (labels_reader_next_ev _ _) (fun _ => (OLe.cond (OLe.bind (labels_reader_name_ev _ _) (fun _ => (OLe.bind (labels_reader_want_ev _ _) (fun _ => (OLe.bind (labels_reader_value_ev _) (fun _ => (OLe.cond (OLe.refl _) (OLe.bind (OLe.refl _) (fun _ => (OLe.bind (labels_reader_next_ev _ _) (fun _ => (OLe.cond (OLe.bind (labels_reader_want_ev _ _) (fun _ => (OLe.refl _))) (OLe.refl _))))))))))))) (OLe.refl _))))
noncomputable def labels_reader_braces_c (a0 : S89) : Option ((List S49) × S89) :=
  Option.bind (loopF 1000000 labels_reader_braces_l29_c (a0.f0, a0.f1, a0.f2, [])) fun (r9 : ((List S49) × ByteArray × Int × Int) ⊕ ((List S49) × S89)) =>
  match r9 with
  | Sum.inl r21 => some (r21.1, (⟨r21.2.1, r21.2.2.1, r21.2.2.2⟩ : S89))
  | Sum.inr v75 => some v75
theorem labels_reader_braces_ev (a0 : S89) : OLe (labels_reader_braces_c a0) (labels_reader_braces a0) := by
  unfold labels_reader_braces_c labels_reader_braces
  exact (OLe.bind (OLe.loop (fun _ => labels_reader_braces_l29_ev  _)) (fun j => by cases j with | inl a => exact (OLe.refl _) | inr b => exact (OLe.refl _)))
noncomputable def labels_own_c (a0 : List S49) : Option (List S49) :=
  Option.bind (mkrow ((⟨(⟨#[]⟩ : ByteArray), (⟨#[]⟩ : ByteArray)⟩ : S49) : S49) (a0.length : Int) (a0.length : Int)) fun (xs1 : List S49) =>
  some (lcopy xs1 a0)
theorem labels_own_ev (a0 : List S49) : OLe (labels_own_c a0) (labels_own a0) := by
  unfold labels_own_c labels_own
  exact (OLe.bind (OLe.refl _) (fun _ => (OLe.refl _)))
noncomputable def slices_insertionSortCmpFunc_l52_c (a1 : Int) : ((List S49) × Int) → Option (((List S49) × Int) ⊕ ((List S49))) := fun s37 =>
  Option.bind (bif (decide (s37.2 > a1)) then
    (Option.bind (ix s37.1 s37.2) fun (x60 : S49) =>
      Option.bind (ix s37.1 (IntKind.wrap .i64 (s37.2 - 1))) fun (x69 : S49) =>
      some (decide ((labels_sorted_1 x60 x69) < 0)))
    else
    (some false)) fun (j54 : Bool) =>
  bif j54 then
  (Option.bind (ix s37.1 (IntKind.wrap .i64 (s37.2 - 1))) fun (x79 : S49) =>
    Option.bind (ix s37.1 s37.2) fun (x88 : S49) =>
    Option.bind (ix s37.1 s37.2) fun (x97 : S49) =>
    Option.bind (ix (lset s37.1 s37.2 x79) (IntKind.wrap .i64 (s37.2 - 1))) fun (x109 : S49) =>
    some (Sum.inl ((lset (lset s37.1 s37.2 x79) (IntKind.wrap .i64 (s37.2 - 1)) x88), (IntKind.wrap .i64 (s37.2 - 1)))))
  else
  (some (Sum.inr s37.1))
theorem slices_insertionSortCmpFunc_l52_ev (a1 : Int) (s37 : (List S49) × Int) : OLe (slices_insertionSortCmpFunc_l52_c a1 s37) (slices_insertionSortCmpFunc_l52 a1 s37) := by
  unfold slices_insertionSortCmpFunc_l52_c slices_insertionSortCmpFunc_l52
  exact (OLe.bind (OLe.cond (OLe.bind (OLe.refl _) (fun _ => (OLe.bind (OLe.refl _) (fun _ => (OLe.refl _))))) (OLe.refl _)) (fun _ => (OLe.cond (OLe.bind (OLe.refl _) (fun _ => (OLe.bind (OLe.refl _) (fun _ => (OLe.bind (OLe.refl _) (fun _ => (OLe.bind (OLe.refl _) (fun _ => (OLe.refl _))))))))) (OLe.refl _))))
noncomputable def slices_insertionSortCmpFunc_l25_c (a1 : Int) (a2 : Int) : ((List S49) × Int) → Option (((List S49) × Int) ⊕ ((List S49))) := fun s10 =>
  bif (decide (s10.2 < a2)) then
  (Option.bind (loopF 1000000 (slices_insertionSortCmpFunc_l52_c a1) (s10.1, s10.2)) fun (r35 : (List S49)) =>
    some (Sum.inl (r35, (IntKind.wrap .i64 (s10.2 + 1)))))
  else
  (some (Sum.inr s10.1))
theorem slices_insertionSortCmpFunc_l25_ev (a1 : Int) (a2 : Int) (s10 : (List S49) × Int) : OLe (slices_insertionSortCmpFunc_l25_c a1 a2 s10) (slices_insertionSortCmpFunc_l25 a1 a2 s10) := by
  unfold slices_insertionSortCmpFunc_l25_c slices_insertionSortCmpFunc_l25
  exact (OLe.cond (OLe.bind (OLe.loop (fun _ => slices_insertionSortCmpFunc_l52_ev _ _)) (fun _ => (OLe.refl _))) (OLe.refl _))
noncomputable def slices_insertionSortCmpFunc_c (a0 : List S49) (a1 : Int) (a2 : Int) : Option (List S49) :=
  Option.bind (loopF 1000000 (slices_insertionSortCmpFunc_l25_c a1 a2) (a0, (IntKind.wrap .i64 (a1 + 1)))) fun (r8 : (List S49)) =>
  some r8
theorem slices_insertionSortCmpFunc_ev (a0 : List S49) (a1 : Int) (a2 : Int) : OLe (slices_insertionSortCmpFunc_c a0 a1 a2) (slices_insertionSortCmpFunc a0 a1 a2) := by
  unfold slices_insertionSortCmpFunc_c slices_insertionSortCmpFunc
  exact (OLe.bind (OLe.loop (fun _ => slices_insertionSortCmpFunc_l25_ev _ _ _)) (fun _ => (OLe.refl _)))
noncomputable def slices_symMergeCmpFunc_c (a0 : List S49) (a1 : Int) (a2 : Int) (a3 : Int) : Option (List S49) := none
theorem slices_symMergeCmpFunc_ev (a0 : List S49) (a1 : Int) (a2 : Int) (a3 : Int) : OLe (slices_symMergeCmpFunc_c a0 a1 a2 a3) (slices_symMergeCmpFunc a0 a1 a2 a3) := by
  intro r h; cases h
noncomputable def slices_stableCmpFunc_l25_c (a1 : Int) : ((List S49) × Int × Int) → Option (((List S49) × Int × Int) ⊕ ((List S49) × Int)) := fun s10 =>
  bif (decide (s10.2.2 ≤ a1)) then
  (Option.bind (slices_insertionSortCmpFunc_c s10.1 s10.2.1 s10.2.2) fun (y28 : (List S49)) =>
    some (Sum.inl (y28, s10.2.2, (IntKind.wrap .i64 (s10.2.2 + 20)))))
  else
  (some (Sum.inr (s10.1, s10.2.1)))
theorem slices_stableCmpFunc_l25_ev (a1 : Int) (s10 : (List S49) × Int × Int) : OLe (slices_stableCmpFunc_l25_c a1 s10) (slices_stableCmpFunc_l25 a1 s10) := by
  unfold slices_stableCmpFunc_l25_c slices_stableCmpFunc_l25
  exact (OLe.cond (OLe.bind (slices_insertionSortCmpFunc_ev _ _ _) (fun _ => (OLe.refl _))) (OLe.refl _))
noncomputable def slices_stableCmpFunc_l95_c (a1 : Int) (s53 : (List S49) × Int) : ((List S49) × Int × Int) → Option (((List S49) × Int × Int) ⊕ ((List S49) × Int)) := fun s80 =>
  bif (decide (s80.2.2 ≤ a1)) then
  (Option.bind (slices_symMergeCmpFunc_c s80.1 s80.2.1 (IntKind.wrap .i64 (s80.2.1 + s53.2)) s80.2.2) fun (y98 : (List S49)) =>
    some (Sum.inl (y98, s80.2.2, (IntKind.wrap .i64 (s80.2.2 + (IntKind.wrap .i64 (2 * s53.2)))))))
  else
  (some (Sum.inr (s80.1, s80.2.1)))
theorem slices_stableCmpFunc_l95_ev (a1 : Int) (s53 : (List S49) × Int) (s80 : (List S49) × Int × Int) : OLe (slices_stableCmpFunc_l95_c a1 s53 s80) (slices_stableCmpFunc_l95 a1 s53 s80) := by
  unfold slices_stableCmpFunc_l95_c slices_stableCmpFunc_l95
  exact (OLe.cond (OLe.bind (slices_symMergeCmpFunc_ev _ _ _ _) (fun _ => (OLe.refl _))) (OLe.refl _))
noncomputable def slices_stableCmpFunc_l68_c (a1 : Int) : ((List S49) × Int) → Option (((List S49) × Int) ⊕ ((List S49))) := fun s53 =>
  bif (decide (s53.2 < a1)) then
  (Option.bind (loopF 1000000 (slices_stableCmpFunc_l95_c a1 s53) (s53.1, 0, (IntKind.wrap .i64 (2 * s53.2)))) fun (r78 : (List S49) × Int) =>
    Option.bind (bif (decide ((IntKind.wrap .i64 (r78.2 + s53.2)) < a1)) then
      (Option.bind (slices_symMergeCmpFunc_c r78.1 r78.2 (IntKind.wrap .i64 (r78.2 + s53.2)) a1) fun (y115 : (List S49)) =>
        some y115)
      else
      (some r78.1)) fun (j106 : (List S49)) =>
    some (Sum.inl (j106, (IntKind.wrap .i64 (s53.2 * 2)))))
  else
  (some (Sum.inr s53.1))
theorem slices_stableCmpFunc_l68_ev (a1 : Int) (s53 : (List S49) × Int) : OLe (slices_stableCmpFunc_l68_c a1 s53) (slices_stableCmpFunc_l68 a1 s53) := by
  unfold slices_stableCmpFunc_l68_c slices_stableCmpFunc_l68
  exact (OLe.cond (OLe.bind (OLe.loop (fun _ => slices_stableCmpFunc_l95_ev _ _ _)) (fun _ => (OLe.bind (OLe.cond (OLe.bind (slices_symMergeCmpFunc_ev _ _ _ _) (fun _ => (OLe.refl _))) (OLe.refl _)) (fun _ => (OLe.refl _))))) (OLe.refl _))
noncomputable def slices_stableCmpFunc_c (a0 : List S49) (a1 : Int) : Option (List S49) :=
  Option.bind (loopF 1000000 (slices_stableCmpFunc_l25_c a1) (a0, 0, 20)) fun (r8 : (List S49) × Int) =>
  Option.bind (slices_insertionSortCmpFunc_c r8.1 r8.2 a1) fun (y36 : (List S49)) =>
  Option.bind (loopF 1000000 (slices_stableCmpFunc_l68_c a1) (y36, 20)) fun (r51 : (List S49)) =>
  some r51
theorem slices_stableCmpFunc_ev (a0 : List S49) (a1 : Int) : OLe (slices_stableCmpFunc_c a0 a1) (slices_stableCmpFunc a0 a1) := by
  unfold slices_stableCmpFunc_c slices_stableCmpFunc
  exact (OLe.bind (OLe.loop (fun _ => slices_stableCmpFunc_l25_ev _ _)) (fun _ => (OLe.bind (slices_insertionSortCmpFunc_ev _ _ _) (fun _ => (OLe.bind (OLe.loop (fun _ => slices_stableCmpFunc_l68_ev _ _)) (fun _ => (OLe.refl _)))))))
noncomputable def slices_SortStableFunc_c (a0 : List S49) : Option (List S49) :=
  Option.bind (slices_stableCmpFunc_c a0 (a0.length : Int)) fun (y1 : (List S49)) =>
  some y1
theorem slices_SortStableFunc_ev (a0 : List S49) : OLe (slices_SortStableFunc_c a0) (slices_SortStableFunc a0) := by
  unfold slices_SortStableFunc_c slices_SortStableFunc
  exact (OLe.bind (slices_stableCmpFunc_ev _ _) (fun _ => (OLe.refl _)))
noncomputable def labels_sorted_l45_c (y10 : (List S49)) : ((List S49) × Bool × Int) → Option (((List S49) × Bool × Int) ⊕ ((List S49) × Bool)) := fun s28 =>
  bif (decide (s28.2.2 < (y10.length : Int))) then
  (Option.bind (ix y10 s28.2.2) fun (x48 : S49) =>
    Option.bind (bif s28.2.1 then
      (some true)
      else
      (bif (decide (s28.2.2 > 0)) then
        (Option.bind (ix y10 (IntKind.wrap .i64 (s28.2.2 - 1))) fun (x65 : S49) =>
          some (x65.f0.toList == x48.f0.toList))
        else
        (some false))) fun (j58 : Bool) =>
    Option.bind (bif (!(x48.f1.toList == (⟨#[]⟩ : ByteArray).toList)) then
      (Option.bind (app s28.1 [x48]) fun (zs88 : List S49) =>
        some zs88)
      else
      (some s28.1)) fun (j74 : (List S49)) =>
    some (Sum.inl (j74, j58, (IntKind.wrap .i64 (s28.2.2 + 1)))))
  else
  (some (Sum.inr (s28.1, s28.2.1)))
theorem labels_sorted_l45_ev (y10 : (List S49)) (s28 : (List S49) × Bool × Int) : OLe (labels_sorted_l45_c y10 s28) (labels_sorted_l45 y10 s28) := by
  unfold labels_sorted_l45_c labels_sorted_l45
  exact (OLe.cond (OLe.bind (OLe.refl _) (fun _ => (OLe.bind (OLe.cond (OLe.refl _) (OLe.cond (OLe.bind (OLe.refl _) (fun _ => (OLe.refl _))) (OLe.refl _))) (fun _ => (OLe.bind (OLe.cond (OLe.bind (OLe.refl _) (fun _ => (OLe.refl _))) (OLe.refl _)) (fun _ => (OLe.refl _))))))) (OLe.refl _))
noncomputable def labels_sorted_c (a0 : List S49) : Option ((List S49) × Bool) :=
  Option.bind (labels_own_c a0) fun (y1 : (List S49)) =>
  Option.bind (slices_SortStableFunc_c y1) fun (y10 : (List S49)) =>
  Option.bind (loopF 1000000 (labels_sorted_l45_c y10) ([], false, 0)) fun (r26 : (List S49) × Bool) =>
  some (r26.1, r26.2)
theorem labels_sorted_ev (a0 : List S49) : OLe (labels_sorted_c a0) (labels_sorted a0) := by
  unfold labels_sorted_c labels_sorted
  exact (OLe.bind (labels_own_ev _) (fun _ => (OLe.bind (slices_SortStableFunc_ev _) (fun _ => (OLe.bind (OLe.loop (fun _ => labels_sorted_l45_ev _ _)) (fun _ => (OLe.refl _)))))))
noncomputable def utf8_ValidString_c (a0 : ByteArray) : Option Bool := utf8_ValidString a0
theorem utf8_ValidString_ev (a0 : ByteArray) : OLe (utf8_ValidString_c a0) (utf8_ValidString a0) := OLe.refl _
noncomputable def labels_value_c (a0 : ByteArray) : Option Int :=
  bif (a0.toList == (⟨#[]⟩ : ByteArray).toList) then
  (some 41)
  else
  (bif (decide ((a0.size : Int) > 256)) then
    (some 4)
    else
    (Option.bind (utf8_ValidString_c a0) fun (y3 : Bool) =>
      bif (!y3) then
      (some 12)
      else
      (some 0)))
theorem labels_value_ev (a0 : ByteArray) : OLe (labels_value_c a0) (labels_value a0) := by
  unfold labels_value_c labels_value
  exact (OLe.cond (OLe.refl _) (OLe.cond (OLe.refl _) (OLe.bind (utf8_ValidString_ev _) (fun _ => (OLe.cond (OLe.refl _) (OLe.refl _))))))
noncomputable def labels_Right_l18_c (a0 : List S49) : Int → Option ((Int) ⊕ ((Unit) ⊕ (Int × Int))) := fun s8 =>
  bif (decide (s8 < (a0.length : Int))) then
  (Option.bind (ix a0 s8) fun (x21 : S49) =>
    Option.bind (labels_Name_c x21.f0) fun (y30 : Bool) =>
    bif (!y30) then
    (some (Sum.inr (Sum.inr (40, s8))))
    else
    (Option.bind (labels_value_c x21.f1) fun (y33 : Int) =>
      bif (y33 != 0) then
      (some (Sum.inr (Sum.inr (y33, s8))))
      else
      (Option.bind (bif (decide (s8 > 0)) then
          (Option.bind (ix a0 (IntKind.wrap .i64 (s8 - 1))) fun (x42 : S49) =>
            some ((Op.bytesLess x21.f0.toList x42.f0.toList) || (x21.f0.toList == x42.f0.toList)))
          else
          (some false)) fun (j36 : Bool) =>
        bif j36 then
        (some (Sum.inr (Sum.inr (3, s8))))
        else
        (some (Sum.inl (IntKind.wrap .i64 (s8 + 1)))))))
  else
  (some (Sum.inr (Sum.inl ())))
theorem labels_Right_l18_ev (a0 : List S49) (s8 : Int) : OLe (labels_Right_l18_c a0 s8) (labels_Right_l18 a0 s8) := by
  unfold labels_Right_l18_c labels_Right_l18
  exact (OLe.cond (OLe.bind (OLe.refl _) (fun _ => (OLe.bind (labels_Name_ev _) (fun _ => (OLe.cond (OLe.refl _) (OLe.bind (labels_value_ev _) (fun _ => (OLe.cond (OLe.refl _) (OLe.bind (OLe.cond (OLe.bind (OLe.refl _) (fun _ => (OLe.refl _))) (OLe.refl _)) (fun _ => (OLe.cond (OLe.refl _) (OLe.refl _)))))))))))) (OLe.refl _))
noncomputable def labels_Right_c (a0 : List S49) : Option (Int × Int) :=
  bif (decide ((a0.length : Int) > 16)) then
  (some (8, 0))
  else
  (Option.bind (loopF 1000000 (labels_Right_l18_c a0) 0) fun (r6 : (Unit) ⊕ (Int × Int)) =>
    match r6 with
    | Sum.inl r14 => some (0, 0)
    | Sum.inr v51 => some v51)
theorem labels_Right_ev (a0 : List S49) : OLe (labels_Right_c a0) (labels_Right a0) := by
  unfold labels_Right_c labels_Right
  exact (OLe.cond (OLe.refl _) (OLe.bind (OLe.loop (fun _ => labels_Right_l18_ev _ _)) (fun j => by cases j with | inl a => exact (OLe.refl _) | inr b => exact (OLe.refl _))))
noncomputable def labels_Parse_c (a0 : ByteArray) : Option ((List S49) × Int × Int) :=
  bif (decide ((a0.size : Int) > 65536)) then
  (some ([], 4, 0))
  else
  (Option.bind (labels_reader_blanks_c (⟨a0, 0, (-1)⟩ : S89)) fun (y3 : S89) =>
    Option.bind (bif (decide (y3.f1 < (a0.size : Int))) then
      (Option.bind (bx a0 y3.f1) fun (c14 : Int) =>
        some (c14 == 123))
      else
      (some false)) fun (j8 : Bool) =>
    Option.bind (bif (!j8) then
      (Option.bind (labels_reader_name_c y3 true) fun (y26 : ByteArray × S89) =>
        Option.bind (app ([] : List S49) [(⟨(⟨#[95, 95, 110, 97, 109, 101, 95, 95]⟩ : ByteArray), y26.1⟩ : S49)]) fun (zs35 : List S49) =>
        Option.bind (labels_reader_blanks_c y26.2) fun (y41 : S89) =>
        some (zs35, y41.f0, y41.f1, y41.f2))
      else
      (some ([], y3.f0, y3.f1, y3.f2))) fun (j16 : (List S49) × ByteArray × Int × Int) =>
    Option.bind (labels_reader_next_c (⟨j16.2.1, j16.2.2.1, j16.2.2.2⟩ : S89) 123) fun (y46 : Bool × S89) =>
    Option.bind (bif y46.1 then
      (Option.bind (labels_reader_braces_c y46.2) fun (y61 : (List S49) × S89) =>
        Option.bind (app j16.1 y61.1) fun (zs70 : List S49) =>
        some (zs70, y61.2.f0, y61.2.f1, y61.2.f2))
      else
      (some (j16.1, y46.2.f0, y46.2.f1, y46.2.f2))) fun (j51 : (List S49) × ByteArray × Int × Int) =>
    Option.bind (labels_reader_blanks_c (⟨j51.2.1, j51.2.2.1, j51.2.2.2⟩ : S89)) fun (y76 : S89) =>
    Option.bind (bif ((decide (y76.f2 < 0)) && (decide (y76.f1 < (a0.size : Int)))) then
      (Option.bind (labels_reader_fail_c y76 y76.f1) fun (y93 : S89) =>
        some (y93.f0, y93.f1, y93.f2))
      else
      (some (y76.f0, y76.f1, y76.f2))) fun (j87 : ByteArray × Int × Int) =>
    bif (decide (j87.2.2 ≥ 0)) then
    (some ([], 3, j87.2.2))
    else
    (Option.bind (labels_sorted_c j51.1) fun (y103 : (List S49) × Bool) =>
      bif y103.2 then
      (some ([], 6, 0))
      else
      (Option.bind (labels_Right_c y103.1) fun (y113 : Int × Int) =>
        bif (y113.1 != 0) then
        (some ([], y113.1, y113.2))
        else
        (some (y103.1, 0, 0)))))
theorem labels_Parse_ev (a0 : ByteArray) : OLe (labels_Parse_c a0) (labels_Parse a0) := by
  unfold labels_Parse_c labels_Parse
  exact (OLe.cond (OLe.refl _) (OLe.bind (labels_reader_blanks_ev _) (fun _ => (OLe.bind (OLe.cond (OLe.bind (OLe.refl _) (fun _ => (OLe.refl _))) (OLe.refl _)) (fun _ => (OLe.bind (OLe.cond (OLe.bind (labels_reader_name_ev _ _) (fun _ => (OLe.bind (OLe.refl _) (fun _ => (OLe.bind (labels_reader_blanks_ev _) (fun _ => (OLe.refl _))))))) (OLe.refl _)) (fun _ => (OLe.bind (labels_reader_next_ev _ _) (fun _ => (OLe.bind (OLe.cond (OLe.bind (labels_reader_braces_ev _) (fun _ => (OLe.bind (OLe.refl _) (fun _ => (OLe.refl _))))) (OLe.refl _)) (fun _ => (OLe.bind (labels_reader_blanks_ev _) (fun _ => (OLe.bind (OLe.cond (OLe.bind (labels_reader_fail_ev _ _) (fun _ => (OLe.refl _))) (OLe.refl _)) (fun _ => (OLe.cond (OLe.refl _) (OLe.bind (labels_sorted_ev _) (fun _ => (OLe.cond (OLe.refl _) (OLe.bind (labels_Right_ev _) (fun _ => (OLe.cond (OLe.refl _) (OLe.refl _)))))))))))))))))))))))
noncomputable def labels_right_c (a0 : List S49) : Option Int :=
  Option.bind (labels_Right_c a0) fun (y1 : Int × Int) =>
  some y1.1
theorem labels_right_ev (a0 : List S49) : OLe (labels_right_c a0) (labels_right a0) := by
  unfold labels_right_c labels_right
  exact (OLe.bind (labels_Right_ev _) (fun _ => (OLe.refl _)))
noncomputable def labels_Get_l17_c (a0 : List S49) (a1 : ByteArray) : Int → Option ((Int) ⊕ ((Unit) ⊕ (ByteArray))) := fun s7 =>
  bif (decide (s7 < (a0.length : Int))) then
  (Option.bind (ix a0 s7) fun (x20 : S49) =>
    bif (x20.f0.toList == a1.toList) then
    (some (Sum.inr (Sum.inr x20.f1)))
    else
    (some (Sum.inl (IntKind.wrap .i64 (s7 + 1)))))
  else
  (some (Sum.inr (Sum.inl ())))
theorem labels_Get_l17_ev (a0 : List S49) (a1 : ByteArray) (s7 : Int) : OLe (labels_Get_l17_c a0 a1 s7) (labels_Get_l17 a0 a1 s7) := by
  unfold labels_Get_l17_c labels_Get_l17
  exact (OLe.cond (OLe.bind (OLe.refl _) (fun _ => (OLe.cond (OLe.refl _) (OLe.refl _)))) (OLe.refl _))
noncomputable def labels_Get_c (a0 : List S49) (a1 : ByteArray) : Option ByteArray :=
  Option.bind (loopF 1000000 (labels_Get_l17_c a0 a1) 0) fun (r5 : (Unit) ⊕ (ByteArray)) =>
  match r5 with
  | Sum.inl r13 => some (⟨#[]⟩ : ByteArray)
  | Sum.inr v30 => some v30
theorem labels_Get_ev (a0 : List S49) (a1 : ByteArray) : OLe (labels_Get_c a0 a1) (labels_Get a0 a1) := by
  unfold labels_Get_c labels_Get
  exact (OLe.bind (OLe.loop (fun _ => labels_Get_l17_ev _ _ _)) (fun j => by cases j with | inl a => exact (OLe.refl _) | inr b => exact (OLe.refl _)))
noncomputable def slices_Index_l17_c (a0 : List ByteArray) (a1 : ByteArray) : Int → Option ((Int) ⊕ ((Unit) ⊕ (Int))) := fun s7 =>
  bif (decide (s7 < (a0.length : Int))) then
  (Option.bind (ix a0 s7) fun (x20 : ByteArray) =>
    bif (a1.toList == x20.toList) then
    (some (Sum.inr (Sum.inr s7)))
    else
    (some (Sum.inl (IntKind.wrap .i64 (s7 + 1)))))
  else
  (some (Sum.inr (Sum.inl ())))
theorem slices_Index_l17_ev (a0 : List ByteArray) (a1 : ByteArray) (s7 : Int) : OLe (slices_Index_l17_c a0 a1 s7) (slices_Index_l17 a0 a1 s7) := by
  unfold slices_Index_l17_c slices_Index_l17
  exact (OLe.cond (OLe.bind (OLe.refl _) (fun _ => (OLe.cond (OLe.refl _) (OLe.refl _)))) (OLe.refl _))
noncomputable def slices_Index_c (a0 : List ByteArray) (a1 : ByteArray) : Option Int :=
  Option.bind (loopF 1000000 (slices_Index_l17_c a0 a1) 0) fun (r5 : (Unit) ⊕ (Int)) =>
  match r5 with
  | Sum.inl r13 => some (-1)
  | Sum.inr v29 => some v29
theorem slices_Index_ev (a0 : List ByteArray) (a1 : ByteArray) : OLe (slices_Index_c a0 a1) (slices_Index a0 a1) := by
  unfold slices_Index_c slices_Index
  exact (OLe.bind (OLe.loop (fun _ => slices_Index_l17_ev _ _ _)) (fun j => by cases j with | inl a => exact (OLe.refl _) | inr b => exact (OLe.refl _)))
noncomputable def slices_Contains_c (a0 : List ByteArray) (a1 : ByteArray) : Option Bool :=
  Option.bind (slices_Index_c a0 a1) fun (y1 : Int) =>
  some (decide (y1 ≥ 0))
theorem slices_Contains_ev (a0 : List ByteArray) (a1 : ByteArray) : OLe (slices_Contains_c a0 a1) (slices_Contains a0 a1) := by
  unfold slices_Contains_c slices_Contains
  exact (OLe.bind (slices_Index_ev _ _) (fun _ => (OLe.refl _)))
noncomputable def labels_pick_l28_c (a0 : List S49) (a1 : Bool) (a2 : List ByteArray) : ((List S49) × Int) → Option (((List S49) × Int) ⊕ ((List S49))) := fun s11 =>
  bif (decide (s11.2 < (a0.length : Int))) then
  (Option.bind (ix a0 s11.2) fun (x31 : S49) =>
    Option.bind (slices_Contains_c a2 x31.f0) fun (y40 : Bool) =>
    Option.bind (bif (y40 == a1) then
      (Option.bind (app s11.1 [x31]) fun (zs56 : List S49) =>
        some zs56)
      else
      (some s11.1)) fun (j42 : (List S49)) =>
    some (Sum.inl (j42, (IntKind.wrap .i64 (s11.2 + 1)))))
  else
  (some (Sum.inr s11.1))
theorem labels_pick_l28_ev (a0 : List S49) (a1 : Bool) (a2 : List ByteArray) (s11 : (List S49) × Int) : OLe (labels_pick_l28_c a0 a1 a2 s11) (labels_pick_l28 a0 a1 a2 s11) := by
  unfold labels_pick_l28_c labels_pick_l28
  exact (OLe.cond (OLe.bind (OLe.refl _) (fun _ => (OLe.bind (slices_Contains_ev _ _) (fun _ => (OLe.bind (OLe.cond (OLe.bind (OLe.refl _) (fun _ => (OLe.refl _))) (OLe.refl _)) (fun _ => (OLe.refl _))))))) (OLe.refl _))
noncomputable def labels_pick_c (a0 : List S49) (a1 : Bool) (a2 : List ByteArray) : Option (List S49) :=
  Option.bind (loopF 1000000 (labels_pick_l28_c a0 a1 a2) ([], 0)) fun (r9 : (List S49)) =>
  some r9
theorem labels_pick_ev (a0 : List S49) (a1 : Bool) (a2 : List ByteArray) : OLe (labels_pick_c a0 a1 a2) (labels_pick a0 a1 a2) := by
  unfold labels_pick_c labels_pick
  exact (OLe.bind (OLe.loop (fun _ => labels_pick_l28_ev _ _ _ _)) (fun _ => (OLe.refl _)))
noncomputable def labels_quoted_c (a0 : ByteArray) : Option ByteArray := labels_quoted a0
theorem labels_quoted_ev (a0 : ByteArray) : OLe (labels_quoted_c a0) (labels_quoted a0) := OLe.refl _
noncomputable def strings_Join_c (a0 : List ByteArray) (a1 : ByteArray) : Option ByteArray :=
  bif ((a0.length : Int) == 0) then
  (some (⟨#[]⟩ : ByteArray))
  else
  (bif ((a0.length : Int) == 1) then
    (Option.bind (ix a0 0) fun (x3 : ByteArray) =>
      some x3)
    else
    (none))
theorem strings_Join_ev (a0 : List ByteArray) (a1 : ByteArray) : OLe (strings_Join_c a0 a1) (strings_Join a0 a1) := by
  unfold strings_Join_c strings_Join
  exact (OLe.cond (OLe.refl _) (OLe.cond (OLe.bind (OLe.refl _) (fun _ => (OLe.refl _))) (OLe.refl _)))
noncomputable def labels_Print_l72_c (j8 : ByteArray × (List S49)) : ((List ByteArray) × Int) → Option (((List ByteArray) × Int) ⊕ ((List ByteArray))) := fun s55 =>
  bif (decide (s55.2 < (j8.2.length : Int))) then
  (Option.bind (ix j8.2 s55.2) fun (x75 : S49) =>
    Option.bind (sadd x75.f0 (⟨#[61]⟩ : ByteArray)) fun (s84 : ByteArray) =>
    Option.bind (labels_quoted_c x75.f1) fun (y86 : ByteArray) =>
    Option.bind (sadd s84 y86) fun (s88 : ByteArray) =>
    Option.bind (app s55.1 [s88]) fun (zs94 : List ByteArray) =>
    some (Sum.inl (zs94, (IntKind.wrap .i64 (s55.2 + 1)))))
  else
  (some (Sum.inr s55.1))
theorem labels_Print_l72_ev (j8 : ByteArray × (List S49)) (s55 : (List ByteArray) × Int) : OLe (labels_Print_l72_c j8 s55) (labels_Print_l72 j8 s55) := by
  unfold labels_Print_l72_c labels_Print_l72
  exact (OLe.cond (OLe.bind (OLe.refl _) (fun _ => (OLe.bind (OLe.refl _) (fun _ => (OLe.bind (labels_quoted_ev _) (fun _ => (OLe.bind (OLe.refl _) (fun _ => (OLe.bind (OLe.refl _) (fun _ => (OLe.refl _))))))))))) (OLe.refl _))
noncomputable def labels_Print_c (a0 : List S49) : Option (ByteArray × Int) :=
  Option.bind (labels_right_c a0) fun (y1 : Int) =>
  bif (y1 != 0) then
  (some ((⟨#[]⟩ : ByteArray), y1))
  else
  (Option.bind (labels_Get_c a0 (⟨#[95, 95, 110, 97, 109, 101, 95, 95]⟩ : ByteArray)) fun (y4 : ByteArray) =>
    Option.bind (labels_Metric_c y4) fun (y6 : Bool) =>
    Option.bind (bif y6 then
      (Option.bind (labels_pick_c a0 false [(⟨#[95, 95, 110, 97, 109, 101, 95, 95]⟩ : ByteArray)]) fun (y25 : (List S49)) =>
        some (y4, y25))
      else
      (some ((⟨#[]⟩ : ByteArray), a0))) fun (j8 : ByteArray × (List S49)) =>
    bif ((!(j8.1.toList == (⟨#[]⟩ : ByteArray).toList)) && ((j8.2.length : Int) == 0)) then
    (some (j8.1, 0))
    else
    (Option.bind (loopF 1000000 (labels_Print_l72_c j8) ([], 0)) fun (r53 : (List ByteArray)) =>
      Option.bind (sadd j8.1 (⟨#[123]⟩ : ByteArray)) fun (s100 : ByteArray) =>
      Option.bind (strings_Join_c r53 (⟨#[44]⟩ : ByteArray)) fun (y102 : ByteArray) =>
      Option.bind (sadd s100 y102) fun (s104 : ByteArray) =>
      Option.bind (sadd s104 (⟨#[125]⟩ : ByteArray)) fun (s106 : ByteArray) =>
      some (s106, 0)))
theorem labels_Print_ev (a0 : List S49) : OLe (labels_Print_c a0) (labels_Print a0) := by
  unfold labels_Print_c labels_Print
  exact (OLe.bind (labels_right_ev _) (fun _ => (OLe.cond (OLe.refl _) (OLe.bind (labels_Get_ev _ _) (fun _ => (OLe.bind (labels_Metric_ev _) (fun _ => (OLe.bind (OLe.cond (OLe.bind (labels_pick_ev _ _ _) (fun _ => (OLe.refl _))) (OLe.refl _)) (fun _ => (OLe.cond (OLe.refl _) (OLe.bind (OLe.loop (fun _ => labels_Print_l72_ev _ _)) (fun _ => (OLe.bind (OLe.refl _) (fun _ => (OLe.bind (strings_Join_ev _ _) (fun _ => (OLe.bind (OLe.refl _) (fun _ => (OLe.bind (OLe.refl _) (fun _ => (OLe.refl _)))))))))))))))))))))
noncomputable def labels_Hash_1_l16_c (a0 : ByteArray) : (Int × Int) → Option ((Int × Int) ⊕ (Int)) := fun s7 =>
  bif (decide (s7.2 < (a0.size : Int))) then
  (Option.bind (bx a0 s7.2) fun (c19 : Int) =>
    some (Sum.inl ((IntKind.wrap .u64 ((bitXor .u64 s7.1 (IntKind.wrap .u64 c19)) * 1099511628211)), (IntKind.wrap .i64 (s7.2 + 1)))))
  else
  (some (Sum.inr s7.1))
theorem labels_Hash_1_l16_ev (a0 : ByteArray) (s7 : Int × Int) : OLe (labels_Hash_1_l16_c a0 s7) (labels_Hash_1_l16 a0 s7) := by
  unfold labels_Hash_1_l16_c labels_Hash_1_l16
  exact (OLe.cond (OLe.bind (OLe.refl _) (fun _ => (OLe.refl _))) (OLe.refl _))
noncomputable def labels_Hash_1_c (a0 : ByteArray) (a1 : Int) : Option Int :=
  Option.bind (loopF 1000000 (labels_Hash_1_l16_c a0) (a1, 0)) fun (r5 : Int) =>
  some (IntKind.wrap .u64 ((bitXor .u64 r5 255) * 1099511628211))
theorem labels_Hash_1_ev (a0 : ByteArray) (a1 : Int) : OLe (labels_Hash_1_c a0 a1) (labels_Hash_1 a0 a1) := by
  unfold labels_Hash_1_c labels_Hash_1
  exact (OLe.bind (OLe.loop (fun _ => labels_Hash_1_l16_ev _ _)) (fun _ => (OLe.refl _)))
noncomputable def labels_Hash_l17_c (a0 : List S49) : (Int × Int) → Option ((Int × Int) ⊕ (Int)) := fun s8 =>
  bif (decide (s8.2 < (a0.length : Int))) then
  (Option.bind (ix a0 s8.2) fun (x20 : S49) =>
    Option.bind (labels_Hash_1_c x20.f0 s8.1) fun (y29 : Int) =>
    Option.bind (labels_Hash_1_c x20.f1 y29) fun (y34 : Int) =>
    some (Sum.inl (y34, (IntKind.wrap .i64 (s8.2 + 1)))))
  else
  (some (Sum.inr s8.1))
theorem labels_Hash_l17_ev (a0 : List S49) (s8 : Int × Int) : OLe (labels_Hash_l17_c a0 s8) (labels_Hash_l17 a0 s8) := by
  unfold labels_Hash_l17_c labels_Hash_l17
  exact (OLe.cond (OLe.bind (OLe.refl _) (fun _ => (OLe.bind (labels_Hash_1_ev _ _) (fun _ => (OLe.bind (labels_Hash_1_ev _ _) (fun _ => (OLe.refl _))))))) (OLe.refl _))
noncomputable def labels_Hash_c (a0 : List S49) : Option Int :=
  Option.bind (loopF 1000000 (labels_Hash_l17_c a0) (14695981039346656037, 0)) fun (r6 : Int) =>
  some r6
theorem labels_Hash_ev (a0 : List S49) : OLe (labels_Hash_c a0) (labels_Hash a0) := by
  unfold labels_Hash_c labels_Hash
  exact (OLe.bind (OLe.loop (fun _ => labels_Hash_l17_ev _ _)) (fun _ => (OLe.refl _)))
noncomputable def tocsinlaw04_awake_c : Option Bool :=
  Option.bind (labels_Parse_c (⟨#[117, 112, 32, 123, 32, 106, 111, 98, 32, 61, 32, 34, 120, 34, 32, 44, 32, 125]⟩ : ByteArray)) fun (y1 : (List S49) × Int × Int) =>
  Option.bind (labels_Print_c y1.1) fun (y10 : ByteArray × Int) =>
  Option.bind (bif (y1.2.1 == 0) then
    (bif (y10.2 == 0) then
      (bif (y10.1.toList == (⟨#[117, 112, 123, 106, 111, 98, 61, 34, 120, 34, 125]⟩ : ByteArray).toList) then
        (Option.bind (labels_Get_c y1.1 (⟨#[106, 111, 98]⟩ : ByteArray)) fun (y20 : ByteArray) =>
          bif (y20.toList == (⟨#[120]⟩ : ByteArray).toList) then
          (Option.bind (labels_Hash_c []) fun (y23 : Int) =>
            some (y23 == 14695981039346656037))
          else
          (some false))
        else
        (some false))
      else
      (some false))
    else
    (some false)) fun (j12 : Bool) =>
  some j12
theorem tocsinlaw04_awake_ev  : OLe (tocsinlaw04_awake_c ) (tocsinlaw04_awake ) := by
  unfold tocsinlaw04_awake_c tocsinlaw04_awake
  exact (OLe.bind (labels_Parse_ev _) (fun _ => (OLe.bind (labels_Print_ev _) (fun _ => (OLe.bind (OLe.cond (OLe.cond (OLe.cond (OLe.bind (labels_Get_ev _ _) (fun _ => (OLe.cond (OLe.bind (labels_Hash_ev _) (fun _ => (OLe.refl _))) (OLe.refl _)))) (OLe.refl _)) (OLe.refl _)) (OLe.refl _)) (fun _ => (OLe.refl _)))))))
end Go.Proofs.YtnlkfajnaelnnaaGreatDoor

set_option linter.unusedVariables false
namespace Go.Proofs.YtnlkfajnaelnnaaGreatDoor
open Go.GB
theorem awake04 : tocsinlaw04_awake = some true := tocsinlaw04_awake_ev _ (by kernel_rfl)
theorem tocsinlaw04_LabelsNil_true {I : Imm} {c0 c1 : List Value} {n0 n1 : Nat} (a0 : List S49) (a1 : Int) (h0 : (Kd.sl kS49).R I a0 c0) (h1 : (Kd.int .i64).R I a1 c1)
    (w0 : wSl wS49 a0 n0) (w1 : wInt .i64 a1 n1) (hn : n0 + n1 ≤ 1048576) : tocsinlaw04_LabelsNil a0 a1 = some true := by
  unfold tocsinlaw04_LabelsNil
  rw [awake04]
  rfl
end Go.Proofs.YtnlkfajnaelnnaaGreatDoor
