/- Plain laws, base: the order of texts. -/
import Derived.Test.YtkjkkimnjpodiaaGreatDoorW1bp
import Derived.Test.YtkjkkimnjpodiaaGreatDoorGB33p
import Derived.Test.YtkjkkimnjpodiaaGreatDoorRows
import Derived.Deep.Slices
import Derived.Below
import Derived.Lib.ValidLaws
import Derived.Lib.Bytealg
set_option linter.unusedVariables false
set_option linter.unusedSimpArgs false
set_option maxRecDepth 100000
namespace Go.Proofs.YtkjkkimnjpodiaaGreatDoor
open Go.GB
/-! 97 aggr_values_max  -/
noncomputable def aggr_values_max_l32 (a0 : List Fl) : (Fl × Int) → Option ((Fl × Int) ⊕ (Fl)) := fun s19 =>
  bif (decide (s19.2 < (a0.length : Int))) then
  (Option.bind (ix a0 s19.2) fun (x35 : Fl) =>
    Option.bind (bif (fcmp .gtr x35 s19.1) then
      (some true)
      else
      (some (math_IsNaN s19.1))) fun (j45 : Bool) =>
    Option.bind (bif j45 then
      (some x35)
      else
      (some s19.1)) fun (j51 : Fl) =>
    some (Sum.inl (j51, (IntKind.wrap .i64 (s19.2 + 1)))))
  else
  (some (Sum.inr s19.1))
noncomputable def aggr_values_max (a0 : List Fl) (a1 : Fl) : Option Fl :=
  Option.bind (ix a0 0) fun (x1 : Fl) =>
  Option.bind (loopO (aggr_values_max_l32 a0) (x1, 0)) fun (r17 : Fl) =>
  some r17
theorem aggr_values_max_walk {a0 : List Fl} {A0_0 : Option Addr} {n0_0 : Nat} {a1 : Fl} {b1_0 : Nat} {I : Imm} {r : Fl}  (hf0_0 : RepS Kd.flt I A0_0 n0_0 a0)  (hf1_0 : FRep a1 b1_0) (hr : aggr_values_max a0 a1 = some r) (L : Own) :
    CallsTo Tryz.prog 97 #[.slice A0_0 a0.length n0_0, .float .f64 b1_0] I L (fun v I' L' => ∃ b0_0, FRep r b0_0 ∧ v = .float .f64 b0_0 ∧ L = L') := by
  unfold aggr_values_max at hr
  refine callsTo_body (N := 27) Tryz.func97 (by kernel_rfl) (by kernel_rfl) (by kernel_rfl) ?_
  refine gk_pick [0, 1] (K' := [(0, .slice A0_0 a0.length n0_0), (1, .float .f64 b1_0)]) (by kernel_rfl) ?_
  refine gk_seq (by kernel_rfl) ?_
  refine gk_region (by kernel_rfl) ?_
  refine gl_pure 1 [0] (K' := [(0, .slice A0_0 a0.length n0_0)]) (by kernel_rfl) ?_
  refine gl_atE (by kernel_rfl) ?_
  refine ge_seq ?_
  refine gk_seq (by kernel_rfl) ?_
  refine gk_region (by kernel_rfl) ?_
  refine gl_pure 1 [0, 8] (K' := [(0, .slice A0_0 a0.length n0_0), (8, .slice A0_0 a0.length n0_0)]) (by kernel_rfl) ?_
  obtain ⟨x1, hx2, hr⟩ := bind_some hr
  obtain ⟨p3, cs4, hR5, hA6, ha7⟩ := RepS.ixAt hx2 hf0_0
  have hi8 := ix_some hx2
  obtain ⟨b9, rfl, hf10⟩ := hR5
  refine gl_indexAddrF (c := n0_0) (T' := 92) (e := 37) (xs := (.tmp 8)) (xi := (.const (.int .i64 0))) (kd := .i64) ha7 hi8.1 hi8.2.1 (by kernel_rfl) (by kernel_rfl) (by kernel_rfl) (by kernel_rfl) (by kernel_rfl) ?_
  refine gl_load (T' := 37) (xp := (.tmp 9)) (p := p3) (c := .float .f64 b9) (n := 1) (by kernel_rfl) (by kernel_rfl) (by kernel_rfl) (by kernel_rfl) hA6 ?_
  refine gl_pure 1 [0, 5] (K' := [(0, .slice A0_0 a0.length n0_0), (5, .float .f64 b9)]) (by kernel_rfl) ?_
  refine gl_atE (by kernel_rfl) ?_
  refine ge_seq ?_
  refine gk_seq (by kernel_rfl) ?_
  refine gk_seq (by kernel_rfl) ?_
  refine gk_region (by kernel_rfl) ?_
  refine gl_pure 3 [5, 11, 12, 13] (K' := [(5, .float .f64 b9), (11, .slice A0_0 a0.length n0_0), (12, .int .i64 (a0.length : Int)), (13, .int .i64 0)]) (by kernel_rfl) ?_
  refine gl_atE (by kernel_rfl) ?_
  refine ge_seq ?_
  obtain ⟨r17, hl18, hr⟩ := bind_some hr
  refine gk_join (fun t I' L' => ∃ b28, FRep r17 b28 ∧ I ≤ I' ∧ L = L' ∧ Knows 27 [(5, .float .f64 b28)] t) ?_ ?_
  · refine gk_block (by kernel_rfl) ?_
    refine gk_pick [5, 11, 12, 13] (K' := [(5, .float .f64 b9), (11, .slice A0_0 a0.length n0_0), (12, .int .i64 (a0.length : Int)), (13, .int .i64 0)]) (by kernel_rfl) ?_
    intro t hK
    refine gc_loop (aggr_values_max_l32 a0) (fun s19 t I' L' => ∃ b23, FRep s19.1 b23 ∧ I ≤ I' ∧ L = L' ∧ Knows 27 [(5, .float .f64 b23), (11, .slice A0_0 a0.length n0_0), (12, .int .i64 (a0.length : Int)), (13, .int .i64 s19.2)] t) (by kernel_rfl) ?_ hl18 ⟨b9, hf10, (Imm.refl _), rfl, hK⟩
    rintro s19 o20 t I26 L' hb21 ⟨b23, hb24, hI22, rfl, hK25⟩
    unfold aggr_values_max_l32 at hb21
    refine gk_at hK25 ?_
    refine gk_seq (by kernel_rfl) ?_
    refine gk_region (by kernel_rfl) ?_
    refine gl_pure 1 [5, 11, 12, 13, 14] (K' := [(5, .float .f64 b23), (11, .slice A0_0 a0.length n0_0), (12, .int .i64 (a0.length : Int)), (13, .int .i64 s19.2), (14, .bool (decide (s19.2 < (a0.length : Int))))]) (by kernel_rfl) ?_
    refine gl_atE (by kernel_rfl) ?_
    refine ge_seq ?_
    refine gk_seq (by kernel_rfl) ?_
    refine gk_cond (b := (decide (s19.2 < (a0.length : Int)))) (by kernel_rfl) (by kernel_rfl) (fun hc34 => ?_) (fun hc34 => ?_)
    · have hb21 := cond_t hc34 hb21
      refine gk_skip (by kernel_rfl) ?_
      refine ge_seq ?_
      refine gk_seq (by kernel_rfl) ?_
      refine gk_block (by kernel_rfl) ?_
      refine gk_seq (by kernel_rfl) ?_
      refine gk_region (by kernel_rfl) ?_
      obtain ⟨x35, hx36, hb21⟩ := bind_some hb21
      obtain ⟨p37, cs38, hR39, hA40, ha41⟩ := RepS.ixAt hx36 (hf0_0.mono hI22)
      have hi42 := ix_some hx36
      obtain ⟨b43, rfl, hf44⟩ := hR39
      refine gl_indexAddrF (c := n0_0) (T' := 92) (e := 37) (xs := (.tmp 11)) (xi := (.tmp 13)) (kd := .i64) ha41 hi42.1 hi42.2.1 (by kernel_rfl) (by kernel_rfl) (by kernel_rfl) (by kernel_rfl) (by kernel_rfl) ?_
      refine gl_load (T' := 37) (xp := (.tmp 15)) (p := p37) (c := .float .f64 b43) (n := 1) (by kernel_rfl) (by kernel_rfl) (by kernel_rfl) (by kernel_rfl) hA40 ?_
      refine gl_pure 1 [5, 7, 11, 12, 13] (K' := [(5, .float .f64 b23), (7, .float .f64 b43), (11, .slice A0_0 a0.length n0_0), (12, .int .i64 (a0.length : Int)), (13, .int .i64 s19.2)]) (by kernel_rfl) ?_
      refine gl_atE (by kernel_rfl) ?_
      refine ge_seq ?_
      refine gk_seq (by kernel_rfl) ?_
      obtain ⟨j45, hj46, hb21⟩ := bind_some hb21
      refine gk_join (fun t I' L' => I26 ≤ I' ∧ L = L' ∧ Knows 27 [(5, .float .f64 b23), (7, .float .f64 b43), (11, .slice A0_0 a0.length n0_0), (12, .int .i64 (a0.length : Int)), (13, .int .i64 s19.2), (23, .bool j45)] t) ?_ ?_
      · refine gk_region (by kernel_rfl) ?_
        refine gl_pure 2 [5, 7, 11, 12, 13, 17, 18] (K' := [(5, .float .f64 b23), (7, .float .f64 b43), (11, .slice A0_0 a0.length n0_0), (12, .int .i64 (a0.length : Int)), (13, .int .i64 s19.2), (17, .float .f64 b43), (18, .float .f64 b23)]) (by kernel_rfl) ?_
        refine gl_fcmp (op := .gtr) (t := 37) (t' := 37) (xx := (.tmp 17)) (yy := (.tmp 18)) hf44 hb24 (by kernel_rfl) (by kernel_rfl) rfl (by kernel_rfl) (by kernel_rfl) ?_
        refine gl_pure 1 [5, 7, 11, 12, 13, 20] (K' := [(5, .float .f64 b23), (7, .float .f64 b43), (11, .slice A0_0 a0.length n0_0), (12, .int .i64 (a0.length : Int)), (13, .int .i64 s19.2), (20, .bool (fcmp .gtr x35 s19.1))]) (by kernel_rfl) ?_
        refine gl_case 20 (b := (fcmp .gtr x35 s19.1)) (by kernel_rfl) (fun hc50 => ?_) (fun hc50 => ?_)
        · have hj46 := cond_t hc50 hj46
          refine gl_pure 3 [5, 7, 11, 12, 13, 23] (K' := [(5, .float .f64 b23), (7, .float .f64 b43), (11, .slice A0_0 a0.length n0_0), (12, .int .i64 (a0.length : Int)), (13, .int .i64 s19.2), (23, .bool true)]) (by kernel_rfl) ?_
          refine gl_atE (by kernel_rfl) ?_
          obtain rfl := some_inj hj46
          exact ge_mid fun t ht => ⟨(Imm.refl _), rfl, ht.pick (l := [5, 7, 11, 12, 13, 23]) (by kernel_rfl)⟩
        · have hj46 := cond_f hc50 hj46
          refine gl_pure 1 [5, 7, 11, 12, 13, 20, 21] (K' := [(5, .float .f64 b23), (7, .float .f64 b43), (11, .slice A0_0 a0.length n0_0), (12, .int .i64 (a0.length : Int)), (13, .int .i64 s19.2), (20, .bool false), (21, .float .f64 b23)]) (by kernel_rfl) ?_
          refine gl_callQ (by kernel_rfl) (math_IsNaN_walk (r := (math_IsNaN s19.1)) hb24 rfl _) ?_
          refine gl_pure 1 [5, 7, 11, 12, 13, 23] (K' := [(5, .float .f64 b23), (7, .float .f64 b43), (11, .slice A0_0 a0.length n0_0), (12, .int .i64 (a0.length : Int)), (13, .int .i64 s19.2), (23, .bool (math_IsNaN s19.1))]) (by kernel_rfl) ?_
          refine gl_atE (by kernel_rfl) ?_
          obtain rfl := some_inj hj46
          exact ge_mid fun t ht => ⟨(Imm.refl _), rfl, ht.pick (l := [5, 7, 11, 12, 13, 23]) (by kernel_rfl)⟩
      · rintro t I49 L' ⟨hI47, rfl, hK48⟩
        refine ge_at hK48 ?_
        refine ge_seq ?_
        obtain ⟨j51, hj52, hb21⟩ := bind_some hb21
        refine gk_join (fun t I' L' => ∃ b54, FRep j51 b54 ∧ I49 ≤ I' ∧ L = L' ∧ Knows 27 [(5, .float .f64 b54), (11, .slice A0_0 a0.length n0_0), (12, .int .i64 (a0.length : Int)), (13, .int .i64 s19.2)] t) ?_ ?_
        · refine gk_cond (b := j45) (by kernel_rfl) (by kernel_rfl) (fun hc58 => ?_) (fun hc58 => ?_)
          · have hj52 := cond_t hc58 hj52
            refine gk_region (by kernel_rfl) ?_
            refine gl_pure 2 [5, 11, 12, 13] (K' := [(5, .float .f64 b43), (11, .slice A0_0 a0.length n0_0), (12, .int .i64 (a0.length : Int)), (13, .int .i64 s19.2)]) (by kernel_rfl) ?_
            refine gl_atE (by kernel_rfl) ?_
            obtain rfl := some_inj hj52
            exact ge_mid fun t ht => ⟨b43, hf44, (Imm.refl _), rfl, ht.pick (l := [5, 11, 12, 13]) (by kernel_rfl)⟩
          · have hj52 := cond_f hc58 hj52
            refine gk_skip (by kernel_rfl) ?_
            obtain rfl := some_inj hj52
            exact ge_mid fun t ht => ⟨b23, hb24, (Imm.refl _), rfl, ht.pick (l := [5, 11, 12, 13]) (by kernel_rfl)⟩
        · rintro t I57 L' ⟨b54, hb55, hI53, rfl, hK56⟩
          refine ge_at hK56 ?_
          refine ge_block_normal ?_
          refine ge_seq ?_
          refine gk_region (by kernel_rfl) ?_
          refine gl_pure 2 [5, 11, 12, 13] (K' := [(5, .float .f64 b54), (11, .slice A0_0 a0.length n0_0), (12, .int .i64 (a0.length : Int)), (13, .int .i64 (IntKind.wrap .i64 (s19.2 + 1)))]) (by kernel_rfl) ?_
          refine gl_atE (by kernel_rfl) ?_
          obtain rfl := some_inj hb21
          exact ge_round fun t ht => ⟨b54, hb55, (Imm.trans (Imm.trans hI22 hI47) hI53), rfl, ht.pick (l := [5, 11, 12, 13]) (by kernel_rfl)⟩
    · have hb21 := cond_f hc34 hb21
      refine gk_exit (by kernel_rfl) ?_
      refine ge_seq_exit ?_
      obtain rfl := some_inj hb21
      refine ge_round_out (fun hrr => ?_) (by intro h; cases h)
      obtain rfl := hrr
      refine ge_block_hit (by kernel_rfl) ?_
      exact ge_mid fun t ht => ⟨b23, hb24, hI22, rfl, ht.pick (l := [5]) (by kernel_rfl)⟩
  · rintro t I31 L' ⟨b28, hb29, hI27, rfl, hK30⟩
    refine ge_at hK30 ?_
    refine ge_seq ?_
    refine gk_seq (by kernel_rfl) ?_
    refine gk_region (by kernel_rfl) ?_
    refine gl_pure 2 [4] (K' := [(4, .float .f64 b28)]) (by kernel_rfl) ?_
    refine gl_atE (by kernel_rfl) ?_
    refine ge_seq ?_
    refine gk_ret (by kernel_rfl) ?_
    obtain rfl := some_inj hr
    exact ge_result trivial (ResOk.tmp (by kernel_rfl) ResOk.nil) hI27 ⟨b28, hb29, rfl, rfl⟩
theorem aggr_values_max_impl88  {I : Imm}  : Fn88 I (.func (.func 97) #[] #[]) aggr_values_max := ⟨fun I' hI x0 x1 r hr A0_0 c0_0 b1_0 h0_0 h1_0 L => ⟨97, #[], #[], rfl, ⟨_, Tryz.func97, by kernel_rfl, by kernel_rfl⟩, by
  simp only [List.append_toArray, List.nil_append, List.append_nil, Array.append_empty, Array.empty_append, List.push_append_toArray, List.cons_append]
  exact aggr_values_max_walk  h0_0 h1_0  hr L⟩⟩
/-! 98 aggr_values_count  -/
noncomputable def aggr_values_count (a0 : List Fl) (a1 : Fl) : Fl :=
  (some (FloatKind.nearest .f64 (a0.length : Int)) : Fl)
theorem aggr_values_count_walk {a0 : List Fl} {A0_0 : Option Addr} {n0_0 : Nat} {a1 : Fl} {b1_0 : Nat} {I : Imm} {r : Fl}  (hf0_0 : RepS Kd.flt I A0_0 n0_0 a0)  (hf1_0 : FRep a1 b1_0) (hr : aggr_values_count a0 a1 = r) (L : Own) :
    CallsTo Tryz.prog 98 #[.slice A0_0 a0.length n0_0, .float .f64 b1_0] I L (fun v I' L' => ∃ b0_0, FRep r b0_0 ∧ v = .float .f64 b0_0 ∧ L = L') := by
  replace hr : some (aggr_values_count a0 a1) = some r := congrArg some hr
  unfold aggr_values_count at hr
  refine callsTo_body (N := 8) Tryz.func98 (by kernel_rfl) (by kernel_rfl) (by kernel_rfl) ?_
  refine gk_pick [0, 1] (K' := [(0, .slice A0_0 a0.length n0_0), (1, .float .f64 b1_0)]) (by kernel_rfl) ?_
  refine gk_seq (by kernel_rfl) ?_
  refine gk_region (by kernel_rfl) ?_
  refine gl_pure 1 [0] (K' := [(0, .slice A0_0 a0.length n0_0)]) (by kernel_rfl) ?_
  refine gl_atE (by kernel_rfl) ?_
  refine ge_seq ?_
  refine gk_seq (by kernel_rfl) ?_
  refine gk_region (by kernel_rfl) ?_
  refine gl_pure 4 [4] (K' := [(4, .float .f64 (FloatKind.nearest .f64 (a0.length : Int)))]) (by kernel_rfl) ?_
  refine gl_atE (by kernel_rfl) ?_
  refine ge_seq ?_
  refine gk_ret (by kernel_rfl) ?_
  obtain rfl := some_inj hr
  exact ge_result trivial (ResOk.tmp (by kernel_rfl) ResOk.nil) (Imm.refl _) ⟨(FloatKind.nearest .f64 (a0.length : Int)), (FRep.of (FloatKind.nearest .f64 (a0.length : Int))), rfl, rfl⟩
theorem aggr_values_count_impl88  {I : Imm}  : Fn88 I (.func (.func 98) #[] #[]) (fun x0 x1 => some (aggr_values_count x0 x1)) := ⟨fun I' hI x0 x1 r hr A0_0 c0_0 b1_0 h0_0 h1_0 L => ⟨98, #[], #[], rfl, ⟨_, Tryz.func98, by kernel_rfl, by kernel_rfl⟩, by
  simp only [List.append_toArray, List.nil_append, List.append_nil, Array.append_empty, Array.empty_append, List.push_append_toArray, List.cons_append]
  exact aggr_values_count_walk  h0_0 h1_0  (some_inj hr) L⟩⟩
/-! 99 aggr_values_group  -/
noncomputable def aggr_values_group (a0 : List Fl) (a1 : Fl) : Fl :=
  (some 4607182418800017408 : Fl)
theorem aggr_values_group_walk {a0 : List Fl} {A0_0 : Option Addr} {n0_0 : Nat} {a1 : Fl} {b1_0 : Nat} {I : Imm} {r : Fl}  (hf0_0 : RepS Kd.flt I A0_0 n0_0 a0)  (hf1_0 : FRep a1 b1_0) (hr : aggr_values_group a0 a1 = r) (L : Own) :
    CallsTo Tryz.prog 99 #[.slice A0_0 a0.length n0_0, .float .f64 b1_0] I L (fun v I' L' => ∃ b0_0, FRep r b0_0 ∧ v = .float .f64 b0_0 ∧ L = L') := by
  replace hr : some (aggr_values_group a0 a1) = some r := congrArg some hr
  unfold aggr_values_group at hr
  refine callsTo_body (N := 5) Tryz.func99 (by kernel_rfl) (by kernel_rfl) (by kernel_rfl) ?_
  refine gk_pick [0, 1] (K' := [(0, .slice A0_0 a0.length n0_0), (1, .float .f64 b1_0)]) (by kernel_rfl) ?_
  refine gk_seq (by kernel_rfl) ?_
  refine gk_region (by kernel_rfl) ?_
  refine gl_pure 1 [] (K' := []) (by kernel_rfl) ?_
  refine gl_atE (by kernel_rfl) ?_
  refine ge_seq ?_
  refine gk_seq (by kernel_rfl) ?_
  refine gk_region (by kernel_rfl) ?_
  refine gl_pure 1 [4] (K' := [(4, .float .f64 4607182418800017408)]) (by kernel_rfl) ?_
  refine gl_atE (by kernel_rfl) ?_
  refine ge_seq ?_
  refine gk_ret (by kernel_rfl) ?_
  obtain rfl := some_inj hr
  exact ge_result trivial (ResOk.tmp (by kernel_rfl) ResOk.nil) (Imm.refl _) ⟨4607182418800017408, (FRep.of 4607182418800017408), rfl, rfl⟩
theorem aggr_values_group_impl88  {I : Imm}  : Fn88 I (.func (.func 99) #[] #[]) (fun x0 x1 => some (aggr_values_group x0 x1)) := ⟨fun I' hI x0 x1 r hr A0_0 c0_0 b1_0 h0_0 h1_0 L => ⟨99, #[], #[], rfl, ⟨_, Tryz.func99, by kernel_rfl, by kernel_rfl⟩, by
  simp only [List.append_toArray, List.nil_append, List.append_nil, Array.append_empty, Array.empty_append, List.push_append_toArray, List.cons_append]
  exact aggr_values_group_walk  h0_0 h1_0  (some_inj hr) L⟩⟩
/-! 100 aggr_values_stdvar  -/
noncomputable def aggr_values_stdvar_l35 (a0 : List Fl) (y1 : Fl) : ((List Fl) × Int) → Option (((List Fl) × Int) ⊕ ((List Fl))) := fun s18 =>
  bif (decide (s18.2 < (a0.length : Int))) then
  (Option.bind (ix a0 s18.2) fun (x38 : Fl) =>
    Option.bind (app s18.1 [(farith .mul (farith .sub x38 y1) (farith .sub x38 y1))]) fun (zs56 : List Fl) =>
    some (Sum.inl (zs56, (IntKind.wrap .i64 (s18.2 + 1)))))
  else
  (some (Sum.inr s18.1))
noncomputable def aggr_values_stdvar (a0 : List Fl) (a1 : Fl) : Option Fl :=
  Option.bind (aggr_values_avg a0 a1) fun (y1 : Fl) =>
  Option.bind (loopO (aggr_values_stdvar_l35 a0 y1) ([], 0)) fun (r16 : (List Fl)) =>
  Option.bind (aggr_values_sum r16 a1) fun (y66 : Fl) =>
  some (farith .quo y66 (some (FloatKind.nearest .f64 (a0.length : Int)) : Fl))
theorem aggr_values_stdvar_walk {a0 : List Fl} {A0_0 : Option Addr} {n0_0 : Nat} {a1 : Fl} {b1_0 : Nat} {I : Imm} {r : Fl}  (hf0_0 : RepS Kd.flt I A0_0 n0_0 a0)  (hf1_0 : FRep a1 b1_0) (hr : aggr_values_stdvar a0 a1 = some r) (L : Own) :
    CallsTo Tryz.prog 100 #[.slice A0_0 a0.length n0_0, .float .f64 b1_0] I L (fun v I' L' => ∃ b0_0, FRep r b0_0 ∧ v = .float .f64 b0_0 ∧ L = L') := by
  unfold aggr_values_stdvar at hr
  refine callsTo_body (N := 36) Tryz.func100 (by kernel_rfl) (by kernel_rfl) (by kernel_rfl) ?_
  refine gk_pick [0, 1] (K' := [(0, .slice A0_0 a0.length n0_0), (1, .float .f64 b1_0)]) (by kernel_rfl) ?_
  refine gk_seq (by kernel_rfl) ?_
  refine gk_region (by kernel_rfl) ?_
  refine gl_pure 1 [0, 1] (K' := [(0, .slice A0_0 a0.length n0_0), (1, .float .f64 b1_0)]) (by kernel_rfl) ?_
  refine gl_atE (by kernel_rfl) ?_
  refine ge_seq ?_
  refine gk_seq (by kernel_rfl) ?_
  refine gk_region (by kernel_rfl) ?_
  refine gl_pure 2 [0, 1, 10, 11] (K' := [(0, .slice A0_0 a0.length n0_0), (1, .float .f64 b1_0), (10, .slice A0_0 a0.length n0_0), (11, .float .f64 b1_0)]) (by kernel_rfl) ?_
  obtain ⟨y1, hx2, hr⟩ := bind_some hr
  refine gl_call (by kernel_rfl) (aggr_values_avg_walk (r := y1) hf0_0 hf1_0 hx2 _) ?_
  rintro v I3 L4 hI5 ⟨z6, hO7, rfl, rfl⟩
  refine gl_pure 1 [0, 1, 5] (K' := [(0, .slice A0_0 a0.length n0_0), (1, .float .f64 b1_0), (5, .float .f64 z6)]) (by kernel_rfl) ?_
  refine gl_atE (by kernel_rfl) ?_
  refine ge_seq ?_
  refine gk_seq (by kernel_rfl) ?_
  refine gk_region (by kernel_rfl) ?_
  refine gl_pure 1 [0, 1, 5, 6] (K' := [(0, .slice A0_0 a0.length n0_0), (1, .float .f64 b1_0), (5, .float .f64 z6), (6, .slice none 0 0)]) (by kernel_rfl) ?_
  refine gl_atE (by kernel_rfl) ?_
  refine ge_seq ?_
  refine gk_seq (by kernel_rfl) ?_
  refine gk_seq (by kernel_rfl) ?_
  refine gk_region (by kernel_rfl) ?_
  refine gl_pure 3 [0, 1, 5, 6, 13, 14, 15] (K' := [(0, .slice A0_0 a0.length n0_0), (1, .float .f64 b1_0), (5, .float .f64 z6), (6, .slice none 0 0), (13, .slice A0_0 a0.length n0_0), (14, .int .i64 (a0.length : Int)), (15, .int .i64 0)]) (by kernel_rfl) ?_
  refine gl_atE (by kernel_rfl) ?_
  refine ge_seq ?_
  obtain ⟨r16, hl17, hr⟩ := bind_some hr
  refine gk_join (fun t I' L' => ∃ A29 n30 C31, OwnS Kd.flt 37 I' A29 n30 r16 C31 ∧ I3 ≤ I' ∧ C31 ++ L = L' ∧ Knows 36 [(0, .slice A0_0 a0.length n0_0), (1, .float .f64 b1_0), (6, .slice A29 r16.length n30)] t) ?_ ?_
  · refine gk_block (by kernel_rfl) ?_
    refine gk_pick [0, 1, 5, 6, 13, 14, 15] (K' := [(0, .slice A0_0 a0.length n0_0), (1, .float .f64 b1_0), (5, .float .f64 z6), (6, .slice none 0 0), (13, .slice A0_0 a0.length n0_0), (14, .int .i64 (a0.length : Int)), (15, .int .i64 0)]) (by kernel_rfl) ?_
    intro t hK
    refine gc_loop (aggr_values_stdvar_l35 a0 y1) (fun s18 t I' L' => ∃ A22 n23 C24, OwnS Kd.flt 37 I' A22 n23 s18.1 C24 ∧ I3 ≤ I' ∧ C24 ++ L = L' ∧ Knows 36 [(0, .slice A0_0 a0.length n0_0), (1, .float .f64 b1_0), (5, .float .f64 z6), (6, .slice A22 s18.1.length n23), (13, .slice A0_0 a0.length n0_0), (14, .int .i64 (a0.length : Int)), (15, .int .i64 s18.2)] t) (by kernel_rfl) ?_ hl17 ⟨none, 0, [], OwnS.nil _ _ _ _, (Imm.refl _), rfl, hK⟩
    rintro s18 o19 t I27 L' hb20 ⟨A22, n23, C24, hO25, hI21, rfl, hK26⟩
    unfold aggr_values_stdvar_l35 at hb20
    refine gk_at hK26 ?_
    refine gk_seq (by kernel_rfl) ?_
    refine gk_region (by kernel_rfl) ?_
    refine gl_pure 1 [0, 1, 5, 6, 13, 14, 15, 16] (K' := [(0, .slice A0_0 a0.length n0_0), (1, .float .f64 b1_0), (5, .float .f64 z6), (6, .slice A22 s18.1.length n23), (13, .slice A0_0 a0.length n0_0), (14, .int .i64 (a0.length : Int)), (15, .int .i64 s18.2), (16, .bool (decide (s18.2 < (a0.length : Int))))]) (by kernel_rfl) ?_
    refine gl_atE (by kernel_rfl) ?_
    refine ge_seq ?_
    refine gk_seq (by kernel_rfl) ?_
    refine gk_cond (b := (decide (s18.2 < (a0.length : Int)))) (by kernel_rfl) (by kernel_rfl) (fun hc37 => ?_) (fun hc37 => ?_)
    · have hb20 := cond_t hc37 hb20
      refine gk_skip (by kernel_rfl) ?_
      refine ge_seq ?_
      refine gk_seq (by kernel_rfl) ?_
      refine gk_block (by kernel_rfl) ?_
      refine gk_seq (by kernel_rfl) ?_
      refine gk_region (by kernel_rfl) ?_
      obtain ⟨x38, hx39, hb20⟩ := bind_some hb20
      obtain ⟨p40, cs41, hR42, hA43, ha44⟩ := RepS.ixAt hx39 (hf0_0.mono (Imm.trans hI5 hI21))
      have hi45 := ix_some hx39
      obtain ⟨b46, rfl, hf47⟩ := hR42
      refine gl_indexAddrF (c := n0_0) (T' := 92) (e := 37) (xs := (.tmp 13)) (xi := (.tmp 15)) (kd := .i64) ha44 hi45.1 hi45.2.1 (by kernel_rfl) (by kernel_rfl) (by kernel_rfl) (by kernel_rfl) (by kernel_rfl) ?_
      refine gl_load (T' := 37) (xp := (.tmp 17)) (p := p40) (c := .float .f64 b46) (n := 1) (by kernel_rfl) (by kernel_rfl) (by kernel_rfl) (by kernel_rfl) hA43 ?_
      refine gl_pure 1 [0, 1, 5, 6, 8, 13, 14, 15] (K' := [(0, .slice A0_0 a0.length n0_0), (1, .float .f64 b1_0), (5, .float .f64 z6), (6, .slice A22 s18.1.length n23), (8, .float .f64 b46), (13, .slice A0_0 a0.length n0_0), (14, .int .i64 (a0.length : Int)), (15, .int .i64 s18.2)]) (by kernel_rfl) ?_
      refine gl_atE (by kernel_rfl) ?_
      refine ge_seq ?_
      refine gk_seq (by kernel_rfl) ?_
      refine gk_region (by kernel_rfl) ?_
      refine gl_pure 2 [0, 1, 5, 6, 13, 14, 15, 19, 20] (K' := [(0, .slice A0_0 a0.length n0_0), (1, .float .f64 b1_0), (5, .float .f64 z6), (6, .slice A22 s18.1.length n23), (13, .slice A0_0 a0.length n0_0), (14, .int .i64 (a0.length : Int)), (15, .int .i64 s18.2), (19, .float .f64 b46), (20, .float .f64 z6)]) (by kernel_rfl) ?_
      refine gl_farith (op := .sub) (t := 37) (t' := 37) (xx := (.tmp 19)) (yy := (.tmp 20)) hf47 hO7 (by kernel_rfl) (by kernel_rfl) rfl (by kernel_rfl) (by kernel_rfl) (fun b48 hf49 => ?_)
      refine gl_pure 1 [0, 1, 5, 6, 9, 13, 14, 15] (K' := [(0, .slice A0_0 a0.length n0_0), (1, .float .f64 b1_0), (5, .float .f64 z6), (6, .slice A22 s18.1.length n23), (9, .float .f64 b48), (13, .slice A0_0 a0.length n0_0), (14, .int .i64 (a0.length : Int)), (15, .int .i64 s18.2)]) (by kernel_rfl) ?_
      refine gl_atE (by kernel_rfl) ?_
      refine ge_seq ?_
      refine gk_region (by kernel_rfl) ?_
      refine gl_pure 3 [0, 1, 5, 13, 14, 15, 22, 23, 24] (K' := [(0, .slice A0_0 a0.length n0_0), (1, .float .f64 b1_0), (5, .float .f64 z6), (13, .slice A0_0 a0.length n0_0), (14, .int .i64 (a0.length : Int)), (15, .int .i64 s18.2), (22, .slice A22 s18.1.length n23), (23, .float .f64 b48), (24, .float .f64 b48)]) (by kernel_rfl) ?_
      refine gl_farith (op := .mul) (t := 37) (t' := 37) (xx := (.tmp 23)) (yy := (.tmp 24)) hf49 hf49 (by kernel_rfl) (by kernel_rfl) rfl (by kernel_rfl) (by kernel_rfl) (fun b50 hf51 => ?_)
      refine gl_buildSlice (T' := 92) (e := 37) (n := 1) (len := 1) (parts := #[(0, (.tmp 25))]) (l := [(0, .float .f64 b50)]) (cs := #[.float .f64 b50]) (by kernel_rfl) (by kernel_rfl) (by kernel_rfl) (by kernel_rfl) (by kernel_rfl) (fun g52 => ?_)
      have hO53 : OwnS Kd.flt 37 I27 (some ⟨g52, 0, none⟩) 1 [(farith .mul (farith .sub x38 y1) (farith .sub x38 y1))] [(g52, .cells #[.float .f64 b50] 37)] := OwnS.lit (row_cons (l := [.float .f64 b50]) ⟨_, rfl, hf51⟩ (row_nil _ _)) rfl rfl rfl
      refine gl_reord (D := [(g52, .cells #[.float .f64 b50] 37)] ++ (C24 ++ L)) (Reord.refl _) ?_
      obtain ⟨zs56, hz57, hb20⟩ := bind_some hb20
      refine gl_append (xv := .slice (some ⟨g52, 0, none⟩) [(farith .mul (farith .sub x38 y1) (farith .sub x38 y1))].length 1) (d := Kd.flt) (t := 92) (tx := 92) (e := 37) (s := (.tmp 22)) (x := (.tmp 26)) (xs := s18.1) (fun X => [(g52, .cells #[.float .f64 b50] 37)] ++ (X ++ L)) hz57 (by kernel_rfl) (by kernel_rfl) (by kernel_rfl) (by kernel_rfl) (by kernel_rfl) (by kernel_rfl) (fun X => (Upd.app _ (Upd.head _ X _))) hO25 (SrcOk.slice (c := 1) (e := 37) (n := 1) (OwnS.rd hO53 (Upd.selfC _ _)) (by kernel_rfl)) (fun A58 n59 C60 hO61 => ?_)
      refine gl_pure 1 [0, 1, 5, 6, 13, 14, 15] (K' := [(0, .slice A0_0 a0.length n0_0), (1, .float .f64 b1_0), (5, .float .f64 z6), (6, .slice A58 zs56.length n59), (13, .slice A0_0 a0.length n0_0), (14, .int .i64 (a0.length : Int)), (15, .int .i64 s18.2)]) (by kernel_rfl) ?_
      refine gl_atE (by kernel_rfl) ?_
      refine ge_block_normal ?_
      refine ge_seq ?_
      refine gk_region (by kernel_rfl) ?_
      refine gl_pure 2 [0, 1, 5, 6, 13, 14, 15] (K' := [(0, .slice A0_0 a0.length n0_0), (1, .float .f64 b1_0), (5, .float .f64 z6), (6, .slice A58 zs56.length n59), (13, .slice A0_0 a0.length n0_0), (14, .int .i64 (a0.length : Int)), (15, .int .i64 (IntKind.wrap .i64 (s18.2 + 1)))]) (by kernel_rfl) ?_
      refine gl_reord (D := C60 ++ L) (Reord.step (Upd.app _ (Upd.rmC _ _)) (Reord.skipC (Reord.refl _))) ?_
      refine gl_atE (by kernel_rfl) ?_
      obtain rfl := some_inj hb20
      exact ge_round fun t ht => ⟨A58, n59, C60, hO61, hI21, rfl, ht.pick (l := [0, 1, 5, 6, 13, 14, 15]) (by kernel_rfl)⟩
    · have hb20 := cond_f hc37 hb20
      refine gk_exit (by kernel_rfl) ?_
      refine ge_seq_exit ?_
      obtain rfl := some_inj hb20
      refine ge_round_out (fun hrr => ?_) (by intro h; cases h)
      obtain rfl := hrr
      refine ge_block_hit (by kernel_rfl) ?_
      exact ge_mid fun t ht => ⟨A22, n23, C24, hO25, hI21, rfl, ht.pick (l := [0, 1, 6]) (by kernel_rfl)⟩
  · rintro t I34 L' ⟨A29, n30, C31, hO32, hI28, rfl, hK33⟩
    refine ge_at hK33 ?_
    refine ge_seq ?_
    refine gk_seq (by kernel_rfl) ?_
    refine gk_region (by kernel_rfl) ?_
    refine gl_pure 2 [0, 29, 30] (K' := [(0, .slice A0_0 a0.length n0_0), (29, .slice A29 r16.length n30), (30, .float .f64 b1_0)]) (by kernel_rfl) ?_
    refine gl_rest (Tk.step (Upd.rmC _ _) (Tk.nil _)) (fun J62 hJ63 hC64 => ?_)
    have hf65 := (OwnS.rest hO32 hJ63 hC64.left)
    obtain ⟨y66, hx67, hr⟩ := bind_some hr
    refine gl_call (by kernel_rfl) (aggr_values_sum_walk (r := y66) hf65 hf1_0 hx67 _) ?_
    rintro v I68 L69 hI70 ⟨z71, hO72, rfl, rfl⟩
    refine gl_pure 3 [31, 34] (K' := [(31, .float .f64 z71), (34, .float .f64 (FloatKind.nearest .f64 (a0.length : Int)))]) (by kernel_rfl) ?_
    refine gl_farith (op := .quo) (t := 37) (t' := 37) (xx := (.tmp 31)) (yy := (.tmp 34)) hO72 (FRep.of (FloatKind.nearest .f64 (a0.length : Int))) (by kernel_rfl) (by kernel_rfl) rfl (by kernel_rfl) (by kernel_rfl) (fun b73 hf74 => ?_)
    refine gl_pure 1 [4] (K' := [(4, .float .f64 b73)]) (by kernel_rfl) ?_
    refine gl_atE (by kernel_rfl) ?_
    refine ge_seq ?_
    refine gk_ret (by kernel_rfl) ?_
    obtain rfl := some_inj hr
    exact ge_result trivial (ResOk.tmp (by kernel_rfl) ResOk.nil) (Imm.trans (Imm.trans (Imm.trans hI5 hI28) hJ63) hI70) ⟨b73, hf74, rfl, rfl⟩
theorem aggr_values_stdvar_impl88  {I : Imm}  : Fn88 I (.func (.func 100) #[] #[]) aggr_values_stdvar := ⟨fun I' hI x0 x1 r hr A0_0 c0_0 b1_0 h0_0 h1_0 L => ⟨100, #[], #[], rfl, ⟨_, Tryz.func100, by kernel_rfl, by kernel_rfl⟩, by
  simp only [List.append_toArray, List.nil_append, List.append_nil, Array.append_empty, Array.empty_append, List.push_append_toArray, List.cons_append]
  exact aggr_values_stdvar_walk  h0_0 h1_0  hr L⟩⟩
/-! 65 math_Sqrt  -/
noncomputable def math_Sqrt (a0 : Fl) : Fl :=
  (fsqrt a0)
theorem math_Sqrt_walk {a0 : Fl} {b0_0 : Nat} {I : Imm} {r : Fl}  (hf0_0 : FRep a0 b0_0) (hr : math_Sqrt a0 = r) (L : Own) :
    CallsTo Tryz.prog 65 #[.float .f64 b0_0] I L (fun v I' L' => ∃ b0_0, FRep r b0_0 ∧ v = .float .f64 b0_0 ∧ L = L') := by
  replace hr : some (math_Sqrt a0) = some r := congrArg some hr
  unfold math_Sqrt at hr
  refine callsTo_body (N := 5) Tryz.func65 (by kernel_rfl) (by kernel_rfl) (by kernel_rfl) ?_
  refine gk_pick [0] (K' := [(0, .float .f64 b0_0)]) (by kernel_rfl) ?_
  refine gk_seq (by kernel_rfl) ?_
  refine gk_region (by kernel_rfl) ?_
  refine gl_pure 1 [0] (K' := [(0, .float .f64 b0_0)]) (by kernel_rfl) ?_
  refine gl_atE (by kernel_rfl) ?_
  refine ge_seq ?_
  refine gk_seq (by kernel_rfl) ?_
  refine gk_region (by kernel_rfl) ?_
  refine gl_pure 1 [3] (K' := [(3, .float .f64 b0_0)]) (by kernel_rfl) ?_
  refine gl_fsqrt hf0_0 Tryz.func113 (by kernel_rfl) (by kernel_rfl) (by kernel_rfl) (by kernel_rfl) (by kernel_rfl) (by kernel_rfl) (fun b1 hf2 => ?_)
  refine gl_pure 1 [2] (K' := [(2, .float .f64 b1)]) (by kernel_rfl) ?_
  refine gl_atE (by kernel_rfl) ?_
  refine ge_seq ?_
  refine gk_ret (by kernel_rfl) ?_
  obtain rfl := some_inj hr
  exact ge_result trivial (ResOk.tmp (by kernel_rfl) ResOk.nil) (Imm.refl _) ⟨b1, hf2, rfl, rfl⟩
/-! 101 aggr_values_stddev  -/
noncomputable def aggr_values_stddev (a0 : List Fl) (a1 : Fl) : Option Fl :=
  Option.bind (aggr_values_stdvar a0 a1) fun (y1 : Fl) =>
  some (math_Sqrt y1)
theorem aggr_values_stddev_walk {a0 : List Fl} {A0_0 : Option Addr} {n0_0 : Nat} {a1 : Fl} {b1_0 : Nat} {I : Imm} {r : Fl}  (hf0_0 : RepS Kd.flt I A0_0 n0_0 a0)  (hf1_0 : FRep a1 b1_0) (hr : aggr_values_stddev a0 a1 = some r) (L : Own) :
    CallsTo Tryz.prog 101 #[.slice A0_0 a0.length n0_0, .float .f64 b1_0] I L (fun v I' L' => ∃ b0_0, FRep r b0_0 ∧ v = .float .f64 b0_0 ∧ L = L') := by
  unfold aggr_values_stddev at hr
  refine callsTo_body (N := 9) Tryz.func101 (by kernel_rfl) (by kernel_rfl) (by kernel_rfl) ?_
  refine gk_pick [0, 1] (K' := [(0, .slice A0_0 a0.length n0_0), (1, .float .f64 b1_0)]) (by kernel_rfl) ?_
  refine gk_seq (by kernel_rfl) ?_
  refine gk_region (by kernel_rfl) ?_
  refine gl_pure 1 [0, 1] (K' := [(0, .slice A0_0 a0.length n0_0), (1, .float .f64 b1_0)]) (by kernel_rfl) ?_
  refine gl_atE (by kernel_rfl) ?_
  refine ge_seq ?_
  refine gk_seq (by kernel_rfl) ?_
  refine gk_region (by kernel_rfl) ?_
  refine gl_pure 2 [5, 6] (K' := [(5, .slice A0_0 a0.length n0_0), (6, .float .f64 b1_0)]) (by kernel_rfl) ?_
  obtain ⟨y1, hx2, hr⟩ := bind_some hr
  refine gl_call (by kernel_rfl) (aggr_values_stdvar_walk (r := y1) hf0_0 hf1_0 hx2 _) ?_
  rintro v I3 L4 hI5 ⟨z6, hO7, rfl, rfl⟩
  refine gl_call (by kernel_rfl) (math_Sqrt_walk (r := (math_Sqrt y1)) hO7 rfl _) ?_
  rintro v I8 L9 hI10 ⟨z11, hO12, rfl, rfl⟩
  refine gl_pure 1 [4] (K' := [(4, .float .f64 z11)]) (by kernel_rfl) ?_
  refine gl_atE (by kernel_rfl) ?_
  refine ge_seq ?_
  refine gk_ret (by kernel_rfl) ?_
  obtain rfl := some_inj hr
  exact ge_result trivial (ResOk.tmp (by kernel_rfl) ResOk.nil) (Imm.trans hI5 hI10) ⟨z11, hO12, rfl, rfl⟩
theorem aggr_values_stddev_impl88  {I : Imm}  : Fn88 I (.func (.func 101) #[] #[]) aggr_values_stddev := ⟨fun I' hI x0 x1 r hr A0_0 c0_0 b1_0 h0_0 h1_0 L => ⟨101, #[], #[], rfl, ⟨_, Tryz.func101, by kernel_rfl, by kernel_rfl⟩, by
  simp only [List.append_toArray, List.nil_append, List.append_nil, Array.append_empty, Array.empty_append, List.push_append_toArray, List.cons_append]
  exact aggr_values_stddev_walk  h0_0 h1_0  hr L⟩⟩
/-! 114 math_Inf  -/
/-! 143 slices_Clone_f143  -/
/-! 195 cmp_isNaN  -/
/-! 175 cmp_Compare  -/
/-! 196 cmp_isNaN_f196  -/
/-! 176 cmp_Compare_f176  -/
/-! 145 aggr_ahead  -/
/-! 193 slices_insertionSortCmpFunc ('inp', 'imm', 'imm', ('cfn', 145)) -/
/-! 211 slices_swapRangeCmpFunc ('inp', 'imm', 'imm', 'imm', ('cfn', 145)) -/
/-! 205 slices_rotateCmpFunc ('inp', 'imm', 'imm', 'imm', ('cfn', 145)) -/
/-! 194 slices_symMergeCmpFunc ('inp', 'imm', 'imm', 'imm', ('cfn', 145)): calls itself -/
/-! 174 slices_stableCmpFunc ('inp', 'imm', ('cfn', 145)) -/
/-! 144 slices_SortStableFunc ('inp', ('cfn', 145)) -/
noncomputable def tabf_48 : Nat → (List Fl) → Fl → Option Fl
  | 0, _, _ => none
  | 1, x0, x1 => aggr_values_sum x0 x1
  | 2, x0, x1 => aggr_values_avg x0 x1
  | 3, x0, x1 => aggr_values_min x0 x1
  | 4, x0, x1 => aggr_values_max x0 x1
  | 5, x0, x1 => (fun x0 x1 => some (aggr_values_count x0 x1)) x0 x1
  | 6, x0, x1 => (fun x0 x1 => some (aggr_values_group x0 x1)) x0 x1
  | 7, x0, x1 => aggr_values_stdvar x0 x1
  | 8, x0, x1 => aggr_values_stddev x0 x1
  | _ + 9, x0, x1 => none
theorem tabf_48_fn {I : Imm} : ∀ k : Nat, Fn88 I (tabv_48 k) (tabf_48 k)
  | 0 => ⟨fun _ _ _ _ _ h => by cases h⟩
  | 1 => aggr_values_sum_impl88
  | 2 => aggr_values_avg_impl88
  | 3 => aggr_values_min_impl88
  | 4 => aggr_values_max_impl88
  | 5 => aggr_values_count_impl88
  | 6 => aggr_values_group_impl88
  | 7 => aggr_values_stdvar_impl88
  | 8 => aggr_values_stddev_impl88
  | _ + 9 => ⟨fun _ _ _ _ _ h => by cases h⟩
/-! 52 aggr_told  -/
noncomputable def aggr_told (a0 : Fl) : Fl :=
  bif (math_IsNaN a0) then
  ((some (9221120237041090561 : Int).toNat : Fl))
  else
  (a0)
theorem aggr_told_walk {a0 : Fl} {b0_0 : Nat} {I : Imm} {r : Fl}  (hf0_0 : FRep a0 b0_0) (hr : aggr_told a0 = r) (L : Own) :
    CallsTo Tryz.prog 52 #[.float .f64 b0_0] I L (fun v I' L' => ∃ b0_0, FRep r b0_0 ∧ v = .float .f64 b0_0 ∧ L = L') := by
  replace hr : some (aggr_told a0) = some r := congrArg some hr
  unfold aggr_told at hr
  refine callsTo_body (N := 7) Tryz.func52 (by kernel_rfl) (by kernel_rfl) (by kernel_rfl) ?_
  refine gk_pick [0] (K' := [(0, .float .f64 b0_0)]) (by kernel_rfl) ?_
  refine gk_seq (by kernel_rfl) ?_
  refine gk_region (by kernel_rfl) ?_
  refine gl_pure 1 [0] (K' := [(0, .float .f64 b0_0)]) (by kernel_rfl) ?_
  refine gl_atE (by kernel_rfl) ?_
  refine ge_seq ?_
  refine gk_seq (by kernel_rfl) ?_
  refine gk_seq (by kernel_rfl) ?_
  refine gk_region (by kernel_rfl) ?_
  refine gl_pure 1 [0, 3] (K' := [(0, .float .f64 b0_0), (3, .float .f64 b0_0)]) (by kernel_rfl) ?_
  refine gl_callQ (by kernel_rfl) (math_IsNaN_walk (r := (math_IsNaN a0)) hf0_0 rfl _) ?_
  refine gl_atE (by kernel_rfl) ?_
  refine ge_seq ?_
  refine gk_cond (b := (math_IsNaN a0)) (by kernel_rfl) (by kernel_rfl) (fun hc1 => ?_) (fun hc1 => ?_)
  · have hr := scond_t hc1 hr
    refine gk_seq (by kernel_rfl) ?_
    refine gk_region (by kernel_rfl) ?_
    refine gl_f64from (n := 9221120237041090561) Tryz.func105 (by kernel_rfl) (by kernel_rfl) (by kernel_rfl) (by kernel_rfl) (by kernel_rfl) (by kernel_rfl) ?_
    refine gl_pure 1 [2] (K' := [(2, .float .f64 ((9221120237041090561 : Int).toNat))]) (by kernel_rfl) ?_
    refine gl_atE (by kernel_rfl) ?_
    refine ge_seq ?_
    refine gk_ret (by kernel_rfl) ?_
    refine ge_seq_ret ?_
    obtain rfl := some_inj hr
    exact ge_result trivial (ResOk.tmp (by kernel_rfl) ResOk.nil) (Imm.refl _) ⟨(9221120237041090561 : Int).toNat, (FRep.of (9221120237041090561 : Int).toNat), rfl, rfl⟩
  · have hr := scond_f hc1 hr
    refine gk_skip (by kernel_rfl) ?_
    refine ge_seq ?_
    refine gk_seq (by kernel_rfl) ?_
    refine gk_region (by kernel_rfl) ?_
    refine gl_pure 2 [2] (K' := [(2, .float .f64 b0_0)]) (by kernel_rfl) ?_
    refine gl_atE (by kernel_rfl) ?_
    refine ge_seq ?_
    refine gk_ret (by kernel_rfl) ?_
    obtain rfl := some_inj hr
    exact ge_result trivial (ResOk.tmp (by kernel_rfl) ResOk.nil) (Imm.refl _) ⟨b0_0, hf0_0, rfl, rfl⟩
end Go.Proofs.YtkjkkimnjpodiaaGreatDoor

set_option linter.unusedVariables false
set_option linter.unusedSimpArgs false
set_option maxRecDepth 100000
namespace Go.Proofs.YtkjkkimnjpodiaaGreatDoor
open Go.GB
/-! 18 aggr_Number  -/
noncomputable def aggr_Number_l96 (x51 : List S38) : ((List Fl) × Int) → Option (((List Fl) × Int) ⊕ ((List Fl))) := fun s79 =>
  bif (decide (s79.2 < (x51.length : Int))) then
  (Option.bind (ix x51 s79.2) fun (x99 : S38) =>
    Option.bind (app s79.1 [x99.f1]) fun (zs117 : List Fl) =>
    some (Sum.inl (zs117, (IntKind.wrap .i64 (s79.2 + 1)))))
  else
  (some (Sum.inr s79.1))
noncomputable def aggr_Number_l48 (a0 : ByteArray) (a2 : List ByteArray) (a3 : Bool) (a4 : Fl) (y11 : (List (List S38)) × Int) : ((List S38) × Int) → Option (((List S38) × Int) ⊕ ((List S38))) := fun s31 =>
  bif (decide (s31.2 < (y11.1.length : Int))) then
  (Option.bind (ix y11.1 s31.2) fun (x51 : List S38) =>
    bif ((aggr_fold a0) == 0) then
    (none)
    else
    (Option.bind (loopO (aggr_Number_l96 x51) ([], 0)) fun (r77 : (List Fl)) =>
      Option.bind (ix x51 0) fun (x123 : S38) =>
      Option.bind (aggr_group x123.f0 a2 a3) fun (y136 : (List S76)) =>
      Option.bind (tabf_48 (aggr_fold a0) r77 a4) fun (y152 : Fl) =>
      Option.bind (app s31.1 [(⟨y136, (aggr_told y152)⟩ : S38)]) fun (zs171 : List S38) =>
      some (Sum.inl (zs171, (IntKind.wrap .i64 (s31.2 + 1))))))
  else
  (some (Sum.inr s31.1))
noncomputable def aggr_Number (a0 : ByteArray) (a1 : List S38) (a2 : List ByteArray) (a3 : Bool) (a4 : Fl) : Option ((List S38) × Int) :=
  Option.bind (slices_Contains aggr_Words a0) fun (y8 : Bool) =>
  bif (!y8) then
  (some ([], 60))
  else
  (Option.bind (aggr_Groups a1 a2 a3) fun (y11 : (List (List S38)) × Int) =>
    bif (y11.2 != 0) then
    (some ([], y11.2))
    else
    (Option.bind (loopO (aggr_Number_l48 a0 a2 a3 a4 y11) ([], 0)) fun (r29 : (List S38)) =>
      Option.bind (vec_Vector r29) fun (y181 : (List S38) × Int) =>
      some (y181.1, y181.2)))
theorem aggr_Number_walk {a0 : ByteArray} {a1 : List S38} {A1_0 : Option Addr} {n1_0 : Nat} {a2 : List ByteArray} {A2_0 : Option Addr} {n2_0 : Nat} {a3 : Bool} {a4 : Fl} {b4_0 : Nat} {I : Imm} {r : (List S38) × Int} (hG : Gl I)  (hf1_0 : RepS kS38 I A1_0 n1_0 a1)  (hf2_0 : RepS Kd.str I A2_0 n2_0 a2)  (hf4_0 : FRep a4 b4_0) (hr : aggr_Number a0 a1 a2 a3 a4 = some r) (L : Own) :
    CallsTo Tryz.prog 18 #[.string a0, .slice A1_0 a1.length n1_0, .slice A2_0 a2.length n2_0, .bool a3, .float .f64 b4_0] I L (fun v I' L' => ∃ A0 c0 C0, OwnS kS38 39 I' A0 c0 r.1 C0 ∧ v = .tuple #[.slice A0 r.1.length c0, .int .i64 r.2] ∧ C0 ++ L = L') := by
  unfold aggr_Number at hr
  refine callsTo_body (N := 91) Tryz.func18 (by kernel_rfl) (by kernel_rfl) (by kernel_rfl) ?_
  refine gk_pick [0, 1, 2, 3, 4] (K' := [(0, .string a0), (1, .slice A1_0 a1.length n1_0), (2, .slice A2_0 a2.length n2_0), (3, .bool a3), (4, .float .f64 b4_0)]) (by kernel_rfl) ?_
  refine gk_seq (by kernel_rfl) ?_
  refine gk_region (by kernel_rfl) ?_
  refine gl_pure 2 [0, 1, 2, 3, 4] (K' := [(0, .string a0), (1, .slice A1_0 a1.length n1_0), (2, .slice A2_0 a2.length n2_0), (3, .bool a3), (4, .float .f64 b4_0)]) (by kernel_rfl) ?_
  refine gl_atE (by kernel_rfl) ?_
  refine ge_seq ?_
  refine gk_seq (by kernel_rfl) ?_
  refine gk_seq (by kernel_rfl) ?_
  refine gk_region (by kernel_rfl) ?_
  refine gl_call (by kernel_rfl) (aggr_Words_walk (r := aggr_Words)  rfl _) ?_
  rintro v I1 L2 hI3 ⟨A4, c5, C6, hO7, rfl, rfl⟩
  refine gl_pure 1 [0, 1, 2, 3, 4, 21, 22] (K' := [(0, .string a0), (1, .slice A1_0 a1.length n1_0), (2, .slice A2_0 a2.length n2_0), (3, .bool a3), (4, .float .f64 b4_0), (21, .slice A4 aggr_Words.length c5), (22, .string a0)]) (by kernel_rfl) ?_
  obtain ⟨y8, hx9, hr⟩ := bind_some hr
  refine gl_callB (r := .bool y8) (Tk.step (Upd.rmC _ _) (Tk.nil _)) (by kernel_rfl) (fun J hJ hC => slices_Contains_walk (r := y8) (OwnS.rest hO7 hJ hC.left) hx9 _) ?_
  refine gl_pure 1 [0, 1, 2, 3, 4, 24] (K' := [(0, .string a0), (1, .slice A1_0 a1.length n1_0), (2, .slice A2_0 a2.length n2_0), (3, .bool a3), (4, .float .f64 b4_0), (24, .bool (!y8))]) (by kernel_rfl) ?_
  refine gl_atE (by kernel_rfl) ?_
  refine ge_seq ?_
  refine gk_cond (b := (!y8)) (by kernel_rfl) (by kernel_rfl) (fun hc10 => ?_) (fun hc10 => ?_)
  · have hr := cond_t hc10 hr
    refine gk_seq (by kernel_rfl) ?_
    refine gk_region (by kernel_rfl) ?_
    refine gl_pure 2 [10, 11] (K' := [(10, .slice none 0 0), (11, .int .i64 60)]) (by kernel_rfl) ?_
    refine gl_atE (by kernel_rfl) ?_
    refine ge_seq ?_
    refine gk_reord (D := L) (Reord.skipC (Reord.refl _)) ?_
    refine gk_ret (by kernel_rfl) ?_
    refine ge_seq_ret ?_
    obtain rfl := some_inj hr
    exact ge_result trivial (ResOk.tmp (by kernel_rfl) (ResOk.tmp (by kernel_rfl) ResOk.nil)) hI3 ⟨none, 0, [], OwnS.nil _ _ _ _, rfl, rfl⟩
  · have hr := cond_f hc10 hr
    refine gk_skip (by kernel_rfl) ?_
    refine ge_seq ?_
    refine gk_seq (by kernel_rfl) ?_
    refine gk_region (by kernel_rfl) ?_
    refine gl_pure 3 [0, 2, 3, 4, 26, 27, 28] (K' := [(0, .string a0), (2, .slice A2_0 a2.length n2_0), (3, .bool a3), (4, .float .f64 b4_0), (26, .slice A1_0 a1.length n1_0), (27, .slice A2_0 a2.length n2_0), (28, .bool a3)]) (by kernel_rfl) ?_
    obtain ⟨y11, hx12, hr⟩ := bind_some hr
    refine gl_call (by kernel_rfl) (aggr_Groups_walk (r := y11) (hG.mono hI3) (hf1_0.mono hI3) (hf2_0.mono hI3) hx12 _) ?_
    rintro v I13 L14 hI15 ⟨A16, c17, C18, hO19, rfl, rfl⟩
    refine gl_pure 5 [0, 2, 3, 4, 12, 13] (K' := [(0, .string a0), (2, .slice A2_0 a2.length n2_0), (3, .bool a3), (4, .float .f64 b4_0), (12, .slice A16 y11.1.length c17), (13, .int .i64 y11.2)]) (by kernel_rfl) ?_
    refine gl_atE (by kernel_rfl) ?_
    refine ge_seq ?_
    refine gk_seq (by kernel_rfl) ?_
    refine gk_seq (by kernel_rfl) ?_
    refine gk_region (by kernel_rfl) ?_
    refine gl_pure 2 [0, 2, 3, 4, 12, 13, 33] (K' := [(0, .string a0), (2, .slice A2_0 a2.length n2_0), (3, .bool a3), (4, .float .f64 b4_0), (12, .slice A16 y11.1.length c17), (13, .int .i64 y11.2), (33, .bool (y11.2 != 0))]) (by kernel_rfl) ?_
    refine gl_atE (by kernel_rfl) ?_
    refine ge_seq ?_
    refine gk_cond (b := (y11.2 != 0)) (by kernel_rfl) (by kernel_rfl) (fun hc20 => ?_) (fun hc20 => ?_)
    · have hr := cond_t hc20 hr
      refine gk_seq (by kernel_rfl) ?_
      refine gk_region (by kernel_rfl) ?_
      refine gl_pure 3 [10, 11] (K' := [(10, .slice none 0 0), (11, .int .i64 y11.2)]) (by kernel_rfl) ?_
      refine gl_atE (by kernel_rfl) ?_
      refine ge_seq ?_
      refine gk_reord (D := L) (Reord.skipC (Reord.skipC (Reord.refl _))) ?_
      refine gk_ret (by kernel_rfl) ?_
      refine ge_seq_ret ?_
      obtain rfl := some_inj hr
      exact ge_result trivial (ResOk.tmp (by kernel_rfl) (ResOk.tmp (by kernel_rfl) ResOk.nil)) (Imm.trans hI3 hI15) ⟨none, 0, [], OwnS.nil _ _ _ _, rfl, rfl⟩
    · have hr := cond_f hc20 hr
      refine gk_skip (by kernel_rfl) ?_
      refine ge_seq ?_
      refine gk_seq (by kernel_rfl) ?_
      refine gk_region (by kernel_rfl) ?_
      refine gl_pure 1 [0, 2, 3, 4, 12, 35] (K' := [(0, .string a0), (2, .slice A2_0 a2.length n2_0), (3, .bool a3), (4, .float .f64 b4_0), (12, .slice A16 y11.1.length c17), (35, .string a0)]) (by kernel_rfl) ?_
      refine gl_callQ (by kernel_rfl) (aggr_fold_walk (r := (aggr_fold a0))  rfl _) ?_
      refine gl_pure 1 [0, 2, 3, 4, 12, 14] (K' := [(0, .string a0), (2, .slice A2_0 a2.length n2_0), (3, .bool a3), (4, .float .f64 b4_0), (12, .slice A16 y11.1.length c17), (14, (tabv_48 (aggr_fold a0)))]) (by kernel_rfl) ?_
      refine gl_atE (by kernel_rfl) ?_
      refine ge_seq ?_
      refine gk_seq (by kernel_rfl) ?_
      refine gk_region (by kernel_rfl) ?_
      refine gl_pure 1 [0, 2, 3, 4, 12, 14, 15] (K' := [(0, .string a0), (2, .slice A2_0 a2.length n2_0), (3, .bool a3), (4, .float .f64 b4_0), (12, .slice A16 y11.1.length c17), (14, (tabv_48 (aggr_fold a0))), (15, .slice none 0 0)]) (by kernel_rfl) ?_
      refine gl_atE (by kernel_rfl) ?_
      refine ge_seq ?_
      refine gk_seq (by kernel_rfl) ?_
      refine gk_seq (by kernel_rfl) ?_
      refine gk_region (by kernel_rfl) ?_
      refine gl_pure 3 [0, 2, 3, 4, 14, 15, 37, 38, 39] (K' := [(0, .string a0), (2, .slice A2_0 a2.length n2_0), (3, .bool a3), (4, .float .f64 b4_0), (14, (tabv_48 (aggr_fold a0))), (15, .slice none 0 0), (37, .slice A16 y11.1.length c17), (38, .int .i64 (y11.1.length : Int)), (39, .int .i64 0)]) (by kernel_rfl) ?_
      refine gl_atE (by kernel_rfl) ?_
      refine ge_seq ?_
      obtain ⟨r29, hl30, hr⟩ := bind_some hr
      refine gk_reord (D := C18 ++ L) (Reord.step (Upd.rmC _ _) (Reord.skipC (Reord.refl _))) ?_
      refine gk_join (fun t I' L' => ∃ A42 n43 C44, OwnS kS38 39 I' A42 n43 r29 C44 ∧ I13 ≤ I' ∧ C44 ++ L = L' ∧ Knows 91 [(15, .slice A42 r29.length n43)] t) ?_ ?_
      · refine gk_block (by kernel_rfl) ?_
        refine gk_pick [0, 2, 3, 4, 14, 15, 37, 38, 39] (K' := [(0, .string a0), (2, .slice A2_0 a2.length n2_0), (3, .bool a3), (4, .float .f64 b4_0), (14, (tabv_48 (aggr_fold a0))), (15, .slice none 0 0), (37, .slice A16 y11.1.length c17), (38, .int .i64 (y11.1.length : Int)), (39, .int .i64 0)]) (by kernel_rfl) ?_
        intro t hK
        refine gc_loop (aggr_Number_l48 a0 a2 a3 a4 y11) (fun s31 t I' L' => ∃ A35 n36 C37, OwnS kS38 39 I' A35 n36 s31.1 C37 ∧ I13 ≤ I' ∧ C37 ++ (C18 ++ L) = L' ∧ Knows 91 [(0, .string a0), (2, .slice A2_0 a2.length n2_0), (3, .bool a3), (4, .float .f64 b4_0), (14, (tabv_48 (aggr_fold a0))), (15, .slice A35 s31.1.length n36), (37, .slice A16 y11.1.length c17), (38, .int .i64 (y11.1.length : Int)), (39, .int .i64 s31.2)] t) (by kernel_rfl) ?_ hl30 ⟨none, 0, [], OwnS.nil _ _ _ _, (Imm.refl _), rfl, hK⟩
        rintro s31 o32 t I40 L' hb33 ⟨A35, n36, C37, hO38, hI34, rfl, hK39⟩
        unfold aggr_Number_l48 at hb33
        refine gk_at hK39 ?_
        refine gk_seq (by kernel_rfl) ?_
        refine gk_region (by kernel_rfl) ?_
        refine gl_pure 1 [0, 2, 3, 4, 14, 15, 37, 38, 39, 40] (K' := [(0, .string a0), (2, .slice A2_0 a2.length n2_0), (3, .bool a3), (4, .float .f64 b4_0), (14, (tabv_48 (aggr_fold a0))), (15, .slice A35 s31.1.length n36), (37, .slice A16 y11.1.length c17), (38, .int .i64 (y11.1.length : Int)), (39, .int .i64 s31.2), (40, .bool (decide (s31.2 < (y11.1.length : Int))))]) (by kernel_rfl) ?_
        refine gl_atE (by kernel_rfl) ?_
        refine ge_seq ?_
        refine gk_seq (by kernel_rfl) ?_
        refine gk_cond (b := (decide (s31.2 < (y11.1.length : Int)))) (by kernel_rfl) (by kernel_rfl) (fun hc50 => ?_) (fun hc50 => ?_)
        · have hb33 := cond_t hc50 hb33
          refine gk_skip (by kernel_rfl) ?_
          refine ge_seq ?_
          refine gk_seq (by kernel_rfl) ?_
          refine gk_block (by kernel_rfl) ?_
          refine gk_seq (by kernel_rfl) ?_
          refine gk_region (by kernel_rfl) ?_
          obtain ⟨x51, hx52, hb33⟩ := bind_some hb33
          refine gl_indexAddrW (d := (Kd.sl kS38)) (c := c17) (T' := 48) (e := 22) (xs := (.tmp 37)) (xi := (.tmp 39)) (kd := .i64) hx52 (hO19.mono hI34) (Upd.app _ (Upd.selfC _ _)) (by kernel_rfl) (by kernel_rfl) (by kernel_rfl) (by kernel_rfl) (by kernel_rfl) (fun p53 cs54 hR55 hA56 hp62 => ?_)
          obtain ⟨A59, n60, rfl, hf61⟩ := sl_open hR55
          refine gl_loadO (T' := 22) (xp := (.tmp 41)) (p := p53) (c := .slice A59 x51.length n60) (n := 1) (by kernel_rfl) (by kernel_rfl) (by kernel_rfl) (by kernel_rfl) hA56 ?_
          refine gl_pure 1 [0, 2, 3, 4, 14, 15, 17, 37, 38, 39] (K' := [(0, .string a0), (2, .slice A2_0 a2.length n2_0), (3, .bool a3), (4, .float .f64 b4_0), (14, (tabv_48 (aggr_fold a0))), (15, .slice A35 s31.1.length n36), (17, .slice A59 x51.length n60), (37, .slice A16 y11.1.length c17), (38, .int .i64 (y11.1.length : Int)), (39, .int .i64 s31.2)]) (by kernel_rfl) ?_
          refine gl_atE (by kernel_rfl) ?_
          refine ge_seq ?_
          refine gk_seq (by kernel_rfl) ?_
          refine gk_seq (by kernel_rfl) ?_
          refine gk_region (by kernel_rfl) ?_
          refine gl_pure 1 [0, 2, 3, 4, 14, 15, 17, 37, 38, 39, 43] (K' := [(0, .string a0), (2, .slice A2_0 a2.length n2_0), (3, .bool a3), (4, .float .f64 b4_0), (14, (tabv_48 (aggr_fold a0))), (15, .slice A35 s31.1.length n36), (17, .slice A59 x51.length n60), (37, .slice A16 y11.1.length c17), (38, .int .i64 (y11.1.length : Int)), (39, .int .i64 s31.2), (43, (tabv_48 (aggr_fold a0)))]) (by kernel_rfl) ?_
          refine gl_eqNilTab (neg := false) (b := ((aggr_fold a0) == 0)) (t := 88) (t' := 88) (x := (.tmp 43)) (y := (.const (.nilFunc))) (tabv_48_cases (aggr_fold a0)) (by kernel_rfl) (by kernel_rfl) (by kernel_rfl) (by kernel_rfl) (by kernel_rfl) ?_
          refine gl_atE (by kernel_rfl) ?_
          refine ge_seq ?_
          refine gk_cond (b := ((aggr_fold a0) == 0)) (by kernel_rfl) (by kernel_rfl) (fun hc63 => ?_) (fun hc63 => ?_)
          · have hb33 := cond_t hc63 hb33
            cases hb33
          · have hb33 := cond_f hc63 hb33
            refine gk_skip (by kernel_rfl) ?_
            refine ge_seq ?_
            refine gk_seq (by kernel_rfl) ?_
            refine gk_region (by kernel_rfl) ?_
            refine gl_pure 1 [0, 2, 3, 4, 14, 15, 17, 18, 37, 38, 39] (K' := [(0, .string a0), (2, .slice A2_0 a2.length n2_0), (3, .bool a3), (4, .float .f64 b4_0), (14, (tabv_48 (aggr_fold a0))), (15, .slice A35 s31.1.length n36), (17, .slice A59 x51.length n60), (18, .slice none 0 0), (37, .slice A16 y11.1.length c17), (38, .int .i64 (y11.1.length : Int)), (39, .int .i64 s31.2)]) (by kernel_rfl) ?_
            refine gl_atE (by kernel_rfl) ?_
            refine ge_seq ?_
            refine gk_seq (by kernel_rfl) ?_
            refine gk_seq (by kernel_rfl) ?_
            refine gk_region (by kernel_rfl) ?_
            refine gl_pure 3 [0, 2, 3, 4, 14, 15, 17, 18, 37, 38, 39, 58, 59, 60] (K' := [(0, .string a0), (2, .slice A2_0 a2.length n2_0), (3, .bool a3), (4, .float .f64 b4_0), (14, (tabv_48 (aggr_fold a0))), (15, .slice A35 s31.1.length n36), (17, .slice A59 x51.length n60), (18, .slice none 0 0), (37, .slice A16 y11.1.length c17), (38, .int .i64 (y11.1.length : Int)), (39, .int .i64 s31.2), (58, .slice A59 x51.length n60), (59, .int .i64 (x51.length : Int)), (60, .int .i64 0)]) (by kernel_rfl) ?_
            refine gl_atE (by kernel_rfl) ?_
            refine ge_seq ?_
            obtain ⟨r77, hl78, hb33⟩ := bind_some hb33
            refine gk_join (fun t I' L' => ∃ A90 n91 C92, OwnS Kd.flt 37 I' A90 n91 r77 C92 ∧ I40 ≤ I' ∧ C92 ++ (C37 ++ (C18 ++ L)) = L' ∧ Knows 91 [(0, .string a0), (2, .slice A2_0 a2.length n2_0), (3, .bool a3), (4, .float .f64 b4_0), (14, (tabv_48 (aggr_fold a0))), (15, .slice A35 s31.1.length n36), (17, .slice A59 x51.length n60), (18, .slice A90 r77.length n91), (37, .slice A16 y11.1.length c17), (38, .int .i64 (y11.1.length : Int)), (39, .int .i64 s31.2)] t) ?_ ?_
            · refine gk_block (by kernel_rfl) ?_
              refine gk_pick [0, 2, 3, 4, 14, 15, 17, 18, 37, 38, 39, 58, 59, 60] (K' := [(0, .string a0), (2, .slice A2_0 a2.length n2_0), (3, .bool a3), (4, .float .f64 b4_0), (14, (tabv_48 (aggr_fold a0))), (15, .slice A35 s31.1.length n36), (17, .slice A59 x51.length n60), (18, .slice none 0 0), (37, .slice A16 y11.1.length c17), (38, .int .i64 (y11.1.length : Int)), (39, .int .i64 s31.2), (58, .slice A59 x51.length n60), (59, .int .i64 (x51.length : Int)), (60, .int .i64 0)]) (by kernel_rfl) ?_
              intro t hK
              refine gc_loop (aggr_Number_l96 x51) (fun s79 t I' L' => ∃ A83 n84 C85, OwnS Kd.flt 37 I' A83 n84 s79.1 C85 ∧ I40 ≤ I' ∧ C85 ++ (C37 ++ (C18 ++ L)) = L' ∧ Knows 91 [(0, .string a0), (2, .slice A2_0 a2.length n2_0), (3, .bool a3), (4, .float .f64 b4_0), (14, (tabv_48 (aggr_fold a0))), (15, .slice A35 s31.1.length n36), (17, .slice A59 x51.length n60), (18, .slice A83 s79.1.length n84), (37, .slice A16 y11.1.length c17), (38, .int .i64 (y11.1.length : Int)), (39, .int .i64 s31.2), (58, .slice A59 x51.length n60), (59, .int .i64 (x51.length : Int)), (60, .int .i64 s79.2)] t) (by kernel_rfl) ?_ hl78 ⟨none, 0, [], OwnS.nil _ _ _ _, (Imm.refl _), rfl, hK⟩
              rintro s79 o80 t I88 L' hb81 ⟨A83, n84, C85, hO86, hI82, rfl, hK87⟩
              unfold aggr_Number_l96 at hb81
              refine gk_at hK87 ?_
              refine gk_seq (by kernel_rfl) ?_
              refine gk_region (by kernel_rfl) ?_
              refine gl_pure 1 [0, 2, 3, 4, 14, 15, 17, 18, 37, 38, 39, 58, 59, 60, 61] (K' := [(0, .string a0), (2, .slice A2_0 a2.length n2_0), (3, .bool a3), (4, .float .f64 b4_0), (14, (tabv_48 (aggr_fold a0))), (15, .slice A35 s31.1.length n36), (17, .slice A59 x51.length n60), (18, .slice A83 s79.1.length n84), (37, .slice A16 y11.1.length c17), (38, .int .i64 (y11.1.length : Int)), (39, .int .i64 s31.2), (58, .slice A59 x51.length n60), (59, .int .i64 (x51.length : Int)), (60, .int .i64 s79.2), (61, .bool (decide (s79.2 < (x51.length : Int))))]) (by kernel_rfl) ?_
              refine gl_atE (by kernel_rfl) ?_
              refine ge_seq ?_
              refine gk_seq (by kernel_rfl) ?_
              refine gk_cond (b := (decide (s79.2 < (x51.length : Int)))) (by kernel_rfl) (by kernel_rfl) (fun hc98 => ?_) (fun hc98 => ?_)
              · have hb81 := cond_t hc98 hb81
                refine gk_skip (by kernel_rfl) ?_
                refine ge_seq ?_
                refine gk_seq (by kernel_rfl) ?_
                refine gk_block (by kernel_rfl) ?_
                refine gk_seq (by kernel_rfl) ?_
                refine gk_region (by kernel_rfl) ?_
                obtain ⟨x99, hx100, hb81⟩ := bind_some hb81
                obtain ⟨p101, cs102, hR103, hA104, ha105⟩ := RepS.ixAt hx100 (hf61.mono hI82)
                have hi106 := ix_some hx100
                obtain ⟨A107, n108, b110, hf109, hf111, rfl⟩ := kS38_open hR103
                refine gl_indexAddrF (c := n60) (T' := 22) (e := 39) (xs := (.tmp 58)) (xi := (.tmp 60)) (kd := .i64) ha105 hi106.1 hi106.2.1 (by kernel_rfl) (by kernel_rfl) (by kernel_rfl) (by kernel_rfl) (by kernel_rfl) ?_
                refine gl_loadA (T' := 39) (xp := (.tmp 62)) (p := p101) (cs := [.slice A107 x99.f0.length n108, .float .f64 b110]) (by kernel_rfl) (by kernel_rfl) (by kernel_rfl) (by kernel_rfl) (hA104.take 2) ?_
                refine gl_alloc (T' := 39) (cs := #[.slice none 0 0, .float .f64 0]) (by kernel_rfl) (by kernel_rfl) (by kernel_rfl) (fun g112 => ?_)
                refine gl_storeB (T' := 39) (xp := (.tmp 20)) (xv := (.tmp 63)) (v := .agg #[.slice A107 x99.f0.length n108, .float .f64 b110]) (g := g112) (off := 0) (cs := #[.slice none 0 0, .float .f64 0]) (cs' := #[.slice A107 x99.f0.length n108, .float .f64 b110]) (by kernel_rfl) (by kernel_rfl) (by kernel_rfl) (by kernel_rfl) (by kernel_rfl) (Upd.set _ _ _ _) ?_ (by kernel_rfl)
                refine gl_atE (by kernel_rfl) ?_
                refine ge_seq ?_
                refine gk_region (by kernel_rfl) ?_
                refine gl_pure 2 [0, 2, 3, 4, 14, 15, 17, 37, 38, 39, 58, 59, 60, 64, 65] (K' := [(0, .string a0), (2, .slice A2_0 a2.length n2_0), (3, .bool a3), (4, .float .f64 b4_0), (14, (tabv_48 (aggr_fold a0))), (15, .slice A35 s31.1.length n36), (17, .slice A59 x51.length n60), (37, .slice A16 y11.1.length c17), (38, .int .i64 (y11.1.length : Int)), (39, .int .i64 s31.2), (58, .slice A59 x51.length n60), (59, .int .i64 (x51.length : Int)), (60, .int .i64 s79.2), (64, .slice A83 s79.1.length n84), (65, .pointer (some ⟨g112, 1, none⟩))]) (by kernel_rfl) ?_
                refine gl_loadB (T' := 37) (xp := (.tmp 65)) (v := .float .f64 b110) (g := g112) (off := 1) (cs := #[.slice A107 x99.f0.length n108, .float .f64 b110]) (e := 39) (fz := (0, 0)) (by kernel_rfl) (by kernel_rfl) (by kernel_rfl) List.mem_cons_self (by kernel_rfl) ?_
                refine gl_buildSlice (T' := 92) (e := 37) (n := 1) (len := 1) (parts := #[(0, (.tmp 66))]) (l := [(0, .float .f64 b110)]) (cs := #[.float .f64 b110]) (by kernel_rfl) (by kernel_rfl) (by kernel_rfl) (by kernel_rfl) (by kernel_rfl) (fun g113 => ?_)
                have hO114 : OwnS Kd.flt 37 I88 (some ⟨g113, 0, none⟩) 1 [x99.f1] [(g113, .cells #[.float .f64 b110] 37)] := OwnS.lit (row_cons (l := [.float .f64 b110]) ⟨_, rfl, hf111⟩ (row_nil _ _)) rfl rfl rfl
                refine gl_reord (D := [(g113, .cells #[.float .f64 b110] 37)] ++ ((g112, .cells #[.slice A107 x99.f0.length n108, .float .f64 b110] 39) :: (C85 ++ (C37 ++ (C18 ++ L))))) (Reord.refl _) ?_
                obtain ⟨zs117, hz118, hb81⟩ := bind_some hb81
                refine gl_append (xv := .slice (some ⟨g113, 0, none⟩) [x99.f1].length 1) (d := Kd.flt) (t := 92) (tx := 92) (e := 37) (s := (.tmp 64)) (x := (.tmp 67)) (xs := s79.1) (fun X => [(g113, .cells #[.float .f64 b110] 37)] ++ ((g112, .cells #[.slice A107 x99.f0.length n108, .float .f64 b110] 39) :: (X ++ (C37 ++ (C18 ++ L))))) hz118 (by kernel_rfl) (by kernel_rfl) (by kernel_rfl) (by kernel_rfl) (by kernel_rfl) (by kernel_rfl) (fun X => (Upd.app _ (Upd.one _ (Upd.head _ X _)))) hO86 (SrcOk.slice (c := 1) (e := 37) (n := 1) (OwnS.rd hO114 (Upd.selfC _ _)) (by kernel_rfl)) (fun A119 n120 C121 hO122 => ?_)
                refine gl_pure 1 [0, 2, 3, 4, 14, 15, 17, 18, 37, 38, 39, 58, 59, 60] (K' := [(0, .string a0), (2, .slice A2_0 a2.length n2_0), (3, .bool a3), (4, .float .f64 b4_0), (14, (tabv_48 (aggr_fold a0))), (15, .slice A35 s31.1.length n36), (17, .slice A59 x51.length n60), (18, .slice A119 zs117.length n120), (37, .slice A16 y11.1.length c17), (38, .int .i64 (y11.1.length : Int)), (39, .int .i64 s31.2), (58, .slice A59 x51.length n60), (59, .int .i64 (x51.length : Int)), (60, .int .i64 s79.2)]) (by kernel_rfl) ?_
                refine gl_atE (by kernel_rfl) ?_
                refine ge_block_normal ?_
                refine ge_seq ?_
                refine gk_region (by kernel_rfl) ?_
                refine gl_pure 2 [0, 2, 3, 4, 14, 15, 17, 18, 37, 38, 39, 58, 59, 60] (K' := [(0, .string a0), (2, .slice A2_0 a2.length n2_0), (3, .bool a3), (4, .float .f64 b4_0), (14, (tabv_48 (aggr_fold a0))), (15, .slice A35 s31.1.length n36), (17, .slice A59 x51.length n60), (18, .slice A119 zs117.length n120), (37, .slice A16 y11.1.length c17), (38, .int .i64 (y11.1.length : Int)), (39, .int .i64 s31.2), (58, .slice A59 x51.length n60), (59, .int .i64 (x51.length : Int)), (60, .int .i64 (IntKind.wrap .i64 (s79.2 + 1)))]) (by kernel_rfl) ?_
                refine gl_reord (D := C121 ++ (C37 ++ (C18 ++ L))) (Reord.step (Upd.app _ (Upd.one _ (Upd.rmC _ _))) (Reord.step (Upd.app _ (Upd.one _ (Upd.rmC _ _))) (Reord.step (Upd.app _ (Upd.one _ (Upd.rmC _ _))) (Reord.skipC (Reord.skip (Reord.refl _)))))) ?_
                refine gl_atE (by kernel_rfl) ?_
                obtain rfl := some_inj hb81
                exact ge_round fun t ht => ⟨A119, n120, C121, hO122, hI82, rfl, ht.pick (l := [0, 2, 3, 4, 14, 15, 17, 18, 37, 38, 39, 58, 59, 60]) (by kernel_rfl)⟩
              · have hb81 := cond_f hc98 hb81
                refine gk_exit (by kernel_rfl) ?_
                refine ge_seq_exit ?_
                obtain rfl := some_inj hb81
                refine ge_round_out (fun hrr => ?_) (by intro h; cases h)
                obtain rfl := hrr
                refine ge_block_hit (by kernel_rfl) ?_
                exact ge_mid fun t ht => ⟨A83, n84, C85, hO86, hI82, rfl, ht.pick (l := [0, 2, 3, 4, 14, 15, 17, 18, 37, 38, 39]) (by kernel_rfl)⟩
            · rintro t I95 L' ⟨A90, n91, C92, hO93, hI89, rfl, hK94⟩
              refine ge_at hK94 ?_
              refine ge_seq ?_
              refine gk_region (by kernel_rfl) ?_
              refine gl_pure 2 [0, 2, 3, 4, 14, 18, 37, 38, 39, 70, 71] (K' := [(0, .string a0), (2, .slice A2_0 a2.length n2_0), (3, .bool a3), (4, .float .f64 b4_0), (14, (tabv_48 (aggr_fold a0))), (18, .slice A90 r77.length n91), (37, .slice A16 y11.1.length c17), (38, .int .i64 (y11.1.length : Int)), (39, .int .i64 s31.2), (70, .slice A35 s31.1.length n36), (71, .slice A59 x51.length n60)]) (by kernel_rfl) ?_
              obtain ⟨x123, hx124, hb33⟩ := bind_some hb33
              obtain ⟨p125, cs126, hR127, hA128, ha129⟩ := RepS.ixAt hx124 (hf61.mono hI89)
              have hi130 := ix_some hx124
              obtain ⟨A131, n132, b134, hf133, hf135, rfl⟩ := kS38_open hR127
              refine gl_indexAddrF (c := n60) (T' := 22) (e := 39) (xs := (.tmp 71)) (xi := (.const (.int .i64 0))) (kd := .i64) ha129 hi130.1 hi130.2.1 (by kernel_rfl) (by kernel_rfl) (by kernel_rfl) (by kernel_rfl) (by kernel_rfl) ?_
              refine gl_pure 1 [0, 2, 3, 4, 14, 18, 37, 38, 39, 70, 73] (K' := [(0, .string a0), (2, .slice A2_0 a2.length n2_0), (3, .bool a3), (4, .float .f64 b4_0), (14, (tabv_48 (aggr_fold a0))), (18, .slice A90 r77.length n91), (37, .slice A16 y11.1.length c17), (38, .int .i64 (y11.1.length : Int)), (39, .int .i64 s31.2), (70, .slice A35 s31.1.length n36), (73, .pointer (some (p125.add 0)))]) (by kernel_rfl) ?_
              refine gl_load (T' := 36) (xp := (.tmp 73)) (p := (p125.add 0)) (c := .slice A131 x123.f0.length n132) (n := 1) (by kernel_rfl) (by kernel_rfl) (by kernel_rfl) (by kernel_rfl) (hA128.drop 0) ?_
              refine gl_pure 2 [0, 2, 3, 4, 14, 18, 37, 38, 39, 70, 74, 75, 76] (K' := [(0, .string a0), (2, .slice A2_0 a2.length n2_0), (3, .bool a3), (4, .float .f64 b4_0), (14, (tabv_48 (aggr_fold a0))), (18, .slice A90 r77.length n91), (37, .slice A16 y11.1.length c17), (38, .int .i64 (y11.1.length : Int)), (39, .int .i64 s31.2), (70, .slice A35 s31.1.length n36), (74, .slice A131 x123.f0.length n132), (75, .slice A2_0 a2.length n2_0), (76, .bool a3)]) (by kernel_rfl) ?_
              obtain ⟨y136, hx137, hb33⟩ := bind_some hb33
              refine gl_call (by kernel_rfl) (aggr_group_walk (r := y136) (hG.mono (Imm.trans (Imm.trans (Imm.trans hI3 hI15) hI34) hI89)) hf133 (hf2_0.mono (Imm.trans (Imm.trans (Imm.trans hI3 hI15) hI34) hI89)) hx137 _) ?_
              rintro v I138 L139 hI140 ⟨A141, c142, C143, hO144, rfl, rfl⟩
              refine gl_pure 3 [0, 2, 3, 4, 14, 37, 38, 39, 70, 77, 78, 79, 80] (K' := [(0, .string a0), (2, .slice A2_0 a2.length n2_0), (3, .bool a3), (4, .float .f64 b4_0), (14, (tabv_48 (aggr_fold a0))), (37, .slice A16 y11.1.length c17), (38, .int .i64 (y11.1.length : Int)), (39, .int .i64 s31.2), (70, .slice A35 s31.1.length n36), (77, .slice A141 y136.length c142), (78, (tabv_48 (aggr_fold a0))), (79, .slice A90 r77.length n91), (80, .float .f64 b4_0)]) (by kernel_rfl) ?_
              refine gl_rest (Tk.step (Upd.app _ (Upd.rmC _ _)) (Tk.nil _)) (fun J147 hJ148 hC149 => ?_)
              have hf150 := (OwnS.rest (hO93.mono hI140) hJ148 hC149.left)
              obtain ⟨y152, hx151, hb33⟩ := bind_some hb33
              refine gl_callv (by kernel_rfl) ((tabf_48_fn (aggr_fold a0)).out _ (Imm.refl _) _ _ _ hx151 _ _ _ hf150 hf4_0 _) ?_
              rintro v I153 L154 hI155 ⟨z156, hO157, rfl, rfl⟩
              refine gl_call (by kernel_rfl) (aggr_told_walk (r := (aggr_told y152)) hO157 rfl _) ?_
              rintro v I158 L159 hI160 ⟨z161, hO162, rfl, rfl⟩
              refine gl_pure 1 [0, 2, 3, 4, 14, 37, 38, 39, 70, 83] (K' := [(0, .string a0), (2, .slice A2_0 a2.length n2_0), (3, .bool a3), (4, .float .f64 b4_0), (14, (tabv_48 (aggr_fold a0))), (37, .slice A16 y11.1.length c17), (38, .int .i64 (y11.1.length : Int)), (39, .int .i64 s31.2), (70, .slice A35 s31.1.length n36), (83, .agg #[.slice A141 y136.length c142, .float .f64 z161])]) (by kernel_rfl) ?_
              refine gl_rest (Tk.step (Upd.rmC _ _) (Tk.nil _)) (fun J163 hJ164 hC165 => ?_)
              have hf166 := (OwnS.rest (hO144.mono (Imm.trans (Imm.trans hJ148 hI155) hI160)) hJ164 hC165.left)
              refine gl_buildSlice (T' := 22) (e := 39) (n := 2) (len := 1) (parts := #[(0, (.tmp 83))]) (l := [(0, .agg #[.slice A141 y136.length c142, .float .f64 z161])]) (cs := #[.slice A141 y136.length c142, .float .f64 z161]) (by kernel_rfl) (by kernel_rfl) (by kernel_rfl) (by kernel_rfl) (by kernel_rfl) (fun g167 => ?_)
              have hO168 : OwnS kS38 39 J163 (some ⟨g167, 0, none⟩) 1 [(⟨y136, (aggr_told y152)⟩ : S38)] [(g167, .cells #[.slice A141 y136.length c142, .float .f64 z161] 39)] := OwnS.lit (row_cons (l := [.slice A141 y136.length c142, .float .f64 z161]) (kS38_mk (x := (⟨y136, (aggr_told y152)⟩ : S38)) hf166 hO162) (row_nil _ _)) rfl rfl rfl
              refine gl_reord (D := [(g167, .cells #[.slice A141 y136.length c142, .float .f64 z161] 39)] ++ (C37 ++ (C18 ++ L))) (Reord.refl _) ?_
              obtain ⟨zs171, hz172, hb33⟩ := bind_some hb33
              refine gl_append (xv := .slice (some ⟨g167, 0, none⟩) [(⟨y136, (aggr_told y152)⟩ : S38)].length 1) (d := kS38) (t := 22) (tx := 22) (e := 39) (s := (.tmp 70)) (x := (.tmp 84)) (xs := s31.1) (fun X => [(g167, .cells #[.slice A141 y136.length c142, .float .f64 z161] 39)] ++ (X ++ (C18 ++ L))) hz172 (by kernel_rfl) (by kernel_rfl) (by kernel_rfl) (by kernel_rfl) (by kernel_rfl) (by kernel_rfl) (fun X => (Upd.app _ (Upd.head _ X _))) (hO38.mono (Imm.trans (Imm.trans (Imm.trans (Imm.trans (Imm.trans hI89 hI140) hJ148) hI155) hI160) hJ164)) (SrcOk.slice (c := 1) (e := 39) (n := 2) (OwnS.rd hO168 (Upd.selfC _ _)) (by kernel_rfl)) (fun A173 n174 C175 hO176 => ?_)
              refine gl_pure 1 [0, 2, 3, 4, 14, 15, 37, 38, 39] (K' := [(0, .string a0), (2, .slice A2_0 a2.length n2_0), (3, .bool a3), (4, .float .f64 b4_0), (14, (tabv_48 (aggr_fold a0))), (15, .slice A173 zs171.length n174), (37, .slice A16 y11.1.length c17), (38, .int .i64 (y11.1.length : Int)), (39, .int .i64 s31.2)]) (by kernel_rfl) ?_
              refine gl_atE (by kernel_rfl) ?_
              refine ge_block_normal ?_
              refine ge_seq ?_
              refine gk_region (by kernel_rfl) ?_
              refine gl_pure 2 [0, 2, 3, 4, 14, 15, 37, 38, 39] (K' := [(0, .string a0), (2, .slice A2_0 a2.length n2_0), (3, .bool a3), (4, .float .f64 b4_0), (14, (tabv_48 (aggr_fold a0))), (15, .slice A173 zs171.length n174), (37, .slice A16 y11.1.length c17), (38, .int .i64 (y11.1.length : Int)), (39, .int .i64 (IntKind.wrap .i64 (s31.2 + 1)))]) (by kernel_rfl) ?_
              refine gl_reord (D := C175 ++ (C18 ++ L)) (Reord.step (Upd.app _ (Upd.rmC _ _)) (Reord.step (Upd.app _ (Upd.rmC _ _)) (Reord.skipC (Reord.refl _)))) ?_
              refine gl_atE (by kernel_rfl) ?_
              obtain rfl := some_inj hb33
              exact ge_round fun t ht => ⟨A173, n174, C175, hO176, (Imm.trans (Imm.trans (Imm.trans (Imm.trans (Imm.trans (Imm.trans hI34 hI89) hI140) hJ148) hI155) hI160) hJ164), rfl, ht.pick (l := [0, 2, 3, 4, 14, 15, 37, 38, 39]) (by kernel_rfl)⟩
        · have hb33 := cond_f hc50 hb33
          refine gk_reord (D := C37 ++ L) (Reord.step (Upd.rmC _ _) (Reord.skipC (Reord.refl _))) ?_
          refine gk_exit (by kernel_rfl) ?_
          refine ge_seq_exit ?_
          obtain rfl := some_inj hb33
          refine ge_round_out (fun hrr => ?_) (by intro h; cases h)
          obtain rfl := hrr
          refine ge_block_hit (by kernel_rfl) ?_
          exact ge_mid fun t ht => ⟨A35, n36, C37, hO38, hI34, rfl, ht.pick (l := [15]) (by kernel_rfl)⟩
      · rintro t I47 L' ⟨A42, n43, C44, hO45, hI41, rfl, hK46⟩
        refine ge_at hK46 ?_
        refine ge_seq ?_
        refine gk_seq (by kernel_rfl) ?_
        refine gk_region (by kernel_rfl) ?_
        refine gl_pure 1 [87] (K' := [(87, .slice A42 r29.length n43)]) (by kernel_rfl) ?_
        refine gl_rest (Tk.step (Upd.rmC _ _) (Tk.nil _)) (fun J177 hJ178 hC179 => ?_)
        have hf180 := (OwnS.rest hO45 hJ178 hC179.left)
        obtain ⟨y181, hx182, hr⟩ := bind_some hr
        refine gl_call (by kernel_rfl) (vec_Vector_walk (r := y181) (hG.mono (Imm.trans (Imm.trans (Imm.trans hI3 hI15) hI41) hJ178)) hf180 hx182 _) ?_
        rintro v I183 L184 hI185 ⟨A186, c187, C188, hO189, rfl, rfl⟩
        refine gl_pure 4 [10, 11] (K' := [(10, .slice A186 y181.1.length c187), (11, .int .i64 y181.2)]) (by kernel_rfl) ?_
        refine gl_atE (by kernel_rfl) ?_
        refine ge_seq ?_
        refine gk_ret (by kernel_rfl) ?_
        obtain rfl := some_inj hr
        exact ge_result trivial (ResOk.tmp (by kernel_rfl) (ResOk.tmp (by kernel_rfl) ResOk.nil)) (Imm.trans (Imm.trans (Imm.trans (Imm.trans hI3 hI15) hI41) hJ178) hI185) ⟨A186, c187, C188, hO189, rfl, rfl⟩
/-! 20 aggr_Fold  -/
noncomputable def aggr_Fold (a0 : ByteArray) (a1 : List Fl) (a2 : Fl) : Option (Fl × Int) :=
  bif ((aggr_fold a0) == 0) then
  (some ((some 0 : Fl), 60))
  else
  (bif ((a1.length : Int) == 0) then
    (some ((some 0 : Fl), 5))
    else
    (Option.bind (tabf_48 (aggr_fold a0) a1 a2) fun (y4 : Fl) =>
      some ((aggr_told y4), 0)))
theorem aggr_Fold_walk {a0 : ByteArray} {a1 : List Fl} {A1_0 : Option Addr} {n1_0 : Nat} {a2 : Fl} {b2_0 : Nat} {I : Imm} {r : Fl × Int}  (hf1_0 : RepS Kd.flt I A1_0 n1_0 a1)  (hf2_0 : FRep a2 b2_0) (hr : aggr_Fold a0 a1 a2 = some r) (L : Own) :
    CallsTo Tryz.prog 20 #[.string a0, .slice A1_0 a1.length n1_0, .float .f64 b2_0] I L (fun v I' L' => ∃ b0_0, FRep r.1 b0_0 ∧ v = .tuple #[.float .f64 b0_0, .int .i64 r.2] ∧ L = L') := by
  unfold aggr_Fold at hr
  refine callsTo_body (N := 23) Tryz.func20 (by kernel_rfl) (by kernel_rfl) (by kernel_rfl) ?_
  refine gk_pick [0, 1, 2] (K' := [(0, .string a0), (1, .slice A1_0 a1.length n1_0), (2, .float .f64 b2_0)]) (by kernel_rfl) ?_
  refine gk_seq (by kernel_rfl) ?_
  refine gk_region (by kernel_rfl) ?_
  refine gl_pure 2 [0, 1, 2] (K' := [(0, .string a0), (1, .slice A1_0 a1.length n1_0), (2, .float .f64 b2_0)]) (by kernel_rfl) ?_
  refine gl_atE (by kernel_rfl) ?_
  refine ge_seq ?_
  refine gk_seq (by kernel_rfl) ?_
  refine gk_region (by kernel_rfl) ?_
  refine gl_pure 1 [1, 2, 9] (K' := [(1, .slice A1_0 a1.length n1_0), (2, .float .f64 b2_0), (9, .string a0)]) (by kernel_rfl) ?_
  refine gl_callQ (by kernel_rfl) (aggr_fold_walk (r := (aggr_fold a0))  rfl _) ?_
  refine gl_pure 1 [1, 2, 8] (K' := [(1, .slice A1_0 a1.length n1_0), (2, .float .f64 b2_0), (8, (tabv_48 (aggr_fold a0)))]) (by kernel_rfl) ?_
  refine gl_atE (by kernel_rfl) ?_
  refine ge_seq ?_
  refine gk_seq (by kernel_rfl) ?_
  refine gk_block (by kernel_rfl) ?_
  refine gk_seq (by kernel_rfl) ?_
  refine gk_region (by kernel_rfl) ?_
  refine gl_pure 1 [1, 2, 8, 12] (K' := [(1, .slice A1_0 a1.length n1_0), (2, .float .f64 b2_0), (8, (tabv_48 (aggr_fold a0))), (12, (tabv_48 (aggr_fold a0)))]) (by kernel_rfl) ?_
  refine gl_eqNilTab (neg := false) (b := ((aggr_fold a0) == 0)) (t := 88) (t' := 88) (x := (.tmp 12)) (y := (.const (.nilFunc))) (tabv_48_cases (aggr_fold a0)) (by kernel_rfl) (by kernel_rfl) (by kernel_rfl) (by kernel_rfl) (by kernel_rfl) ?_
  refine gl_pure 1 [1, 2, 8, 11] (K' := [(1, .slice A1_0 a1.length n1_0), (2, .float .f64 b2_0), (8, (tabv_48 (aggr_fold a0))), (11, .bool ((aggr_fold a0) == 0))]) (by kernel_rfl) ?_
  refine gl_atE (by kernel_rfl) ?_
  refine ge_seq ?_
  refine gk_cond (b := ((aggr_fold a0) == 0)) (by kernel_rfl) (by kernel_rfl) (fun hc1 => ?_) (fun hc1 => ?_)
  · have hr := cond_t hc1 hr
    refine gk_seq (by kernel_rfl) ?_
    refine gk_region (by kernel_rfl) ?_
    refine gl_pure 2 [6, 7] (K' := [(6, .float .f64 0), (7, .int .i64 60)]) (by kernel_rfl) ?_
    refine gl_atE (by kernel_rfl) ?_
    refine ge_seq ?_
    refine gk_ret (by kernel_rfl) ?_
    refine ge_block_ret ?_
    refine ge_seq_ret ?_
    obtain rfl := some_inj hr
    exact ge_result trivial (ResOk.tmp (by kernel_rfl) (ResOk.tmp (by kernel_rfl) ResOk.nil)) (Imm.refl _) ⟨0, (FRep.of 0), rfl, rfl⟩
  · have hr := cond_f hc1 hr
    refine gk_seq (by kernel_rfl) ?_
    refine gk_region (by kernel_rfl) ?_
    refine gl_pure 4 [1, 2, 8, 14] (K' := [(1, .slice A1_0 a1.length n1_0), (2, .float .f64 b2_0), (8, (tabv_48 (aggr_fold a0))), (14, .bool ((a1.length : Int) == 0))]) (by kernel_rfl) ?_
    refine gl_atE (by kernel_rfl) ?_
    refine ge_seq ?_
    refine gk_cond (b := ((a1.length : Int) == 0)) (by kernel_rfl) (by kernel_rfl) (fun hc2 => ?_) (fun hc2 => ?_)
    · have hr := cond_t hc2 hr
      refine gk_seq (by kernel_rfl) ?_
      refine gk_region (by kernel_rfl) ?_
      refine gl_pure 2 [6, 7] (K' := [(6, .float .f64 0), (7, .int .i64 5)]) (by kernel_rfl) ?_
      refine gl_atE (by kernel_rfl) ?_
      refine ge_seq ?_
      refine gk_ret (by kernel_rfl) ?_
      refine ge_block_ret ?_
      refine ge_seq_ret ?_
      obtain rfl := some_inj hr
      exact ge_result trivial (ResOk.tmp (by kernel_rfl) (ResOk.tmp (by kernel_rfl) ResOk.nil)) (Imm.refl _) ⟨0, (FRep.of 0), rfl, rfl⟩
    · have hr := cond_f hc2 hr
      refine gk_skip (by kernel_rfl) ?_
      refine ge_block_normal ?_
      refine ge_seq ?_
      refine gk_seq (by kernel_rfl) ?_
      refine gk_region (by kernel_rfl) ?_
      refine gl_pure 3 [18, 19, 20] (K' := [(18, (tabv_48 (aggr_fold a0))), (19, .slice A1_0 a1.length n1_0), (20, .float .f64 b2_0)]) (by kernel_rfl) ?_
      obtain ⟨y4, hx3, hr⟩ := bind_some hr
      refine gl_callv (by kernel_rfl) ((tabf_48_fn (aggr_fold a0)).out _ (Imm.refl _) _ _ _ hx3 _ _ _ hf1_0 hf2_0 _) ?_
      rintro v I5 L6 hI7 ⟨z8, hO9, rfl, rfl⟩
      refine gl_call (by kernel_rfl) (aggr_told_walk (r := (aggr_told y4)) hO9 rfl _) ?_
      rintro v I10 L11 hI12 ⟨z13, hO14, rfl, rfl⟩
      refine gl_pure 2 [6, 7] (K' := [(6, .float .f64 z13), (7, .int .i64 0)]) (by kernel_rfl) ?_
      refine gl_atE (by kernel_rfl) ?_
      refine ge_seq ?_
      refine gk_ret (by kernel_rfl) ?_
      obtain rfl := some_inj hr
      exact ge_result trivial (ResOk.tmp (by kernel_rfl) (ResOk.tmp (by kernel_rfl) ResOk.nil)) (Imm.trans hI7 hI12) ⟨z13, hO14, rfl, rfl⟩
/-! 19 tocsinlaw16_awake  -/
noncomputable def tocsinlaw16_awake : Option Bool :=
  Option.bind (aggr_Number (⟨#[115, 117, 109]⟩ : ByteArray) [(⟨[(⟨(⟨#[97]⟩ : ByteArray), (⟨#[49]⟩ : ByteArray)⟩ : S76), (⟨(⟨#[98]⟩ : ByteArray), (⟨#[120]⟩ : ByteArray)⟩ : S76)], (some 4611686018427387904 : Fl)⟩ : S38), (⟨[(⟨(⟨#[97]⟩ : ByteArray), (⟨#[49]⟩ : ByteArray)⟩ : S76), (⟨(⟨#[98]⟩ : ByteArray), (⟨#[121]⟩ : ByteArray)⟩ : S76)], (some 4616189618054758400 : Fl)⟩ : S38)] [(⟨#[97]⟩ : ByteArray)] false (some 0 : Fl)) fun (y27 : (List S38) × Int) =>
  Option.bind (aggr_Fold (⟨#[97, 118, 103]⟩ : ByteArray) [(some 4611686018427387904 : Fl), (some 4616189618054758400 : Fl)] (some 0 : Fl)) fun (y44 : Fl × Int) =>
  Option.bind (bif (y27.2 == 0) then
    (bif ((y27.1.length : Int) == 1) then
      (Option.bind (ix y27.1 0) fun (x58 : S38) =>
        bif (fcmp .eql x58.f1 (some 4618441417868443648 : Fl)) then
        (Option.bind (ix y27.1 0) fun (x73 : S38) =>
          bif ((x73.f0.length : Int) == 1) then
          (bif (y44.2 == 0) then
            (some (fcmp .eql y44.1 (some 4613937818241073152 : Fl)))
            else
            (some false))
          else
          (some false))
        else
        (some false))
      else
      (some false))
    else
    (some false)) fun (j51 : Bool) =>
  some j51
theorem tocsinlaw16_awake_walk  {I : Imm} {r : Bool} (hG : Gl I) (hr : tocsinlaw16_awake = some r) (L : Own) :
    CallsTo Tryz.prog 19 #[] I L (fun v I' L' => v = .bool r ∧ L = L') := by
  unfold tocsinlaw16_awake at hr
  refine callsTo_body (N := 56) Tryz.func19 (by kernel_rfl) (by kernel_rfl) (by kernel_rfl) ?_
  refine gk_pick [] (K' := []) (by kernel_rfl) ?_
  refine gk_seq (by kernel_rfl) ?_
  refine gk_region (by kernel_rfl) ?_
  refine gl_pure 1 [] (K' := []) (by kernel_rfl) ?_
  refine gl_atE (by kernel_rfl) ?_
  refine ge_seq ?_
  refine gk_seq (by kernel_rfl) ?_
  refine gk_region (by kernel_rfl) ?_
  refine gl_pure 2 [6, 7] (K' := [(6, .agg #[.string (⟨#[97]⟩ : ByteArray), .string (⟨#[49]⟩ : ByteArray)]), (7, .agg #[.string (⟨#[98]⟩ : ByteArray), .string (⟨#[120]⟩ : ByteArray)])]) (by kernel_rfl) ?_
  refine gl_buildSlice (T' := 36) (e := 77) (n := 2) (len := 2) (parts := #[(0, (.tmp 6)), (1, (.tmp 7))]) (l := [(0, .agg #[.string (⟨#[97]⟩ : ByteArray), .string (⟨#[49]⟩ : ByteArray)]), (1, .agg #[.string (⟨#[98]⟩ : ByteArray), .string (⟨#[120]⟩ : ByteArray)])]) (cs := #[.string (⟨#[97]⟩ : ByteArray), .string (⟨#[49]⟩ : ByteArray), .string (⟨#[98]⟩ : ByteArray), .string (⟨#[120]⟩ : ByteArray)]) (by kernel_rfl) (by kernel_rfl) (by kernel_rfl) (by kernel_rfl) (by kernel_rfl) (fun g1 => ?_)
  have hO2 : OwnS kS76 77 I (some ⟨g1, 0, none⟩) 2 [(⟨(⟨#[97]⟩ : ByteArray), (⟨#[49]⟩ : ByteArray)⟩ : S76), (⟨(⟨#[98]⟩ : ByteArray), (⟨#[120]⟩ : ByteArray)⟩ : S76)] [(g1, .cells #[.string (⟨#[97]⟩ : ByteArray), .string (⟨#[49]⟩ : ByteArray), .string (⟨#[98]⟩ : ByteArray), .string (⟨#[120]⟩ : ByteArray)] 77)] := OwnS.lit (row_cons (l := [.string (⟨#[97]⟩ : ByteArray), .string (⟨#[49]⟩ : ByteArray)]) (kS76_mk (x := (⟨(⟨#[97]⟩ : ByteArray), (⟨#[49]⟩ : ByteArray)⟩ : S76)) ) (row_cons (l := [.string (⟨#[98]⟩ : ByteArray), .string (⟨#[120]⟩ : ByteArray)]) (kS76_mk (x := (⟨(⟨#[98]⟩ : ByteArray), (⟨#[120]⟩ : ByteArray)⟩ : S76)) ) (row_nil _ _))) rfl rfl rfl
  refine gl_reord (D := [(g1, .cells #[.string (⟨#[97]⟩ : ByteArray), .string (⟨#[49]⟩ : ByteArray), .string (⟨#[98]⟩ : ByteArray), .string (⟨#[120]⟩ : ByteArray)] 77)] ++ L) (Reord.refl _) ?_
  refine gl_pure 3 [9, 10, 11] (K' := [(9, .agg #[.slice (some ⟨g1, 0, none⟩) [(⟨(⟨#[97]⟩ : ByteArray), (⟨#[49]⟩ : ByteArray)⟩ : S76), (⟨(⟨#[98]⟩ : ByteArray), (⟨#[120]⟩ : ByteArray)⟩ : S76)].length 2, .float .f64 4611686018427387904]), (10, .agg #[.string (⟨#[97]⟩ : ByteArray), .string (⟨#[49]⟩ : ByteArray)]), (11, .agg #[.string (⟨#[98]⟩ : ByteArray), .string (⟨#[121]⟩ : ByteArray)])]) (by kernel_rfl) ?_
  refine gl_buildSlice (T' := 36) (e := 77) (n := 2) (len := 2) (parts := #[(0, (.tmp 10)), (1, (.tmp 11))]) (l := [(0, .agg #[.string (⟨#[97]⟩ : ByteArray), .string (⟨#[49]⟩ : ByteArray)]), (1, .agg #[.string (⟨#[98]⟩ : ByteArray), .string (⟨#[121]⟩ : ByteArray)])]) (cs := #[.string (⟨#[97]⟩ : ByteArray), .string (⟨#[49]⟩ : ByteArray), .string (⟨#[98]⟩ : ByteArray), .string (⟨#[121]⟩ : ByteArray)]) (by kernel_rfl) (by kernel_rfl) (by kernel_rfl) (by kernel_rfl) (by kernel_rfl) (fun g5 => ?_)
  have hO6 : OwnS kS76 77 I (some ⟨g5, 0, none⟩) 2 [(⟨(⟨#[97]⟩ : ByteArray), (⟨#[49]⟩ : ByteArray)⟩ : S76), (⟨(⟨#[98]⟩ : ByteArray), (⟨#[121]⟩ : ByteArray)⟩ : S76)] [(g5, .cells #[.string (⟨#[97]⟩ : ByteArray), .string (⟨#[49]⟩ : ByteArray), .string (⟨#[98]⟩ : ByteArray), .string (⟨#[121]⟩ : ByteArray)] 77)] := OwnS.lit (row_cons (l := [.string (⟨#[97]⟩ : ByteArray), .string (⟨#[49]⟩ : ByteArray)]) (kS76_mk (x := (⟨(⟨#[97]⟩ : ByteArray), (⟨#[49]⟩ : ByteArray)⟩ : S76)) ) (row_cons (l := [.string (⟨#[98]⟩ : ByteArray), .string (⟨#[121]⟩ : ByteArray)]) (kS76_mk (x := (⟨(⟨#[98]⟩ : ByteArray), (⟨#[121]⟩ : ByteArray)⟩ : S76)) ) (row_nil _ _))) rfl rfl rfl
  refine gl_reord (D := [(g5, .cells #[.string (⟨#[97]⟩ : ByteArray), .string (⟨#[49]⟩ : ByteArray), .string (⟨#[98]⟩ : ByteArray), .string (⟨#[121]⟩ : ByteArray)] 77)] ++ ([(g1, .cells #[.string (⟨#[97]⟩ : ByteArray), .string (⟨#[49]⟩ : ByteArray), .string (⟨#[98]⟩ : ByteArray), .string (⟨#[120]⟩ : ByteArray)] 77)] ++ L)) (Reord.refl _) ?_
  refine gl_pure 1 [9, 13] (K' := [(9, .agg #[.slice (some ⟨g1, 0, none⟩) [(⟨(⟨#[97]⟩ : ByteArray), (⟨#[49]⟩ : ByteArray)⟩ : S76), (⟨(⟨#[98]⟩ : ByteArray), (⟨#[120]⟩ : ByteArray)⟩ : S76)].length 2, .float .f64 4611686018427387904]), (13, .agg #[.slice (some ⟨g5, 0, none⟩) [(⟨(⟨#[97]⟩ : ByteArray), (⟨#[49]⟩ : ByteArray)⟩ : S76), (⟨(⟨#[98]⟩ : ByteArray), (⟨#[121]⟩ : ByteArray)⟩ : S76)].length 2, .float .f64 4616189618054758400])]) (by kernel_rfl) ?_
  refine gl_rest (Tk.step (Upd.rmC _ _) (Tk.step (Upd.rmC _ _) (Tk.nil _))) (fun J9 hJ10 hC11 => ?_)
  have hf12 := (OwnS.rest hO6 hJ10 hC11.left)
  have hf13 := (OwnS.rest hO2 hJ10 hC11.right.left)
  refine gl_buildSlice (T' := 22) (e := 39) (n := 2) (len := 2) (parts := #[(0, (.tmp 9)), (1, (.tmp 13))]) (l := [(0, .agg #[.slice (some ⟨g1, 0, none⟩) [(⟨(⟨#[97]⟩ : ByteArray), (⟨#[49]⟩ : ByteArray)⟩ : S76), (⟨(⟨#[98]⟩ : ByteArray), (⟨#[120]⟩ : ByteArray)⟩ : S76)].length 2, .float .f64 4611686018427387904]), (1, .agg #[.slice (some ⟨g5, 0, none⟩) [(⟨(⟨#[97]⟩ : ByteArray), (⟨#[49]⟩ : ByteArray)⟩ : S76), (⟨(⟨#[98]⟩ : ByteArray), (⟨#[121]⟩ : ByteArray)⟩ : S76)].length 2, .float .f64 4616189618054758400])]) (cs := #[.slice (some ⟨g1, 0, none⟩) [(⟨(⟨#[97]⟩ : ByteArray), (⟨#[49]⟩ : ByteArray)⟩ : S76), (⟨(⟨#[98]⟩ : ByteArray), (⟨#[120]⟩ : ByteArray)⟩ : S76)].length 2, .float .f64 4611686018427387904, .slice (some ⟨g5, 0, none⟩) [(⟨(⟨#[97]⟩ : ByteArray), (⟨#[49]⟩ : ByteArray)⟩ : S76), (⟨(⟨#[98]⟩ : ByteArray), (⟨#[121]⟩ : ByteArray)⟩ : S76)].length 2, .float .f64 4616189618054758400]) (by kernel_rfl) (by kernel_rfl) (by kernel_rfl) (by kernel_rfl) (by kernel_rfl) (fun g14 => ?_)
  have hO15 : OwnS kS38 39 J9 (some ⟨g14, 0, none⟩) 2 [(⟨[(⟨(⟨#[97]⟩ : ByteArray), (⟨#[49]⟩ : ByteArray)⟩ : S76), (⟨(⟨#[98]⟩ : ByteArray), (⟨#[120]⟩ : ByteArray)⟩ : S76)], (some 4611686018427387904 : Fl)⟩ : S38), (⟨[(⟨(⟨#[97]⟩ : ByteArray), (⟨#[49]⟩ : ByteArray)⟩ : S76), (⟨(⟨#[98]⟩ : ByteArray), (⟨#[121]⟩ : ByteArray)⟩ : S76)], (some 4616189618054758400 : Fl)⟩ : S38)] [(g14, .cells #[.slice (some ⟨g1, 0, none⟩) [(⟨(⟨#[97]⟩ : ByteArray), (⟨#[49]⟩ : ByteArray)⟩ : S76), (⟨(⟨#[98]⟩ : ByteArray), (⟨#[120]⟩ : ByteArray)⟩ : S76)].length 2, .float .f64 4611686018427387904, .slice (some ⟨g5, 0, none⟩) [(⟨(⟨#[97]⟩ : ByteArray), (⟨#[49]⟩ : ByteArray)⟩ : S76), (⟨(⟨#[98]⟩ : ByteArray), (⟨#[121]⟩ : ByteArray)⟩ : S76)].length 2, .float .f64 4616189618054758400] 39)] := OwnS.lit (row_cons (l := [.slice (some ⟨g1, 0, none⟩) [(⟨(⟨#[97]⟩ : ByteArray), (⟨#[49]⟩ : ByteArray)⟩ : S76), (⟨(⟨#[98]⟩ : ByteArray), (⟨#[120]⟩ : ByteArray)⟩ : S76)].length 2, .float .f64 4611686018427387904]) (kS38_mk (x := (⟨[(⟨(⟨#[97]⟩ : ByteArray), (⟨#[49]⟩ : ByteArray)⟩ : S76), (⟨(⟨#[98]⟩ : ByteArray), (⟨#[120]⟩ : ByteArray)⟩ : S76)], (some 4611686018427387904 : Fl)⟩ : S38)) hf13 (FRep.of 4611686018427387904)) (row_cons (l := [.slice (some ⟨g5, 0, none⟩) [(⟨(⟨#[97]⟩ : ByteArray), (⟨#[49]⟩ : ByteArray)⟩ : S76), (⟨(⟨#[98]⟩ : ByteArray), (⟨#[121]⟩ : ByteArray)⟩ : S76)].length 2, .float .f64 4616189618054758400]) (kS38_mk (x := (⟨[(⟨(⟨#[97]⟩ : ByteArray), (⟨#[49]⟩ : ByteArray)⟩ : S76), (⟨(⟨#[98]⟩ : ByteArray), (⟨#[121]⟩ : ByteArray)⟩ : S76)], (some 4616189618054758400 : Fl)⟩ : S38)) hf12 (FRep.of 4616189618054758400)) (row_nil _ _))) rfl rfl rfl
  refine gl_reord (D := [(g14, .cells #[.slice (some ⟨g1, 0, none⟩) [(⟨(⟨#[97]⟩ : ByteArray), (⟨#[49]⟩ : ByteArray)⟩ : S76), (⟨(⟨#[98]⟩ : ByteArray), (⟨#[120]⟩ : ByteArray)⟩ : S76)].length 2, .float .f64 4611686018427387904, .slice (some ⟨g5, 0, none⟩) [(⟨(⟨#[97]⟩ : ByteArray), (⟨#[49]⟩ : ByteArray)⟩ : S76), (⟨(⟨#[98]⟩ : ByteArray), (⟨#[121]⟩ : ByteArray)⟩ : S76)].length 2, .float .f64 4616189618054758400] 39)] ++ L) (Reord.refl _) ?_
  refine gl_pure 1 [1] (K' := [(1, .slice (some ⟨g14, 0, none⟩) [(⟨[(⟨(⟨#[97]⟩ : ByteArray), (⟨#[49]⟩ : ByteArray)⟩ : S76), (⟨(⟨#[98]⟩ : ByteArray), (⟨#[120]⟩ : ByteArray)⟩ : S76)], (some 4611686018427387904 : Fl)⟩ : S38), (⟨[(⟨(⟨#[97]⟩ : ByteArray), (⟨#[49]⟩ : ByteArray)⟩ : S76), (⟨(⟨#[98]⟩ : ByteArray), (⟨#[121]⟩ : ByteArray)⟩ : S76)], (some 4616189618054758400 : Fl)⟩ : S38)].length 2)]) (by kernel_rfl) ?_
  refine gl_atE (by kernel_rfl) ?_
  refine ge_seq ?_
  refine gk_seq (by kernel_rfl) ?_
  refine gk_region (by kernel_rfl) ?_
  refine gl_pure 1 [16] (K' := [(16, .slice (some ⟨g14, 0, none⟩) [(⟨[(⟨(⟨#[97]⟩ : ByteArray), (⟨#[49]⟩ : ByteArray)⟩ : S76), (⟨(⟨#[98]⟩ : ByteArray), (⟨#[120]⟩ : ByteArray)⟩ : S76)], (some 4611686018427387904 : Fl)⟩ : S38), (⟨[(⟨(⟨#[97]⟩ : ByteArray), (⟨#[49]⟩ : ByteArray)⟩ : S76), (⟨(⟨#[98]⟩ : ByteArray), (⟨#[121]⟩ : ByteArray)⟩ : S76)], (some 4616189618054758400 : Fl)⟩ : S38)].length 2)]) (by kernel_rfl) ?_
  refine gl_buildSlice (T' := 23) (e := 9) (n := 1) (len := 1) (parts := #[(0, (.const (.string (⟨#[97]⟩ : ByteArray))))]) (l := [(0, .string (⟨#[97]⟩ : ByteArray))]) (cs := #[.string (⟨#[97]⟩ : ByteArray)]) (by kernel_rfl) (by kernel_rfl) (by kernel_rfl) (by kernel_rfl) (by kernel_rfl) (fun g18 => ?_)
  have hO19 : OwnS Kd.str 9 J9 (some ⟨g18, 0, none⟩) 1 [(⟨#[97]⟩ : ByteArray)] [(g18, .cells #[.string (⟨#[97]⟩ : ByteArray)] 9)] := OwnS.lit (row_cons (l := [.string (⟨#[97]⟩ : ByteArray)]) rfl (row_nil _ _)) rfl rfl rfl
  refine gl_reord (D := [(g18, .cells #[.string (⟨#[97]⟩ : ByteArray)] 9)] ++ ([(g14, .cells #[.slice (some ⟨g1, 0, none⟩) [(⟨(⟨#[97]⟩ : ByteArray), (⟨#[49]⟩ : ByteArray)⟩ : S76), (⟨(⟨#[98]⟩ : ByteArray), (⟨#[120]⟩ : ByteArray)⟩ : S76)].length 2, .float .f64 4611686018427387904, .slice (some ⟨g5, 0, none⟩) [(⟨(⟨#[97]⟩ : ByteArray), (⟨#[49]⟩ : ByteArray)⟩ : S76), (⟨(⟨#[98]⟩ : ByteArray), (⟨#[121]⟩ : ByteArray)⟩ : S76)].length 2, .float .f64 4616189618054758400] 39)] ++ L)) (Reord.refl _) ?_
  refine gl_rest (Tk.step (Upd.rmC _ _) (Tk.step (Upd.rmC _ _) (Tk.nil _))) (fun J22 hJ23 hC24 => ?_)
  have hf25 := (OwnS.rest hO19 hJ23 hC24.left)
  have hf26 := (OwnS.rest hO15 hJ23 hC24.right.left)
  obtain ⟨y27, hx28, hr⟩ := bind_some hr
  refine gl_call (by kernel_rfl) (aggr_Number_walk (r := y27) (hG.mono (Imm.trans hJ10 hJ23)) hf26 hf25 (FRep.of 0) hx28 _) ?_
  rintro v I29 L30 hI31 ⟨A32, c33, C34, hO35, rfl, rfl⟩
  refine gl_pure 5 [2, 3] (K' := [(2, .slice A32 y27.1.length c33), (3, .int .i64 y27.2)]) (by kernel_rfl) ?_
  refine gl_atE (by kernel_rfl) ?_
  refine ge_seq ?_
  refine gk_seq (by kernel_rfl) ?_
  refine gk_region (by kernel_rfl) ?_
  refine gl_buildSlice (T' := 43) (e := 37) (n := 1) (len := 2) (parts := #[(0, (.const (.float .f64 4611686018427387904))), (1, (.const (.float .f64 4616189618054758400)))]) (l := [(0, .float .f64 4611686018427387904), (1, .float .f64 4616189618054758400)]) (cs := #[.float .f64 4611686018427387904, .float .f64 4616189618054758400]) (by kernel_rfl) (by kernel_rfl) (by kernel_rfl) (by kernel_rfl) (by kernel_rfl) (fun g36 => ?_)
  have hO37 : OwnS Kd.flt 37 I29 (some ⟨g36, 0, none⟩) 2 [(some 4611686018427387904 : Fl), (some 4616189618054758400 : Fl)] [(g36, .cells #[.float .f64 4611686018427387904, .float .f64 4616189618054758400] 37)] := OwnS.lit (row_cons (l := [.float .f64 4611686018427387904]) ⟨_, rfl, (FRep.of 4611686018427387904)⟩ (row_cons (l := [.float .f64 4616189618054758400]) ⟨_, rfl, (FRep.of 4616189618054758400)⟩ (row_nil _ _))) rfl rfl rfl
  refine gl_reord (D := [(g36, .cells #[.float .f64 4611686018427387904, .float .f64 4616189618054758400] 37)] ++ (C34 ++ L)) (Reord.refl _) ?_
  refine gl_rest (Tk.step (Upd.rmC _ _) (Tk.nil _)) (fun J40 hJ41 hC42 => ?_)
  have hf43 := (OwnS.rest hO37 hJ41 hC42.left)
  obtain ⟨y44, hx45, hr⟩ := bind_some hr
  refine gl_call (by kernel_rfl) (aggr_Fold_walk (r := y44) hf43 (FRep.of 0) hx45 _) ?_
  rintro v I46 L47 hI48 ⟨z49, hO50, rfl, rfl⟩
  refine gl_pure 5 [2, 3, 4, 5] (K' := [(2, .slice A32 y27.1.length c33), (3, .int .i64 y27.2), (4, .float .f64 z49), (5, .int .i64 y44.2)]) (by kernel_rfl) ?_
  refine gl_atE (by kernel_rfl) ?_
  refine ge_seq ?_
  refine gk_seq (by kernel_rfl) ?_
  obtain ⟨j51, hj52, hr⟩ := bind_some hr
  refine gk_join (fun t I' L' => I46 ≤ I' ∧ L = L' ∧ Knows 56 [(0, .bool j51)] t) ?_ ?_
  · refine gk_region (by kernel_rfl) ?_
    refine gl_pure 3 [2, 4, 5, 28] (K' := [(2, .slice A32 y27.1.length c33), (4, .float .f64 z49), (5, .int .i64 y44.2), (28, .bool (y27.2 == 0))]) (by kernel_rfl) ?_
    refine gl_case 28 (b := (y27.2 == 0)) (by kernel_rfl) (fun hc56 => ?_) (fun hc56 => ?_)
    · have hj52 := cond_t hc56 hj52
      refine gl_pure 5 [2, 4, 5, 33] (K' := [(2, .slice A32 y27.1.length c33), (4, .float .f64 z49), (5, .int .i64 y44.2), (33, .bool ((y27.1.length : Int) == 1))]) (by kernel_rfl) ?_
      refine gl_case 33 (b := ((y27.1.length : Int) == 1)) (by kernel_rfl) (fun hc57 => ?_) (fun hc57 => ?_)
      · have hj52 := cond_t hc57 hj52
        refine gl_pure 1 [2, 4, 5, 33, 34] (K' := [(2, .slice A32 y27.1.length c33), (4, .float .f64 z49), (5, .int .i64 y44.2), (33, .bool true), (34, .slice A32 y27.1.length c33)]) (by kernel_rfl) ?_
        obtain ⟨x58, hx59, hj52⟩ := bind_some hj52
        refine gl_indexAddrW (d := kS38) (c := c33) (T' := 22) (e := 39) (xs := (.tmp 34)) (xi := (.const (.int .i64 0))) (kd := .i64) hx59 (hO35.mono (Imm.trans hJ41 hI48)) (Upd.selfC _ _) (by kernel_rfl) (by kernel_rfl) (by kernel_rfl) (by kernel_rfl) (by kernel_rfl) (fun p60 cs61 hR62 hA63 hp71 => ?_)
        obtain ⟨A66, n67, b69, hf68, hf70, rfl⟩ := kS38_open hR62
        refine gl_pure 1 [2, 4, 5, 33, 36] (K' := [(2, .slice A32 y27.1.length c33), (4, .float .f64 z49), (5, .int .i64 y44.2), (33, .bool true), (36, .pointer (some (p60.add 1)))]) (by kernel_rfl) ?_
        refine gl_loadO (T' := 37) (xp := (.tmp 36)) (p := (p60.add 1)) (c := .float .f64 b69) (n := 1) (by kernel_rfl) (by kernel_rfl) (by kernel_rfl) (by kernel_rfl) (hA63.drop 1) ?_
        refine gl_fcmp (op := .eql) (t := 37) (t' := 37) (xx := (.tmp 37)) (yy := (.const (.float .f64 4618441417868443648))) hf70 (FRep.of 4618441417868443648) (by kernel_rfl) (by kernel_rfl) rfl (by kernel_rfl) (by kernel_rfl) ?_
        refine gl_pure 2 [2, 4, 5, 40] (K' := [(2, .slice A32 y27.1.length c33), (4, .float .f64 z49), (5, .int .i64 y44.2), (40, .bool (fcmp .eql x58.f1 (some 4618441417868443648 : Fl)))]) (by kernel_rfl) ?_
        refine gl_case 40 (b := (fcmp .eql x58.f1 (some 4618441417868443648 : Fl))) (by kernel_rfl) (fun hc72 => ?_) (fun hc72 => ?_)
        · have hj52 := cond_t hc72 hj52
          refine gl_pure 1 [4, 5, 40, 41] (K' := [(4, .float .f64 z49), (5, .int .i64 y44.2), (40, .bool true), (41, .slice A32 y27.1.length c33)]) (by kernel_rfl) ?_
          obtain ⟨x73, hx74, hj52⟩ := bind_some hj52
          refine gl_indexAddrW (d := kS38) (c := c33) (T' := 22) (e := 39) (xs := (.tmp 41)) (xi := (.const (.int .i64 0))) (kd := .i64) hx74 (hO35.mono (Imm.trans hJ41 hI48)) (Upd.selfC _ _) (by kernel_rfl) (by kernel_rfl) (by kernel_rfl) (by kernel_rfl) (by kernel_rfl) (fun p75 cs76 hR77 hA78 hp86 => ?_)
          obtain ⟨A81, n82, b84, hf83, hf85, rfl⟩ := kS38_open hR77
          refine gl_pure 1 [4, 5, 40, 43] (K' := [(4, .float .f64 z49), (5, .int .i64 y44.2), (40, .bool true), (43, .pointer (some (p75.add 0)))]) (by kernel_rfl) ?_
          refine gl_loadO (T' := 36) (xp := (.tmp 43)) (p := (p75.add 0)) (c := .slice A81 x73.f0.length n82) (n := 1) (by kernel_rfl) (by kernel_rfl) (by kernel_rfl) (by kernel_rfl) (hA78.drop 0) ?_
          refine gl_pure 4 [4, 5, 48] (K' := [(4, .float .f64 z49), (5, .int .i64 y44.2), (48, .bool ((x73.f0.length : Int) == 1))]) (by kernel_rfl) ?_
          refine gl_case 48 (b := ((x73.f0.length : Int) == 1)) (by kernel_rfl) (fun hc87 => ?_) (fun hc87 => ?_)
          · have hj52 := cond_t hc87 hj52
            refine gl_pure 4 [4, 52] (K' := [(4, .float .f64 z49), (52, .bool (y44.2 == 0))]) (by kernel_rfl) ?_
            refine gl_case 52 (b := (y44.2 == 0)) (by kernel_rfl) (fun hc88 => ?_) (fun hc88 => ?_)
            · have hj52 := cond_t hc88 hj52
              refine gl_pure 1 [52, 53] (K' := [(52, .bool true), (53, .float .f64 z49)]) (by kernel_rfl) ?_
              refine gl_fcmp (op := .eql) (t := 37) (t' := 37) (xx := (.tmp 53)) (yy := (.const (.float .f64 4613937818241073152))) hO50 (FRep.of 4613937818241073152) (by kernel_rfl) (by kernel_rfl) rfl (by kernel_rfl) (by kernel_rfl) ?_
              refine gl_pure 2 [0] (K' := [(0, .bool (fcmp .eql y44.1 (some 4613937818241073152 : Fl)))]) (by kernel_rfl) ?_
              refine gl_reord (D := L) (Reord.skipC (Reord.refl _)) ?_
              refine gl_atE (by kernel_rfl) ?_
              obtain rfl := some_inj hj52
              exact ge_mid fun t ht => ⟨(Imm.refl _), rfl, ht.pick (l := [0]) (by kernel_rfl)⟩
            · have hj52 := cond_f hc88 hj52
              refine gl_pure 4 [0] (K' := [(0, .bool false)]) (by kernel_rfl) ?_
              refine gl_reord (D := L) (Reord.skipC (Reord.refl _)) ?_
              refine gl_atE (by kernel_rfl) ?_
              obtain rfl := some_inj hj52
              exact ge_mid fun t ht => ⟨(Imm.refl _), rfl, ht.pick (l := [0]) (by kernel_rfl)⟩
          · have hj52 := cond_f hc87 hj52
            refine gl_pure 8 [0] (K' := [(0, .bool false)]) (by kernel_rfl) ?_
            refine gl_reord (D := L) (Reord.skipC (Reord.refl _)) ?_
            refine gl_atE (by kernel_rfl) ?_
            obtain rfl := some_inj hj52
            exact ge_mid fun t ht => ⟨(Imm.refl _), rfl, ht.pick (l := [0]) (by kernel_rfl)⟩
        · have hj52 := cond_f hc72 hj52
          refine gl_pure 16 [0] (K' := [(0, .bool false)]) (by kernel_rfl) ?_
          refine gl_reord (D := L) (Reord.skipC (Reord.refl _)) ?_
          refine gl_atE (by kernel_rfl) ?_
          obtain rfl := some_inj hj52
          exact ge_mid fun t ht => ⟨(Imm.refl _), rfl, ht.pick (l := [0]) (by kernel_rfl)⟩
      · have hj52 := cond_f hc57 hj52
        refine gl_pure 23 [0] (K' := [(0, .bool false)]) (by kernel_rfl) ?_
        refine gl_reord (D := L) (Reord.skipC (Reord.refl _)) ?_
        refine gl_atE (by kernel_rfl) ?_
        obtain rfl := some_inj hj52
        exact ge_mid fun t ht => ⟨(Imm.refl _), rfl, ht.pick (l := [0]) (by kernel_rfl)⟩
    · have hj52 := cond_f hc56 hj52
      refine gl_pure 28 [0] (K' := [(0, .bool false)]) (by kernel_rfl) ?_
      refine gl_reord (D := L) (Reord.skipC (Reord.refl _)) ?_
      refine gl_atE (by kernel_rfl) ?_
      obtain rfl := some_inj hj52
      exact ge_mid fun t ht => ⟨(Imm.refl _), rfl, ht.pick (l := [0]) (by kernel_rfl)⟩
  · rintro t I55 L' ⟨hI53, rfl, hK54⟩
    refine ge_at hK54 ?_
    refine ge_seq ?_
    refine gk_ret (by kernel_rfl) ?_
    obtain rfl := some_inj hr
    exact ge_result trivial (ResOk.tmp (by kernel_rfl) ResOk.nil) (Imm.trans (Imm.trans (Imm.trans (Imm.trans (Imm.trans hJ10 hJ23) hI31) hJ41) hI48) hI53) ⟨rfl, rfl⟩
/-! 11 tocsinlaw16_AggrGroup  -/
noncomputable def tocsinlaw16_AggrGroup (a0 : List S76) (a1 : List ByteArray) (a2 : Bool) : Option Bool :=
  Option.bind (aggr_Group a0 a1 a2) fun (y1 : (List S76) × Int) =>
  Option.bind (tocsinref16_Group a0 a1 a2) fun (y10 : (List S76) × Int) =>
  Option.bind (Option.bind (tocsinref04_Same y1.1 y10.1) fun (y24 : Bool) =>
    bif y24 then
    (bif (y1.2 == y10.2) then
      (Option.bind tocsinlaw16_awake fun (y28 : Bool) =>
        some y28)
      else
      (some false))
    else
    (some false)) fun (j19 : Bool) =>
  some j19
theorem tocsinlaw16_AggrGroup_walk {a0 : List S76} {A0_0 : Option Addr} {n0_0 : Nat} {a1 : List ByteArray} {A1_0 : Option Addr} {n1_0 : Nat} {a2 : Bool} {I : Imm} {r : Bool} (hG : Gl I)  (hf0_0 : RepS kS76 I A0_0 n0_0 a0)  (hf1_0 : RepS Kd.str I A1_0 n1_0 a1) (hr : tocsinlaw16_AggrGroup a0 a1 a2 = some r) (L : Own) :
    CallsTo Tryz.prog 11 #[.slice A0_0 a0.length n0_0, .slice A1_0 a1.length n1_0, .bool a2] I L (fun v I' L' => v = .bool r ∧ L = L') := by
  unfold tocsinlaw16_AggrGroup at hr
  refine callsTo_body (N := 36) Tryz.func11 (by kernel_rfl) (by kernel_rfl) (by kernel_rfl) ?_
  refine gk_pick [0, 1, 2] (K' := [(0, .slice A0_0 a0.length n0_0), (1, .slice A1_0 a1.length n1_0), (2, .bool a2)]) (by kernel_rfl) ?_
  refine gk_seq (by kernel_rfl) ?_
  refine gk_region (by kernel_rfl) ?_
  refine gl_pure 1 [0, 1, 2] (K' := [(0, .slice A0_0 a0.length n0_0), (1, .slice A1_0 a1.length n1_0), (2, .bool a2)]) (by kernel_rfl) ?_
  refine gl_atE (by kernel_rfl) ?_
  refine ge_seq ?_
  refine gk_seq (by kernel_rfl) ?_
  refine gk_region (by kernel_rfl) ?_
  refine gl_pure 3 [0, 1, 2, 12, 13, 14] (K' := [(0, .slice A0_0 a0.length n0_0), (1, .slice A1_0 a1.length n1_0), (2, .bool a2), (12, .slice A0_0 a0.length n0_0), (13, .slice A1_0 a1.length n1_0), (14, .bool a2)]) (by kernel_rfl) ?_
  obtain ⟨y1, hx2, hr⟩ := bind_some hr
  refine gl_call (by kernel_rfl) (aggr_Group_walk (r := y1) hG hf0_0 hf1_0 hx2 _) ?_
  rintro v I3 L4 hI5 ⟨A6, c7, C8, hO9, rfl, rfl⟩
  refine gl_pure 5 [0, 1, 2, 7, 8] (K' := [(0, .slice A0_0 a0.length n0_0), (1, .slice A1_0 a1.length n1_0), (2, .bool a2), (7, .slice A6 y1.1.length c7), (8, .int .i64 y1.2)]) (by kernel_rfl) ?_
  refine gl_atE (by kernel_rfl) ?_
  refine ge_seq ?_
  refine gk_seq (by kernel_rfl) ?_
  refine gk_region (by kernel_rfl) ?_
  refine gl_pure 3 [7, 8, 19, 20, 21] (K' := [(7, .slice A6 y1.1.length c7), (8, .int .i64 y1.2), (19, .slice A0_0 a0.length n0_0), (20, .slice A1_0 a1.length n1_0), (21, .bool a2)]) (by kernel_rfl) ?_
  obtain ⟨y10, hx11, hr⟩ := bind_some hr
  refine gl_call (by kernel_rfl) (tocsinref16_Group_walk (r := y10) (hf0_0.mono hI5) (hf1_0.mono hI5) hx11 _) ?_
  rintro v I12 L13 hI14 ⟨A15, c16, C17, hO18, rfl, rfl⟩
  refine gl_pure 5 [7, 8, 9, 10] (K' := [(7, .slice A6 y1.1.length c7), (8, .int .i64 y1.2), (9, .slice A15 y10.1.length c16), (10, .int .i64 y10.2)]) (by kernel_rfl) ?_
  refine gl_atE (by kernel_rfl) ?_
  refine ge_seq ?_
  refine gk_seq (by kernel_rfl) ?_
  obtain ⟨j19, hj20, hr⟩ := bind_some hr
  refine gk_join (fun t I' L' => I12 ≤ I' ∧ L = L' ∧ Knows 36 [(6, .bool j19)] t) ?_ ?_
  · refine gk_region (by kernel_rfl) ?_
    refine gl_pure 2 [8, 10, 25, 26] (K' := [(8, .int .i64 y1.2), (10, .int .i64 y10.2), (25, .slice A6 y1.1.length c7), (26, .slice A15 y10.1.length c16)]) (by kernel_rfl) ?_
    obtain ⟨y24, hx25, hj20⟩ := bind_some hj20
    refine gl_callB (r := .bool y24) (Tk.step (Upd.rmC _ _) (Tk.step (Upd.rmC _ _) (Tk.nil _))) (by kernel_rfl) (fun J hJ hC => tocsinref04_Same_walk (r := y24) (OwnS.rest (hO9.mono hI14) hJ hC.right.left) (OwnS.rest hO18 hJ hC.left) hx25 _) ?_
    refine gl_pure 1 [8, 10, 28] (K' := [(8, .int .i64 y1.2), (10, .int .i64 y10.2), (28, .bool y24)]) (by kernel_rfl) ?_
    refine gl_case 28 (b := y24) (by kernel_rfl) (fun hc26 => ?_) (fun hc26 => ?_)
    · have hj20 := cond_t hc26 hj20
      refine gl_pure 5 [33] (K' := [(33, .bool (y1.2 == y10.2))]) (by kernel_rfl) ?_
      refine gl_case 33 (b := (y1.2 == y10.2)) (by kernel_rfl) (fun hc27 => ?_) (fun hc27 => ?_)
      · have hj20 := cond_t hc27 hj20
        obtain ⟨y28, hx29, hj20⟩ := bind_some hj20
        refine gl_callQ (by kernel_rfl) (tocsinlaw16_awake_walk (r := y28) (hG.mono (Imm.trans hI5 hI14)) hx29 _) ?_
        refine gl_pure 2 [6] (K' := [(6, .bool y28)]) (by kernel_rfl) ?_
        refine gl_reord (D := L) (Reord.skipC (Reord.skipC (Reord.refl _))) ?_
        refine gl_atE (by kernel_rfl) ?_
        obtain rfl := some_inj hj20
        exact ge_mid fun t ht => ⟨(Imm.refl _), rfl, ht.pick (l := [6]) (by kernel_rfl)⟩
      · have hj20 := cond_f hc27 hj20
        refine gl_pure 3 [6] (K' := [(6, .bool false)]) (by kernel_rfl) ?_
        refine gl_reord (D := L) (Reord.skipC (Reord.skipC (Reord.refl _))) ?_
        refine gl_atE (by kernel_rfl) ?_
        obtain rfl := some_inj hj20
        exact ge_mid fun t ht => ⟨(Imm.refl _), rfl, ht.pick (l := [6]) (by kernel_rfl)⟩
    · have hj20 := cond_f hc26 hj20
      refine gl_pure 8 [6] (K' := [(6, .bool false)]) (by kernel_rfl) ?_
      refine gl_reord (D := L) (Reord.skipC (Reord.skipC (Reord.refl _))) ?_
      refine gl_atE (by kernel_rfl) ?_
      obtain rfl := some_inj hj20
      exact ge_mid fun t ht => ⟨(Imm.refl _), rfl, ht.pick (l := [6]) (by kernel_rfl)⟩
  · rintro t I23 L' ⟨hI21, rfl, hK22⟩
    refine ge_at hK22 ?_
    refine ge_seq ?_
    refine gk_ret (by kernel_rfl) ?_
    obtain rfl := some_inj hr
    exact ge_result trivial (ResOk.tmp (by kernel_rfl) ResOk.nil) (Imm.trans (Imm.trans hI5 hI14) hI21) ⟨rfl, rfl⟩
end Go.Proofs.YtkjkkimnjpodiaaGreatDoor

/- From data that are read to what the walks ask: rows. -/
set_option linter.unusedVariables false
set_option linter.unusedSimpArgs false
namespace Go.GB
open Go Go.RowKit
open Go.Proofs.YtkjkkimnjpodiaaGreatDoor.Rows (uptoBulk uptoBulkAll)

def immOf (W : World) : Imm := ⟨fun b => W.heap[b]?, W.os, W.tape, W.output, 0⟩
theorem holds_immOf (W : World) : Holds (immOf W) [] W := ⟨fun _ _ h => h, by simp, by simp, by simp, rfl, rfl, rfl, Nat.zero_le _⟩
theorem below_of {I' : Imm} {L' : Own} {W W' : World} (h : Holds I' L' W') (hI : immOf W ≤ I') : Below W.heap.size W W' := by
  refine ⟨by rw [h.os, hI.os]; rfl, by rw [h.tape, hI.tape]; rfl, by rw [h.out, hI.out]; rfl, ?_, fun k hk => ?_⟩
  · rcases Nat.eq_zero_or_pos W.heap.size with h0 | h0
    · omega
    · have : W.heap[W.heap.size - 1]? = some (W.heap[W.heap.size - 1]'(by omega)) := Array.getElem?_eq_getElem _
      have := lt_of_heap (h.imm _ _ (hI.h _ _ this))
      omega
  · have : W.heap[k]? = some (W.heap[k]) := Array.getElem?_eq_getElem hk
    rw [this]; exact h.imm _ _ (hI.h _ _ this)
theorem imm_cell {W : World} {a : Addr} {v : Value} (h : W.cell? a = some v) : (immOf W).cell a = some v := h
theorem run_of_cells {W : World} {a : Addr} {n : Nat} {cs : List Value} (h : W.cells? 0 a n = some cs) : RunAt (immOf W) a cs := fun j v hj => by
  unfold World.cells? at h
  rw [if_pos (Nat.zero_le _)] at h
  have hl := mapM_some_length h
  have hj' : j < n := by have := (List.getElem?_eq_some_iff.1 hj).1; simpa [hl] using this
  have := mapM_some_get h j j (by simp [hj'])
  exact imm_cell (this.trans hj)

def Reads {α : Type} (P : Program) (T : TypeId) (d : Kd α) (w : α → Nat → Prop) : Prop := ∀ {H : Type} {enc : TypeId × Value → H} {W : World} {spare : Nat → Bool} {held : Bool} {fuel : Nat} {cs : List Value} {x : DataW H × List MemPlace},
  DataW.trod enc P W 0 spare held fuel T cs = some x → uptoBulk x.1 ≤ 1048576 → ∃ y, d.R (immOf W) y cs ∧ w y (uptoBulk x.1)
theorem reads_bool {P : Program} {T : TypeId} (h : P.underlying T = some .bool) : Reads P T Kd.bool wBool := fun ht _ => by
  obtain ⟨n, rfl, _⟩ := DataW.trod_bool h ht
  exact ⟨n, rfl, trivial⟩
theorem reads_str {P : Program} {T : TypeId} (h : P.underlying T = some .string) : Reads P T Kd.str wStr := fun ht _ => by
  obtain ⟨n, rfl, rfl, _⟩ := DataW.trod_string h ht
  exact ⟨n, rfl, by simp [uptoBulk, wStr]⟩
theorem bulk_pos {H : Type} (d : DataW H) : 1 ≤ uptoBulk d := by
  cases d with
  | lit l => cases l <;> simp [uptoBulk]
  | _ => simp [uptoBulk]
theorem bulkAll_ge {H : Type} : ∀ (l : List (DataW H)), l.length ≤ uptoBulkAll l
  | [] => by simp
  | d :: r => by have := bulk_pos d; have := bulkAll_ge r; simp only [uptoBulkAll, List.length_cons]; omega
theorem bulkAll_mem {H : Type} {d : DataW H} : ∀ {l : List (DataW H)}, d ∈ l → uptoBulk d ≤ uptoBulkAll l
  | [], h => by cases h
  | e :: r, h => by
    simp only [uptoBulkAll]
    rcases List.mem_cons.1 h with rfl | h
    · omega
    · have := bulkAll_mem h; omega
theorem choose_list {α : Type} {p : Nat → α → Prop} : ∀ (n : Nat), (∀ i, i < n → ∃ y, p i y) → ∃ xs : List α, xs.length = n ∧ ∀ i x, xs[i]? = some x → p i x
  | 0, _ => ⟨[], rfl, fun i x h => by simp at h⟩
  | m + 1, key => by
    obtain ⟨xs, hxl, hx⟩ := choose_list m (fun i hi => key i (by omega))
    obtain ⟨y, hy⟩ := key m (by omega)
    refine ⟨xs ++ [y], by simp [hxl], fun i x h => ?_⟩
    rcases Nat.lt_or_ge i m with hi | hi
    · rw [List.getElem?_append_left (by omega)] at h; exact hx i x h
    · rw [List.getElem?_append_right (by omega), hxl] at h
      have hi0 : i - m = 0 := by have := (List.getElem?_eq_some_iff.1 h).1; simpa using this
      rw [hi0] at h
      simp only [List.getElem?_cons_zero, Option.some.injEq] at h
      subst h
      rw [show i = m from by omega]
      exact hy
theorem wSl_of {α H : Type} {w : α → Nat → Prop} : ∀ (xs : List α) (es : List (DataW H)), xs.length = es.length → (∀ (i : Nat) (x : α) (e : DataW H), xs[i]? = some x → es[i]? = some e → w x (uptoBulk e)) → wSl w xs (uptoBulkAll es)
  | [], _, _, _ => trivial
  | x :: r, [], h, _ => by simp at h
  | x :: r, e :: es, h, hw => ⟨uptoBulk e, uptoBulkAll es, hw 0 x e rfl rfl, wSl_of r es (by simpa using h) (fun i x' e' h1 h2 => hw (i + 1) x' e' (by simpa using h1) (by simpa using h2)), by simp [uptoBulkAll], bulk_pos e⟩
theorem reads_slice {α : Type} {P : Program} {T e : TypeId} {d : Kd α} {w : α → Nat → Prop} (hu : P.underlying T = some (.slice e)) (hn : P.cellsOf e = d.n) (hr : Reads P e d w) : Reads P T (Kd.sl d) (wSl w) := by
  intro H enc W spare held fuel cs x ht hb
  rcases DataW.trod_slice hu ht with ⟨rfl, rfl⟩ | ⟨a, len, cap, elems, rest, n, rfl, rfl, rfl, _, hlc, hcm, hel, hat, _, _⟩
  · exact ⟨[], ⟨none, 0, rfl, RepS.nil _ _⟩, trivial⟩
  · simp only [uptoBulk] at hb
    have hlen := bulkAll_ge (elems.map (·.1))
    rw [List.length_map, hel] at hlen
    have key : ∀ i, i < len → ∃ y, (∃ cs', d.R (immOf W) y cs' ∧ RunAt (immOf W) (a.add (i * d.n)) cs') ∧ ∀ e, (elems.map (·.1))[i]? = some e → w y (uptoBulk e) := fun i hi => by
      have h1 := hat i hi
      have hie : i < elems.length := by omega
      rw [List.getElem?_eq_getElem hie] at h1
      simp only [Option.bind_eq_some_iff] at h1
      obtain ⟨cs', h2, h3⟩ := h1
      obtain ⟨y, hy, hw⟩ := hr h3 (by
        have := bulkAll_mem (l := elems.map (·.1)) (List.mem_map_of_mem (List.getElem_mem hie))
        omega)
      refine ⟨y, ⟨cs', hy, ?_⟩, fun e he => ?_⟩
      · rw [← hn]
        exact run_of_cells h2
      · rw [List.getElem?_map, List.getElem?_eq_getElem hie] at he
        cases he; exact hw
    have hex := choose_list (p := fun i y => (∃ cs', d.R (immOf W) y cs' ∧ RunAt (immOf W) (a.add (i * d.n)) cs') ∧ ∀ e, (elems.map (·.1))[i]? = some e → w y (uptoBulk e)) len key
    obtain ⟨xs, hxl, hx⟩ := hex
    refine ⟨xs, ⟨some a, cap, by rw [hxl], by omega, by unfold maxLen'; omega, fun i x h => ?_⟩, ?_⟩
    · obtain ⟨⟨cs', h1, h2⟩, _⟩ := hx i x h
      exact ⟨a, cs', rfl, h1, h2⟩
    · exact (wSl_of xs (elems.map (·.1)) (by simp [hxl, hel]) (fun i x e h1 h2 => (hx i x h1).2 e h2)).le (by simp only [uptoBulk]; omega)
theorem pairR {α β : Type} {a : Kd α} {b : Kd β} {I : Imm} {x : α} {y : β} {cs : List Value} {o n m : Nat} (h0 : a.R I x ((cs.drop o).take n)) (h1 : b.R I y (cs.drop m)) (hm : m = o + n) : (Kd.pair a b).R I (x, y) (cs.drop o) := by
  subst hm
  exact ⟨(cs.drop o).take n, (cs.drop o).drop n, (List.take_append_drop _ _).symm, h0, by rw [List.drop_drop]; exact h1⟩
theorem lastR {α : Type} {a : Kd α} {I : Imm} {x : α} {cs : List Value} {o n : Nat} (h : a.R I x ((cs.drop o).take n)) (hl : cs.length = o + n) : a.R I x (cs.drop o) := by
  rwa [List.take_of_length_le (by rw [List.length_drop]; omega)] at h
def fieldD (P : Program) (T : TypeId) (i : Nat) : Field := (P.fieldsOf T).getD i default
/-- A field of a struct that is read. -/
theorem field_read {α : Type} {H : Type} {enc : TypeId × Value → H} {P : Program} {W : World} {spare : Nat → Bool} {held : Bool} {m : Nat} {T t : TypeId} {d : Kd α} {w : α → Nat → Prop} {cs : List Value} {xs : List (DataW H × List MemPlace)} {x : DataW H × List MemPlace} {i o n : Nat}
    (hf : ∀ (i : Nat) (f : Field), (P.fieldsOf T)[i]? = some f → DataW.trod enc P W 0 spare held m f.type ((cs.drop f.offset).take (P.cellsOf f.type)) = xs[i]?)
    (hx : xs[i]? = some x) (h1 : (P.fieldsOf T)[i]? = some (fieldD P T i)) (h2 : (fieldD P T i).type = t) (h3 : (fieldD P T i).offset = o) (h4 : P.cellsOf t = n) (hr : Reads P t d w) (hb : uptoBulk x.1 ≤ 1048576) : ∃ y, d.R (immOf W) y ((cs.drop o).take n) ∧ w y (uptoBulk x.1) := by
  have := hf i _ h1
  rw [hx, h2, h3, h4] at this
  exact hr this hb
theorem calls_of {P : Program} {f : FuncId} {args : Array Value} {W : World} {b : Value} (h : CallsTo P f args (immOf W) [] (fun v I' L' => v = b ∧ [] = L')) : Calls P f args W fun e W' => e = .returned b ∧ Below W.heap.size W W' :=
  (h W (holds_immOf W)).mono fun e W' ⟨v, I', L', he, hI, hh, hv, _⟩ => ⟨by rw [he, hv], below_of hh hI⟩
end Go.GB

/- Floats that are read. -/
set_option linter.unusedVariables false
set_option linter.unusedSimpArgs false
namespace Go.GB
open Go Go.RowKit
end Go.GB

/- What plain functions come to: a calculus for 'it answers, and its answer is ..'. -/
set_option linter.unusedVariables false
set_option linter.unusedSimpArgs false
namespace Go.GB
theorem wrap_up {i : Nat} (h : i < 4294967296) : IntKind.wrap .i64 ((i : Int) + 1) = ((i + 1 : Nat) : Int) := by rw [wrap64 (by omega) (by omega)]; omega
theorem ix_nat {α : Type} (xs : List α) (i : Nat) : ix xs (i : Int) = xs[i]? := by simp [ix]
theorem size_zero_iff {s : ByteArray} : (s.toList == (⟨#[]⟩ : ByteArray).toList) = decide (s.size = 0) := by
  rw [ByteArray.toList_eq, ByteArray.toList_eq]
  obtain ⟨⟨l⟩⟩ := s
  cases l <;> rfl
theorem toList_inj {a b : ByteArray} : (a.toList == b.toList) = true ↔ a = b := by
  rw [ByteArray.toList_eq, ByteArray.toList_eq]
  obtain ⟨⟨x⟩⟩ := a
  obtain ⟨⟨y⟩⟩ := b
  simp
end Go.GB

/- Plain laws, base: loops that are alike; searches; words of bits. -/
set_option linter.unusedVariables false
set_option linter.unusedSimpArgs false
namespace Go.GB
/-- One round. -/
theorem loopO_step {σ ρ : Type} {b : σ → Option (σ ⊕ ρ)} {s s' : σ} (h : b s = some (.inl s')) : loopO b s = loopO b s' := by rw [loopO_eq, h]; rfl
theorem loopO_done {σ ρ : Type} {b : σ → Option (σ ⊕ ρ)} {s : σ} {r : ρ} (h : b s = some (.inr r)) : loopO b s = some r := by rw [loopO_eq, h]; rfl
/-- A search that goes up: the first place at which there is something to tell. -/
theorem up_find {ρ : Type} {body : Int → Option (Int ⊕ (Unit ⊕ ρ))} {n : Nat} (p : Nat → Option ρ) (h : ∀ i : Nat, i < n → body i = some (match p i with | some r => .inr (.inr r) | none => .inl ((i + 1 : Nat) : Int))) (he : body n = some (.inr (.inl ()))) :
    loopO body 0 = some (match (List.range n).findSome? p with | some r => .inr r | none => .inl ()) := by
  have key : ∀ d i : Nat, i + d = n → loopO body i = some (match (List.range' i d).findSome? p with | some r => .inr r | none => .inl ()) := by
    intro d
    induction d with
    | zero =>
      intro i hi
      have : i = n := by omega
      subst this
      simp [loopO_done he]
    | succ d ih =>
      intro i hi
      have h1 := h i (by omega)
      rw [List.range'_succ, List.findSome?_cons]
      cases hp : p i with
      | some r => rw [hp] at h1; rw [loopO_done h1]
      | none => rw [hp] at h1; rw [loopO_step h1]; exact ih (i + 1) (by omega)
  have := key n 0 (by omega)
  rw [List.range_eq_range']
  exact this
/-- All of a list, by a loop that goes up. -/
theorem up_all {body : Int → Option (Int ⊕ (Unit ⊕ Bool))} {n : Nat} (q : Nat → Bool) (h : ∀ i : Nat, i < n → body i = some (bif q i then .inl ((i + 1 : Nat) : Int) else .inr (.inr false))) (he : body n = some (.inr (.inl ()))) :
    loopO body 0 = some (if (List.range n).all q then .inl () else .inr false) := by
  rw [up_find (fun i => if q i then none else some false) (fun i hi => by rw [h i hi]; cases q i <;> rfl) he]
  congr 1
  by_cases ha : (List.range n).all q = true
  · rw [if_pos ha]
    have : (List.range n).findSome? (fun i => if q i then none else some false) = none := by
      rw [List.findSome?_eq_none_iff]
      intro i hi
      rw [if_pos (List.all_eq_true.1 ha i hi)]
    rw [this]
  · rw [if_neg ha]
    have hx : (List.range n).all q = false := by simpa using ha
    rw [List.all_eq_false] at hx
    obtain ⟨i, hi, hq⟩ := hx
    cases hf : (List.range n).findSome? (fun i => if q i then none else some false) with
    | none =>
      rw [List.findSome?_eq_none_iff] at hf
      have := hf i hi
      rw [if_neg hq] at this; cases this
    | some b =>
      obtain ⟨j, _, hj⟩ := List.exists_of_findSome?_eq_some hf
      split at hj <;> cases hj
      rfl
theorem and63 : ∀ c : Fin 256, bitAnd .u8 ((c.val : Nat) : Int) 63 = ((c.val % 64 : Nat) : Int) := by decide +kernel
theorem and192 : ∀ c : Fin 256, (bitAnd .u8 ((c.val : Nat) : Int) 192 != 128) = !(decide (c.val / 64 = 2)) := by decide +kernel
theorem and31 : ∀ c : Fin 256, bitAnd .i64 ((c.val : Nat) : Int) 31 = ((c.val % 32 : Nat) : Int) := by decide +kernel
theorem and15 : ∀ c : Fin 256, bitAnd .i64 ((c.val : Nat) : Int) 15 = ((c.val % 16 : Nat) : Int) := by decide +kernel
theorem and7 : ∀ c : Fin 256, bitAnd .i64 ((c.val : Nat) : Int) 7 = ((c.val % 8 : Nat) : Int) := by decide +kernel
theorem bx_at {s : ByteArray} {i : Nat} (h : i < s.size) : bx s (i : Int) = some (((s.data.toList.getD i 0).toNat : Nat) : Int) := by
  unfold bx
  rw [if_pos ⟨by omega, by omega⟩]
  unfold byteAt
  rw [Int.toNat_natCast]
  simp [List.getD_eq_getElem?_getD]
theorem size_list (s : ByteArray) : s.data.toList.length = s.size := by rw [Array.length_toList]; rfl
theorem nil_size (s : ByteArray) : (s.toList == (⟨#[]⟩ : ByteArray).toList) = decide (s.size = 0) := size_zero_iff
end Go.GB

/- Plain laws: the document's Utf8 is the library's. -/
set_option linter.unusedVariables false
set_option linter.unusedSimpArgs false
set_option maxRecDepth 100000
namespace Go.Proofs.YtkjkkimnjpodiaaGreatDoor
open Go.GB Go.Lib
/-- The byte at a place, 0 behind the end. -/
def bat (s : ByteArray) (i : Nat) : Nat := (s.data.toList.getD i 0).toNat
theorem bat_lt (s : ByteArray) (i : Nat) : bat s i < 256 := UInt8.toNat_lt _
theorem bx_bat {s : ByteArray} {i : Nat} (h : i < s.size) : bx s (i : Int) = some ((bat s i : Nat) : Int) := bx_at h
theorem fin_and {P : Nat → Prop} (h : ∀ c : Fin 256, P c.val) {n : Nat} (hn : n < 256) : P n := h ⟨n, hn⟩
theorem l79_end {s : ByteArray} {i n least r0 : Nat} {r k : Nat} (h : n < k) (hk : k < 100) : loopO (tocsinref01_Utf8_l79 s (i : Int) ((n : Int), (least : Int), (r0 : Int))) ((r : Int), (k : Int)) = some (.inl (r : Int)) := by
  refine loopO_done ?_
  unfold tocsinref01_Utf8_l79
  rw [show decide (((r : Int), (k : Int)).2 ≤ ((n : Int), (least : Int), (r0 : Int)).1) = false from decide_eq_false (by show ¬ ((k : Int) ≤ (n : Int)); omega)]
  rfl
theorem l79_step {s : ByteArray} {i n least r0 : Nat} {r k : Nat} (hs : s.size < 4611686018427387904) (hi : i < s.size) (h : k ≤ n) (hn : n ≤ 3) (hr : r < 16777216) :
    tocsinref01_Utf8_l79 s (i : Int) ((n : Int), (least : Int), (r0 : Int)) ((r : Int), (k : Int)) =
      if i + k < s.size ∧ bat s (i + k) / 64 = 2 then some (.inl (((r * 64 + bat s (i + k) % 64 : Nat) : Int), ((k + 1 : Nat) : Int))) else some (.inr (.inr (.inr (.inr (.inr false))))) := by
  unfold tocsinref01_Utf8_l79
  simp only
  rw [show decide ((k : Int) ≤ (n : Int)) = true from decide_eq_true (by omega)]
  have e1 : IntKind.wrap .i64 ((i : Int) + (k : Int)) = ((i + k : Nat) : Int) := by rw [wrap64 (by omega) (by omega)]; omega
  simp only [cond_true, e1]
  by_cases hlt : i + k < s.size
  · rw [show decide (((i + k : Nat) : Int) ≥ (s.size : Int)) = false from decide_eq_false (by omega)]
    have hb := bat_lt s (i + k)
    have h1 : (bitAnd .u8 ((bat s (i + k) : Nat) : Int) 192 != 128) = !(decide (bat s (i + k) / 64 = 2)) := fin_and (P := fun n => (bitAnd .u8 ((n : Nat) : Int) 192 != 128) = !(decide (n / 64 = 2))) and192 hb
    have h2 : bitAnd .u8 ((bat s (i + k) : Nat) : Int) 63 = ((bat s (i + k) % 64 : Nat) : Int) := fin_and (P := fun n => bitAnd .u8 ((n : Nat) : Int) 63 = ((n % 64 : Nat) : Int)) and63 hb
    simp only [cond_false, bx_bat hlt, Option.bind_some, h1, h2]
    by_cases hc : bat s (i + k) / 64 = 2
    · rw [if_pos ⟨hlt, hc⟩]
      simp only [hc, decide_true, Bool.not_true, cond_false, bx_bat hlt, Option.bind_some, h2]
      have e2 : IntKind.wrap .i64 ((r : Int) * 64) = ((r * 64 : Nat) : Int) := by rw [wrap64 (by omega) (by omega)]; omega
      have e3 : IntKind.wrap .i64 ((bat s (i + k) % 64 : Nat) : Int) = ((bat s (i + k) % 64 : Nat) : Int) := wrap64 (by omega) (by omega)
      have e4 : IntKind.wrap .i64 (((r * 64 : Nat) : Int) + ((bat s (i + k) % 64 : Nat) : Int)) = ((r * 64 + bat s (i + k) % 64 : Nat) : Int) := by rw [wrap64 (by omega) (by omega)]; omega
      have e5 : IntKind.wrap .i64 ((k : Int) + 1) = ((k + 1 : Nat) : Int) := wrap_up (by omega)
      rw [e2, e3, e4, e5]
    · rw [if_neg (fun h => hc h.2)]
      simp only [hc, decide_false, Bool.not_false, cond_true]
  · rw [show decide (((i + k : Nat) : Int) ≥ (s.size : Int)) = true from decide_eq_true (by omega), if_neg (fun h => hlt h.1)]
    simp
/-- What a lead byte says: how many follow, the least, what it bears. -/
def leadN (c : Nat) : Option (Nat × Nat × Nat) := if 194 ≤ c ∧ c < 224 then some (1, 128, c % 32) else if 224 ≤ c ∧ c < 240 then some (2, 2048, c % 16) else if 240 ≤ c ∧ c < 245 then some (3, 65536, c % 8) else none
theorem l79_all {s : ByteArray} {i n least r0 : Nat} (hs : s.size < 4611686018427387904) (hi : i < s.size) (hn : 1 ≤ n ∧ n ≤ 3) (hr : r0 < 32) :
    loopO (tocsinref01_Utf8_l79 s (i : Int) ((n : Int), (least : Int), (r0 : Int))) ((r0 : Int), 1) =
      if (i + 1 < s.size ∧ bat s (i + 1) / 64 = 2) ∧ (2 ≤ n → i + 2 < s.size ∧ bat s (i + 2) / 64 = 2) ∧ (3 ≤ n → i + 3 < s.size ∧ bat s (i + 3) / 64 = 2) then
        some (.inl ((if n = 1 then r0 * 64 + bat s (i + 1) % 64 else if n = 2 then (r0 * 64 + bat s (i + 1) % 64) * 64 + bat s (i + 2) % 64 else ((r0 * 64 + bat s (i + 1) % 64) * 64 + bat s (i + 2) % 64) * 64 + bat s (i + 3) % 64 : Nat) : Int))
      else some (.inr (.inr (.inr (.inr false)))) := by
  have h1 := l79_step (s := s) (i := i) (n := n) (least := least) (r0 := r0) (r := r0) (k := 1) hs hi (by omega) hn.2 (by omega)
  by_cases c1 : i + 1 < s.size ∧ bat s (i + 1) / 64 = 2
  · rw [if_pos c1] at h1
    rw [show (1 : Int) = ((1 : Nat) : Int) from rfl, loopO_step h1]
    have b1 := bat_lt s (i + 1)
    by_cases n1 : n = 1
    · subst n1
      rw [l79_end (by omega) (by omega), if_pos ⟨c1, by omega, by omega⟩, if_pos rfl]
    · have h2 := l79_step (s := s) (i := i) (n := n) (least := least) (r0 := r0) (r := r0 * 64 + bat s (i + 1) % 64) (k := 2) hs hi (by omega) hn.2 (by omega)
      by_cases c2 : i + 2 < s.size ∧ bat s (i + 2) / 64 = 2
      · rw [if_pos c2] at h2
        rw [show ((1 + 1 : Nat) : Int) = ((2 : Nat) : Int) from rfl, loopO_step h2]
        have b2 := bat_lt s (i + 2)
        by_cases n2 : n = 2
        · subst n2
          rw [l79_end (by omega) (by omega), if_pos ⟨c1, fun _ => c2, by omega⟩]
          rfl
        · have h3 := l79_step (s := s) (i := i) (n := n) (least := least) (r0 := r0) (r := (r0 * 64 + bat s (i + 1) % 64) * 64 + bat s (i + 2) % 64) (k := 3) hs hi (by omega) hn.2 (by omega)
          by_cases c3 : i + 3 < s.size ∧ bat s (i + 3) / 64 = 2
          · rw [if_pos c3] at h3
            rw [show ((2 + 1 : Nat) : Int) = ((3 : Nat) : Int) from rfl, loopO_step h3, l79_end (by omega) (by omega), if_pos ⟨c1, fun _ => c2, fun _ => c3⟩, if_neg n1, if_neg n2]
          · rw [if_neg c3] at h3
            rw [show ((2 + 1 : Nat) : Int) = ((3 : Nat) : Int) from rfl, loopO_done h3, if_neg (fun h => c3 (h.2.2 (by omega)))]
      · rw [if_neg c2] at h2
        rw [show ((1 + 1 : Nat) : Int) = ((2 : Nat) : Int) from rfl, loopO_done h2, if_neg (fun h => c2 (h.2.1 (by omega)))]
  · rw [if_neg c1] at h1
    rw [show (1 : Int) = ((1 : Nat) : Int) from rfl, loopO_done h1, if_neg (fun h => c1 h.1)]
def contN (s : ByteArray) (i n least r0 : Nat) : Option Nat :=
  if (i + 1 < s.size ∧ bat s (i + 1) / 64 = 2) ∧ (2 ≤ n → i + 2 < s.size ∧ bat s (i + 2) / 64 = 2) ∧ (3 ≤ n → i + 3 < s.size ∧ bat s (i + 3) / 64 = 2) then
    (let r := if n = 1 then r0 * 64 + bat s (i + 1) % 64 else if n = 2 then (r0 * 64 + bat s (i + 1) % 64) * 64 + bat s (i + 2) % 64 else ((r0 * 64 + bat s (i + 1) % 64) * 64 + bat s (i + 2) % 64) * 64 + bat s (i + 3) % 64
     if r < least ∨ r > 1114111 ∨ (55296 ≤ r ∧ r < 57344) then none else some (i + n + 1))
  else none
/-- One round of the document's loop: the place behind the rune, or none. -/
def stepN (s : ByteArray) (i : Nat) : Option Nat :=
  if bat s i < 128 then some (i + 1) else match leadN (bat s i) with
    | none => none
    | some (n, least, r0) => contN s i n least r0
theorem l17_tail {s : ByteArray} {i n least r0 : Nat} (hs : s.size < 4611686018427387904) (hi : i < s.size) (hn : 1 ≤ n ∧ n ≤ 3) (hr : r0 < 32) (hl : least ≤ 65536) {X : Option ((Int) ⊕ ((Int) ⊕ ((Unit) ⊕ (Bool))))}
    (hX : X = Option.bind (loopO (tocsinref01_Utf8_l79 s (i : Int) ((n : Int), (least : Int), (r0 : Int))) ((r0 : Int), 1)) fun (r67 : (Int) ⊕ ((Int) ⊕ ((Int) ⊕ ((Unit) ⊕ (Bool))))) =>
          match r67 with
          | Sum.inl r75 => bif (((decide (r75 < (least : Int))) || (decide (r75 > 1114111))) || ((decide (r75 ≥ 55296)) && (decide (r75 < 57344)))) then
            (some (Sum.inr (Sum.inr (Sum.inr false))))
            else
            (some (Sum.inl (IntKind.wrap .i64 ((IntKind.wrap .i64 ((i : Int) + (n : Int))) + 1))))
          | Sum.inr v102 => some v102) :
    X = match contN s i n least r0 with
      | some j => some (Sum.inl (j : Int))
      | none => some (Sum.inr (Sum.inr (Sum.inr false))) := by
  subst hX
  rw [l79_all hs hi hn hr]
  unfold contN
  split
  · simp only [Option.bind_some]
    generalize (if n = 1 then r0 * 64 + bat s (i + 1) % 64 else if n = 2 then (r0 * 64 + bat s (i + 1) % 64) * 64 + bat s (i + 2) % 64 else ((r0 * 64 + bat s (i + 1) % 64) * 64 + bat s (i + 2) % 64) * 64 + bat s (i + 3) % 64) = r
    have e1 : IntKind.wrap .i64 (IntKind.wrap .i64 ((i : Int) + (n : Int)) + 1) = ((i + n + 1 : Nat) : Int) := by
      rw [wrap64 (x := (i : Int) + (n : Int)) (by omega) (by omega), wrap64 (by omega) (by omega)]; omega
    rw [e1]
    by_cases hb : r < least ∨ r > 1114111 ∨ (55296 ≤ r ∧ r < 57344)
    · rw [if_pos hb]
      have : (((decide ((r : Int) < (least : Int))) || (decide ((r : Int) > 1114111))) || ((decide ((r : Int) ≥ 55296)) && (decide ((r : Int) < 57344)))) = true := by
        simp only [Bool.or_eq_true, Bool.and_eq_true, decide_eq_true_eq]; omega
      rw [this]; rfl
    · rw [if_neg hb]
      have : (((decide ((r : Int) < (least : Int))) || (decide ((r : Int) > 1114111))) || ((decide ((r : Int) ≥ 55296)) && (decide ((r : Int) < 57344)))) = false := by
        rw [Bool.eq_false_iff]
        simp only [ne_eq, Bool.or_eq_true, Bool.and_eq_true, decide_eq_true_eq]; omega
      rw [this]; rfl
  · rfl
theorem l17_round {s : ByteArray} {i : Nat} (hs : s.size < 4611686018427387904) (hi : i < s.size) :
    tocsinref01_Utf8_l17 s (i : Int) = match stepN s i with | some j => some (.inl (j : Int)) | none => some (.inr (.inr false)) := by
  unfold tocsinref01_Utf8_l17
  have hb := bat_lt s i
  have w1 : IntKind.wrap .i64 ((bat s i : Nat) : Int) = ((bat s i : Nat) : Int) := wrap64 (by omega) (by omega)
  rw [show decide ((i : Int) < (s.size : Int)) = true from decide_eq_true (by omega)]
  simp only [cond_true, bx_bat hi, Option.bind_some, w1]
  unfold stepN
  by_cases h0 : bat s i < 128
  · rw [if_pos h0, show decide (((bat s i : Nat) : Int) < 128) = true from decide_eq_true (by omega), show IntKind.wrap .i64 ((i : Int) + 1) = ((i + 1 : Nat) : Int) from by rw [wrap64 (by omega) (by omega)]; omega]
    rfl
  · rw [if_neg h0, show decide (((bat s i : Nat) : Int) < 128) = false from decide_eq_false (by omega)]
    simp only [cond_false]
    have a31 : bitAnd .i64 ((bat s i : Nat) : Int) 31 = ((bat s i % 32 : Nat) : Int) := fin_and (P := fun n => bitAnd .i64 ((n : Nat) : Int) 31 = ((n % 32 : Nat) : Int)) and31 hb
    have a15 : bitAnd .i64 ((bat s i : Nat) : Int) 15 = ((bat s i % 16 : Nat) : Int) := fin_and (P := fun n => bitAnd .i64 ((n : Nat) : Int) 15 = ((n % 16 : Nat) : Int)) and15 hb
    have a7 : bitAnd .i64 ((bat s i : Nat) : Int) 7 = ((bat s i % 8 : Nat) : Int) := fin_and (P := fun n => bitAnd .i64 ((n : Nat) : Int) 7 = ((n % 8 : Nat) : Int)) Go.GB.and7 hb
    simp only [a31, a15, a7]
    unfold leadN
    by_cases c1 : 194 ≤ bat s i ∧ bat s i < 224
    · have : ((decide (((bat s i : Nat) : Int) ≥ 194)) && (decide (((bat s i : Nat) : Int) < 224))) = true := by simp only [Bool.and_eq_true, decide_eq_true_eq]; omega
      simp only [this, cond_true, Option.bind_some, if_pos c1]
      have hT := l17_tail (s := s) (i := i) (n := 1) (least := 128) (r0 := bat s i % 32) hs hi (by omega) (by omega) (by omega) rfl
      simp only [show ((1 : Nat) : Int) = 1 from rfl, show ((128 : Nat) : Int) = 128 from rfl] at hT
      refine Eq.trans (congrArg (fun X => Option.bind X _) hT) ?_
      cases contN s i 1 128 (bat s i % 32) <;> rfl
    · have f1 : ((decide (((bat s i : Nat) : Int) ≥ 194)) && (decide (((bat s i : Nat) : Int) < 224))) = false := by rw [Bool.eq_false_iff]; simp only [ne_eq, Bool.and_eq_true, decide_eq_true_eq]; omega
      simp only [f1, cond_false, if_neg c1]
      by_cases c2 : 224 ≤ bat s i ∧ bat s i < 240
      · have : ((decide (((bat s i : Nat) : Int) ≥ 224)) && (decide (((bat s i : Nat) : Int) < 240))) = true := by simp only [Bool.and_eq_true, decide_eq_true_eq]; omega
        simp only [this, cond_true, Option.bind_some, if_pos c2]
        have hT := l17_tail (s := s) (i := i) (n := 2) (least := 2048) (r0 := bat s i % 16) hs hi (by omega) (by omega) (by omega) rfl
        simp only [show ((2 : Nat) : Int) = 2 from rfl, show ((2048 : Nat) : Int) = 2048 from rfl] at hT
        refine Eq.trans (congrArg (fun X => Option.bind X _) hT) ?_
        cases contN s i 2 2048 (bat s i % 16) <;> rfl
      · have f2 : ((decide (((bat s i : Nat) : Int) ≥ 224)) && (decide (((bat s i : Nat) : Int) < 240))) = false := by rw [Bool.eq_false_iff]; simp only [ne_eq, Bool.and_eq_true, decide_eq_true_eq]; omega
        simp only [f2, cond_false, if_neg c2]
        by_cases c3 : 240 ≤ bat s i ∧ bat s i < 245
        · have : ((decide (((bat s i : Nat) : Int) ≥ 240)) && (decide (((bat s i : Nat) : Int) < 245))) = true := by simp only [Bool.and_eq_true, decide_eq_true_eq]; omega
          simp only [this, cond_true, Option.bind_some, if_pos c3]
          have hT := l17_tail (s := s) (i := i) (n := 3) (least := 65536) (r0 := bat s i % 8) hs hi (by omega) (by omega) (by omega) rfl
          simp only [show ((3 : Nat) : Int) = 3 from rfl, show ((65536 : Nat) : Int) = 65536 from rfl] at hT
          refine Eq.trans (congrArg (fun X => Option.bind X _) hT) ?_
          cases contN s i 3 65536 (bat s i % 8) <;> rfl
        · have f3 : ((decide (((bat s i : Nat) : Int) ≥ 240)) && (decide (((bat s i : Nat) : Int) < 245))) = false := by rw [Bool.eq_false_iff]; simp only [ne_eq, Bool.and_eq_true, decide_eq_true_eq]; omega
          simp only [f3, cond_false, if_neg c3, Option.bind_some]
theorem getD_drop (l : List UInt8) (i k : Nat) : (l.drop i).getD k 0 = l.getD (i + k) 0 := by simp [List.getD_eq_getElem?_getD, List.getElem?_drop]
theorem dec2 {n c b1 b2 b3 : Nat} (hc : 194 ≤ c ∧ c < 224) : decodeN n c b1 b2 b3 = if 1 < n ∧ b1 / 64 = 2 then (c % 32 * 64 + b1 % 64, 2) else (65533, 1) := by
  unfold decodeN
  rw [if_neg (by omega)]
  by_cases h : 1 < n ∧ b1 / 64 = 2
  · rw [if_pos ⟨by omega, h⟩, if_pos (by omega), if_pos h]
  · rw [if_neg (fun g => h g.2), if_neg (fun g => h g.2.1), if_neg (fun g => h g.2.1), if_neg h]
theorem dec3 {n c b1 b2 b3 : Nat} (hc : 224 ≤ c ∧ c < 240) : decodeN n c b1 b2 b3 = if (1 < n ∧ b1 / 64 = 2) ∧ (2 < n ∧ b2 / 64 = 2) then
    (if (c % 16 * 64 + b1 % 64) * 64 + b2 % 64 < 2048 ∨ (55296 ≤ (c % 16 * 64 + b1 % 64) * 64 + b2 % 64 ∧ (c % 16 * 64 + b1 % 64) * 64 + b2 % 64 < 57344) then (65533, 1) else ((c % 16 * 64 + b1 % 64) * 64 + b2 % 64, 3)) else (65533, 1) := by
  unfold decodeN
  rw [if_neg (by omega), if_neg (by omega)]
  by_cases h : (1 < n ∧ b1 / 64 = 2) ∧ (2 < n ∧ b2 / 64 = 2)
  · rw [if_pos ⟨by omega, h⟩, if_pos h]
    have e : c % 16 * 4096 + b1 % 64 * 64 + b2 % 64 = (c % 16 * 64 + b1 % 64) * 64 + b2 % 64 := by omega
    rw [e]
    by_cases h2 : (c % 16 * 64 + b1 % 64) * 64 + b2 % 64 < 2048 ∨ (55296 ≤ (c % 16 * 64 + b1 % 64) * 64 + b2 % 64 ∧ (c % 16 * 64 + b1 % 64) * 64 + b2 % 64 < 57344)
    · rw [if_pos h2, if_neg (by omega)]
    · rw [if_neg h2, if_pos (by omega)]
  · rw [if_neg (fun g => h g.2), if_neg (fun g => h ⟨g.2.1, g.2.2.1⟩), if_neg h]
theorem dec4 {n c b1 b2 b3 : Nat} (hc : 240 ≤ c ∧ c < 245) : decodeN n c b1 b2 b3 = if (1 < n ∧ b1 / 64 = 2) ∧ (2 < n ∧ b2 / 64 = 2) ∧ (3 < n ∧ b3 / 64 = 2) then
    (if ((c % 8 * 64 + b1 % 64) * 64 + b2 % 64) * 64 + b3 % 64 < 65536 ∨ 1114111 < ((c % 8 * 64 + b1 % 64) * 64 + b2 % 64) * 64 + b3 % 64 then (65533, 1) else (((c % 8 * 64 + b1 % 64) * 64 + b2 % 64) * 64 + b3 % 64, 4)) else (65533, 1) := by
  unfold decodeN
  rw [if_neg (by omega), if_neg (by omega), if_neg (by omega)]
  by_cases h : (1 < n ∧ b1 / 64 = 2) ∧ (2 < n ∧ b2 / 64 = 2) ∧ (3 < n ∧ b3 / 64 = 2)
  · rw [if_pos ⟨by omega, h⟩, if_pos h]
    have e : c % 8 * 262144 + b1 % 64 * 4096 + b2 % 64 * 64 + b3 % 64 = ((c % 8 * 64 + b1 % 64) * 64 + b2 % 64) * 64 + b3 % 64 := by omega
    rw [e]
    by_cases h2 : ((c % 8 * 64 + b1 % 64) * 64 + b2 % 64) * 64 + b3 % 64 < 65536 ∨ 1114111 < ((c % 8 * 64 + b1 % 64) * 64 + b2 % 64) * 64 + b3 % 64
    · rw [if_pos h2, if_neg (by omega)]
    · rw [if_neg h2, if_pos (by omega)]
  · rw [if_neg (fun g => h g.2), if_neg h]
set_option maxHeartbeats 1000000 in
/-- The document's round and the library's are one. -/
theorem stepN_valid {s : ByteArray} {i : Nat} (hi : i < s.size) : validD (s.data.toList.drop i) = match stepN s i with | some j => validD (s.data.toList.drop j) | none => false := by
  have hl : s.data.toList.length = s.size := size_list s
  have hne : s.data.toList.drop i ≠ [] := by intro h; have := congrArg List.length h; simp at this; omega
  have hlen : (s.data.toList.drop i).length = s.size - i := by rw [List.length_drop, hl]
  rw [validD_step _ hne, decodeL_N, hlen]
  simp only [getD_drop, Nat.add_zero]
  have b0 := bat_lt s i
  change (if (decodeN (s.size - i) (bat s i) (bat s (i + 1)) (bat s (i + 2)) (bat s (i + 3))).1 = 65533 ∧ (decodeN (s.size - i) (bat s i) (bat s (i + 1)) (bat s (i + 2)) (bat s (i + 3))).2 = 1 then false else validD ((s.data.toList.drop i).drop (decodeN (s.size - i) (bat s i) (bat s (i + 1)) (bat s (i + 2)) (bat s (i + 3))).2)) = _
  rw [List.drop_drop]
  unfold stepN leadN
  by_cases h0 : bat s i < 128
  · rw [if_pos h0, show decodeN (s.size - i) (bat s i) (bat s (i + 1)) (bat s (i + 2)) (bat s (i + 3)) = (bat s i, 1) from by unfold decodeN; rw [if_pos h0]]
    rw [if_neg (by simp; omega)]
  · rw [if_neg h0]
    by_cases c1 : 194 ≤ bat s i ∧ bat s i < 224
    · rw [if_pos c1, dec2 c1]
      show _ = match contN s i 1 128 (bat s i % 32) with | some j => validD (s.data.toList.drop j) | none => false
      by_cases k1 : i + 1 < s.size ∧ bat s (i + 1) / 64 = 2
      · have e : contN s i 1 128 (bat s i % 32) = some (i + 1 + 1) := by
          unfold contN
          rw [if_pos ⟨k1, by omega, by omega⟩]
          simp only [if_true]
          rw [if_neg (by omega)]
        rw [e, if_pos (show 1 < s.size - i ∧ bat s (i + 1) / 64 = 2 from ⟨by omega, k1.2⟩), if_neg (by simp)]; rfl
      · have e : contN s i 1 128 (bat s i % 32) = none := by
          unfold contN
          rw [if_neg (fun g => k1 g.1)]
        rw [e, if_neg (show ¬ (1 < s.size - i ∧ bat s (i + 1) / 64 = 2) from fun g => k1 ⟨by omega, g.2⟩), if_pos ⟨rfl, rfl⟩]
    · rw [if_neg c1]
      by_cases c2 : 224 ≤ bat s i ∧ bat s i < 240
      · rw [if_pos c2, dec3 c2]
        show _ = match contN s i 2 2048 (bat s i % 16) with | some j => validD (s.data.toList.drop j) | none => false
        by_cases k1 : (i + 1 < s.size ∧ bat s (i + 1) / 64 = 2) ∧ (i + 2 < s.size ∧ bat s (i + 2) / 64 = 2)
        · rw [if_pos (show (1 < s.size - i ∧ bat s (i + 1) / 64 = 2) ∧ (2 < s.size - i ∧ bat s (i + 2) / 64 = 2) from ⟨⟨by omega, k1.1.2⟩, by omega, k1.2.2⟩)]
          by_cases k2 : (bat s i % 16 * 64 + bat s (i + 1) % 64) * 64 + bat s (i + 2) % 64 < 2048 ∨ (55296 ≤ (bat s i % 16 * 64 + bat s (i + 1) % 64) * 64 + bat s (i + 2) % 64 ∧ (bat s i % 16 * 64 + bat s (i + 1) % 64) * 64 + bat s (i + 2) % 64 < 57344)
          · have e : contN s i 2 2048 (bat s i % 16) = none := by
              unfold contN
              rw [if_pos ⟨k1.1, fun _ => k1.2, by omega⟩]
              simp only [show ¬ (2 : Nat) = 1 from by omega, if_false, if_true]
              rw [if_pos (by omega)]
            rw [e, if_pos k2, if_pos ⟨rfl, rfl⟩]
          · have e : contN s i 2 2048 (bat s i % 16) = some (i + 2 + 1) := by
              unfold contN
              rw [if_pos ⟨k1.1, fun _ => k1.2, by omega⟩]
              simp only [show ¬ (2 : Nat) = 1 from by omega, if_false, if_true]
              rw [if_neg (by omega)]
            rw [e, if_neg k2, if_neg (by simp)]; rfl
        · have e : contN s i 2 2048 (bat s i % 16) = none := by
            unfold contN
            rw [if_neg (fun g => k1 ⟨g.1, g.2.1 (by omega)⟩)]
          rw [e, if_neg (show ¬ ((1 < s.size - i ∧ bat s (i + 1) / 64 = 2) ∧ (2 < s.size - i ∧ bat s (i + 2) / 64 = 2)) from fun g => k1 ⟨⟨by omega, g.1.2⟩, by omega, g.2.2⟩), if_pos ⟨rfl, rfl⟩]
      · rw [if_neg c2]
        by_cases c3 : 240 ≤ bat s i ∧ bat s i < 245
        · rw [if_pos c3, dec4 c3]
          show _ = match contN s i 3 65536 (bat s i % 8) with | some j => validD (s.data.toList.drop j) | none => false
          by_cases k1 : (i + 1 < s.size ∧ bat s (i + 1) / 64 = 2) ∧ (i + 2 < s.size ∧ bat s (i + 2) / 64 = 2) ∧ (i + 3 < s.size ∧ bat s (i + 3) / 64 = 2)
          · rw [if_pos (show (1 < s.size - i ∧ bat s (i + 1) / 64 = 2) ∧ (2 < s.size - i ∧ bat s (i + 2) / 64 = 2) ∧ (3 < s.size - i ∧ bat s (i + 3) / 64 = 2) from ⟨⟨by omega, k1.1.2⟩, ⟨by omega, k1.2.1.2⟩, by omega, k1.2.2.2⟩)]
            by_cases k2 : ((bat s i % 8 * 64 + bat s (i + 1) % 64) * 64 + bat s (i + 2) % 64) * 64 + bat s (i + 3) % 64 < 65536 ∨ 1114111 < ((bat s i % 8 * 64 + bat s (i + 1) % 64) * 64 + bat s (i + 2) % 64) * 64 + bat s (i + 3) % 64
            · have e : contN s i 3 65536 (bat s i % 8) = none := by
                unfold contN
                rw [if_pos ⟨k1.1, fun _ => k1.2.1, fun _ => k1.2.2⟩]
                simp only [show ¬ (3 : Nat) = 1 from by omega, show ¬ (3 : Nat) = 2 from by omega, if_false]
                rw [if_pos (by omega)]
              rw [e, if_pos k2, if_pos ⟨rfl, rfl⟩]
            · have e : contN s i 3 65536 (bat s i % 8) = some (i + 3 + 1) := by
                unfold contN
                rw [if_pos ⟨k1.1, fun _ => k1.2.1, fun _ => k1.2.2⟩]
                simp only [show ¬ (3 : Nat) = 1 from by omega, show ¬ (3 : Nat) = 2 from by omega, if_false]
                rw [if_neg (by omega)]
              rw [e, if_neg k2, if_neg (by simp)]; rfl
          · have e : contN s i 3 65536 (bat s i % 8) = none := by
              unfold contN
              rw [if_neg (fun g => k1 ⟨g.1, g.2.1 (by omega), g.2.2 (by omega)⟩)]
            rw [e, if_neg (show ¬ ((1 < s.size - i ∧ bat s (i + 1) / 64 = 2) ∧ (2 < s.size - i ∧ bat s (i + 2) / 64 = 2) ∧ (3 < s.size - i ∧ bat s (i + 3) / 64 = 2)) from fun g => k1 ⟨⟨by omega, g.1.2⟩, ⟨by omega, g.2.1.2⟩, by omega, g.2.2.2⟩), if_pos ⟨rfl, rfl⟩]
        · rw [if_neg c3, decodeN_bad _ _ _ _ _ (by omega)]
          simp
theorem contN_some {s : ByteArray} {i n least r0 j : Nat} (h : contN s i n least r0 = some j) : j = i + n + 1 ∧ (i + 1 < s.size ∧ bat s (i + 1) / 64 = 2) ∧ (2 ≤ n → i + 2 < s.size ∧ bat s (i + 2) / 64 = 2) ∧ (3 ≤ n → i + 3 < s.size ∧ bat s (i + 3) / 64 = 2) := by
  unfold contN at h
  split at h
  · rename_i hc
    refine ⟨?_, hc⟩
    have : ∀ (p : Prop) [Decidable p], (if p then none else some (i + n + 1)) = some j → j = i + n + 1 := fun p _ hp => by
      split at hp <;> cases hp
      rfl
    exact this _ h
  · cases h
theorem stepN_up {s : ByteArray} {i j : Nat} (h : stepN s i = some j) : i < j := by
  unfold stepN at h
  split at h
  · cases h; omega
  · split at h
    · cases h
    · have := (contN_some h).1; omega
theorem stepN_le {s : ByteArray} {i j : Nat} (hi : i < s.size) (h : stepN s i = some j) : j ≤ s.size := by
  unfold stepN at h
  split at h
  · cases h; omega
  · unfold leadN at h
    split at h
    · cases h
    · rename_i n least r0 hl
      obtain ⟨rfl, h1, h2, h3⟩ := contN_some h
      split at hl
      · cases hl; omega
      · split at hl
        · cases hl; have := h2 (by omega); omega
        · split at hl
          · cases hl; have := h3 (by omega); omega
          · cases hl
theorem utf8_loop {s : ByteArray} (hs : s.size < 4611686018427387904) : ∀ d i : Nat, s.size - i = d → i ≤ s.size → loopO (tocsinref01_Utf8_l17 s) (i : Int) = some (if validD (s.data.toList.drop i) then .inl () else .inr false) := by
  intro d
  induction d using Nat.strongRecOn with
  | _ d ih =>
    intro i hd hi
    by_cases hlt : i < s.size
    · have hr := l17_round hs hlt
      have hv := stepN_valid hlt
      cases hn : stepN s i with
      | none =>
        rw [hn] at hr hv
        rw [loopO_done hr, hv]; rfl
      | some j =>
        rw [hn] at hr hv
        have h1 := stepN_up hn
        have h2 := stepN_le hlt hn
        rw [loopO_step hr, hv]
        exact ih (s.size - j) (by omega) j rfl h2
    · have : i = s.size := by omega
      subst this
      have he : tocsinref01_Utf8_l17 s (s.size : Int) = some (.inr (.inl ())) := by
        unfold tocsinref01_Utf8_l17
        rw [show decide ((s.size : Int) < (s.size : Int)) = false from decide_eq_false (by omega)]
        rfl
      rw [loopO_done he]
      rw [show s.data.toList.drop s.size = [] from List.drop_eq_nil_of_le (Nat.le_of_eq (size_list s))]
      rfl
/-- The document's Utf8 is the library's ValidString. -/
theorem refUtf8_eq {s : ByteArray} (hs : s.size < 4611686018427387904) : tocsinref01_Utf8 s = some (validD s.data.toList) := by
  unfold tocsinref01_Utf8
  have := utf8_loop hs s.size 0 (by omega) (by omega)
  rw [show ((0 : Nat) : Int) = 0 from rfl, List.drop_zero] at this
  rw [this]
  cases validD s.data.toList <;> rfl
theorem valid_eq {s : ByteArray} (hs : s.size < 4611686018427387904) : utf8_ValidString s = some (validD s.data.toList) := by
  unfold utf8_ValidString
  rw [if_pos (by omega)]
end Go.Proofs.YtkjkkimnjpodiaaGreatDoor

set_option linter.unusedVariables false
set_option linter.unusedSimpArgs false
namespace Go.GB
open Go.Lib
theorem cb_self : ∀ a : List UInt8, compareBytes a a = 0
  | [] => rfl
  | a :: xs => by unfold compareBytes; rw [if_neg (UInt8.lt_irrefl a), if_neg (UInt8.lt_irrefl a)]; exact cb_self xs
theorem cb_swap : ∀ a b : List UInt8, compareBytes b a = - compareBytes a b
  | [], [] => rfl
  | [], _ :: _ => rfl
  | _ :: _, [] => rfl
  | a :: xs, b :: ys => by
    unfold compareBytes
    by_cases h1 : a < b
    · have h2 : ¬ b < a := fun h => UInt8.lt_irrefl a (UInt8.lt_trans h1 h)
      rw [if_pos h1, if_neg h2, if_pos h1]; rfl
    · by_cases h2 : b < a
      · rw [if_pos h2, if_neg h1, if_pos h2]
      · rw [if_neg h2, if_neg h1, if_neg h1, if_neg h2]; exact cb_swap xs ys
theorem u8_eq {a b : UInt8} (h1 : ¬ a < b) (h2 : ¬ b < a) : a = b := UInt8.le_antisymm (UInt8.not_lt.1 h2) (UInt8.not_lt.1 h1)
theorem cb_zero : ∀ a b : List UInt8, compareBytes a b = 0 → a = b
  | [], [], _ => rfl
  | [], _ :: _, h => by simp [compareBytes] at h
  | _ :: _, [], h => by simp [compareBytes] at h
  | a :: xs, b :: ys, h => by
    unfold compareBytes at h
    by_cases h1 : a < b
    · rw [if_pos h1] at h; cases h
    · by_cases h2 : b < a
      · rw [if_neg h1, if_pos h2] at h; cases h
      · rw [if_neg h1, if_neg h2] at h
        rw [cb_zero xs ys h, u8_eq h1 h2]
theorem cb_range : ∀ a b : List UInt8, compareBytes a b = -1 ∨ compareBytes a b = 0 ∨ compareBytes a b = 1
  | [], [] => by simp [compareBytes]
  | [], _ :: _ => by simp [compareBytes]
  | _ :: _, [] => by simp [compareBytes]
  | a :: xs, b :: ys => by
    unfold compareBytes
    split
    · simp
    · split
      · simp
      · exact cb_range xs ys
theorem cb_less : ∀ a b : List UInt8, Op.bytesLess a b = decide (compareBytes a b = -1)
  | [], [] => by simp [compareBytes, Op.bytesLess]
  | [], _ :: _ => by simp [compareBytes, Op.bytesLess]
  | _ :: _, [] => by simp [compareBytes, Op.bytesLess]
  | a :: xs, b :: ys => by
    unfold compareBytes Op.bytesLess
    by_cases h1 : a < b
    · simp [h1]
    · by_cases h2 : b < a
      · have h3 : (a == b) = false := by
          rw [beq_eq_false_iff_ne]; rintro rfl; exact h1 h2
        simp [h1, h2, h3]
      · have h3 := u8_eq h1 h2
        subst h3
        simp [h1, cb_less xs ys]
def cmpS (a b : ByteArray) : Int := compareBytes a.data.toList b.data.toList
theorem cmpS_self (a : ByteArray) : cmpS a a = 0 := cb_self _
theorem cmpS_swap (a b : ByteArray) : cmpS b a = - cmpS a b := cb_swap _ _
theorem ba_eq {a b : ByteArray} (h : a.data.toList = b.data.toList) : a = b := by
  obtain ⟨⟨x⟩⟩ := a
  obtain ⟨⟨y⟩⟩ := b
  simpa using h
theorem cmpS_zero {a b : ByteArray} (h : cmpS a b = 0) : a = b := ba_eq (cb_zero _ _ h)
theorem cmpS_range (a b : ByteArray) : cmpS a b = -1 ∨ cmpS a b = 0 ∨ cmpS a b = 1 := cb_range _ _
theorem toList_eq (a : ByteArray) : a.toList = a.data.toList := ByteArray.toList_eq a
theorem less_eq (a b : ByteArray) : Op.bytesLess a.toList b.toList = decide (cmpS a b = -1) := by rw [toList_eq, toList_eq]; exact cb_less _ _
theorem beq_eq (a b : ByteArray) : (a.toList == b.toList) = decide (cmpS a b = 0) := by
  rw [Bool.eq_iff_iff, toList_inj, decide_eq_true_iff]
  exact ⟨fun h => by rw [h]; exact cmpS_self _, cmpS_zero⟩
end Go.GB
