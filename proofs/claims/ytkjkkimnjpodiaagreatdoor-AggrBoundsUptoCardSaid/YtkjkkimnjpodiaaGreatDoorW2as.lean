/- Parts: W2a. -/
import Derived.Test.YtkjkkimnjpodiaaGreatDoorProg
import Derived.Test.YtkjkkimnjpodiaaGreatDoorChecked
import Derived.Test.YtkjkkimnjpodiaaGreatDoorGB33s
import Derived.Lib.LaidU8T
import Derived.Shelf.Unicode.ValidAny
set_option linter.unusedVariables false
set_option linter.unusedSimpArgs false
set_option maxRecDepth 100000
namespace Go.Proofs.YtkjkkimnjpodiaaGreatDoor
open Go.GB
structure S172 where
  f0 : Int
  f1 : Int
def kS172 : Kd S172 := Kd.iso (Kd.pair (Kd.int .u8) (Kd.int .u8)) (fun x => (x.f0, x.f1))
theorem kS172_open {I : Imm} {x : S172} {cs : List Value} (h : kS172.R I x cs) : cs = [.int .u8 x.f0, .int .u8 x.f1] := by
  obtain ⟨_, _, rfl, h_0, h_1⟩ := h
  obtain rfl := h_0
  obtain rfl := h_1
  exact rfl
theorem kS172_mk {I : Imm} {x : S172}   : kS172.R I x [.int .u8 x.f0, .int .u8 x.f1] :=
  ⟨[.int .u8 x.f0], [.int .u8 x.f1], rfl, rfl, rfl⟩
def tab1 : List Int := (List.range 256).map fun c => (Go.Lib.firstT c : Int)
def tab2 : List S172 := (List.range 16).map fun i => ⟨(Go.Lib.accLo i : Int), (Go.Lib.accHi i : Int)⟩
structure Gl (I : Imm) : Prop where
  dr : I.dr = 0
  g1 : RepS (Kd.int .u8) I (some ⟨1, 0, none⟩) 256 tab1
  g2 : RepS kS172 I (some ⟨2, 0, none⟩) 16 tab2
theorem Gl.mono {I J : Imm} (h : Gl I) (hI : I ≤ J) : Gl J := ⟨hI.dr.trans h.dr, h.g1.mono hI, h.g2.mono hI⟩
def tabv_48 : Nat → Value
  | 0 => .nilFunc
  | 1 => .func (.func 94) #[] #[]
  | 2 => .func (.func 95) #[] #[]
  | 3 => .func (.func 96) #[] #[]
  | 4 => .func (.func 97) #[] #[]
  | 5 => .func (.func 98) #[] #[]
  | 6 => .func (.func 99) #[] #[]
  | 7 => .func (.func 100) #[] #[]
  | 8 => .func (.func 101) #[] #[]
  | _ + 9 => .func (.func 102) #[] #[]
theorem tabv_48_cases : ∀ k : Nat, ((k == 0) = true ∧ tabv_48 k = .nilFunc) ∨ ((k == 0) = false ∧ ∃ f, tabv_48 k = .func (.func f) #[] #[])
  | 0 => .inl ⟨rfl, rfl⟩
  | 1 => .inr ⟨rfl, _, rfl⟩
  | 2 => .inr ⟨rfl, _, rfl⟩
  | 3 => .inr ⟨rfl, _, rfl⟩
  | 4 => .inr ⟨rfl, _, rfl⟩
  | 5 => .inr ⟨rfl, _, rfl⟩
  | 6 => .inr ⟨rfl, _, rfl⟩
  | 7 => .inr ⟨rfl, _, rfl⟩
  | 8 => .inr ⟨rfl, _, rfl⟩
  | _ + 9 => .inr ⟨rfl, _, rfl⟩
/-! 48 aggr_fold  -/
noncomputable def aggr_fold (a0 : ByteArray) : Nat :=
  bif (a0.toList == (⟨#[115, 117, 109]⟩ : ByteArray).toList) then
  (1)
  else
  (bif (a0.toList == (⟨#[97, 118, 103]⟩ : ByteArray).toList) then
    (2)
    else
    (bif (a0.toList == (⟨#[109, 105, 110]⟩ : ByteArray).toList) then
      (3)
      else
      (bif (a0.toList == (⟨#[109, 97, 120]⟩ : ByteArray).toList) then
        (4)
        else
        (bif (a0.toList == (⟨#[99, 111, 117, 110, 116]⟩ : ByteArray).toList) then
          (5)
          else
          (bif (a0.toList == (⟨#[103, 114, 111, 117, 112]⟩ : ByteArray).toList) then
            (6)
            else
            (bif (a0.toList == (⟨#[115, 116, 100, 118, 97, 114]⟩ : ByteArray).toList) then
              (7)
              else
              (bif (a0.toList == (⟨#[115, 116, 100, 100, 101, 118]⟩ : ByteArray).toList) then
                (8)
                else
                (bif (a0.toList == (⟨#[113, 117, 97, 110, 116, 105, 108, 101]⟩ : ByteArray).toList) then
                  (9)
                  else
                  (0)))))))))
theorem aggr_fold_walk {a0 : ByteArray} {I : Imm} {r : Nat}  (hr : aggr_fold a0 = r) (L : Own) :
    CallsTo Tryz.prog 48 #[.string a0] I L (fun v I' L' => v = (tabv_48 r) ∧ L = L') := by
  replace hr : some (aggr_fold a0) = some r := congrArg some hr
  unfold aggr_fold at hr
  refine callsTo_body (N := 22) Tryz.func48 (by kernel_rfl) (by kernel_rfl) (by kernel_rfl) ?_
  refine gk_pick [0] (K' := [(0, .string a0)]) (by kernel_rfl) ?_
  refine gk_seq (by kernel_rfl) ?_
  refine gk_region (by kernel_rfl) ?_
  refine gl_pure 1 [0] (K' := [(0, .string a0)]) (by kernel_rfl) ?_
  refine gl_atE (by kernel_rfl) ?_
  refine ge_seq ?_
  refine gk_seq (by kernel_rfl) ?_
  refine gk_seq (by kernel_rfl) ?_
  refine gk_region (by kernel_rfl) ?_
  refine gl_pure 1 [3] (K' := [(3, .string a0)]) (by kernel_rfl) ?_
  refine gl_atE (by kernel_rfl) ?_
  refine ge_seq ?_
  refine gk_block (by kernel_rfl) ?_
  refine gk_seq (by kernel_rfl) ?_
  refine gk_region (by kernel_rfl) ?_
  refine gl_pure 2 [3, 4] (K' := [(3, .string a0), (4, .bool (a0.toList == (⟨#[115, 117, 109]⟩ : ByteArray).toList))]) (by kernel_rfl) ?_
  refine gl_atE (by kernel_rfl) ?_
  refine ge_seq ?_
  refine gk_cond (b := (a0.toList == (⟨#[115, 117, 109]⟩ : ByteArray).toList)) (by kernel_rfl) (by kernel_rfl) (fun hc1 => ?_) (fun hc1 => ?_)
  · have hr := scond_t hc1 hr
    refine gk_seq (by kernel_rfl) ?_
    refine gk_region (by kernel_rfl) ?_
    refine gl_pure 1 [2] (K' := [(2, .func (.func 94) #[] #[])]) (by kernel_rfl) ?_
    refine gl_atE (by kernel_rfl) ?_
    refine ge_seq ?_
    refine gk_ret (by kernel_rfl) ?_
    refine ge_block_ret ?_
    refine ge_seq_ret ?_
    obtain rfl := some_inj hr
    exact ge_result trivial (ResOk.tmp (by kernel_rfl) ResOk.nil) (Imm.refl _) ⟨rfl, rfl⟩
  · have hr := scond_f hc1 hr
    refine gk_seq (by kernel_rfl) ?_
    refine gk_region (by kernel_rfl) ?_
    refine gl_pure 2 [3, 6] (K' := [(3, .string a0), (6, .bool (a0.toList == (⟨#[97, 118, 103]⟩ : ByteArray).toList))]) (by kernel_rfl) ?_
    refine gl_atE (by kernel_rfl) ?_
    refine ge_seq ?_
    refine gk_cond (b := (a0.toList == (⟨#[97, 118, 103]⟩ : ByteArray).toList)) (by kernel_rfl) (by kernel_rfl) (fun hc2 => ?_) (fun hc2 => ?_)
    · have hr := scond_t hc2 hr
      refine gk_seq (by kernel_rfl) ?_
      refine gk_region (by kernel_rfl) ?_
      refine gl_pure 1 [2] (K' := [(2, .func (.func 95) #[] #[])]) (by kernel_rfl) ?_
      refine gl_atE (by kernel_rfl) ?_
      refine ge_seq ?_
      refine gk_ret (by kernel_rfl) ?_
      refine ge_block_ret ?_
      refine ge_seq_ret ?_
      obtain rfl := some_inj hr
      exact ge_result trivial (ResOk.tmp (by kernel_rfl) ResOk.nil) (Imm.refl _) ⟨rfl, rfl⟩
    · have hr := scond_f hc2 hr
      refine gk_seq (by kernel_rfl) ?_
      refine gk_region (by kernel_rfl) ?_
      refine gl_pure 2 [3, 8] (K' := [(3, .string a0), (8, .bool (a0.toList == (⟨#[109, 105, 110]⟩ : ByteArray).toList))]) (by kernel_rfl) ?_
      refine gl_atE (by kernel_rfl) ?_
      refine ge_seq ?_
      refine gk_cond (b := (a0.toList == (⟨#[109, 105, 110]⟩ : ByteArray).toList)) (by kernel_rfl) (by kernel_rfl) (fun hc3 => ?_) (fun hc3 => ?_)
      · have hr := scond_t hc3 hr
        refine gk_seq (by kernel_rfl) ?_
        refine gk_region (by kernel_rfl) ?_
        refine gl_pure 1 [2] (K' := [(2, .func (.func 96) #[] #[])]) (by kernel_rfl) ?_
        refine gl_atE (by kernel_rfl) ?_
        refine ge_seq ?_
        refine gk_ret (by kernel_rfl) ?_
        refine ge_block_ret ?_
        refine ge_seq_ret ?_
        obtain rfl := some_inj hr
        exact ge_result trivial (ResOk.tmp (by kernel_rfl) ResOk.nil) (Imm.refl _) ⟨rfl, rfl⟩
      · have hr := scond_f hc3 hr
        refine gk_seq (by kernel_rfl) ?_
        refine gk_region (by kernel_rfl) ?_
        refine gl_pure 2 [3, 10] (K' := [(3, .string a0), (10, .bool (a0.toList == (⟨#[109, 97, 120]⟩ : ByteArray).toList))]) (by kernel_rfl) ?_
        refine gl_atE (by kernel_rfl) ?_
        refine ge_seq ?_
        refine gk_cond (b := (a0.toList == (⟨#[109, 97, 120]⟩ : ByteArray).toList)) (by kernel_rfl) (by kernel_rfl) (fun hc4 => ?_) (fun hc4 => ?_)
        · have hr := scond_t hc4 hr
          refine gk_seq (by kernel_rfl) ?_
          refine gk_region (by kernel_rfl) ?_
          refine gl_pure 1 [2] (K' := [(2, .func (.func 97) #[] #[])]) (by kernel_rfl) ?_
          refine gl_atE (by kernel_rfl) ?_
          refine ge_seq ?_
          refine gk_ret (by kernel_rfl) ?_
          refine ge_block_ret ?_
          refine ge_seq_ret ?_
          obtain rfl := some_inj hr
          exact ge_result trivial (ResOk.tmp (by kernel_rfl) ResOk.nil) (Imm.refl _) ⟨rfl, rfl⟩
        · have hr := scond_f hc4 hr
          refine gk_seq (by kernel_rfl) ?_
          refine gk_region (by kernel_rfl) ?_
          refine gl_pure 2 [3, 12] (K' := [(3, .string a0), (12, .bool (a0.toList == (⟨#[99, 111, 117, 110, 116]⟩ : ByteArray).toList))]) (by kernel_rfl) ?_
          refine gl_atE (by kernel_rfl) ?_
          refine ge_seq ?_
          refine gk_cond (b := (a0.toList == (⟨#[99, 111, 117, 110, 116]⟩ : ByteArray).toList)) (by kernel_rfl) (by kernel_rfl) (fun hc5 => ?_) (fun hc5 => ?_)
          · have hr := scond_t hc5 hr
            refine gk_seq (by kernel_rfl) ?_
            refine gk_region (by kernel_rfl) ?_
            refine gl_pure 1 [2] (K' := [(2, .func (.func 98) #[] #[])]) (by kernel_rfl) ?_
            refine gl_atE (by kernel_rfl) ?_
            refine ge_seq ?_
            refine gk_ret (by kernel_rfl) ?_
            refine ge_block_ret ?_
            refine ge_seq_ret ?_
            obtain rfl := some_inj hr
            exact ge_result trivial (ResOk.tmp (by kernel_rfl) ResOk.nil) (Imm.refl _) ⟨rfl, rfl⟩
          · have hr := scond_f hc5 hr
            refine gk_seq (by kernel_rfl) ?_
            refine gk_region (by kernel_rfl) ?_
            refine gl_pure 2 [3, 14] (K' := [(3, .string a0), (14, .bool (a0.toList == (⟨#[103, 114, 111, 117, 112]⟩ : ByteArray).toList))]) (by kernel_rfl) ?_
            refine gl_atE (by kernel_rfl) ?_
            refine ge_seq ?_
            refine gk_cond (b := (a0.toList == (⟨#[103, 114, 111, 117, 112]⟩ : ByteArray).toList)) (by kernel_rfl) (by kernel_rfl) (fun hc6 => ?_) (fun hc6 => ?_)
            · have hr := scond_t hc6 hr
              refine gk_seq (by kernel_rfl) ?_
              refine gk_region (by kernel_rfl) ?_
              refine gl_pure 1 [2] (K' := [(2, .func (.func 99) #[] #[])]) (by kernel_rfl) ?_
              refine gl_atE (by kernel_rfl) ?_
              refine ge_seq ?_
              refine gk_ret (by kernel_rfl) ?_
              refine ge_block_ret ?_
              refine ge_seq_ret ?_
              obtain rfl := some_inj hr
              exact ge_result trivial (ResOk.tmp (by kernel_rfl) ResOk.nil) (Imm.refl _) ⟨rfl, rfl⟩
            · have hr := scond_f hc6 hr
              refine gk_seq (by kernel_rfl) ?_
              refine gk_region (by kernel_rfl) ?_
              refine gl_pure 2 [3, 16] (K' := [(3, .string a0), (16, .bool (a0.toList == (⟨#[115, 116, 100, 118, 97, 114]⟩ : ByteArray).toList))]) (by kernel_rfl) ?_
              refine gl_atE (by kernel_rfl) ?_
              refine ge_seq ?_
              refine gk_cond (b := (a0.toList == (⟨#[115, 116, 100, 118, 97, 114]⟩ : ByteArray).toList)) (by kernel_rfl) (by kernel_rfl) (fun hc7 => ?_) (fun hc7 => ?_)
              · have hr := scond_t hc7 hr
                refine gk_seq (by kernel_rfl) ?_
                refine gk_region (by kernel_rfl) ?_
                refine gl_pure 1 [2] (K' := [(2, .func (.func 100) #[] #[])]) (by kernel_rfl) ?_
                refine gl_atE (by kernel_rfl) ?_
                refine ge_seq ?_
                refine gk_ret (by kernel_rfl) ?_
                refine ge_block_ret ?_
                refine ge_seq_ret ?_
                obtain rfl := some_inj hr
                exact ge_result trivial (ResOk.tmp (by kernel_rfl) ResOk.nil) (Imm.refl _) ⟨rfl, rfl⟩
              · have hr := scond_f hc7 hr
                refine gk_seq (by kernel_rfl) ?_
                refine gk_region (by kernel_rfl) ?_
                refine gl_pure 2 [3, 18] (K' := [(3, .string a0), (18, .bool (a0.toList == (⟨#[115, 116, 100, 100, 101, 118]⟩ : ByteArray).toList))]) (by kernel_rfl) ?_
                refine gl_atE (by kernel_rfl) ?_
                refine ge_seq ?_
                refine gk_cond (b := (a0.toList == (⟨#[115, 116, 100, 100, 101, 118]⟩ : ByteArray).toList)) (by kernel_rfl) (by kernel_rfl) (fun hc8 => ?_) (fun hc8 => ?_)
                · have hr := scond_t hc8 hr
                  refine gk_seq (by kernel_rfl) ?_
                  refine gk_region (by kernel_rfl) ?_
                  refine gl_pure 1 [2] (K' := [(2, .func (.func 101) #[] #[])]) (by kernel_rfl) ?_
                  refine gl_atE (by kernel_rfl) ?_
                  refine ge_seq ?_
                  refine gk_ret (by kernel_rfl) ?_
                  refine ge_block_ret ?_
                  refine ge_seq_ret ?_
                  obtain rfl := some_inj hr
                  exact ge_result trivial (ResOk.tmp (by kernel_rfl) ResOk.nil) (Imm.refl _) ⟨rfl, rfl⟩
                · have hr := scond_f hc8 hr
                  refine gk_seq (by kernel_rfl) ?_
                  refine gk_region (by kernel_rfl) ?_
                  refine gl_pure 2 [20] (K' := [(20, .bool (a0.toList == (⟨#[113, 117, 97, 110, 116, 105, 108, 101]⟩ : ByteArray).toList))]) (by kernel_rfl) ?_
                  refine gl_atE (by kernel_rfl) ?_
                  refine ge_seq ?_
                  refine gk_cond (b := (a0.toList == (⟨#[113, 117, 97, 110, 116, 105, 108, 101]⟩ : ByteArray).toList)) (by kernel_rfl) (by kernel_rfl) (fun hc9 => ?_) (fun hc9 => ?_)
                  · have hr := scond_t hc9 hr
                    refine gk_seq (by kernel_rfl) ?_
                    refine gk_region (by kernel_rfl) ?_
                    refine gl_pure 1 [2] (K' := [(2, .func (.func 102) #[] #[])]) (by kernel_rfl) ?_
                    refine gl_atE (by kernel_rfl) ?_
                    refine ge_seq ?_
                    refine gk_ret (by kernel_rfl) ?_
                    refine ge_block_ret ?_
                    refine ge_seq_ret ?_
                    obtain rfl := some_inj hr
                    exact ge_result trivial (ResOk.tmp (by kernel_rfl) ResOk.nil) (Imm.refl _) ⟨rfl, rfl⟩
                  · have hr := scond_f hc9 hr
                    refine gk_skip (by kernel_rfl) ?_
                    refine ge_block_normal ?_
                    refine ge_seq ?_
                    refine gk_seq (by kernel_rfl) ?_
                    refine gk_region (by kernel_rfl) ?_
                    refine gl_pure 1 [2] (K' := [(2, .nilFunc)]) (by kernel_rfl) ?_
                    refine gl_atE (by kernel_rfl) ?_
                    refine ge_seq ?_
                    refine gk_ret (by kernel_rfl) ?_
                    obtain rfl := some_inj hr
                    exact ge_result trivial (ResOk.tmp (by kernel_rfl) ResOk.nil) (Imm.refl _) ⟨rfl, rfl⟩
structure Fn88 (I : Imm) (fv : Value) (f : (List Fl) → Fl → Option Fl) : Prop where
  out : ∀ I', I ≤ I' → ∀ (x0 : List Fl) (x1 : Fl) (r : Fl), f x0 x1 = some r → ∀ A0_0 c0_0 b1_0, RepS Kd.flt I' A0_0 c0_0 x0 → FRep x1 b1_0 → ∀ L, CallsV Tryz.prog fv [.slice A0_0 x0.length c0_0, .float .f64 b1_0] I' L (fun v I' L' => ∃ b0_0, FRep r b0_0 ∧ v = .float .f64 b0_0 ∧ L = L')
theorem Fn88.mono {I J : Imm} {fv : Value} {f : (List Fl) → Fl → Option Fl} (h : Fn88 I fv f) (hI : I ≤ J) : Fn88 J fv f := ⟨fun I' hI' => h.out I' (Imm.trans hI hI')⟩
/-! 94 aggr_values_sum  -/
noncomputable def aggr_values_sum_l37 (l12 : List Fl) : (Fl × Int) → Option ((Fl × Int) ⊕ (Fl)) := fun s24 =>
  bif (decide (s24.2 < (l12.length : Int))) then
  (Option.bind (ix l12 s24.2) fun (x40 : Fl) =>
    some (Sum.inl ((farith .add s24.1 x40), (IntKind.wrap .i64 (s24.2 + 1)))))
  else
  (some (Sum.inr s24.1))
noncomputable def aggr_values_sum (a0 : List Fl) (a1 : Fl) : Option Fl :=
  Option.bind (ix a0 0) fun (x1 : Fl) =>
  Option.bind (lx a0 1 (a0.length : Int)) fun (l12 : List Fl) =>
  Option.bind (loopO (aggr_values_sum_l37 l12) (x1, 0)) fun (r22 : Fl) =>
  some r22
theorem aggr_values_sum_walk {a0 : List Fl} {A0_0 : Option Addr} {n0_0 : Nat} {a1 : Fl} {b1_0 : Nat} {I : Imm} {r : Fl}  (hf0_0 : RepS Kd.flt I A0_0 n0_0 a0)  (hf1_0 : FRep a1 b1_0) (hr : aggr_values_sum a0 a1 = some r) (L : Own) :
    CallsTo Tryz.prog 94 #[.slice A0_0 a0.length n0_0, .float .f64 b1_0] I L (fun v I' L' => ∃ b0_0, FRep r b0_0 ∧ v = .float .f64 b0_0 ∧ L = L') := by
  unfold aggr_values_sum at hr
  refine callsTo_body (N := 23) Tryz.func94 (by kernel_rfl) (by kernel_rfl) (by kernel_rfl) ?_
  refine gk_pick [0, 1] (K' := [(0, .slice A0_0 a0.length n0_0), (1, .float .f64 b1_0)]) (by kernel_rfl) ?_
  refine gk_seq (by kernel_rfl) ?_
  refine gk_region (by kernel_rfl) ?_
  refine gl_pure 1 [0] (K' := [(0, .slice A0_0 a0.length n0_0)]) (by kernel_rfl) ?_
  refine gl_atE (by kernel_rfl) ?_
  refine ge_seq ?_
  refine gk_seq (by kernel_rfl) ?_
  refine gk_region (by kernel_rfl) ?_
  refine gl_pure 1 [0, 8] (K' := [(0, .slice A0_0 a0.length n0_0), (8, .slice A0_0 a0.length n0_0)]) (by kernel_rfl) ?_
  obtain ⟨x1, hx2, hr⟩ := bind_some hr
  obtain ⟨p3, cs4, hR5, hA6, ha7⟩ := RepS.ixAt hx2 hf0_0
  have hi8 := ix_some hx2
  obtain ⟨b9, rfl, hf10⟩ := hR5
  refine gl_indexAddrF (c := n0_0) (T' := 92) (e := 37) (xs := (.tmp 8)) (xi := (.const (.int .i64 0))) (kd := .i64) ha7 hi8.1 hi8.2.1 (by kernel_rfl) (by kernel_rfl) (by kernel_rfl) (by kernel_rfl) (by kernel_rfl) ?_
  refine gl_load (T' := 37) (xp := (.tmp 9)) (p := p3) (c := .float .f64 b9) (n := 1) (by kernel_rfl) (by kernel_rfl) (by kernel_rfl) (by kernel_rfl) hA6 ?_
  refine gl_pure 1 [0, 5] (K' := [(0, .slice A0_0 a0.length n0_0), (5, .float .f64 b9)]) (by kernel_rfl) ?_
  refine gl_atE (by kernel_rfl) ?_
  refine ge_seq ?_
  refine gk_seq (by kernel_rfl) ?_
  refine gk_seq (by kernel_rfl) ?_
  refine gk_region (by kernel_rfl) ?_
  refine gl_pure 1 [5, 11] (K' := [(5, .float .f64 b9), (11, .slice A0_0 a0.length n0_0)]) (by kernel_rfl) ?_
  obtain ⟨l12, hx11, hr⟩ := bind_some hr
  refine gl_sliceR (d := Kd.flt) (T' := 92) (e := 37) (xs := (.tmp 11)) (lo := (some (.const (.int .i64 1)))) (hi := none) hx11 hf0_0 (by kernel_rfl) (by kernel_rfl) (by kernel_rfl) (by kernel_rfl) (by kernel_rfl) (by kernel_rfl) (fun A13 n14 hf15 => ?_)
  refine gl_pure 2 [5, 12, 13, 14] (K' := [(5, .float .f64 b9), (12, .slice A13 l12.length n14), (13, .int .i64 (l12.length : Int)), (14, .int .i64 0)]) (by kernel_rfl) ?_
  refine gl_atE (by kernel_rfl) ?_
  refine ge_seq ?_
  obtain ⟨r22, hl23, hr⟩ := bind_some hr
  refine gk_join (fun t I' L' => ∃ b33, FRep r22 b33 ∧ I ≤ I' ∧ L = L' ∧ Knows 23 [(5, .float .f64 b33)] t) ?_ ?_
  · refine gk_block (by kernel_rfl) ?_
    refine gk_pick [5, 12, 13, 14] (K' := [(5, .float .f64 b9), (12, .slice A13 l12.length n14), (13, .int .i64 (l12.length : Int)), (14, .int .i64 0)]) (by kernel_rfl) ?_
    intro t hK
    refine gc_loop (aggr_values_sum_l37 l12) (fun s24 t I' L' => ∃ b28, FRep s24.1 b28 ∧ I ≤ I' ∧ L = L' ∧ Knows 23 [(5, .float .f64 b28), (12, .slice A13 l12.length n14), (13, .int .i64 (l12.length : Int)), (14, .int .i64 s24.2)] t) (by kernel_rfl) ?_ hl23 ⟨b9, hf10, (Imm.refl _), rfl, hK⟩
    rintro s24 o25 t I31 L' hb26 ⟨b28, hb29, hI27, rfl, hK30⟩
    unfold aggr_values_sum_l37 at hb26
    refine gk_at hK30 ?_
    refine gk_seq (by kernel_rfl) ?_
    refine gk_region (by kernel_rfl) ?_
    refine gl_pure 1 [5, 12, 13, 14, 15] (K' := [(5, .float .f64 b28), (12, .slice A13 l12.length n14), (13, .int .i64 (l12.length : Int)), (14, .int .i64 s24.2), (15, .bool (decide (s24.2 < (l12.length : Int))))]) (by kernel_rfl) ?_
    refine gl_atE (by kernel_rfl) ?_
    refine ge_seq ?_
    refine gk_seq (by kernel_rfl) ?_
    refine gk_cond (b := (decide (s24.2 < (l12.length : Int)))) (by kernel_rfl) (by kernel_rfl) (fun hc39 => ?_) (fun hc39 => ?_)
    · have hb26 := cond_t hc39 hb26
      refine gk_skip (by kernel_rfl) ?_
      refine ge_seq ?_
      refine gk_seq (by kernel_rfl) ?_
      refine gk_block (by kernel_rfl) ?_
      refine gk_seq (by kernel_rfl) ?_
      refine gk_region (by kernel_rfl) ?_
      obtain ⟨x40, hx41, hb26⟩ := bind_some hb26
      obtain ⟨p42, cs43, hR44, hA45, ha46⟩ := RepS.ixAt hx41 (hf15.mono hI27)
      have hi47 := ix_some hx41
      obtain ⟨b48, rfl, hf49⟩ := hR44
      refine gl_indexAddrF (c := n14) (T' := 92) (e := 37) (xs := (.tmp 12)) (xi := (.tmp 14)) (kd := .i64) ha46 hi47.1 hi47.2.1 (by kernel_rfl) (by kernel_rfl) (by kernel_rfl) (by kernel_rfl) (by kernel_rfl) ?_
      refine gl_load (T' := 37) (xp := (.tmp 16)) (p := p42) (c := .float .f64 b48) (n := 1) (by kernel_rfl) (by kernel_rfl) (by kernel_rfl) (by kernel_rfl) hA45 ?_
      refine gl_pure 1 [5, 7, 12, 13, 14] (K' := [(5, .float .f64 b28), (7, .float .f64 b48), (12, .slice A13 l12.length n14), (13, .int .i64 (l12.length : Int)), (14, .int .i64 s24.2)]) (by kernel_rfl) ?_
      refine gl_atE (by kernel_rfl) ?_
      refine ge_seq ?_
      refine gk_region (by kernel_rfl) ?_
      refine gl_pure 2 [12, 13, 14, 18, 19] (K' := [(12, .slice A13 l12.length n14), (13, .int .i64 (l12.length : Int)), (14, .int .i64 s24.2), (18, .float .f64 b28), (19, .float .f64 b48)]) (by kernel_rfl) ?_
      refine gl_farith (op := .add) (t := 37) (t' := 37) (xx := (.tmp 18)) (yy := (.tmp 19)) hb29 hf49 (by kernel_rfl) (by kernel_rfl) rfl (by kernel_rfl) (by kernel_rfl) (fun b50 hf51 => ?_)
      refine gl_pure 1 [5, 12, 13, 14] (K' := [(5, .float .f64 b50), (12, .slice A13 l12.length n14), (13, .int .i64 (l12.length : Int)), (14, .int .i64 s24.2)]) (by kernel_rfl) ?_
      refine gl_atE (by kernel_rfl) ?_
      refine ge_block_normal ?_
      refine ge_seq ?_
      refine gk_region (by kernel_rfl) ?_
      refine gl_pure 2 [5, 12, 13, 14] (K' := [(5, .float .f64 b50), (12, .slice A13 l12.length n14), (13, .int .i64 (l12.length : Int)), (14, .int .i64 (IntKind.wrap .i64 (s24.2 + 1)))]) (by kernel_rfl) ?_
      refine gl_atE (by kernel_rfl) ?_
      obtain rfl := some_inj hb26
      exact ge_round fun t ht => ⟨b50, hf51, hI27, rfl, ht.pick (l := [5, 12, 13, 14]) (by kernel_rfl)⟩
    · have hb26 := cond_f hc39 hb26
      refine gk_exit (by kernel_rfl) ?_
      refine ge_seq_exit ?_
      obtain rfl := some_inj hb26
      refine ge_round_out (fun hrr => ?_) (by intro h; cases h)
      obtain rfl := hrr
      refine ge_block_hit (by kernel_rfl) ?_
      exact ge_mid fun t ht => ⟨b28, hb29, hI27, rfl, ht.pick (l := [5]) (by kernel_rfl)⟩
  · rintro t I36 L' ⟨b33, hb34, hI32, rfl, hK35⟩
    refine ge_at hK35 ?_
    refine ge_seq ?_
    refine gk_seq (by kernel_rfl) ?_
    refine gk_region (by kernel_rfl) ?_
    refine gl_pure 2 [4] (K' := [(4, .float .f64 b33)]) (by kernel_rfl) ?_
    refine gl_atE (by kernel_rfl) ?_
    refine ge_seq ?_
    refine gk_ret (by kernel_rfl) ?_
    obtain rfl := some_inj hr
    exact ge_result trivial (ResOk.tmp (by kernel_rfl) ResOk.nil) hI32 ⟨b33, hb34, rfl, rfl⟩
theorem aggr_values_sum_impl88  {I : Imm}  : Fn88 I (.func (.func 94) #[] #[]) aggr_values_sum := ⟨fun I' hI x0 x1 r hr A0_0 c0_0 b1_0 h0_0 h1_0 L => ⟨94, #[], #[], rfl, ⟨_, Tryz.func94, by kernel_rfl, by kernel_rfl⟩, by
  simp only [List.append_toArray, List.nil_append, List.append_nil, Array.append_empty, Array.empty_append, List.push_append_toArray, List.cons_append]
  exact aggr_values_sum_walk  h0_0 h1_0  hr L⟩⟩
/-! 95 aggr_values_avg  -/
noncomputable def aggr_values_avg (a0 : List Fl) (a1 : Fl) : Option Fl :=
  Option.bind (aggr_values_sum a0 a1) fun (y1 : Fl) =>
  some (farith .quo y1 (some (FloatKind.nearest .f64 (a0.length : Int)) : Fl))
theorem aggr_values_avg_walk {a0 : List Fl} {A0_0 : Option Addr} {n0_0 : Nat} {a1 : Fl} {b1_0 : Nat} {I : Imm} {r : Fl}  (hf0_0 : RepS Kd.flt I A0_0 n0_0 a0)  (hf1_0 : FRep a1 b1_0) (hr : aggr_values_avg a0 a1 = some r) (L : Own) :
    CallsTo Tryz.prog 95 #[.slice A0_0 a0.length n0_0, .float .f64 b1_0] I L (fun v I' L' => ∃ b0_0, FRep r b0_0 ∧ v = .float .f64 b0_0 ∧ L = L') := by
  unfold aggr_values_avg at hr
  refine callsTo_body (N := 12) Tryz.func95 (by kernel_rfl) (by kernel_rfl) (by kernel_rfl) ?_
  refine gk_pick [0, 1] (K' := [(0, .slice A0_0 a0.length n0_0), (1, .float .f64 b1_0)]) (by kernel_rfl) ?_
  refine gk_seq (by kernel_rfl) ?_
  refine gk_region (by kernel_rfl) ?_
  refine gl_pure 1 [0, 1] (K' := [(0, .slice A0_0 a0.length n0_0), (1, .float .f64 b1_0)]) (by kernel_rfl) ?_
  refine gl_atE (by kernel_rfl) ?_
  refine ge_seq ?_
  refine gk_seq (by kernel_rfl) ?_
  refine gk_region (by kernel_rfl) ?_
  refine gl_pure 2 [0, 5, 6] (K' := [(0, .slice A0_0 a0.length n0_0), (5, .slice A0_0 a0.length n0_0), (6, .float .f64 b1_0)]) (by kernel_rfl) ?_
  obtain ⟨y1, hx2, hr⟩ := bind_some hr
  refine gl_call (by kernel_rfl) (aggr_values_sum_walk (r := y1) hf0_0 hf1_0 hx2 _) ?_
  rintro v I3 L4 hI5 ⟨z6, hO7, rfl, rfl⟩
  refine gl_pure 3 [7, 10] (K' := [(7, .float .f64 z6), (10, .float .f64 (FloatKind.nearest .f64 (a0.length : Int)))]) (by kernel_rfl) ?_
  refine gl_farith (op := .quo) (t := 37) (t' := 37) (xx := (.tmp 7)) (yy := (.tmp 10)) hO7 (FRep.of (FloatKind.nearest .f64 (a0.length : Int))) (by kernel_rfl) (by kernel_rfl) rfl (by kernel_rfl) (by kernel_rfl) (fun b8 hf9 => ?_)
  refine gl_pure 1 [4] (K' := [(4, .float .f64 b8)]) (by kernel_rfl) ?_
  refine gl_atE (by kernel_rfl) ?_
  refine ge_seq ?_
  refine gk_ret (by kernel_rfl) ?_
  obtain rfl := some_inj hr
  exact ge_result trivial (ResOk.tmp (by kernel_rfl) ResOk.nil) hI5 ⟨b8, hf9, rfl, rfl⟩
theorem aggr_values_avg_impl88  {I : Imm}  : Fn88 I (.func (.func 95) #[] #[]) aggr_values_avg := ⟨fun I' hI x0 x1 r hr A0_0 c0_0 b1_0 h0_0 h1_0 L => ⟨95, #[], #[], rfl, ⟨_, Tryz.func95, by kernel_rfl, by kernel_rfl⟩, by
  simp only [List.append_toArray, List.nil_append, List.append_nil, Array.append_empty, Array.empty_append, List.push_append_toArray, List.cons_append]
  exact aggr_values_avg_walk  h0_0 h1_0  hr L⟩⟩
/-! 104 math_IsNaN  -/
noncomputable def math_IsNaN (a0 : Fl) : Bool :=
  (fcmp .neq a0 a0)
theorem math_IsNaN_walk {a0 : Fl} {b0_0 : Nat} {I : Imm} {r : Bool}  (hf0_0 : FRep a0 b0_0) (hr : math_IsNaN a0 = r) (L : Own) :
    CallsTo Tryz.prog 104 #[.float .f64 b0_0] I L (fun v I' L' => v = .bool r ∧ L = L') := by
  replace hr : some (math_IsNaN a0) = some r := congrArg some hr
  unfold math_IsNaN at hr
  refine callsTo_body (N := 6) Tryz.func104 (by kernel_rfl) (by kernel_rfl) (by kernel_rfl) ?_
  refine gk_pick [0] (K' := [(0, .float .f64 b0_0)]) (by kernel_rfl) ?_
  refine gk_seq (by kernel_rfl) ?_
  refine gk_region (by kernel_rfl) ?_
  refine gl_pure 1 [0] (K' := [(0, .float .f64 b0_0)]) (by kernel_rfl) ?_
  refine gl_atE (by kernel_rfl) ?_
  refine ge_seq ?_
  refine gk_seq (by kernel_rfl) ?_
  refine gk_region (by kernel_rfl) ?_
  refine gl_pure 2 [3, 4] (K' := [(3, .float .f64 b0_0), (4, .float .f64 b0_0)]) (by kernel_rfl) ?_
  refine gl_fcmp (op := .neq) (t := 37) (t' := 37) (xx := (.tmp 3)) (yy := (.tmp 4)) hf0_0 hf0_0 (by kernel_rfl) (by kernel_rfl) rfl (by kernel_rfl) (by kernel_rfl) ?_
  refine gl_pure 1 [2] (K' := [(2, .bool (fcmp .neq a0 a0))]) (by kernel_rfl) ?_
  refine gl_atE (by kernel_rfl) ?_
  refine ge_seq ?_
  refine gk_ret (by kernel_rfl) ?_
  obtain rfl := some_inj hr
  exact ge_result trivial (ResOk.tmp (by kernel_rfl) ResOk.nil) (Imm.refl _) ⟨rfl, rfl⟩
/-! 96 aggr_values_min  -/
noncomputable def aggr_values_min_l32 (a0 : List Fl) : (Fl × Int) → Option ((Fl × Int) ⊕ (Fl)) := fun s19 =>
  bif (decide (s19.2 < (a0.length : Int))) then
  (Option.bind (ix a0 s19.2) fun (x35 : Fl) =>
    Option.bind (bif (fcmp .lss x35 s19.1) then
      (some true)
      else
      (some (math_IsNaN s19.1))) fun (j45 : Bool) =>
    Option.bind (bif j45 then
      (some x35)
      else
      (some s19.1)) fun (j51 : Fl) =>
    some (Sum.inl (j51, (IntKind.wrap .i64 (s19.2 + 1)))))
  else
  (some (Sum.inr s19.1))
noncomputable def aggr_values_min (a0 : List Fl) (a1 : Fl) : Option Fl :=
  Option.bind (ix a0 0) fun (x1 : Fl) =>
  Option.bind (loopO (aggr_values_min_l32 a0) (x1, 0)) fun (r17 : Fl) =>
  some r17
theorem aggr_values_min_walk {a0 : List Fl} {A0_0 : Option Addr} {n0_0 : Nat} {a1 : Fl} {b1_0 : Nat} {I : Imm} {r : Fl}  (hf0_0 : RepS Kd.flt I A0_0 n0_0 a0)  (hf1_0 : FRep a1 b1_0) (hr : aggr_values_min a0 a1 = some r) (L : Own) :
    CallsTo Tryz.prog 96 #[.slice A0_0 a0.length n0_0, .float .f64 b1_0] I L (fun v I' L' => ∃ b0_0, FRep r b0_0 ∧ v = .float .f64 b0_0 ∧ L = L') := by
  unfold aggr_values_min at hr
  refine callsTo_body (N := 27) Tryz.func96 (by kernel_rfl) (by kernel_rfl) (by kernel_rfl) ?_
  refine gk_pick [0, 1] (K' := [(0, .slice A0_0 a0.length n0_0), (1, .float .f64 b1_0)]) (by kernel_rfl) ?_
  refine gk_seq (by kernel_rfl) ?_
  refine gk_region (by kernel_rfl) ?_
  refine gl_pure 1 [0] (K' := [(0, .slice A0_0 a0.length n0_0)]) (by kernel_rfl) ?_
  refine gl_atE (by kernel_rfl) ?_
  refine ge_seq ?_
  refine gk_seq (by kernel_rfl) ?_
  refine gk_region (by kernel_rfl) ?_
  refine gl_pure 1 [0, 8] (K' := [(0, .slice A0_0 a0.length n0_0), (8, .slice A0_0 a0.length n0_0)]) (by kernel_rfl) ?_
  obtain ⟨x1, hx2, hr⟩ := bind_some hr
  obtain ⟨p3, cs4, hR5, hA6, ha7⟩ := RepS.ixAt hx2 hf0_0
  have hi8 := ix_some hx2
  obtain ⟨b9, rfl, hf10⟩ := hR5
  refine gl_indexAddrF (c := n0_0) (T' := 92) (e := 37) (xs := (.tmp 8)) (xi := (.const (.int .i64 0))) (kd := .i64) ha7 hi8.1 hi8.2.1 (by kernel_rfl) (by kernel_rfl) (by kernel_rfl) (by kernel_rfl) (by kernel_rfl) ?_
  refine gl_load (T' := 37) (xp := (.tmp 9)) (p := p3) (c := .float .f64 b9) (n := 1) (by kernel_rfl) (by kernel_rfl) (by kernel_rfl) (by kernel_rfl) hA6 ?_
  refine gl_pure 1 [0, 5] (K' := [(0, .slice A0_0 a0.length n0_0), (5, .float .f64 b9)]) (by kernel_rfl) ?_
  refine gl_atE (by kernel_rfl) ?_
  refine ge_seq ?_
  refine gk_seq (by kernel_rfl) ?_
  refine gk_seq (by kernel_rfl) ?_
  refine gk_region (by kernel_rfl) ?_
  refine gl_pure 3 [5, 11, 12, 13] (K' := [(5, .float .f64 b9), (11, .slice A0_0 a0.length n0_0), (12, .int .i64 (a0.length : Int)), (13, .int .i64 0)]) (by kernel_rfl) ?_
  refine gl_atE (by kernel_rfl) ?_
  refine ge_seq ?_
  obtain ⟨r17, hl18, hr⟩ := bind_some hr
  refine gk_join (fun t I' L' => ∃ b28, FRep r17 b28 ∧ I ≤ I' ∧ L = L' ∧ Knows 27 [(5, .float .f64 b28)] t) ?_ ?_
  · refine gk_block (by kernel_rfl) ?_
    refine gk_pick [5, 11, 12, 13] (K' := [(5, .float .f64 b9), (11, .slice A0_0 a0.length n0_0), (12, .int .i64 (a0.length : Int)), (13, .int .i64 0)]) (by kernel_rfl) ?_
    intro t hK
    refine gc_loop (aggr_values_min_l32 a0) (fun s19 t I' L' => ∃ b23, FRep s19.1 b23 ∧ I ≤ I' ∧ L = L' ∧ Knows 27 [(5, .float .f64 b23), (11, .slice A0_0 a0.length n0_0), (12, .int .i64 (a0.length : Int)), (13, .int .i64 s19.2)] t) (by kernel_rfl) ?_ hl18 ⟨b9, hf10, (Imm.refl _), rfl, hK⟩
    rintro s19 o20 t I26 L' hb21 ⟨b23, hb24, hI22, rfl, hK25⟩
    unfold aggr_values_min_l32 at hb21
    refine gk_at hK25 ?_
    refine gk_seq (by kernel_rfl) ?_
    refine gk_region (by kernel_rfl) ?_
    refine gl_pure 1 [5, 11, 12, 13, 14] (K' := [(5, .float .f64 b23), (11, .slice A0_0 a0.length n0_0), (12, .int .i64 (a0.length : Int)), (13, .int .i64 s19.2), (14, .bool (decide (s19.2 < (a0.length : Int))))]) (by kernel_rfl) ?_
    refine gl_atE (by kernel_rfl) ?_
    refine ge_seq ?_
    refine gk_seq (by kernel_rfl) ?_
    refine gk_cond (b := (decide (s19.2 < (a0.length : Int)))) (by kernel_rfl) (by kernel_rfl) (fun hc34 => ?_) (fun hc34 => ?_)
    · have hb21 := cond_t hc34 hb21
      refine gk_skip (by kernel_rfl) ?_
      refine ge_seq ?_
      refine gk_seq (by kernel_rfl) ?_
      refine gk_block (by kernel_rfl) ?_
      refine gk_seq (by kernel_rfl) ?_
      refine gk_region (by kernel_rfl) ?_
      obtain ⟨x35, hx36, hb21⟩ := bind_some hb21
      obtain ⟨p37, cs38, hR39, hA40, ha41⟩ := RepS.ixAt hx36 (hf0_0.mono hI22)
      have hi42 := ix_some hx36
      obtain ⟨b43, rfl, hf44⟩ := hR39
      refine gl_indexAddrF (c := n0_0) (T' := 92) (e := 37) (xs := (.tmp 11)) (xi := (.tmp 13)) (kd := .i64) ha41 hi42.1 hi42.2.1 (by kernel_rfl) (by kernel_rfl) (by kernel_rfl) (by kernel_rfl) (by kernel_rfl) ?_
      refine gl_load (T' := 37) (xp := (.tmp 15)) (p := p37) (c := .float .f64 b43) (n := 1) (by kernel_rfl) (by kernel_rfl) (by kernel_rfl) (by kernel_rfl) hA40 ?_
      refine gl_pure 1 [5, 7, 11, 12, 13] (K' := [(5, .float .f64 b23), (7, .float .f64 b43), (11, .slice A0_0 a0.length n0_0), (12, .int .i64 (a0.length : Int)), (13, .int .i64 s19.2)]) (by kernel_rfl) ?_
      refine gl_atE (by kernel_rfl) ?_
      refine ge_seq ?_
      refine gk_seq (by kernel_rfl) ?_
      obtain ⟨j45, hj46, hb21⟩ := bind_some hb21
      refine gk_join (fun t I' L' => I26 ≤ I' ∧ L = L' ∧ Knows 27 [(5, .float .f64 b23), (7, .float .f64 b43), (11, .slice A0_0 a0.length n0_0), (12, .int .i64 (a0.length : Int)), (13, .int .i64 s19.2), (23, .bool j45)] t) ?_ ?_
      · refine gk_region (by kernel_rfl) ?_
        refine gl_pure 2 [5, 7, 11, 12, 13, 17, 18] (K' := [(5, .float .f64 b23), (7, .float .f64 b43), (11, .slice A0_0 a0.length n0_0), (12, .int .i64 (a0.length : Int)), (13, .int .i64 s19.2), (17, .float .f64 b43), (18, .float .f64 b23)]) (by kernel_rfl) ?_
        refine gl_fcmp (op := .lss) (t := 37) (t' := 37) (xx := (.tmp 17)) (yy := (.tmp 18)) hf44 hb24 (by kernel_rfl) (by kernel_rfl) rfl (by kernel_rfl) (by kernel_rfl) ?_
        refine gl_pure 1 [5, 7, 11, 12, 13, 20] (K' := [(5, .float .f64 b23), (7, .float .f64 b43), (11, .slice A0_0 a0.length n0_0), (12, .int .i64 (a0.length : Int)), (13, .int .i64 s19.2), (20, .bool (fcmp .lss x35 s19.1))]) (by kernel_rfl) ?_
        refine gl_case 20 (b := (fcmp .lss x35 s19.1)) (by kernel_rfl) (fun hc50 => ?_) (fun hc50 => ?_)
        · have hj46 := cond_t hc50 hj46
          refine gl_pure 3 [5, 7, 11, 12, 13, 23] (K' := [(5, .float .f64 b23), (7, .float .f64 b43), (11, .slice A0_0 a0.length n0_0), (12, .int .i64 (a0.length : Int)), (13, .int .i64 s19.2), (23, .bool true)]) (by kernel_rfl) ?_
          refine gl_atE (by kernel_rfl) ?_
          obtain rfl := some_inj hj46
          exact ge_mid fun t ht => ⟨(Imm.refl _), rfl, ht.pick (l := [5, 7, 11, 12, 13, 23]) (by kernel_rfl)⟩
        · have hj46 := cond_f hc50 hj46
          refine gl_pure 1 [5, 7, 11, 12, 13, 20, 21] (K' := [(5, .float .f64 b23), (7, .float .f64 b43), (11, .slice A0_0 a0.length n0_0), (12, .int .i64 (a0.length : Int)), (13, .int .i64 s19.2), (20, .bool false), (21, .float .f64 b23)]) (by kernel_rfl) ?_
          refine gl_callQ (by kernel_rfl) (math_IsNaN_walk (r := (math_IsNaN s19.1)) hb24 rfl _) ?_
          refine gl_pure 1 [5, 7, 11, 12, 13, 23] (K' := [(5, .float .f64 b23), (7, .float .f64 b43), (11, .slice A0_0 a0.length n0_0), (12, .int .i64 (a0.length : Int)), (13, .int .i64 s19.2), (23, .bool (math_IsNaN s19.1))]) (by kernel_rfl) ?_
          refine gl_atE (by kernel_rfl) ?_
          obtain rfl := some_inj hj46
          exact ge_mid fun t ht => ⟨(Imm.refl _), rfl, ht.pick (l := [5, 7, 11, 12, 13, 23]) (by kernel_rfl)⟩
      · rintro t I49 L' ⟨hI47, rfl, hK48⟩
        refine ge_at hK48 ?_
        refine ge_seq ?_
        obtain ⟨j51, hj52, hb21⟩ := bind_some hb21
        refine gk_join (fun t I' L' => ∃ b54, FRep j51 b54 ∧ I49 ≤ I' ∧ L = L' ∧ Knows 27 [(5, .float .f64 b54), (11, .slice A0_0 a0.length n0_0), (12, .int .i64 (a0.length : Int)), (13, .int .i64 s19.2)] t) ?_ ?_
        · refine gk_cond (b := j45) (by kernel_rfl) (by kernel_rfl) (fun hc58 => ?_) (fun hc58 => ?_)
          · have hj52 := cond_t hc58 hj52
            refine gk_region (by kernel_rfl) ?_
            refine gl_pure 2 [5, 11, 12, 13] (K' := [(5, .float .f64 b43), (11, .slice A0_0 a0.length n0_0), (12, .int .i64 (a0.length : Int)), (13, .int .i64 s19.2)]) (by kernel_rfl) ?_
            refine gl_atE (by kernel_rfl) ?_
            obtain rfl := some_inj hj52
            exact ge_mid fun t ht => ⟨b43, hf44, (Imm.refl _), rfl, ht.pick (l := [5, 11, 12, 13]) (by kernel_rfl)⟩
          · have hj52 := cond_f hc58 hj52
            refine gk_skip (by kernel_rfl) ?_
            obtain rfl := some_inj hj52
            exact ge_mid fun t ht => ⟨b23, hb24, (Imm.refl _), rfl, ht.pick (l := [5, 11, 12, 13]) (by kernel_rfl)⟩
        · rintro t I57 L' ⟨b54, hb55, hI53, rfl, hK56⟩
          refine ge_at hK56 ?_
          refine ge_block_normal ?_
          refine ge_seq ?_
          refine gk_region (by kernel_rfl) ?_
          refine gl_pure 2 [5, 11, 12, 13] (K' := [(5, .float .f64 b54), (11, .slice A0_0 a0.length n0_0), (12, .int .i64 (a0.length : Int)), (13, .int .i64 (IntKind.wrap .i64 (s19.2 + 1)))]) (by kernel_rfl) ?_
          refine gl_atE (by kernel_rfl) ?_
          obtain rfl := some_inj hb21
          exact ge_round fun t ht => ⟨b54, hb55, (Imm.trans (Imm.trans hI22 hI47) hI53), rfl, ht.pick (l := [5, 11, 12, 13]) (by kernel_rfl)⟩
    · have hb21 := cond_f hc34 hb21
      refine gk_exit (by kernel_rfl) ?_
      refine ge_seq_exit ?_
      obtain rfl := some_inj hb21
      refine ge_round_out (fun hrr => ?_) (by intro h; cases h)
      obtain rfl := hrr
      refine ge_block_hit (by kernel_rfl) ?_
      exact ge_mid fun t ht => ⟨b23, hb24, hI22, rfl, ht.pick (l := [5]) (by kernel_rfl)⟩
  · rintro t I31 L' ⟨b28, hb29, hI27, rfl, hK30⟩
    refine ge_at hK30 ?_
    refine ge_seq ?_
    refine gk_seq (by kernel_rfl) ?_
    refine gk_region (by kernel_rfl) ?_
    refine gl_pure 2 [4] (K' := [(4, .float .f64 b28)]) (by kernel_rfl) ?_
    refine gl_atE (by kernel_rfl) ?_
    refine ge_seq ?_
    refine gk_ret (by kernel_rfl) ?_
    obtain rfl := some_inj hr
    exact ge_result trivial (ResOk.tmp (by kernel_rfl) ResOk.nil) hI27 ⟨b28, hb29, rfl, rfl⟩
theorem aggr_values_min_impl88  {I : Imm}  : Fn88 I (.func (.func 96) #[] #[]) aggr_values_min := ⟨fun I' hI x0 x1 r hr A0_0 c0_0 b1_0 h0_0 h1_0 L => ⟨96, #[], #[], rfl, ⟨_, Tryz.func96, by kernel_rfl, by kernel_rfl⟩, by
  simp only [List.append_toArray, List.nil_append, List.append_nil, Array.append_empty, Array.empty_append, List.push_append_toArray, List.cons_append]
  exact aggr_values_min_walk  h0_0 h1_0  hr L⟩⟩
/-! 97 aggr_values_max  -/
noncomputable def aggr_values_max_l32 (a0 : List Fl) : (Fl × Int) → Option ((Fl × Int) ⊕ (Fl)) := fun s19 =>
  bif (decide (s19.2 < (a0.length : Int))) then
  (Option.bind (ix a0 s19.2) fun (x35 : Fl) =>
    Option.bind (bif (fcmp .gtr x35 s19.1) then
      (some true)
      else
      (some (math_IsNaN s19.1))) fun (j45 : Bool) =>
    Option.bind (bif j45 then
      (some x35)
      else
      (some s19.1)) fun (j51 : Fl) =>
    some (Sum.inl (j51, (IntKind.wrap .i64 (s19.2 + 1)))))
  else
  (some (Sum.inr s19.1))
noncomputable def aggr_values_max (a0 : List Fl) (a1 : Fl) : Option Fl :=
  Option.bind (ix a0 0) fun (x1 : Fl) =>
  Option.bind (loopO (aggr_values_max_l32 a0) (x1, 0)) fun (r17 : Fl) =>
  some r17
theorem aggr_values_max_walk {a0 : List Fl} {A0_0 : Option Addr} {n0_0 : Nat} {a1 : Fl} {b1_0 : Nat} {I : Imm} {r : Fl}  (hf0_0 : RepS Kd.flt I A0_0 n0_0 a0)  (hf1_0 : FRep a1 b1_0) (hr : aggr_values_max a0 a1 = some r) (L : Own) :
    CallsTo Tryz.prog 97 #[.slice A0_0 a0.length n0_0, .float .f64 b1_0] I L (fun v I' L' => ∃ b0_0, FRep r b0_0 ∧ v = .float .f64 b0_0 ∧ L = L') := by
  unfold aggr_values_max at hr
  refine callsTo_body (N := 27) Tryz.func97 (by kernel_rfl) (by kernel_rfl) (by kernel_rfl) ?_
  refine gk_pick [0, 1] (K' := [(0, .slice A0_0 a0.length n0_0), (1, .float .f64 b1_0)]) (by kernel_rfl) ?_
  refine gk_seq (by kernel_rfl) ?_
  refine gk_region (by kernel_rfl) ?_
  refine gl_pure 1 [0] (K' := [(0, .slice A0_0 a0.length n0_0)]) (by kernel_rfl) ?_
  refine gl_atE (by kernel_rfl) ?_
  refine ge_seq ?_
  refine gk_seq (by kernel_rfl) ?_
  refine gk_region (by kernel_rfl) ?_
  refine gl_pure 1 [0, 8] (K' := [(0, .slice A0_0 a0.length n0_0), (8, .slice A0_0 a0.length n0_0)]) (by kernel_rfl) ?_
  obtain ⟨x1, hx2, hr⟩ := bind_some hr
  obtain ⟨p3, cs4, hR5, hA6, ha7⟩ := RepS.ixAt hx2 hf0_0
  have hi8 := ix_some hx2
  obtain ⟨b9, rfl, hf10⟩ := hR5
  refine gl_indexAddrF (c := n0_0) (T' := 92) (e := 37) (xs := (.tmp 8)) (xi := (.const (.int .i64 0))) (kd := .i64) ha7 hi8.1 hi8.2.1 (by kernel_rfl) (by kernel_rfl) (by kernel_rfl) (by kernel_rfl) (by kernel_rfl) ?_
  refine gl_load (T' := 37) (xp := (.tmp 9)) (p := p3) (c := .float .f64 b9) (n := 1) (by kernel_rfl) (by kernel_rfl) (by kernel_rfl) (by kernel_rfl) hA6 ?_
  refine gl_pure 1 [0, 5] (K' := [(0, .slice A0_0 a0.length n0_0), (5, .float .f64 b9)]) (by kernel_rfl) ?_
  refine gl_atE (by kernel_rfl) ?_
  refine ge_seq ?_
  refine gk_seq (by kernel_rfl) ?_
  refine gk_seq (by kernel_rfl) ?_
  refine gk_region (by kernel_rfl) ?_
  refine gl_pure 3 [5, 11, 12, 13] (K' := [(5, .float .f64 b9), (11, .slice A0_0 a0.length n0_0), (12, .int .i64 (a0.length : Int)), (13, .int .i64 0)]) (by kernel_rfl) ?_
  refine gl_atE (by kernel_rfl) ?_
  refine ge_seq ?_
  obtain ⟨r17, hl18, hr⟩ := bind_some hr
  refine gk_join (fun t I' L' => ∃ b28, FRep r17 b28 ∧ I ≤ I' ∧ L = L' ∧ Knows 27 [(5, .float .f64 b28)] t) ?_ ?_
  · refine gk_block (by kernel_rfl) ?_
    refine gk_pick [5, 11, 12, 13] (K' := [(5, .float .f64 b9), (11, .slice A0_0 a0.length n0_0), (12, .int .i64 (a0.length : Int)), (13, .int .i64 0)]) (by kernel_rfl) ?_
    intro t hK
    refine gc_loop (aggr_values_max_l32 a0) (fun s19 t I' L' => ∃ b23, FRep s19.1 b23 ∧ I ≤ I' ∧ L = L' ∧ Knows 27 [(5, .float .f64 b23), (11, .slice A0_0 a0.length n0_0), (12, .int .i64 (a0.length : Int)), (13, .int .i64 s19.2)] t) (by kernel_rfl) ?_ hl18 ⟨b9, hf10, (Imm.refl _), rfl, hK⟩
    rintro s19 o20 t I26 L' hb21 ⟨b23, hb24, hI22, rfl, hK25⟩
    unfold aggr_values_max_l32 at hb21
    refine gk_at hK25 ?_
    refine gk_seq (by kernel_rfl) ?_
    refine gk_region (by kernel_rfl) ?_
    refine gl_pure 1 [5, 11, 12, 13, 14] (K' := [(5, .float .f64 b23), (11, .slice A0_0 a0.length n0_0), (12, .int .i64 (a0.length : Int)), (13, .int .i64 s19.2), (14, .bool (decide (s19.2 < (a0.length : Int))))]) (by kernel_rfl) ?_
    refine gl_atE (by kernel_rfl) ?_
    refine ge_seq ?_
    refine gk_seq (by kernel_rfl) ?_
    refine gk_cond (b := (decide (s19.2 < (a0.length : Int)))) (by kernel_rfl) (by kernel_rfl) (fun hc34 => ?_) (fun hc34 => ?_)
    · have hb21 := cond_t hc34 hb21
      refine gk_skip (by kernel_rfl) ?_
      refine ge_seq ?_
      refine gk_seq (by kernel_rfl) ?_
      refine gk_block (by kernel_rfl) ?_
      refine gk_seq (by kernel_rfl) ?_
      refine gk_region (by kernel_rfl) ?_
      obtain ⟨x35, hx36, hb21⟩ := bind_some hb21
      obtain ⟨p37, cs38, hR39, hA40, ha41⟩ := RepS.ixAt hx36 (hf0_0.mono hI22)
      have hi42 := ix_some hx36
      obtain ⟨b43, rfl, hf44⟩ := hR39
      refine gl_indexAddrF (c := n0_0) (T' := 92) (e := 37) (xs := (.tmp 11)) (xi := (.tmp 13)) (kd := .i64) ha41 hi42.1 hi42.2.1 (by kernel_rfl) (by kernel_rfl) (by kernel_rfl) (by kernel_rfl) (by kernel_rfl) ?_
      refine gl_load (T' := 37) (xp := (.tmp 15)) (p := p37) (c := .float .f64 b43) (n := 1) (by kernel_rfl) (by kernel_rfl) (by kernel_rfl) (by kernel_rfl) hA40 ?_
      refine gl_pure 1 [5, 7, 11, 12, 13] (K' := [(5, .float .f64 b23), (7, .float .f64 b43), (11, .slice A0_0 a0.length n0_0), (12, .int .i64 (a0.length : Int)), (13, .int .i64 s19.2)]) (by kernel_rfl) ?_
      refine gl_atE (by kernel_rfl) ?_
      refine ge_seq ?_
      refine gk_seq (by kernel_rfl) ?_
      obtain ⟨j45, hj46, hb21⟩ := bind_some hb21
      refine gk_join (fun t I' L' => I26 ≤ I' ∧ L = L' ∧ Knows 27 [(5, .float .f64 b23), (7, .float .f64 b43), (11, .slice A0_0 a0.length n0_0), (12, .int .i64 (a0.length : Int)), (13, .int .i64 s19.2), (23, .bool j45)] t) ?_ ?_
      · refine gk_region (by kernel_rfl) ?_
        refine gl_pure 2 [5, 7, 11, 12, 13, 17, 18] (K' := [(5, .float .f64 b23), (7, .float .f64 b43), (11, .slice A0_0 a0.length n0_0), (12, .int .i64 (a0.length : Int)), (13, .int .i64 s19.2), (17, .float .f64 b43), (18, .float .f64 b23)]) (by kernel_rfl) ?_
        refine gl_fcmp (op := .gtr) (t := 37) (t' := 37) (xx := (.tmp 17)) (yy := (.tmp 18)) hf44 hb24 (by kernel_rfl) (by kernel_rfl) rfl (by kernel_rfl) (by kernel_rfl) ?_
        refine gl_pure 1 [5, 7, 11, 12, 13, 20] (K' := [(5, .float .f64 b23), (7, .float .f64 b43), (11, .slice A0_0 a0.length n0_0), (12, .int .i64 (a0.length : Int)), (13, .int .i64 s19.2), (20, .bool (fcmp .gtr x35 s19.1))]) (by kernel_rfl) ?_
        refine gl_case 20 (b := (fcmp .gtr x35 s19.1)) (by kernel_rfl) (fun hc50 => ?_) (fun hc50 => ?_)
        · have hj46 := cond_t hc50 hj46
          refine gl_pure 3 [5, 7, 11, 12, 13, 23] (K' := [(5, .float .f64 b23), (7, .float .f64 b43), (11, .slice A0_0 a0.length n0_0), (12, .int .i64 (a0.length : Int)), (13, .int .i64 s19.2), (23, .bool true)]) (by kernel_rfl) ?_
          refine gl_atE (by kernel_rfl) ?_
          obtain rfl := some_inj hj46
          exact ge_mid fun t ht => ⟨(Imm.refl _), rfl, ht.pick (l := [5, 7, 11, 12, 13, 23]) (by kernel_rfl)⟩
        · have hj46 := cond_f hc50 hj46
          refine gl_pure 1 [5, 7, 11, 12, 13, 20, 21] (K' := [(5, .float .f64 b23), (7, .float .f64 b43), (11, .slice A0_0 a0.length n0_0), (12, .int .i64 (a0.length : Int)), (13, .int .i64 s19.2), (20, .bool false), (21, .float .f64 b23)]) (by kernel_rfl) ?_
          refine gl_callQ (by kernel_rfl) (math_IsNaN_walk (r := (math_IsNaN s19.1)) hb24 rfl _) ?_
          refine gl_pure 1 [5, 7, 11, 12, 13, 23] (K' := [(5, .float .f64 b23), (7, .float .f64 b43), (11, .slice A0_0 a0.length n0_0), (12, .int .i64 (a0.length : Int)), (13, .int .i64 s19.2), (23, .bool (math_IsNaN s19.1))]) (by kernel_rfl) ?_
          refine gl_atE (by kernel_rfl) ?_
          obtain rfl := some_inj hj46
          exact ge_mid fun t ht => ⟨(Imm.refl _), rfl, ht.pick (l := [5, 7, 11, 12, 13, 23]) (by kernel_rfl)⟩
      · rintro t I49 L' ⟨hI47, rfl, hK48⟩
        refine ge_at hK48 ?_
        refine ge_seq ?_
        obtain ⟨j51, hj52, hb21⟩ := bind_some hb21
        refine gk_join (fun t I' L' => ∃ b54, FRep j51 b54 ∧ I49 ≤ I' ∧ L = L' ∧ Knows 27 [(5, .float .f64 b54), (11, .slice A0_0 a0.length n0_0), (12, .int .i64 (a0.length : Int)), (13, .int .i64 s19.2)] t) ?_ ?_
        · refine gk_cond (b := j45) (by kernel_rfl) (by kernel_rfl) (fun hc58 => ?_) (fun hc58 => ?_)
          · have hj52 := cond_t hc58 hj52
            refine gk_region (by kernel_rfl) ?_
            refine gl_pure 2 [5, 11, 12, 13] (K' := [(5, .float .f64 b43), (11, .slice A0_0 a0.length n0_0), (12, .int .i64 (a0.length : Int)), (13, .int .i64 s19.2)]) (by kernel_rfl) ?_
            refine gl_atE (by kernel_rfl) ?_
            obtain rfl := some_inj hj52
            exact ge_mid fun t ht => ⟨b43, hf44, (Imm.refl _), rfl, ht.pick (l := [5, 11, 12, 13]) (by kernel_rfl)⟩
          · have hj52 := cond_f hc58 hj52
            refine gk_skip (by kernel_rfl) ?_
            obtain rfl := some_inj hj52
            exact ge_mid fun t ht => ⟨b23, hb24, (Imm.refl _), rfl, ht.pick (l := [5, 11, 12, 13]) (by kernel_rfl)⟩
        · rintro t I57 L' ⟨b54, hb55, hI53, rfl, hK56⟩
          refine ge_at hK56 ?_
          refine ge_block_normal ?_
          refine ge_seq ?_
          refine gk_region (by kernel_rfl) ?_
          refine gl_pure 2 [5, 11, 12, 13] (K' := [(5, .float .f64 b54), (11, .slice A0_0 a0.length n0_0), (12, .int .i64 (a0.length : Int)), (13, .int .i64 (IntKind.wrap .i64 (s19.2 + 1)))]) (by kernel_rfl) ?_
          refine gl_atE (by kernel_rfl) ?_
          obtain rfl := some_inj hb21
          exact ge_round fun t ht => ⟨b54, hb55, (Imm.trans (Imm.trans hI22 hI47) hI53), rfl, ht.pick (l := [5, 11, 12, 13]) (by kernel_rfl)⟩
    · have hb21 := cond_f hc34 hb21
      refine gk_exit (by kernel_rfl) ?_
      refine ge_seq_exit ?_
      obtain rfl := some_inj hb21
      refine ge_round_out (fun hrr => ?_) (by intro h; cases h)
      obtain rfl := hrr
      refine ge_block_hit (by kernel_rfl) ?_
      exact ge_mid fun t ht => ⟨b23, hb24, hI22, rfl, ht.pick (l := [5]) (by kernel_rfl)⟩
  · rintro t I31 L' ⟨b28, hb29, hI27, rfl, hK30⟩
    refine ge_at hK30 ?_
    refine ge_seq ?_
    refine gk_seq (by kernel_rfl) ?_
    refine gk_region (by kernel_rfl) ?_
    refine gl_pure 2 [4] (K' := [(4, .float .f64 b28)]) (by kernel_rfl) ?_
    refine gl_atE (by kernel_rfl) ?_
    refine ge_seq ?_
    refine gk_ret (by kernel_rfl) ?_
    obtain rfl := some_inj hr
    exact ge_result trivial (ResOk.tmp (by kernel_rfl) ResOk.nil) hI27 ⟨b28, hb29, rfl, rfl⟩
theorem aggr_values_max_impl88  {I : Imm}  : Fn88 I (.func (.func 97) #[] #[]) aggr_values_max := ⟨fun I' hI x0 x1 r hr A0_0 c0_0 b1_0 h0_0 h1_0 L => ⟨97, #[], #[], rfl, ⟨_, Tryz.func97, by kernel_rfl, by kernel_rfl⟩, by
  simp only [List.append_toArray, List.nil_append, List.append_nil, Array.append_empty, Array.empty_append, List.push_append_toArray, List.cons_append]
  exact aggr_values_max_walk  h0_0 h1_0  hr L⟩⟩
/-! 98 aggr_values_count  -/
noncomputable def aggr_values_count (a0 : List Fl) (a1 : Fl) : Fl :=
  (some (FloatKind.nearest .f64 (a0.length : Int)) : Fl)
theorem aggr_values_count_walk {a0 : List Fl} {A0_0 : Option Addr} {n0_0 : Nat} {a1 : Fl} {b1_0 : Nat} {I : Imm} {r : Fl}  (hf0_0 : RepS Kd.flt I A0_0 n0_0 a0)  (hf1_0 : FRep a1 b1_0) (hr : aggr_values_count a0 a1 = r) (L : Own) :
    CallsTo Tryz.prog 98 #[.slice A0_0 a0.length n0_0, .float .f64 b1_0] I L (fun v I' L' => ∃ b0_0, FRep r b0_0 ∧ v = .float .f64 b0_0 ∧ L = L') := by
  replace hr : some (aggr_values_count a0 a1) = some r := congrArg some hr
  unfold aggr_values_count at hr
  refine callsTo_body (N := 8) Tryz.func98 (by kernel_rfl) (by kernel_rfl) (by kernel_rfl) ?_
  refine gk_pick [0, 1] (K' := [(0, .slice A0_0 a0.length n0_0), (1, .float .f64 b1_0)]) (by kernel_rfl) ?_
  refine gk_seq (by kernel_rfl) ?_
  refine gk_region (by kernel_rfl) ?_
  refine gl_pure 1 [0] (K' := [(0, .slice A0_0 a0.length n0_0)]) (by kernel_rfl) ?_
  refine gl_atE (by kernel_rfl) ?_
  refine ge_seq ?_
  refine gk_seq (by kernel_rfl) ?_
  refine gk_region (by kernel_rfl) ?_
  refine gl_pure 4 [4] (K' := [(4, .float .f64 (FloatKind.nearest .f64 (a0.length : Int)))]) (by kernel_rfl) ?_
  refine gl_atE (by kernel_rfl) ?_
  refine ge_seq ?_
  refine gk_ret (by kernel_rfl) ?_
  obtain rfl := some_inj hr
  exact ge_result trivial (ResOk.tmp (by kernel_rfl) ResOk.nil) (Imm.refl _) ⟨(FloatKind.nearest .f64 (a0.length : Int)), (FRep.of (FloatKind.nearest .f64 (a0.length : Int))), rfl, rfl⟩
theorem aggr_values_count_impl88  {I : Imm}  : Fn88 I (.func (.func 98) #[] #[]) (fun x0 x1 => some (aggr_values_count x0 x1)) := ⟨fun I' hI x0 x1 r hr A0_0 c0_0 b1_0 h0_0 h1_0 L => ⟨98, #[], #[], rfl, ⟨_, Tryz.func98, by kernel_rfl, by kernel_rfl⟩, by
  simp only [List.append_toArray, List.nil_append, List.append_nil, Array.append_empty, Array.empty_append, List.push_append_toArray, List.cons_append]
  exact aggr_values_count_walk  h0_0 h1_0  (some_inj hr) L⟩⟩
/-! 99 aggr_values_group  -/
noncomputable def aggr_values_group (a0 : List Fl) (a1 : Fl) : Fl :=
  (some 4607182418800017408 : Fl)
theorem aggr_values_group_walk {a0 : List Fl} {A0_0 : Option Addr} {n0_0 : Nat} {a1 : Fl} {b1_0 : Nat} {I : Imm} {r : Fl}  (hf0_0 : RepS Kd.flt I A0_0 n0_0 a0)  (hf1_0 : FRep a1 b1_0) (hr : aggr_values_group a0 a1 = r) (L : Own) :
    CallsTo Tryz.prog 99 #[.slice A0_0 a0.length n0_0, .float .f64 b1_0] I L (fun v I' L' => ∃ b0_0, FRep r b0_0 ∧ v = .float .f64 b0_0 ∧ L = L') := by
  replace hr : some (aggr_values_group a0 a1) = some r := congrArg some hr
  unfold aggr_values_group at hr
  refine callsTo_body (N := 5) Tryz.func99 (by kernel_rfl) (by kernel_rfl) (by kernel_rfl) ?_
  refine gk_pick [0, 1] (K' := [(0, .slice A0_0 a0.length n0_0), (1, .float .f64 b1_0)]) (by kernel_rfl) ?_
  refine gk_seq (by kernel_rfl) ?_
  refine gk_region (by kernel_rfl) ?_
  refine gl_pure 1 [] (K' := []) (by kernel_rfl) ?_
  refine gl_atE (by kernel_rfl) ?_
  refine ge_seq ?_
  refine gk_seq (by kernel_rfl) ?_
  refine gk_region (by kernel_rfl) ?_
  refine gl_pure 1 [4] (K' := [(4, .float .f64 4607182418800017408)]) (by kernel_rfl) ?_
  refine gl_atE (by kernel_rfl) ?_
  refine ge_seq ?_
  refine gk_ret (by kernel_rfl) ?_
  obtain rfl := some_inj hr
  exact ge_result trivial (ResOk.tmp (by kernel_rfl) ResOk.nil) (Imm.refl _) ⟨4607182418800017408, (FRep.of 4607182418800017408), rfl, rfl⟩
theorem aggr_values_group_impl88  {I : Imm}  : Fn88 I (.func (.func 99) #[] #[]) (fun x0 x1 => some (aggr_values_group x0 x1)) := ⟨fun I' hI x0 x1 r hr A0_0 c0_0 b1_0 h0_0 h1_0 L => ⟨99, #[], #[], rfl, ⟨_, Tryz.func99, by kernel_rfl, by kernel_rfl⟩, by
  simp only [List.append_toArray, List.nil_append, List.append_nil, Array.append_empty, Array.empty_append, List.push_append_toArray, List.cons_append]
  exact aggr_values_group_walk  h0_0 h1_0  (some_inj hr) L⟩⟩
/-! 100 aggr_values_stdvar  -/
noncomputable def aggr_values_stdvar_l35 (a0 : List Fl) (y1 : Fl) : ((List Fl) × Int) → Option (((List Fl) × Int) ⊕ ((List Fl))) := fun s18 =>
  bif (decide (s18.2 < (a0.length : Int))) then
  (Option.bind (ix a0 s18.2) fun (x38 : Fl) =>
    Option.bind (app s18.1 [(farith .mul (farith .sub x38 y1) (farith .sub x38 y1))]) fun (zs56 : List Fl) =>
    some (Sum.inl (zs56, (IntKind.wrap .i64 (s18.2 + 1)))))
  else
  (some (Sum.inr s18.1))
noncomputable def aggr_values_stdvar (a0 : List Fl) (a1 : Fl) : Option Fl :=
  Option.bind (aggr_values_avg a0 a1) fun (y1 : Fl) =>
  Option.bind (loopO (aggr_values_stdvar_l35 a0 y1) ([], 0)) fun (r16 : (List Fl)) =>
  Option.bind (aggr_values_sum r16 a1) fun (y66 : Fl) =>
  some (farith .quo y66 (some (FloatKind.nearest .f64 (a0.length : Int)) : Fl))
theorem aggr_values_stdvar_walk {a0 : List Fl} {A0_0 : Option Addr} {n0_0 : Nat} {a1 : Fl} {b1_0 : Nat} {I : Imm} {r : Fl}  (hf0_0 : RepS Kd.flt I A0_0 n0_0 a0)  (hf1_0 : FRep a1 b1_0) (hr : aggr_values_stdvar a0 a1 = some r) (L : Own) :
    CallsTo Tryz.prog 100 #[.slice A0_0 a0.length n0_0, .float .f64 b1_0] I L (fun v I' L' => ∃ b0_0, FRep r b0_0 ∧ v = .float .f64 b0_0 ∧ L = L') := by
  unfold aggr_values_stdvar at hr
  refine callsTo_body (N := 36) Tryz.func100 (by kernel_rfl) (by kernel_rfl) (by kernel_rfl) ?_
  refine gk_pick [0, 1] (K' := [(0, .slice A0_0 a0.length n0_0), (1, .float .f64 b1_0)]) (by kernel_rfl) ?_
  refine gk_seq (by kernel_rfl) ?_
  refine gk_region (by kernel_rfl) ?_
  refine gl_pure 1 [0, 1] (K' := [(0, .slice A0_0 a0.length n0_0), (1, .float .f64 b1_0)]) (by kernel_rfl) ?_
  refine gl_atE (by kernel_rfl) ?_
  refine ge_seq ?_
  refine gk_seq (by kernel_rfl) ?_
  refine gk_region (by kernel_rfl) ?_
  refine gl_pure 2 [0, 1, 10, 11] (K' := [(0, .slice A0_0 a0.length n0_0), (1, .float .f64 b1_0), (10, .slice A0_0 a0.length n0_0), (11, .float .f64 b1_0)]) (by kernel_rfl) ?_
  obtain ⟨y1, hx2, hr⟩ := bind_some hr
  refine gl_call (by kernel_rfl) (aggr_values_avg_walk (r := y1) hf0_0 hf1_0 hx2 _) ?_
  rintro v I3 L4 hI5 ⟨z6, hO7, rfl, rfl⟩
  refine gl_pure 1 [0, 1, 5] (K' := [(0, .slice A0_0 a0.length n0_0), (1, .float .f64 b1_0), (5, .float .f64 z6)]) (by kernel_rfl) ?_
  refine gl_atE (by kernel_rfl) ?_
  refine ge_seq ?_
  refine gk_seq (by kernel_rfl) ?_
  refine gk_region (by kernel_rfl) ?_
  refine gl_pure 1 [0, 1, 5, 6] (K' := [(0, .slice A0_0 a0.length n0_0), (1, .float .f64 b1_0), (5, .float .f64 z6), (6, .slice none 0 0)]) (by kernel_rfl) ?_
  refine gl_atE (by kernel_rfl) ?_
  refine ge_seq ?_
  refine gk_seq (by kernel_rfl) ?_
  refine gk_seq (by kernel_rfl) ?_
  refine gk_region (by kernel_rfl) ?_
  refine gl_pure 3 [0, 1, 5, 6, 13, 14, 15] (K' := [(0, .slice A0_0 a0.length n0_0), (1, .float .f64 b1_0), (5, .float .f64 z6), (6, .slice none 0 0), (13, .slice A0_0 a0.length n0_0), (14, .int .i64 (a0.length : Int)), (15, .int .i64 0)]) (by kernel_rfl) ?_
  refine gl_atE (by kernel_rfl) ?_
  refine ge_seq ?_
  obtain ⟨r16, hl17, hr⟩ := bind_some hr
  refine gk_join (fun t I' L' => ∃ A29 n30 C31, OwnS Kd.flt 37 I' A29 n30 r16 C31 ∧ I3 ≤ I' ∧ C31 ++ L = L' ∧ Knows 36 [(0, .slice A0_0 a0.length n0_0), (1, .float .f64 b1_0), (6, .slice A29 r16.length n30)] t) ?_ ?_
  · refine gk_block (by kernel_rfl) ?_
    refine gk_pick [0, 1, 5, 6, 13, 14, 15] (K' := [(0, .slice A0_0 a0.length n0_0), (1, .float .f64 b1_0), (5, .float .f64 z6), (6, .slice none 0 0), (13, .slice A0_0 a0.length n0_0), (14, .int .i64 (a0.length : Int)), (15, .int .i64 0)]) (by kernel_rfl) ?_
    intro t hK
    refine gc_loop (aggr_values_stdvar_l35 a0 y1) (fun s18 t I' L' => ∃ A22 n23 C24, OwnS Kd.flt 37 I' A22 n23 s18.1 C24 ∧ I3 ≤ I' ∧ C24 ++ L = L' ∧ Knows 36 [(0, .slice A0_0 a0.length n0_0), (1, .float .f64 b1_0), (5, .float .f64 z6), (6, .slice A22 s18.1.length n23), (13, .slice A0_0 a0.length n0_0), (14, .int .i64 (a0.length : Int)), (15, .int .i64 s18.2)] t) (by kernel_rfl) ?_ hl17 ⟨none, 0, [], OwnS.nil _ _ _ _, (Imm.refl _), rfl, hK⟩
    rintro s18 o19 t I27 L' hb20 ⟨A22, n23, C24, hO25, hI21, rfl, hK26⟩
    unfold aggr_values_stdvar_l35 at hb20
    refine gk_at hK26 ?_
    refine gk_seq (by kernel_rfl) ?_
    refine gk_region (by kernel_rfl) ?_
    refine gl_pure 1 [0, 1, 5, 6, 13, 14, 15, 16] (K' := [(0, .slice A0_0 a0.length n0_0), (1, .float .f64 b1_0), (5, .float .f64 z6), (6, .slice A22 s18.1.length n23), (13, .slice A0_0 a0.length n0_0), (14, .int .i64 (a0.length : Int)), (15, .int .i64 s18.2), (16, .bool (decide (s18.2 < (a0.length : Int))))]) (by kernel_rfl) ?_
    refine gl_atE (by kernel_rfl) ?_
    refine ge_seq ?_
    refine gk_seq (by kernel_rfl) ?_
    refine gk_cond (b := (decide (s18.2 < (a0.length : Int)))) (by kernel_rfl) (by kernel_rfl) (fun hc37 => ?_) (fun hc37 => ?_)
    · have hb20 := cond_t hc37 hb20
      refine gk_skip (by kernel_rfl) ?_
      refine ge_seq ?_
      refine gk_seq (by kernel_rfl) ?_
      refine gk_block (by kernel_rfl) ?_
      refine gk_seq (by kernel_rfl) ?_
      refine gk_region (by kernel_rfl) ?_
      obtain ⟨x38, hx39, hb20⟩ := bind_some hb20
      obtain ⟨p40, cs41, hR42, hA43, ha44⟩ := RepS.ixAt hx39 (hf0_0.mono (Imm.trans hI5 hI21))
      have hi45 := ix_some hx39
      obtain ⟨b46, rfl, hf47⟩ := hR42
      refine gl_indexAddrF (c := n0_0) (T' := 92) (e := 37) (xs := (.tmp 13)) (xi := (.tmp 15)) (kd := .i64) ha44 hi45.1 hi45.2.1 (by kernel_rfl) (by kernel_rfl) (by kernel_rfl) (by kernel_rfl) (by kernel_rfl) ?_
      refine gl_load (T' := 37) (xp := (.tmp 17)) (p := p40) (c := .float .f64 b46) (n := 1) (by kernel_rfl) (by kernel_rfl) (by kernel_rfl) (by kernel_rfl) hA43 ?_
      refine gl_pure 1 [0, 1, 5, 6, 8, 13, 14, 15] (K' := [(0, .slice A0_0 a0.length n0_0), (1, .float .f64 b1_0), (5, .float .f64 z6), (6, .slice A22 s18.1.length n23), (8, .float .f64 b46), (13, .slice A0_0 a0.length n0_0), (14, .int .i64 (a0.length : Int)), (15, .int .i64 s18.2)]) (by kernel_rfl) ?_
      refine gl_atE (by kernel_rfl) ?_
      refine ge_seq ?_
      refine gk_seq (by kernel_rfl) ?_
      refine gk_region (by kernel_rfl) ?_
      refine gl_pure 2 [0, 1, 5, 6, 13, 14, 15, 19, 20] (K' := [(0, .slice A0_0 a0.length n0_0), (1, .float .f64 b1_0), (5, .float .f64 z6), (6, .slice A22 s18.1.length n23), (13, .slice A0_0 a0.length n0_0), (14, .int .i64 (a0.length : Int)), (15, .int .i64 s18.2), (19, .float .f64 b46), (20, .float .f64 z6)]) (by kernel_rfl) ?_
      refine gl_farith (op := .sub) (t := 37) (t' := 37) (xx := (.tmp 19)) (yy := (.tmp 20)) hf47 hO7 (by kernel_rfl) (by kernel_rfl) rfl (by kernel_rfl) (by kernel_rfl) (fun b48 hf49 => ?_)
      refine gl_pure 1 [0, 1, 5, 6, 9, 13, 14, 15] (K' := [(0, .slice A0_0 a0.length n0_0), (1, .float .f64 b1_0), (5, .float .f64 z6), (6, .slice A22 s18.1.length n23), (9, .float .f64 b48), (13, .slice A0_0 a0.length n0_0), (14, .int .i64 (a0.length : Int)), (15, .int .i64 s18.2)]) (by kernel_rfl) ?_
      refine gl_atE (by kernel_rfl) ?_
      refine ge_seq ?_
      refine gk_region (by kernel_rfl) ?_
      refine gl_pure 3 [0, 1, 5, 13, 14, 15, 22, 23, 24] (K' := [(0, .slice A0_0 a0.length n0_0), (1, .float .f64 b1_0), (5, .float .f64 z6), (13, .slice A0_0 a0.length n0_0), (14, .int .i64 (a0.length : Int)), (15, .int .i64 s18.2), (22, .slice A22 s18.1.length n23), (23, .float .f64 b48), (24, .float .f64 b48)]) (by kernel_rfl) ?_
      refine gl_farith (op := .mul) (t := 37) (t' := 37) (xx := (.tmp 23)) (yy := (.tmp 24)) hf49 hf49 (by kernel_rfl) (by kernel_rfl) rfl (by kernel_rfl) (by kernel_rfl) (fun b50 hf51 => ?_)
      refine gl_buildSlice (T' := 92) (e := 37) (n := 1) (len := 1) (parts := #[(0, (.tmp 25))]) (l := [(0, .float .f64 b50)]) (cs := #[.float .f64 b50]) (by kernel_rfl) (by kernel_rfl) (by kernel_rfl) (by kernel_rfl) (by kernel_rfl) (fun g52 => ?_)
      have hO53 : OwnS Kd.flt 37 I27 (some ⟨g52, 0, none⟩) 1 [(farith .mul (farith .sub x38 y1) (farith .sub x38 y1))] [(g52, .cells #[.float .f64 b50] 37)] := OwnS.lit (row_cons (l := [.float .f64 b50]) ⟨_, rfl, hf51⟩ (row_nil _ _)) rfl rfl rfl
      refine gl_reord (D := [(g52, .cells #[.float .f64 b50] 37)] ++ (C24 ++ L)) (Reord.refl _) ?_
      obtain ⟨zs56, hz57, hb20⟩ := bind_some hb20
      refine gl_append (xv := .slice (some ⟨g52, 0, none⟩) [(farith .mul (farith .sub x38 y1) (farith .sub x38 y1))].length 1) (d := Kd.flt) (t := 92) (tx := 92) (e := 37) (s := (.tmp 22)) (x := (.tmp 26)) (xs := s18.1) (fun X => [(g52, .cells #[.float .f64 b50] 37)] ++ (X ++ L)) hz57 (by kernel_rfl) (by kernel_rfl) (by kernel_rfl) (by kernel_rfl) (by kernel_rfl) (by kernel_rfl) (fun X => (Upd.app _ (Upd.head _ X _))) hO25 (SrcOk.slice (c := 1) (e := 37) (n := 1) (OwnS.rd hO53 (Upd.selfC _ _)) (by kernel_rfl)) (fun A58 n59 C60 hO61 => ?_)
      refine gl_pure 1 [0, 1, 5, 6, 13, 14, 15] (K' := [(0, .slice A0_0 a0.length n0_0), (1, .float .f64 b1_0), (5, .float .f64 z6), (6, .slice A58 zs56.length n59), (13, .slice A0_0 a0.length n0_0), (14, .int .i64 (a0.length : Int)), (15, .int .i64 s18.2)]) (by kernel_rfl) ?_
      refine gl_atE (by kernel_rfl) ?_
      refine ge_block_normal ?_
      refine ge_seq ?_
      refine gk_region (by kernel_rfl) ?_
      refine gl_pure 2 [0, 1, 5, 6, 13, 14, 15] (K' := [(0, .slice A0_0 a0.length n0_0), (1, .float .f64 b1_0), (5, .float .f64 z6), (6, .slice A58 zs56.length n59), (13, .slice A0_0 a0.length n0_0), (14, .int .i64 (a0.length : Int)), (15, .int .i64 (IntKind.wrap .i64 (s18.2 + 1)))]) (by kernel_rfl) ?_
      refine gl_reord (D := C60 ++ L) (Reord.step (Upd.app _ (Upd.rmC _ _)) (Reord.skipC (Reord.refl _))) ?_
      refine gl_atE (by kernel_rfl) ?_
      obtain rfl := some_inj hb20
      exact ge_round fun t ht => ⟨A58, n59, C60, hO61, hI21, rfl, ht.pick (l := [0, 1, 5, 6, 13, 14, 15]) (by kernel_rfl)⟩
    · have hb20 := cond_f hc37 hb20
      refine gk_exit (by kernel_rfl) ?_
      refine ge_seq_exit ?_
      obtain rfl := some_inj hb20
      refine ge_round_out (fun hrr => ?_) (by intro h; cases h)
      obtain rfl := hrr
      refine ge_block_hit (by kernel_rfl) ?_
      exact ge_mid fun t ht => ⟨A22, n23, C24, hO25, hI21, rfl, ht.pick (l := [0, 1, 6]) (by kernel_rfl)⟩
  · rintro t I34 L' ⟨A29, n30, C31, hO32, hI28, rfl, hK33⟩
    refine ge_at hK33 ?_
    refine ge_seq ?_
    refine gk_seq (by kernel_rfl) ?_
    refine gk_region (by kernel_rfl) ?_
    refine gl_pure 2 [0, 29, 30] (K' := [(0, .slice A0_0 a0.length n0_0), (29, .slice A29 r16.length n30), (30, .float .f64 b1_0)]) (by kernel_rfl) ?_
    refine gl_rest (Tk.step (Upd.rmC _ _) (Tk.nil _)) (fun J62 hJ63 hC64 => ?_)
    have hf65 := (OwnS.rest hO32 hJ63 hC64.left)
    obtain ⟨y66, hx67, hr⟩ := bind_some hr
    refine gl_call (by kernel_rfl) (aggr_values_sum_walk (r := y66) hf65 hf1_0 hx67 _) ?_
    rintro v I68 L69 hI70 ⟨z71, hO72, rfl, rfl⟩
    refine gl_pure 3 [31, 34] (K' := [(31, .float .f64 z71), (34, .float .f64 (FloatKind.nearest .f64 (a0.length : Int)))]) (by kernel_rfl) ?_
    refine gl_farith (op := .quo) (t := 37) (t' := 37) (xx := (.tmp 31)) (yy := (.tmp 34)) hO72 (FRep.of (FloatKind.nearest .f64 (a0.length : Int))) (by kernel_rfl) (by kernel_rfl) rfl (by kernel_rfl) (by kernel_rfl) (fun b73 hf74 => ?_)
    refine gl_pure 1 [4] (K' := [(4, .float .f64 b73)]) (by kernel_rfl) ?_
    refine gl_atE (by kernel_rfl) ?_
    refine ge_seq ?_
    refine gk_ret (by kernel_rfl) ?_
    obtain rfl := some_inj hr
    exact ge_result trivial (ResOk.tmp (by kernel_rfl) ResOk.nil) (Imm.trans (Imm.trans (Imm.trans hI5 hI28) hJ63) hI70) ⟨b73, hf74, rfl, rfl⟩
theorem aggr_values_stdvar_impl88  {I : Imm}  : Fn88 I (.func (.func 100) #[] #[]) aggr_values_stdvar := ⟨fun I' hI x0 x1 r hr A0_0 c0_0 b1_0 h0_0 h1_0 L => ⟨100, #[], #[], rfl, ⟨_, Tryz.func100, by kernel_rfl, by kernel_rfl⟩, by
  simp only [List.append_toArray, List.nil_append, List.append_nil, Array.append_empty, Array.empty_append, List.push_append_toArray, List.cons_append]
  exact aggr_values_stdvar_walk  h0_0 h1_0  hr L⟩⟩
/-! 65 math_Sqrt  -/
noncomputable def math_Sqrt (a0 : Fl) : Fl :=
  (fsqrt a0)
theorem math_Sqrt_walk {a0 : Fl} {b0_0 : Nat} {I : Imm} {r : Fl}  (hf0_0 : FRep a0 b0_0) (hr : math_Sqrt a0 = r) (L : Own) :
    CallsTo Tryz.prog 65 #[.float .f64 b0_0] I L (fun v I' L' => ∃ b0_0, FRep r b0_0 ∧ v = .float .f64 b0_0 ∧ L = L') := by
  replace hr : some (math_Sqrt a0) = some r := congrArg some hr
  unfold math_Sqrt at hr
  refine callsTo_body (N := 5) Tryz.func65 (by kernel_rfl) (by kernel_rfl) (by kernel_rfl) ?_
  refine gk_pick [0] (K' := [(0, .float .f64 b0_0)]) (by kernel_rfl) ?_
  refine gk_seq (by kernel_rfl) ?_
  refine gk_region (by kernel_rfl) ?_
  refine gl_pure 1 [0] (K' := [(0, .float .f64 b0_0)]) (by kernel_rfl) ?_
  refine gl_atE (by kernel_rfl) ?_
  refine ge_seq ?_
  refine gk_seq (by kernel_rfl) ?_
  refine gk_region (by kernel_rfl) ?_
  refine gl_pure 1 [3] (K' := [(3, .float .f64 b0_0)]) (by kernel_rfl) ?_
  refine gl_fsqrt hf0_0 Tryz.func113 (by kernel_rfl) (by kernel_rfl) (by kernel_rfl) (by kernel_rfl) (by kernel_rfl) (by kernel_rfl) (fun b1 hf2 => ?_)
  refine gl_pure 1 [2] (K' := [(2, .float .f64 b1)]) (by kernel_rfl) ?_
  refine gl_atE (by kernel_rfl) ?_
  refine ge_seq ?_
  refine gk_ret (by kernel_rfl) ?_
  obtain rfl := some_inj hr
  exact ge_result trivial (ResOk.tmp (by kernel_rfl) ResOk.nil) (Imm.refl _) ⟨b1, hf2, rfl, rfl⟩
/-! 101 aggr_values_stddev  -/
noncomputable def aggr_values_stddev (a0 : List Fl) (a1 : Fl) : Option Fl :=
  Option.bind (aggr_values_stdvar a0 a1) fun (y1 : Fl) =>
  some (math_Sqrt y1)
theorem aggr_values_stddev_walk {a0 : List Fl} {A0_0 : Option Addr} {n0_0 : Nat} {a1 : Fl} {b1_0 : Nat} {I : Imm} {r : Fl}  (hf0_0 : RepS Kd.flt I A0_0 n0_0 a0)  (hf1_0 : FRep a1 b1_0) (hr : aggr_values_stddev a0 a1 = some r) (L : Own) :
    CallsTo Tryz.prog 101 #[.slice A0_0 a0.length n0_0, .float .f64 b1_0] I L (fun v I' L' => ∃ b0_0, FRep r b0_0 ∧ v = .float .f64 b0_0 ∧ L = L') := by
  unfold aggr_values_stddev at hr
  refine callsTo_body (N := 9) Tryz.func101 (by kernel_rfl) (by kernel_rfl) (by kernel_rfl) ?_
  refine gk_pick [0, 1] (K' := [(0, .slice A0_0 a0.length n0_0), (1, .float .f64 b1_0)]) (by kernel_rfl) ?_
  refine gk_seq (by kernel_rfl) ?_
  refine gk_region (by kernel_rfl) ?_
  refine gl_pure 1 [0, 1] (K' := [(0, .slice A0_0 a0.length n0_0), (1, .float .f64 b1_0)]) (by kernel_rfl) ?_
  refine gl_atE (by kernel_rfl) ?_
  refine ge_seq ?_
  refine gk_seq (by kernel_rfl) ?_
  refine gk_region (by kernel_rfl) ?_
  refine gl_pure 2 [5, 6] (K' := [(5, .slice A0_0 a0.length n0_0), (6, .float .f64 b1_0)]) (by kernel_rfl) ?_
  obtain ⟨y1, hx2, hr⟩ := bind_some hr
  refine gl_call (by kernel_rfl) (aggr_values_stdvar_walk (r := y1) hf0_0 hf1_0 hx2 _) ?_
  rintro v I3 L4 hI5 ⟨z6, hO7, rfl, rfl⟩
  refine gl_call (by kernel_rfl) (math_Sqrt_walk (r := (math_Sqrt y1)) hO7 rfl _) ?_
  rintro v I8 L9 hI10 ⟨z11, hO12, rfl, rfl⟩
  refine gl_pure 1 [4] (K' := [(4, .float .f64 z11)]) (by kernel_rfl) ?_
  refine gl_atE (by kernel_rfl) ?_
  refine ge_seq ?_
  refine gk_ret (by kernel_rfl) ?_
  obtain rfl := some_inj hr
  exact ge_result trivial (ResOk.tmp (by kernel_rfl) ResOk.nil) (Imm.trans hI5 hI10) ⟨z11, hO12, rfl, rfl⟩
theorem aggr_values_stddev_impl88  {I : Imm}  : Fn88 I (.func (.func 101) #[] #[]) aggr_values_stddev := ⟨fun I' hI x0 x1 r hr A0_0 c0_0 b1_0 h0_0 h1_0 L => ⟨101, #[], #[], rfl, ⟨_, Tryz.func101, by kernel_rfl, by kernel_rfl⟩, by
  simp only [List.append_toArray, List.nil_append, List.append_nil, Array.append_empty, Array.empty_append, List.push_append_toArray, List.cons_append]
  exact aggr_values_stddev_walk  h0_0 h1_0  hr L⟩⟩
/-! 114 math_Inf  -/
/-! 143 slices_Clone  -/
/-! 195 cmp_isNaN  -/
/-! 175 cmp_Compare  -/
/-! 196 cmp_isNaN_f196  -/
/-! 176 cmp_Compare_f176  -/
/-! 145 aggr_ahead  -/
/-! 193 slices_insertionSortCmpFunc ('inp', 'imm', 'imm', ('cfn', 145)) -/
/-! 211 slices_swapRangeCmpFunc ('inp', 'imm', 'imm', 'imm', ('cfn', 145)) -/
/-! 205 slices_rotateCmpFunc ('inp', 'imm', 'imm', 'imm', ('cfn', 145)) -/
/-! 194 slices_symMergeCmpFunc ('inp', 'imm', 'imm', 'imm', ('cfn', 145)): calls itself -/
end Go.Proofs.YtkjkkimnjpodiaaGreatDoor
