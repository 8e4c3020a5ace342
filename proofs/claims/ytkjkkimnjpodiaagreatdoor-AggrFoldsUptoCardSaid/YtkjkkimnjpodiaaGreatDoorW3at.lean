/- Parts: W3a. -/
import Derived.Test.YtkjkkimnjpodiaaGreatDoorProg
import Derived.Test.YtkjkkimnjpodiaaGreatDoorChecked
import Derived.Test.YtkjkkimnjpodiaaGreatDoorGB34t
import Derived.Lib.LaidU8T
import Derived.Shelf.Unicode.ValidAny
set_option linter.unusedVariables false
set_option linter.unusedSimpArgs false
set_option maxRecDepth 100000
namespace Go.Proofs.YtkjkkimnjpodiaaGreatDoor
open Go.GB
structure S172 where
  f0 : Int
  f1 : Int
def kS172 : Kd S172 := Kd.iso (Kd.pair (Kd.int .u8) (Kd.int .u8)) (fun x => (x.f0, x.f1))
theorem kS172_open {I : Imm} {x : S172} {cs : List Value} (h : kS172.R I x cs) : cs = [.int .u8 x.f0, .int .u8 x.f1] := by
  obtain ⟨_, _, rfl, h_0, h_1⟩ := h
  obtain rfl := h_0
  obtain rfl := h_1
  exact rfl
theorem kS172_mk {I : Imm} {x : S172}   : kS172.R I x [.int .u8 x.f0, .int .u8 x.f1] :=
  ⟨[.int .u8 x.f0], [.int .u8 x.f1], rfl, rfl, rfl⟩
def tab1 : List Int := (List.range 256).map fun c => (Go.Lib.firstT c : Int)
def tab2 : List S172 := (List.range 16).map fun i => ⟨(Go.Lib.accLo i : Int), (Go.Lib.accHi i : Int)⟩
structure Gl (I : Imm) : Prop where
  dr : I.dr = 0
  g1 : RepS (Kd.int .u8) I (some ⟨1, 0, none⟩) 256 tab1
  g2 : RepS kS172 I (some ⟨2, 0, none⟩) 16 tab2
theorem Gl.mono {I J : Imm} (h : Gl I) (hI : I ≤ J) : Gl J := ⟨hI.dr.trans h.dr, h.g1.mono hI, h.g2.mono hI⟩
def tabv_48 : Nat → Value
  | 0 => .nilFunc
  | 1 => .func (.func 94) #[] #[]
  | 2 => .func (.func 95) #[] #[]
  | 3 => .func (.func 96) #[] #[]
  | 4 => .func (.func 97) #[] #[]
  | 5 => .func (.func 98) #[] #[]
  | 6 => .func (.func 99) #[] #[]
  | 7 => .func (.func 100) #[] #[]
  | 8 => .func (.func 101) #[] #[]
  | _ + 9 => .func (.func 102) #[] #[]
theorem tabv_48_cases : ∀ k : Nat, ((k == 0) = true ∧ tabv_48 k = .nilFunc) ∨ ((k == 0) = false ∧ ∃ f, tabv_48 k = .func (.func f) #[] #[])
  | 0 => .inl ⟨rfl, rfl⟩
  | 1 => .inr ⟨rfl, _, rfl⟩
  | 2 => .inr ⟨rfl, _, rfl⟩
  | 3 => .inr ⟨rfl, _, rfl⟩
  | 4 => .inr ⟨rfl, _, rfl⟩
  | 5 => .inr ⟨rfl, _, rfl⟩
  | 6 => .inr ⟨rfl, _, rfl⟩
  | 7 => .inr ⟨rfl, _, rfl⟩
  | 8 => .inr ⟨rfl, _, rfl⟩
  | _ + 9 => .inr ⟨rfl, _, rfl⟩
/-! 48 aggr_fold  -/
noncomputable def aggr_fold (a0 : ByteArray) : Nat :=
  bif (a0.toList == (⟨#[115, 117, 109]⟩ : ByteArray).toList) then
  (1)
  else
  (bif (a0.toList == (⟨#[97, 118, 103]⟩ : ByteArray).toList) then
    (2)
    else
    (bif (a0.toList == (⟨#[109, 105, 110]⟩ : ByteArray).toList) then
      (3)
      else
      (bif (a0.toList == (⟨#[109, 97, 120]⟩ : ByteArray).toList) then
        (4)
        else
        (bif (a0.toList == (⟨#[99, 111, 117, 110, 116]⟩ : ByteArray).toList) then
          (5)
          else
          (bif (a0.toList == (⟨#[103, 114, 111, 117, 112]⟩ : ByteArray).toList) then
            (6)
            else
            (bif (a0.toList == (⟨#[115, 116, 100, 118, 97, 114]⟩ : ByteArray).toList) then
              (7)
              else
              (bif (a0.toList == (⟨#[115, 116, 100, 100, 101, 118]⟩ : ByteArray).toList) then
                (8)
                else
                (bif (a0.toList == (⟨#[113, 117, 97, 110, 116, 105, 108, 101]⟩ : ByteArray).toList) then
                  (9)
                  else
                  (0)))))))))
theorem aggr_fold_walk {a0 : ByteArray} {I : Imm} {r : Nat}  (hr : aggr_fold a0 = r) (L : Own) :
    CallsTo Tryz.prog 48 #[.string a0] I L (fun v I' L' => v = (tabv_48 r) ∧ L = L') := by
  replace hr : some (aggr_fold a0) = some r := congrArg some hr
  unfold aggr_fold at hr
  refine callsTo_body (N := 22) Tryz.func48 (by kernel_rfl) (by kernel_rfl) (by kernel_rfl) ?_
  refine gk_pick [0] (K' := [(0, .string a0)]) (by kernel_rfl) ?_
  refine gk_seq (by kernel_rfl) ?_
  refine gk_region (by kernel_rfl) ?_
  refine gl_pure 1 [0] (K' := [(0, .string a0)]) (by kernel_rfl) ?_
  refine gl_atE (by kernel_rfl) ?_
  refine ge_seq ?_
  refine gk_seq (by kernel_rfl) ?_
  refine gk_seq (by kernel_rfl) ?_
  refine gk_region (by kernel_rfl) ?_
  refine gl_pure 1 [3] (K' := [(3, .string a0)]) (by kernel_rfl) ?_
  refine gl_atE (by kernel_rfl) ?_
  refine ge_seq ?_
  refine gk_block (by kernel_rfl) ?_
  refine gk_seq (by kernel_rfl) ?_
  refine gk_region (by kernel_rfl) ?_
  refine gl_pure 2 [3, 4] (K' := [(3, .string a0), (4, .bool (a0.toList == (⟨#[115, 117, 109]⟩ : ByteArray).toList))]) (by kernel_rfl) ?_
  refine gl_atE (by kernel_rfl) ?_
  refine ge_seq ?_
  refine gk_cond (b := (a0.toList == (⟨#[115, 117, 109]⟩ : ByteArray).toList)) (by kernel_rfl) (by kernel_rfl) (fun hc1 => ?_) (fun hc1 => ?_)
  · have hr := scond_t hc1 hr
    refine gk_seq (by kernel_rfl) ?_
    refine gk_region (by kernel_rfl) ?_
    refine gl_pure 1 [2] (K' := [(2, .func (.func 94) #[] #[])]) (by kernel_rfl) ?_
    refine gl_atE (by kernel_rfl) ?_
    refine ge_seq ?_
    refine gk_ret (by kernel_rfl) ?_
    refine ge_block_ret ?_
    refine ge_seq_ret ?_
    obtain rfl := some_inj hr
    exact ge_result trivial (ResOk.tmp (by kernel_rfl) ResOk.nil) (Imm.refl _) ⟨rfl, rfl⟩
  · have hr := scond_f hc1 hr
    refine gk_seq (by kernel_rfl) ?_
    refine gk_region (by kernel_rfl) ?_
    refine gl_pure 2 [3, 6] (K' := [(3, .string a0), (6, .bool (a0.toList == (⟨#[97, 118, 103]⟩ : ByteArray).toList))]) (by kernel_rfl) ?_
    refine gl_atE (by kernel_rfl) ?_
    refine ge_seq ?_
    refine gk_cond (b := (a0.toList == (⟨#[97, 118, 103]⟩ : ByteArray).toList)) (by kernel_rfl) (by kernel_rfl) (fun hc2 => ?_) (fun hc2 => ?_)
    · have hr := scond_t hc2 hr
      refine gk_seq (by kernel_rfl) ?_
      refine gk_region (by kernel_rfl) ?_
      refine gl_pure 1 [2] (K' := [(2, .func (.func 95) #[] #[])]) (by kernel_rfl) ?_
      refine gl_atE (by kernel_rfl) ?_
      refine ge_seq ?_
      refine gk_ret (by kernel_rfl) ?_
      refine ge_block_ret ?_
      refine ge_seq_ret ?_
      obtain rfl := some_inj hr
      exact ge_result trivial (ResOk.tmp (by kernel_rfl) ResOk.nil) (Imm.refl _) ⟨rfl, rfl⟩
    · have hr := scond_f hc2 hr
      refine gk_seq (by kernel_rfl) ?_
      refine gk_region (by kernel_rfl) ?_
      refine gl_pure 2 [3, 8] (K' := [(3, .string a0), (8, .bool (a0.toList == (⟨#[109, 105, 110]⟩ : ByteArray).toList))]) (by kernel_rfl) ?_
      refine gl_atE (by kernel_rfl) ?_
      refine ge_seq ?_
      refine gk_cond (b := (a0.toList == (⟨#[109, 105, 110]⟩ : ByteArray).toList)) (by kernel_rfl) (by kernel_rfl) (fun hc3 => ?_) (fun hc3 => ?_)
      · have hr := scond_t hc3 hr
        refine gk_seq (by kernel_rfl) ?_
        refine gk_region (by kernel_rfl) ?_
        refine gl_pure 1 [2] (K' := [(2, .func (.func 96) #[] #[])]) (by kernel_rfl) ?_
        refine gl_atE (by kernel_rfl) ?_
        refine ge_seq ?_
        refine gk_ret (by kernel_rfl) ?_
        refine ge_block_ret ?_
        refine ge_seq_ret ?_
        obtain rfl := some_inj hr
        exact ge_result trivial (ResOk.tmp (by kernel_rfl) ResOk.nil) (Imm.refl _) ⟨rfl, rfl⟩
      · have hr := scond_f hc3 hr
        refine gk_seq (by kernel_rfl) ?_
        refine gk_region (by kernel_rfl) ?_
        refine gl_pure 2 [3, 10] (K' := [(3, .string a0), (10, .bool (a0.toList == (⟨#[109, 97, 120]⟩ : ByteArray).toList))]) (by kernel_rfl) ?_
        refine gl_atE (by kernel_rfl) ?_
        refine ge_seq ?_
        refine gk_cond (b := (a0.toList == (⟨#[109, 97, 120]⟩ : ByteArray).toList)) (by kernel_rfl) (by kernel_rfl) (fun hc4 => ?_) (fun hc4 => ?_)
        · have hr := scond_t hc4 hr
          refine gk_seq (by kernel_rfl) ?_
          refine gk_region (by kernel_rfl) ?_
          refine gl_pure 1 [2] (K' := [(2, .func (.func 97) #[] #[])]) (by kernel_rfl) ?_
          refine gl_atE (by kernel_rfl) ?_
          refine ge_seq ?_
          refine gk_ret (by kernel_rfl) ?_
          refine ge_block_ret ?_
          refine ge_seq_ret ?_
          obtain rfl := some_inj hr
          exact ge_result trivial (ResOk.tmp (by kernel_rfl) ResOk.nil) (Imm.refl _) ⟨rfl, rfl⟩
        · have hr := scond_f hc4 hr
          refine gk_seq (by kernel_rfl) ?_
          refine gk_region (by kernel_rfl) ?_
          refine gl_pure 2 [3, 12] (K' := [(3, .string a0), (12, .bool (a0.toList == (⟨#[99, 111, 117, 110, 116]⟩ : ByteArray).toList))]) (by kernel_rfl) ?_
          refine gl_atE (by kernel_rfl) ?_
          refine ge_seq ?_
          refine gk_cond (b := (a0.toList == (⟨#[99, 111, 117, 110, 116]⟩ : ByteArray).toList)) (by kernel_rfl) (by kernel_rfl) (fun hc5 => ?_) (fun hc5 => ?_)
          · have hr := scond_t hc5 hr
            refine gk_seq (by kernel_rfl) ?_
            refine gk_region (by kernel_rfl) ?_
            refine gl_pure 1 [2] (K' := [(2, .func (.func 98) #[] #[])]) (by kernel_rfl) ?_
            refine gl_atE (by kernel_rfl) ?_
            refine ge_seq ?_
            refine gk_ret (by kernel_rfl) ?_
            refine ge_block_ret ?_
            refine ge_seq_ret ?_
            obtain rfl := some_inj hr
            exact ge_result trivial (ResOk.tmp (by kernel_rfl) ResOk.nil) (Imm.refl _) ⟨rfl, rfl⟩
          · have hr := scond_f hc5 hr
            refine gk_seq (by kernel_rfl) ?_
            refine gk_region (by kernel_rfl) ?_
            refine gl_pure 2 [3, 14] (K' := [(3, .string a0), (14, .bool (a0.toList == (⟨#[103, 114, 111, 117, 112]⟩ : ByteArray).toList))]) (by kernel_rfl) ?_
            refine gl_atE (by kernel_rfl) ?_
            refine ge_seq ?_
            refine gk_cond (b := (a0.toList == (⟨#[103, 114, 111, 117, 112]⟩ : ByteArray).toList)) (by kernel_rfl) (by kernel_rfl) (fun hc6 => ?_) (fun hc6 => ?_)
            · have hr := scond_t hc6 hr
              refine gk_seq (by kernel_rfl) ?_
              refine gk_region (by kernel_rfl) ?_
              refine gl_pure 1 [2] (K' := [(2, .func (.func 99) #[] #[])]) (by kernel_rfl) ?_
              refine gl_atE (by kernel_rfl) ?_
              refine ge_seq ?_
              refine gk_ret (by kernel_rfl) ?_
              refine ge_block_ret ?_
              refine ge_seq_ret ?_
              obtain rfl := some_inj hr
              exact ge_result trivial (ResOk.tmp (by kernel_rfl) ResOk.nil) (Imm.refl _) ⟨rfl, rfl⟩
            · have hr := scond_f hc6 hr
              refine gk_seq (by kernel_rfl) ?_
              refine gk_region (by kernel_rfl) ?_
              refine gl_pure 2 [3, 16] (K' := [(3, .string a0), (16, .bool (a0.toList == (⟨#[115, 116, 100, 118, 97, 114]⟩ : ByteArray).toList))]) (by kernel_rfl) ?_
              refine gl_atE (by kernel_rfl) ?_
              refine ge_seq ?_
              refine gk_cond (b := (a0.toList == (⟨#[115, 116, 100, 118, 97, 114]⟩ : ByteArray).toList)) (by kernel_rfl) (by kernel_rfl) (fun hc7 => ?_) (fun hc7 => ?_)
              · have hr := scond_t hc7 hr
                refine gk_seq (by kernel_rfl) ?_
                refine gk_region (by kernel_rfl) ?_
                refine gl_pure 1 [2] (K' := [(2, .func (.func 100) #[] #[])]) (by kernel_rfl) ?_
                refine gl_atE (by kernel_rfl) ?_
                refine ge_seq ?_
                refine gk_ret (by kernel_rfl) ?_
                refine ge_block_ret ?_
                refine ge_seq_ret ?_
                obtain rfl := some_inj hr
                exact ge_result trivial (ResOk.tmp (by kernel_rfl) ResOk.nil) (Imm.refl _) ⟨rfl, rfl⟩
              · have hr := scond_f hc7 hr
                refine gk_seq (by kernel_rfl) ?_
                refine gk_region (by kernel_rfl) ?_
                refine gl_pure 2 [3, 18] (K' := [(3, .string a0), (18, .bool (a0.toList == (⟨#[115, 116, 100, 100, 101, 118]⟩ : ByteArray).toList))]) (by kernel_rfl) ?_
                refine gl_atE (by kernel_rfl) ?_
                refine ge_seq ?_
                refine gk_cond (b := (a0.toList == (⟨#[115, 116, 100, 100, 101, 118]⟩ : ByteArray).toList)) (by kernel_rfl) (by kernel_rfl) (fun hc8 => ?_) (fun hc8 => ?_)
                · have hr := scond_t hc8 hr
                  refine gk_seq (by kernel_rfl) ?_
                  refine gk_region (by kernel_rfl) ?_
                  refine gl_pure 1 [2] (K' := [(2, .func (.func 101) #[] #[])]) (by kernel_rfl) ?_
                  refine gl_atE (by kernel_rfl) ?_
                  refine ge_seq ?_
                  refine gk_ret (by kernel_rfl) ?_
                  refine ge_block_ret ?_
                  refine ge_seq_ret ?_
                  obtain rfl := some_inj hr
                  exact ge_result trivial (ResOk.tmp (by kernel_rfl) ResOk.nil) (Imm.refl _) ⟨rfl, rfl⟩
                · have hr := scond_f hc8 hr
                  refine gk_seq (by kernel_rfl) ?_
                  refine gk_region (by kernel_rfl) ?_
                  refine gl_pure 2 [20] (K' := [(20, .bool (a0.toList == (⟨#[113, 117, 97, 110, 116, 105, 108, 101]⟩ : ByteArray).toList))]) (by kernel_rfl) ?_
                  refine gl_atE (by kernel_rfl) ?_
                  refine ge_seq ?_
                  refine gk_cond (b := (a0.toList == (⟨#[113, 117, 97, 110, 116, 105, 108, 101]⟩ : ByteArray).toList)) (by kernel_rfl) (by kernel_rfl) (fun hc9 => ?_) (fun hc9 => ?_)
                  · have hr := scond_t hc9 hr
                    refine gk_seq (by kernel_rfl) ?_
                    refine gk_region (by kernel_rfl) ?_
                    refine gl_pure 1 [2] (K' := [(2, .func (.func 102) #[] #[])]) (by kernel_rfl) ?_
                    refine gl_atE (by kernel_rfl) ?_
                    refine ge_seq ?_
                    refine gk_ret (by kernel_rfl) ?_
                    refine ge_block_ret ?_
                    refine ge_seq_ret ?_
                    obtain rfl := some_inj hr
                    exact ge_result trivial (ResOk.tmp (by kernel_rfl) ResOk.nil) (Imm.refl _) ⟨rfl, rfl⟩
                  · have hr := scond_f hc9 hr
                    refine gk_skip (by kernel_rfl) ?_
                    refine ge_block_normal ?_
                    refine ge_seq ?_
                    refine gk_seq (by kernel_rfl) ?_
                    refine gk_region (by kernel_rfl) ?_
                    refine gl_pure 1 [2] (K' := [(2, .nilFunc)]) (by kernel_rfl) ?_
                    refine gl_atE (by kernel_rfl) ?_
                    refine ge_seq ?_
                    refine gk_ret (by kernel_rfl) ?_
                    obtain rfl := some_inj hr
                    exact ge_result trivial (ResOk.tmp (by kernel_rfl) ResOk.nil) (Imm.refl _) ⟨rfl, rfl⟩
structure Fn88 (I : Imm) (fv : Value) (f : (List Fl) → Fl → Option Fl) : Prop where
  out : ∀ I', I ≤ I' → ∀ (x0 : List Fl) (x1 : Fl) (r : Fl), f x0 x1 = some r → ∀ A0_0 c0_0 b1_0, RepS Kd.flt I' A0_0 c0_0 x0 → FRep x1 b1_0 → ∀ L, CallsV Tryz.prog fv [.slice A0_0 x0.length c0_0, .float .f64 b1_0] I' L (fun v I' L' => ∃ b0_0, FRep r b0_0 ∧ v = .float .f64 b0_0 ∧ L = L')
theorem Fn88.mono {I J : Imm} {fv : Value} {f : (List Fl) → Fl → Option Fl} (h : Fn88 I fv f) (hI : I ≤ J) : Fn88 J fv f := ⟨fun I' hI' => h.out I' (Imm.trans hI hI')⟩
/-! 94 aggr_values_sum  -/
noncomputable def aggr_values_sum_l37 (l12 : List Fl) : (Fl × Int) → Option ((Fl × Int) ⊕ (Fl)) := fun s24 =>
  bif (decide (s24.2 < (l12.length : Int))) then
  (Option.bind (ix l12 s24.2) fun (x40 : Fl) =>
    some (Sum.inl ((farith .add s24.1 x40), (IntKind.wrap .i64 (s24.2 + 1)))))
  else
  (some (Sum.inr s24.1))
noncomputable def aggr_values_sum (a0 : List Fl) (a1 : Fl) : Option Fl :=
  Option.bind (ix a0 0) fun (x1 : Fl) =>
  Option.bind (lx a0 1 (a0.length : Int)) fun (l12 : List Fl) =>
  Option.bind (loopO (aggr_values_sum_l37 l12) (x1, 0)) fun (r22 : Fl) =>
  some r22
theorem aggr_values_sum_walk {a0 : List Fl} {A0_0 : Option Addr} {n0_0 : Nat} {a1 : Fl} {b1_0 : Nat} {I : Imm} {r : Fl}  (hf0_0 : RepS Kd.flt I A0_0 n0_0 a0)  (hf1_0 : FRep a1 b1_0) (hr : aggr_values_sum a0 a1 = some r) (L : Own) :
    CallsTo Tryz.prog 94 #[.slice A0_0 a0.length n0_0, .float .f64 b1_0] I L (fun v I' L' => ∃ b0_0, FRep r b0_0 ∧ v = .float .f64 b0_0 ∧ L = L') := by
  unfold aggr_values_sum at hr
  refine callsTo_body (N := 23) Tryz.func94 (by kernel_rfl) (by kernel_rfl) (by kernel_rfl) ?_
  refine gk_pick [0, 1] (K' := [(0, .slice A0_0 a0.length n0_0), (1, .float .f64 b1_0)]) (by kernel_rfl) ?_
  refine gk_seq (by kernel_rfl) ?_
  refine gk_region (by kernel_rfl) ?_
  refine gl_pure 1 [0] (K' := [(0, .slice A0_0 a0.length n0_0)]) (by kernel_rfl) ?_
  refine gl_atE (by kernel_rfl) ?_
  refine ge_seq ?_
  refine gk_seq (by kernel_rfl) ?_
  refine gk_region (by kernel_rfl) ?_
  refine gl_pure 1 [0, 8] (K' := [(0, .slice A0_0 a0.length n0_0), (8, .slice A0_0 a0.length n0_0)]) (by kernel_rfl) ?_
  obtain ⟨x1, hx2, hr⟩ := bind_some hr
  obtain ⟨p3, cs4, hR5, hA6, ha7⟩ := RepS.ixAt hx2 hf0_0
  have hi8 := ix_some hx2
  obtain ⟨b9, rfl, hf10⟩ := hR5
  refine gl_indexAddrF (c := n0_0) (T' := 92) (e := 37) (xs := (.tmp 8)) (xi := (.const (.int .i64 0))) (kd := .i64) ha7 hi8.1 hi8.2.1 (by kernel_rfl) (by kernel_rfl) (by kernel_rfl) (by kernel_rfl) (by kernel_rfl) ?_
  refine gl_load (T' := 37) (xp := (.tmp 9)) (p := p3) (c := .float .f64 b9) (n := 1) (by kernel_rfl) (by kernel_rfl) (by kernel_rfl) (by kernel_rfl) hA6 ?_
  refine gl_pure 1 [0, 5] (K' := [(0, .slice A0_0 a0.length n0_0), (5, .float .f64 b9)]) (by kernel_rfl) ?_
  refine gl_atE (by kernel_rfl) ?_
  refine ge_seq ?_
  refine gk_seq (by kernel_rfl) ?_
  refine gk_seq (by kernel_rfl) ?_
  refine gk_region (by kernel_rfl) ?_
  refine gl_pure 1 [5, 11] (K' := [(5, .float .f64 b9), (11, .slice A0_0 a0.length n0_0)]) (by kernel_rfl) ?_
  obtain ⟨l12, hx11, hr⟩ := bind_some hr
  refine gl_sliceR (d := Kd.flt) (T' := 92) (e := 37) (xs := (.tmp 11)) (lo := (some (.const (.int .i64 1)))) (hi := none) hx11 hf0_0 (by kernel_rfl) (by kernel_rfl) (by kernel_rfl) (by kernel_rfl) (by kernel_rfl) (by kernel_rfl) (fun A13 n14 hf15 => ?_)
  refine gl_pure 2 [5, 12, 13, 14] (K' := [(5, .float .f64 b9), (12, .slice A13 l12.length n14), (13, .int .i64 (l12.length : Int)), (14, .int .i64 0)]) (by kernel_rfl) ?_
  refine gl_atE (by kernel_rfl) ?_
  refine ge_seq ?_
  obtain ⟨r22, hl23, hr⟩ := bind_some hr
  refine gk_join (fun t I' L' => ∃ b33, FRep r22 b33 ∧ I ≤ I' ∧ L = L' ∧ Knows 23 [(5, .float .f64 b33)] t) ?_ ?_
  · refine gk_block (by kernel_rfl) ?_
    refine gk_pick [5, 12, 13, 14] (K' := [(5, .float .f64 b9), (12, .slice A13 l12.length n14), (13, .int .i64 (l12.length : Int)), (14, .int .i64 0)]) (by kernel_rfl) ?_
    intro t hK
    refine gc_loop (aggr_values_sum_l37 l12) (fun s24 t I' L' => ∃ b28, FRep s24.1 b28 ∧ I ≤ I' ∧ L = L' ∧ Knows 23 [(5, .float .f64 b28), (12, .slice A13 l12.length n14), (13, .int .i64 (l12.length : Int)), (14, .int .i64 s24.2)] t) (by kernel_rfl) ?_ hl23 ⟨b9, hf10, (Imm.refl _), rfl, hK⟩
    rintro s24 o25 t I31 L' hb26 ⟨b28, hb29, hI27, rfl, hK30⟩
    unfold aggr_values_sum_l37 at hb26
    refine gk_at hK30 ?_
    refine gk_seq (by kernel_rfl) ?_
    refine gk_region (by kernel_rfl) ?_
    refine gl_pure 1 [5, 12, 13, 14, 15] (K' := [(5, .float .f64 b28), (12, .slice A13 l12.length n14), (13, .int .i64 (l12.length : Int)), (14, .int .i64 s24.2), (15, .bool (decide (s24.2 < (l12.length : Int))))]) (by kernel_rfl) ?_
    refine gl_atE (by kernel_rfl) ?_
    refine ge_seq ?_
    refine gk_seq (by kernel_rfl) ?_
    refine gk_cond (b := (decide (s24.2 < (l12.length : Int)))) (by kernel_rfl) (by kernel_rfl) (fun hc39 => ?_) (fun hc39 => ?_)
    · have hb26 := cond_t hc39 hb26
      refine gk_skip (by kernel_rfl) ?_
      refine ge_seq ?_
      refine gk_seq (by kernel_rfl) ?_
      refine gk_block (by kernel_rfl) ?_
      refine gk_seq (by kernel_rfl) ?_
      refine gk_region (by kernel_rfl) ?_
      obtain ⟨x40, hx41, hb26⟩ := bind_some hb26
      obtain ⟨p42, cs43, hR44, hA45, ha46⟩ := RepS.ixAt hx41 (hf15.mono hI27)
      have hi47 := ix_some hx41
      obtain ⟨b48, rfl, hf49⟩ := hR44
      refine gl_indexAddrF (c := n14) (T' := 92) (e := 37) (xs := (.tmp 12)) (xi := (.tmp 14)) (kd := .i64) ha46 hi47.1 hi47.2.1 (by kernel_rfl) (by kernel_rfl) (by kernel_rfl) (by kernel_rfl) (by kernel_rfl) ?_
      refine gl_load (T' := 37) (xp := (.tmp 16)) (p := p42) (c := .float .f64 b48) (n := 1) (by kernel_rfl) (by kernel_rfl) (by kernel_rfl) (by kernel_rfl) hA45 ?_
      refine gl_pure 1 [5, 7, 12, 13, 14] (K' := [(5, .float .f64 b28), (7, .float .f64 b48), (12, .slice A13 l12.length n14), (13, .int .i64 (l12.length : Int)), (14, .int .i64 s24.2)]) (by kernel_rfl) ?_
      refine gl_atE (by kernel_rfl) ?_
      refine ge_seq ?_
      refine gk_region (by kernel_rfl) ?_
      refine gl_pure 2 [12, 13, 14, 18, 19] (K' := [(12, .slice A13 l12.length n14), (13, .int .i64 (l12.length : Int)), (14, .int .i64 s24.2), (18, .float .f64 b28), (19, .float .f64 b48)]) (by kernel_rfl) ?_
      refine gl_farith (op := .add) (t := 37) (t' := 37) (xx := (.tmp 18)) (yy := (.tmp 19)) hb29 hf49 (by kernel_rfl) (by kernel_rfl) rfl (by kernel_rfl) (by kernel_rfl) (fun b50 hf51 => ?_)
      refine gl_pure 1 [5, 12, 13, 14] (K' := [(5, .float .f64 b50), (12, .slice A13 l12.length n14), (13, .int .i64 (l12.length : Int)), (14, .int .i64 s24.2)]) (by kernel_rfl) ?_
      refine gl_atE (by kernel_rfl) ?_
      refine ge_block_normal ?_
      refine ge_seq ?_
      refine gk_region (by kernel_rfl) ?_
      refine gl_pure 2 [5, 12, 13, 14] (K' := [(5, .float .f64 b50), (12, .slice A13 l12.length n14), (13, .int .i64 (l12.length : Int)), (14, .int .i64 (IntKind.wrap .i64 (s24.2 + 1)))]) (by kernel_rfl) ?_
      refine gl_atE (by kernel_rfl) ?_
      obtain rfl := some_inj hb26
      exact ge_round fun t ht => ⟨b50, hf51, hI27, rfl, ht.pick (l := [5, 12, 13, 14]) (by kernel_rfl)⟩
    · have hb26 := cond_f hc39 hb26
      refine gk_exit (by kernel_rfl) ?_
      refine ge_seq_exit ?_
      obtain rfl := some_inj hb26
      refine ge_round_out (fun hrr => ?_) (by intro h; cases h)
      obtain rfl := hrr
      refine ge_block_hit (by kernel_rfl) ?_
      exact ge_mid fun t ht => ⟨b28, hb29, hI27, rfl, ht.pick (l := [5]) (by kernel_rfl)⟩
  · rintro t I36 L' ⟨b33, hb34, hI32, rfl, hK35⟩
    refine ge_at hK35 ?_
    refine ge_seq ?_
    refine gk_seq (by kernel_rfl) ?_
    refine gk_region (by kernel_rfl) ?_
    refine gl_pure 2 [4] (K' := [(4, .float .f64 b33)]) (by kernel_rfl) ?_
    refine gl_atE (by kernel_rfl) ?_
    refine ge_seq ?_
    refine gk_ret (by kernel_rfl) ?_
    obtain rfl := some_inj hr
    exact ge_result trivial (ResOk.tmp (by kernel_rfl) ResOk.nil) hI32 ⟨b33, hb34, rfl, rfl⟩
theorem aggr_values_sum_impl88  {I : Imm}  : Fn88 I (.func (.func 94) #[] #[]) aggr_values_sum := ⟨fun I' hI x0 x1 r hr A0_0 c0_0 b1_0 h0_0 h1_0 L => ⟨94, #[], #[], rfl, ⟨_, Tryz.func94, by kernel_rfl, by kernel_rfl⟩, by
  simp only [List.append_toArray, List.nil_append, List.append_nil, Array.append_empty, Array.empty_append, List.push_append_toArray, List.cons_append]
  exact aggr_values_sum_walk  h0_0 h1_0  hr L⟩⟩
/-! 95 aggr_values_avg  -/
noncomputable def aggr_values_avg (a0 : List Fl) (a1 : Fl) : Option Fl :=
  Option.bind (aggr_values_sum a0 a1) fun (y1 : Fl) =>
  some (farith .quo y1 (some (FloatKind.nearest .f64 (a0.length : Int)) : Fl))
theorem aggr_values_avg_walk {a0 : List Fl} {A0_0 : Option Addr} {n0_0 : Nat} {a1 : Fl} {b1_0 : Nat} {I : Imm} {r : Fl}  (hf0_0 : RepS Kd.flt I A0_0 n0_0 a0)  (hf1_0 : FRep a1 b1_0) (hr : aggr_values_avg a0 a1 = some r) (L : Own) :
    CallsTo Tryz.prog 95 #[.slice A0_0 a0.length n0_0, .float .f64 b1_0] I L (fun v I' L' => ∃ b0_0, FRep r b0_0 ∧ v = .float .f64 b0_0 ∧ L = L') := by
  unfold aggr_values_avg at hr
  refine callsTo_body (N := 12) Tryz.func95 (by kernel_rfl) (by kernel_rfl) (by kernel_rfl) ?_
  refine gk_pick [0, 1] (K' := [(0, .slice A0_0 a0.length n0_0), (1, .float .f64 b1_0)]) (by kernel_rfl) ?_
  refine gk_seq (by kernel_rfl) ?_
  refine gk_region (by kernel_rfl) ?_
  refine gl_pure 1 [0, 1] (K' := [(0, .slice A0_0 a0.length n0_0), (1, .float .f64 b1_0)]) (by kernel_rfl) ?_
  refine gl_atE (by kernel_rfl) ?_
  refine ge_seq ?_
  refine gk_seq (by kernel_rfl) ?_
  refine gk_region (by kernel_rfl) ?_
  refine gl_pure 2 [0, 5, 6] (K' := [(0, .slice A0_0 a0.length n0_0), (5, .slice A0_0 a0.length n0_0), (6, .float .f64 b1_0)]) (by kernel_rfl) ?_
  obtain ⟨y1, hx2, hr⟩ := bind_some hr
  refine gl_call (by kernel_rfl) (aggr_values_sum_walk (r := y1) hf0_0 hf1_0 hx2 _) ?_
  rintro v I3 L4 hI5 ⟨z6, hO7, rfl, rfl⟩
  refine gl_pure 3 [7, 10] (K' := [(7, .float .f64 z6), (10, .float .f64 (FloatKind.nearest .f64 (a0.length : Int)))]) (by kernel_rfl) ?_
  refine gl_farith (op := .quo) (t := 37) (t' := 37) (xx := (.tmp 7)) (yy := (.tmp 10)) hO7 (FRep.of (FloatKind.nearest .f64 (a0.length : Int))) (by kernel_rfl) (by kernel_rfl) rfl (by kernel_rfl) (by kernel_rfl) (fun b8 hf9 => ?_)
  refine gl_pure 1 [4] (K' := [(4, .float .f64 b8)]) (by kernel_rfl) ?_
  refine gl_atE (by kernel_rfl) ?_
  refine ge_seq ?_
  refine gk_ret (by kernel_rfl) ?_
  obtain rfl := some_inj hr
  exact ge_result trivial (ResOk.tmp (by kernel_rfl) ResOk.nil) hI5 ⟨b8, hf9, rfl, rfl⟩
theorem aggr_values_avg_impl88  {I : Imm}  : Fn88 I (.func (.func 95) #[] #[]) aggr_values_avg := ⟨fun I' hI x0 x1 r hr A0_0 c0_0 b1_0 h0_0 h1_0 L => ⟨95, #[], #[], rfl, ⟨_, Tryz.func95, by kernel_rfl, by kernel_rfl⟩, by
  simp only [List.append_toArray, List.nil_append, List.append_nil, Array.append_empty, Array.empty_append, List.push_append_toArray, List.cons_append]
  exact aggr_values_avg_walk  h0_0 h1_0  hr L⟩⟩
/-! 104 math_IsNaN  -/
noncomputable def math_IsNaN (a0 : Fl) : Bool :=
  (fcmp .neq a0 a0)
theorem math_IsNaN_walk {a0 : Fl} {b0_0 : Nat} {I : Imm} {r : Bool}  (hf0_0 : FRep a0 b0_0) (hr : math_IsNaN a0 = r) (L : Own) :
    CallsTo Tryz.prog 104 #[.float .f64 b0_0] I L (fun v I' L' => v = .bool r ∧ L = L') := by
  replace hr : some (math_IsNaN a0) = some r := congrArg some hr
  unfold math_IsNaN at hr
  refine callsTo_body (N := 6) Tryz.func104 (by kernel_rfl) (by kernel_rfl) (by kernel_rfl) ?_
  refine gk_pick [0] (K' := [(0, .float .f64 b0_0)]) (by kernel_rfl) ?_
  refine gk_seq (by kernel_rfl) ?_
  refine gk_region (by kernel_rfl) ?_
  refine gl_pure 1 [0] (K' := [(0, .float .f64 b0_0)]) (by kernel_rfl) ?_
  refine gl_atE (by kernel_rfl) ?_
  refine ge_seq ?_
  refine gk_seq (by kernel_rfl) ?_
  refine gk_region (by kernel_rfl) ?_
  refine gl_pure 2 [3, 4] (K' := [(3, .float .f64 b0_0), (4, .float .f64 b0_0)]) (by kernel_rfl) ?_
  refine gl_fcmp (op := .neq) (t := 37) (t' := 37) (xx := (.tmp 3)) (yy := (.tmp 4)) hf0_0 hf0_0 (by kernel_rfl) (by kernel_rfl) rfl (by kernel_rfl) (by kernel_rfl) ?_
  refine gl_pure 1 [2] (K' := [(2, .bool (fcmp .neq a0 a0))]) (by kernel_rfl) ?_
  refine gl_atE (by kernel_rfl) ?_
  refine ge_seq ?_
  refine gk_ret (by kernel_rfl) ?_
  obtain rfl := some_inj hr
  exact ge_result trivial (ResOk.tmp (by kernel_rfl) ResOk.nil) (Imm.refl _) ⟨rfl, rfl⟩
/-! 96 aggr_values_min  -/
noncomputable def aggr_values_min_l32 (a0 : List Fl) : (Fl × Int) → Option ((Fl × Int) ⊕ (Fl)) := fun s19 =>
  bif (decide (s19.2 < (a0.length : Int))) then
  (Option.bind (ix a0 s19.2) fun (x35 : Fl) =>
    Option.bind (bif (fcmp .lss x35 s19.1) then
      (some true)
      else
      (some (math_IsNaN s19.1))) fun (j45 : Bool) =>
    Option.bind (bif j45 then
      (some x35)
      else
      (some s19.1)) fun (j51 : Fl) =>
    some (Sum.inl (j51, (IntKind.wrap .i64 (s19.2 + 1)))))
  else
  (some (Sum.inr s19.1))
noncomputable def aggr_values_min (a0 : List Fl) (a1 : Fl) : Option Fl :=
  Option.bind (ix a0 0) fun (x1 : Fl) =>
  Option.bind (loopO (aggr_values_min_l32 a0) (x1, 0)) fun (r17 : Fl) =>
  some r17
theorem aggr_values_min_walk {a0 : List Fl} {A0_0 : Option Addr} {n0_0 : Nat} {a1 : Fl} {b1_0 : Nat} {I : Imm} {r : Fl}  (hf0_0 : RepS Kd.flt I A0_0 n0_0 a0)  (hf1_0 : FRep a1 b1_0) (hr : aggr_values_min a0 a1 = some r) (L : Own) :
    CallsTo Tryz.prog 96 #[.slice A0_0 a0.length n0_0, .float .f64 b1_0] I L (fun v I' L' => ∃ b0_0, FRep r b0_0 ∧ v = .float .f64 b0_0 ∧ L = L') := by
  unfold aggr_values_min at hr
  refine callsTo_body (N := 27) Tryz.func96 (by kernel_rfl) (by kernel_rfl) (by kernel_rfl) ?_
  refine gk_pick [0, 1] (K' := [(0, .slice A0_0 a0.length n0_0), (1, .float .f64 b1_0)]) (by kernel_rfl) ?_
  refine gk_seq (by kernel_rfl) ?_
  refine gk_region (by kernel_rfl) ?_
  refine gl_pure 1 [0] (K' := [(0, .slice A0_0 a0.length n0_0)]) (by kernel_rfl) ?_
  refine gl_atE (by kernel_rfl) ?_
  refine ge_seq ?_
  refine gk_seq (by kernel_rfl) ?_
  refine gk_region (by kernel_rfl) ?_
  refine gl_pure 1 [0, 8] (K' := [(0, .slice A0_0 a0.length n0_0), (8, .slice A0_0 a0.length n0_0)]) (by kernel_rfl) ?_
  obtain ⟨x1, hx2, hr⟩ := bind_some hr
  obtain ⟨p3, cs4, hR5, hA6, ha7⟩ := RepS.ixAt hx2 hf0_0
  have hi8 := ix_some hx2
  obtain ⟨b9, rfl, hf10⟩ := hR5
  refine gl_indexAddrF (c := n0_0) (T' := 92) (e := 37) (xs := (.tmp 8)) (xi := (.const (.int .i64 0))) (kd := .i64) ha7 hi8.1 hi8.2.1 (by kernel_rfl) (by kernel_rfl) (by kernel_rfl) (by kernel_rfl) (by kernel_rfl) ?_
  refine gl_load (T' := 37) (xp := (.tmp 9)) (p := p3) (c := .float .f64 b9) (n := 1) (by kernel_rfl) (by kernel_rfl) (by kernel_rfl) (by kernel_rfl) hA6 ?_
  refine gl_pure 1 [0, 5] (K' := [(0, .slice A0_0 a0.length n0_0), (5, .float .f64 b9)]) (by kernel_rfl) ?_
  refine gl_atE (by kernel_rfl) ?_
  refine ge_seq ?_
  refine gk_seq (by kernel_rfl) ?_
  refine gk_seq (by kernel_rfl) ?_
  refine gk_region (by kernel_rfl) ?_
  refine gl_pure 3 [5, 11, 12, 13] (K' := [(5, .float .f64 b9), (11, .slice A0_0 a0.length n0_0), (12, .int .i64 (a0.length : Int)), (13, .int .i64 0)]) (by kernel_rfl) ?_
  refine gl_atE (by kernel_rfl) ?_
  refine ge_seq ?_
  obtain ⟨r17, hl18, hr⟩ := bind_some hr
  refine gk_join (fun t I' L' => ∃ b28, FRep r17 b28 ∧ I ≤ I' ∧ L = L' ∧ Knows 27 [(5, .float .f64 b28)] t) ?_ ?_
  · refine gk_block (by kernel_rfl) ?_
    refine gk_pick [5, 11, 12, 13] (K' := [(5, .float .f64 b9), (11, .slice A0_0 a0.length n0_0), (12, .int .i64 (a0.length : Int)), (13, .int .i64 0)]) (by kernel_rfl) ?_
    intro t hK
    refine gc_loop (aggr_values_min_l32 a0) (fun s19 t I' L' => ∃ b23, FRep s19.1 b23 ∧ I ≤ I' ∧ L = L' ∧ Knows 27 [(5, .float .f64 b23), (11, .slice A0_0 a0.length n0_0), (12, .int .i64 (a0.length : Int)), (13, .int .i64 s19.2)] t) (by kernel_rfl) ?_ hl18 ⟨b9, hf10, (Imm.refl _), rfl, hK⟩
    rintro s19 o20 t I26 L' hb21 ⟨b23, hb24, hI22, rfl, hK25⟩
    unfold aggr_values_min_l32 at hb21
    refine gk_at hK25 ?_
    refine gk_seq (by kernel_rfl) ?_
    refine gk_region (by kernel_rfl) ?_
    refine gl_pure 1 [5, 11, 12, 13, 14] (K' := [(5, .float .f64 b23), (11, .slice A0_0 a0.length n0_0), (12, .int .i64 (a0.length : Int)), (13, .int .i64 s19.2), (14, .bool (decide (s19.2 < (a0.length : Int))))]) (by kernel_rfl) ?_
    refine gl_atE (by kernel_rfl) ?_
    refine ge_seq ?_
    refine gk_seq (by kernel_rfl) ?_
    refine gk_cond (b := (decide (s19.2 < (a0.length : Int)))) (by kernel_rfl) (by kernel_rfl) (fun hc34 => ?_) (fun hc34 => ?_)
    · have hb21 := cond_t hc34 hb21
      refine gk_skip (by kernel_rfl) ?_
      refine ge_seq ?_
      refine gk_seq (by kernel_rfl) ?_
      refine gk_block (by kernel_rfl) ?_
      refine gk_seq (by kernel_rfl) ?_
      refine gk_region (by kernel_rfl) ?_
      obtain ⟨x35, hx36, hb21⟩ := bind_some hb21
      obtain ⟨p37, cs38, hR39, hA40, ha41⟩ := RepS.ixAt hx36 (hf0_0.mono hI22)
      have hi42 := ix_some hx36
      obtain ⟨b43, rfl, hf44⟩ := hR39
      refine gl_indexAddrF (c := n0_0) (T' := 92) (e := 37) (xs := (.tmp 11)) (xi := (.tmp 13)) (kd := .i64) ha41 hi42.1 hi42.2.1 (by kernel_rfl) (by kernel_rfl) (by kernel_rfl) (by kernel_rfl) (by kernel_rfl) ?_
      refine gl_load (T' := 37) (xp := (.tmp 15)) (p := p37) (c := .float .f64 b43) (n := 1) (by kernel_rfl) (by kernel_rfl) (by kernel_rfl) (by kernel_rfl) hA40 ?_
      refine gl_pure 1 [5, 7, 11, 12, 13] (K' := [(5, .float .f64 b23), (7, .float .f64 b43), (11, .slice A0_0 a0.length n0_0), (12, .int .i64 (a0.length : Int)), (13, .int .i64 s19.2)]) (by kernel_rfl) ?_
      refine gl_atE (by kernel_rfl) ?_
      refine ge_seq ?_
      refine gk_seq (by kernel_rfl) ?_
      obtain ⟨j45, hj46, hb21⟩ := bind_some hb21
      refine gk_join (fun t I' L' => I26 ≤ I' ∧ L = L' ∧ Knows 27 [(5, .float .f64 b23), (7, .float .f64 b43), (11, .slice A0_0 a0.length n0_0), (12, .int .i64 (a0.length : Int)), (13, .int .i64 s19.2), (23, .bool j45)] t) ?_ ?_
      · refine gk_region (by kernel_rfl) ?_
        refine gl_pure 2 [5, 7, 11, 12, 13, 17, 18] (K' := [(5, .float .f64 b23), (7, .float .f64 b43), (11, .slice A0_0 a0.length n0_0), (12, .int .i64 (a0.length : Int)), (13, .int .i64 s19.2), (17, .float .f64 b43), (18, .float .f64 b23)]) (by kernel_rfl) ?_
        refine gl_fcmp (op := .lss) (t := 37) (t' := 37) (xx := (.tmp 17)) (yy := (.tmp 18)) hf44 hb24 (by kernel_rfl) (by kernel_rfl) rfl (by kernel_rfl) (by kernel_rfl) ?_
        refine gl_pure 1 [5, 7, 11, 12, 13, 20] (K' := [(5, .float .f64 b23), (7, .float .f64 b43), (11, .slice A0_0 a0.length n0_0), (12, .int .i64 (a0.length : Int)), (13, .int .i64 s19.2), (20, .bool (fcmp .lss x35 s19.1))]) (by kernel_rfl) ?_
        refine gl_case 20 (b := (fcmp .lss x35 s19.1)) (by kernel_rfl) (fun hc50 => ?_) (fun hc50 => ?_)
        · have hj46 := cond_t hc50 hj46
          refine gl_pure 3 [5, 7, 11, 12, 13, 23] (K' := [(5, .float .f64 b23), (7, .float .f64 b43), (11, .slice A0_0 a0.length n0_0), (12, .int .i64 (a0.length : Int)), (13, .int .i64 s19.2), (23, .bool true)]) (by kernel_rfl) ?_
          refine gl_atE (by kernel_rfl) ?_
          obtain rfl := some_inj hj46
          exact ge_mid fun t ht => ⟨(Imm.refl _), rfl, ht.pick (l := [5, 7, 11, 12, 13, 23]) (by kernel_rfl)⟩
        · have hj46 := cond_f hc50 hj46
          refine gl_pure 1 [5, 7, 11, 12, 13, 20, 21] (K' := [(5, .float .f64 b23), (7, .float .f64 b43), (11, .slice A0_0 a0.length n0_0), (12, .int .i64 (a0.length : Int)), (13, .int .i64 s19.2), (20, .bool false), (21, .float .f64 b23)]) (by kernel_rfl) ?_
          refine gl_callQ (by kernel_rfl) (math_IsNaN_walk (r := (math_IsNaN s19.1)) hb24 rfl _) ?_
          refine gl_pure 1 [5, 7, 11, 12, 13, 23] (K' := [(5, .float .f64 b23), (7, .float .f64 b43), (11, .slice A0_0 a0.length n0_0), (12, .int .i64 (a0.length : Int)), (13, .int .i64 s19.2), (23, .bool (math_IsNaN s19.1))]) (by kernel_rfl) ?_
          refine gl_atE (by kernel_rfl) ?_
          obtain rfl := some_inj hj46
          exact ge_mid fun t ht => ⟨(Imm.refl _), rfl, ht.pick (l := [5, 7, 11, 12, 13, 23]) (by kernel_rfl)⟩
      · rintro t I49 L' ⟨hI47, rfl, hK48⟩
        refine ge_at hK48 ?_
        refine ge_seq ?_
        obtain ⟨j51, hj52, hb21⟩ := bind_some hb21
        refine gk_join (fun t I' L' => ∃ b54, FRep j51 b54 ∧ I49 ≤ I' ∧ L = L' ∧ Knows 27 [(5, .float .f64 b54), (11, .slice A0_0 a0.length n0_0), (12, .int .i64 (a0.length : Int)), (13, .int .i64 s19.2)] t) ?_ ?_
        · refine gk_cond (b := j45) (by kernel_rfl) (by kernel_rfl) (fun hc58 => ?_) (fun hc58 => ?_)
          · have hj52 := cond_t hc58 hj52
            refine gk_region (by kernel_rfl) ?_
            refine gl_pure 2 [5, 11, 12, 13] (K' := [(5, .float .f64 b43), (11, .slice A0_0 a0.length n0_0), (12, .int .i64 (a0.length : Int)), (13, .int .i64 s19.2)]) (by kernel_rfl) ?_
            refine gl_atE (by kernel_rfl) ?_
            obtain rfl := some_inj hj52
            exact ge_mid fun t ht => ⟨b43, hf44, (Imm.refl _), rfl, ht.pick (l := [5, 11, 12, 13]) (by kernel_rfl)⟩
          · have hj52 := cond_f hc58 hj52
            refine gk_skip (by kernel_rfl) ?_
            obtain rfl := some_inj hj52
            exact ge_mid fun t ht => ⟨b23, hb24, (Imm.refl _), rfl, ht.pick (l := [5, 11, 12, 13]) (by kernel_rfl)⟩
        · rintro t I57 L' ⟨b54, hb55, hI53, rfl, hK56⟩
          refine ge_at hK56 ?_
          refine ge_block_normal ?_
          refine ge_seq ?_
          refine gk_region (by kernel_rfl) ?_
          refine gl_pure 2 [5, 11, 12, 13] (K' := [(5, .float .f64 b54), (11, .slice A0_0 a0.length n0_0), (12, .int .i64 (a0.length : Int)), (13, .int .i64 (IntKind.wrap .i64 (s19.2 + 1)))]) (by kernel_rfl) ?_
          refine gl_atE (by kernel_rfl) ?_
          obtain rfl := some_inj hb21
          exact ge_round fun t ht => ⟨b54, hb55, (Imm.trans (Imm.trans hI22 hI47) hI53), rfl, ht.pick (l := [5, 11, 12, 13]) (by kernel_rfl)⟩
    · have hb21 := cond_f hc34 hb21
      refine gk_exit (by kernel_rfl) ?_
      refine ge_seq_exit ?_
      obtain rfl := some_inj hb21
      refine ge_round_out (fun hrr => ?_) (by intro h; cases h)
      obtain rfl := hrr
      refine ge_block_hit (by kernel_rfl) ?_
      exact ge_mid fun t ht => ⟨b23, hb24, hI22, rfl, ht.pick (l := [5]) (by kernel_rfl)⟩
  · rintro t I31 L' ⟨b28, hb29, hI27, rfl, hK30⟩
    refine ge_at hK30 ?_
    refine ge_seq ?_
    refine gk_seq (by kernel_rfl) ?_
    refine gk_region (by kernel_rfl) ?_
    refine gl_pure 2 [4] (K' := [(4, .float .f64 b28)]) (by kernel_rfl) ?_
    refine gl_atE (by kernel_rfl) ?_
    refine ge_seq ?_
    refine gk_ret (by kernel_rfl) ?_
    obtain rfl := some_inj hr
    exact ge_result trivial (ResOk.tmp (by kernel_rfl) ResOk.nil) hI27 ⟨b28, hb29, rfl, rfl⟩
theorem aggr_values_min_impl88  {I : Imm}  : Fn88 I (.func (.func 96) #[] #[]) aggr_values_min := ⟨fun I' hI x0 x1 r hr A0_0 c0_0 b1_0 h0_0 h1_0 L => ⟨96, #[], #[], rfl, ⟨_, Tryz.func96, by kernel_rfl, by kernel_rfl⟩, by
  simp only [List.append_toArray, List.nil_append, List.append_nil, Array.append_empty, Array.empty_append, List.push_append_toArray, List.cons_append]
  exact aggr_values_min_walk  h0_0 h1_0  hr L⟩⟩
/-! 97 aggr_values_max  -/
noncomputable def aggr_values_max_l32 (a0 : List Fl) : (Fl × Int) → Option ((Fl × Int) ⊕ (Fl)) := fun s19 =>
  bif (decide (s19.2 < (a0.length : Int))) then
  (Option.bind (ix a0 s19.2) fun (x35 : Fl) =>
    Option.bind (bif (fcmp .gtr x35 s19.1) then
      (some true)
      else
      (some (math_IsNaN s19.1))) fun (j45 : Bool) =>
    Option.bind (bif j45 then
      (some x35)
      else
      (some s19.1)) fun (j51 : Fl) =>
    some (Sum.inl (j51, (IntKind.wrap .i64 (s19.2 + 1)))))
  else
  (some (Sum.inr s19.1))
noncomputable def aggr_values_max (a0 : List Fl) (a1 : Fl) : Option Fl :=
  Option.bind (ix a0 0) fun (x1 : Fl) =>
  Option.bind (loopO (aggr_values_max_l32 a0) (x1, 0)) fun (r17 : Fl) =>
  some r17
theorem aggr_values_max_walk {a0 : List Fl} {A0_0 : Option Addr} {n0_0 : Nat} {a1 : Fl} {b1_0 : Nat} {I : Imm} {r : Fl}  (hf0_0 : RepS Kd.flt I A0_0 n0_0 a0)  (hf1_0 : FRep a1 b1_0) (hr : aggr_values_max a0 a1 = some r) (L : Own) :
    CallsTo Tryz.prog 97 #[.slice A0_0 a0.length n0_0, .float .f64 b1_0] I L (fun v I' L' => ∃ b0_0, FRep r b0_0 ∧ v = .float .f64 b0_0 ∧ L = L') := by
  unfold aggr_values_max at hr
  refine callsTo_body (N := 27) Tryz.func97 (by kernel_rfl) (by kernel_rfl) (by kernel_rfl) ?_
  refine gk_pick [0, 1] (K' := [(0, .slice A0_0 a0.length n0_0), (1, .float .f64 b1_0)]) (by kernel_rfl) ?_
  refine gk_seq (by kernel_rfl) ?_
  refine gk_region (by kernel_rfl) ?_
  refine gl_pure 1 [0] (K' := [(0, .slice A0_0 a0.length n0_0)]) (by kernel_rfl) ?_
  refine gl_atE (by kernel_rfl) ?_
  refine ge_seq ?_
  refine gk_seq (by kernel_rfl) ?_
  refine gk_region (by kernel_rfl) ?_
  refine gl_pure 1 [0, 8] (K' := [(0, .slice A0_0 a0.length n0_0), (8, .slice A0_0 a0.length n0_0)]) (by kernel_rfl) ?_
  obtain ⟨x1, hx2, hr⟩ := bind_some hr
  obtain ⟨p3, cs4, hR5, hA6, ha7⟩ := RepS.ixAt hx2 hf0_0
  have hi8 := ix_some hx2
  obtain ⟨b9, rfl, hf10⟩ := hR5
  refine gl_indexAddrF (c := n0_0) (T' := 92) (e := 37) (xs := (.tmp 8)) (xi := (.const (.int .i64 0))) (kd := .i64) ha7 hi8.1 hi8.2.1 (by kernel_rfl) (by kernel_rfl) (by kernel_rfl) (by kernel_rfl) (by kernel_rfl) ?_
  refine gl_load (T' := 37) (xp := (.tmp 9)) (p := p3) (c := .float .f64 b9) (n := 1) (by kernel_rfl) (by kernel_rfl) (by kernel_rfl) (by kernel_rfl) hA6 ?_
  refine gl_pure 1 [0, 5] (K' := [(0, .slice A0_0 a0.length n0_0), (5, .float .f64 b9)]) (by kernel_rfl) ?_
  refine gl_atE (by kernel_rfl) ?_
  refine ge_seq ?_
  refine gk_seq (by kernel_rfl) ?_
  refine gk_seq (by kernel_rfl) ?_
  refine gk_region (by kernel_rfl) ?_
  refine gl_pure 3 [5, 11, 12, 13] (K' := [(5, .float .f64 b9), (11, .slice A0_0 a0.length n0_0), (12, .int .i64 (a0.length : Int)), (13, .int .i64 0)]) (by kernel_rfl) ?_
  refine gl_atE (by kernel_rfl) ?_
  refine ge_seq ?_
  obtain ⟨r17, hl18, hr⟩ := bind_some hr
  refine gk_join (fun t I' L' => ∃ b28, FRep r17 b28 ∧ I ≤ I' ∧ L = L' ∧ Knows 27 [(5, .float .f64 b28)] t) ?_ ?_
  · refine gk_block (by kernel_rfl) ?_
    refine gk_pick [5, 11, 12, 13] (K' := [(5, .float .f64 b9), (11, .slice A0_0 a0.length n0_0), (12, .int .i64 (a0.length : Int)), (13, .int .i64 0)]) (by kernel_rfl) ?_
    intro t hK
    refine gc_loop (aggr_values_max_l32 a0) (fun s19 t I' L' => ∃ b23, FRep s19.1 b23 ∧ I ≤ I' ∧ L = L' ∧ Knows 27 [(5, .float .f64 b23), (11, .slice A0_0 a0.length n0_0), (12, .int .i64 (a0.length : Int)), (13, .int .i64 s19.2)] t) (by kernel_rfl) ?_ hl18 ⟨b9, hf10, (Imm.refl _), rfl, hK⟩
    rintro s19 o20 t I26 L' hb21 ⟨b23, hb24, hI22, rfl, hK25⟩
    unfold aggr_values_max_l32 at hb21
    refine gk_at hK25 ?_
    refine gk_seq (by kernel_rfl) ?_
    refine gk_region (by kernel_rfl) ?_
    refine gl_pure 1 [5, 11, 12, 13, 14] (K' := [(5, .float .f64 b23), (11, .slice A0_0 a0.length n0_0), (12, .int .i64 (a0.length : Int)), (13, .int .i64 s19.2), (14, .bool (decide (s19.2 < (a0.length : Int))))]) (by kernel_rfl) ?_
    refine gl_atE (by kernel_rfl) ?_
    refine ge_seq ?_
    refine gk_seq (by kernel_rfl) ?_
    refine gk_cond (b := (decide (s19.2 < (a0.length : Int)))) (by kernel_rfl) (by kernel_rfl) (fun hc34 => ?_) (fun hc34 => ?_)
    · have hb21 := cond_t hc34 hb21
      refine gk_skip (by kernel_rfl) ?_
      refine ge_seq ?_
      refine gk_seq (by kernel_rfl) ?_
      refine gk_block (by kernel_rfl) ?_
      refine gk_seq (by kernel_rfl) ?_
      refine gk_region (by kernel_rfl) ?_
      obtain ⟨x35, hx36, hb21⟩ := bind_some hb21
      obtain ⟨p37, cs38, hR39, hA40, ha41⟩ := RepS.ixAt hx36 (hf0_0.mono hI22)
      have hi42 := ix_some hx36
      obtain ⟨b43, rfl, hf44⟩ := hR39
      refine gl_indexAddrF (c := n0_0) (T' := 92) (e := 37) (xs := (.tmp 11)) (xi := (.tmp 13)) (kd := .i64) ha41 hi42.1 hi42.2.1 (by kernel_rfl) (by kernel_rfl) (by kernel_rfl) (by kernel_rfl) (by kernel_rfl) ?_
      refine gl_load (T' := 37) (xp := (.tmp 15)) (p := p37) (c := .float .f64 b43) (n := 1) (by kernel_rfl) (by kernel_rfl) (by kernel_rfl) (by kernel_rfl) hA40 ?_
      refine gl_pure 1 [5, 7, 11, 12, 13] (K' := [(5, .float .f64 b23), (7, .float .f64 b43), (11, .slice A0_0 a0.length n0_0), (12, .int .i64 (a0.length : Int)), (13, .int .i64 s19.2)]) (by kernel_rfl) ?_
      refine gl_atE (by kernel_rfl) ?_
      refine ge_seq ?_
      refine gk_seq (by kernel_rfl) ?_
      obtain ⟨j45, hj46, hb21⟩ := bind_some hb21
      refine gk_join (fun t I' L' => I26 ≤ I' ∧ L = L' ∧ Knows 27 [(5, .float .f64 b23), (7, .float .f64 b43), (11, .slice A0_0 a0.length n0_0), (12, .int .i64 (a0.length : Int)), (13, .int .i64 s19.2), (23, .bool j45)] t) ?_ ?_
      · refine gk_region (by kernel_rfl) ?_
        refine gl_pure 2 [5, 7, 11, 12, 13, 17, 18] (K' := [(5, .float .f64 b23), (7, .float .f64 b43), (11, .slice A0_0 a0.length n0_0), (12, .int .i64 (a0.length : Int)), (13, .int .i64 s19.2), (17, .float .f64 b43), (18, .float .f64 b23)]) (by kernel_rfl) ?_
        refine gl_fcmp (op := .gtr) (t := 37) (t' := 37) (xx := (.tmp 17)) (yy := (.tmp 18)) hf44 hb24 (by kernel_rfl) (by kernel_rfl) rfl (by kernel_rfl) (by kernel_rfl) ?_
        refine gl_pure 1 [5, 7, 11, 12, 13, 20] (K' := [(5, .float .f64 b23), (7, .float .f64 b43), (11, .slice A0_0 a0.length n0_0), (12, .int .i64 (a0.length : Int)), (13, .int .i64 s19.2), (20, .bool (fcmp .gtr x35 s19.1))]) (by kernel_rfl) ?_
        refine gl_case 20 (b := (fcmp .gtr x35 s19.1)) (by kernel_rfl) (fun hc50 => ?_) (fun hc50 => ?_)
        · have hj46 := cond_t hc50 hj46
          refine gl_pure 3 [5, 7, 11, 12, 13, 23] (K' := [(5, .float .f64 b23), (7, .float .f64 b43), (11, .slice A0_0 a0.length n0_0), (12, .int .i64 (a0.length : Int)), (13, .int .i64 s19.2), (23, .bool true)]) (by kernel_rfl) ?_
          refine gl_atE (by kernel_rfl) ?_
          obtain rfl := some_inj hj46
          exact ge_mid fun t ht => ⟨(Imm.refl _), rfl, ht.pick (l := [5, 7, 11, 12, 13, 23]) (by kernel_rfl)⟩
        · have hj46 := cond_f hc50 hj46
          refine gl_pure 1 [5, 7, 11, 12, 13, 20, 21] (K' := [(5, .float .f64 b23), (7, .float .f64 b43), (11, .slice A0_0 a0.length n0_0), (12, .int .i64 (a0.length : Int)), (13, .int .i64 s19.2), (20, .bool false), (21, .float .f64 b23)]) (by kernel_rfl) ?_
          refine gl_callQ (by kernel_rfl) (math_IsNaN_walk (r := (math_IsNaN s19.1)) hb24 rfl _) ?_
          refine gl_pure 1 [5, 7, 11, 12, 13, 23] (K' := [(5, .float .f64 b23), (7, .float .f64 b43), (11, .slice A0_0 a0.length n0_0), (12, .int .i64 (a0.length : Int)), (13, .int .i64 s19.2), (23, .bool (math_IsNaN s19.1))]) (by kernel_rfl) ?_
          refine gl_atE (by kernel_rfl) ?_
          obtain rfl := some_inj hj46
          exact ge_mid fun t ht => ⟨(Imm.refl _), rfl, ht.pick (l := [5, 7, 11, 12, 13, 23]) (by kernel_rfl)⟩
      · rintro t I49 L' ⟨hI47, rfl, hK48⟩
        refine ge_at hK48 ?_
        refine ge_seq ?_
        obtain ⟨j51, hj52, hb21⟩ := bind_some hb21
        refine gk_join (fun t I' L' => ∃ b54, FRep j51 b54 ∧ I49 ≤ I' ∧ L = L' ∧ Knows 27 [(5, .float .f64 b54), (11, .slice A0_0 a0.length n0_0), (12, .int .i64 (a0.length : Int)), (13, .int .i64 s19.2)] t) ?_ ?_
        · refine gk_cond (b := j45) (by kernel_rfl) (by kernel_rfl) (fun hc58 => ?_) (fun hc58 => ?_)
          · have hj52 := cond_t hc58 hj52
            refine gk_region (by kernel_rfl) ?_
            refine gl_pure 2 [5, 11, 12, 13] (K' := [(5, .float .f64 b43), (11, .slice A0_0 a0.length n0_0), (12, .int .i64 (a0.length : Int)), (13, .int .i64 s19.2)]) (by kernel_rfl) ?_
            refine gl_atE (by kernel_rfl) ?_
            obtain rfl := some_inj hj52
            exact ge_mid fun t ht => ⟨b43, hf44, (Imm.refl _), rfl, ht.pick (l := [5, 11, 12, 13]) (by kernel_rfl)⟩
          · have hj52 := cond_f hc58 hj52
            refine gk_skip (by kernel_rfl) ?_
            obtain rfl := some_inj hj52
            exact ge_mid fun t ht => ⟨b23, hb24, (Imm.refl _), rfl, ht.pick (l := [5, 11, 12, 13]) (by kernel_rfl)⟩
        · rintro t I57 L' ⟨b54, hb55, hI53, rfl, hK56⟩
          refine ge_at hK56 ?_
          refine ge_block_normal ?_
          refine ge_seq ?_
          refine gk_region (by kernel_rfl) ?_
          refine gl_pure 2 [5, 11, 12, 13] (K' := [(5, .float .f64 b54), (11, .slice A0_0 a0.length n0_0), (12, .int .i64 (a0.length : Int)), (13, .int .i64 (IntKind.wrap .i64 (s19.2 + 1)))]) (by kernel_rfl) ?_
          refine gl_atE (by kernel_rfl) ?_
          obtain rfl := some_inj hb21
          exact ge_round fun t ht => ⟨b54, hb55, (Imm.trans (Imm.trans hI22 hI47) hI53), rfl, ht.pick (l := [5, 11, 12, 13]) (by kernel_rfl)⟩
    · have hb21 := cond_f hc34 hb21
      refine gk_exit (by kernel_rfl) ?_
      refine ge_seq_exit ?_
      obtain rfl := some_inj hb21
      refine ge_round_out (fun hrr => ?_) (by intro h; cases h)
      obtain rfl := hrr
      refine ge_block_hit (by kernel_rfl) ?_
      exact ge_mid fun t ht => ⟨b23, hb24, hI22, rfl, ht.pick (l := [5]) (by kernel_rfl)⟩
  · rintro t I31 L' ⟨b28, hb29, hI27, rfl, hK30⟩
    refine ge_at hK30 ?_
    refine ge_seq ?_
    refine gk_seq (by kernel_rfl) ?_
    refine gk_region (by kernel_rfl) ?_
    refine gl_pure 2 [4] (K' := [(4, .float .f64 b28)]) (by kernel_rfl) ?_
    refine gl_atE (by kernel_rfl) ?_
    refine ge_seq ?_
    refine gk_ret (by kernel_rfl) ?_
    obtain rfl := some_inj hr
    exact ge_result trivial (ResOk.tmp (by kernel_rfl) ResOk.nil) hI27 ⟨b28, hb29, rfl, rfl⟩
theorem aggr_values_max_impl88  {I : Imm}  : Fn88 I (.func (.func 97) #[] #[]) aggr_values_max := ⟨fun I' hI x0 x1 r hr A0_0 c0_0 b1_0 h0_0 h1_0 L => ⟨97, #[], #[], rfl, ⟨_, Tryz.func97, by kernel_rfl, by kernel_rfl⟩, by
  simp only [List.append_toArray, List.nil_append, List.append_nil, Array.append_empty, Array.empty_append, List.push_append_toArray, List.cons_append]
  exact aggr_values_max_walk  h0_0 h1_0  hr L⟩⟩
/-! 98 aggr_values_count  -/
noncomputable def aggr_values_count (a0 : List Fl) (a1 : Fl) : Fl :=
  (some (FloatKind.nearest .f64 (a0.length : Int)) : Fl)
theorem aggr_values_count_walk {a0 : List Fl} {A0_0 : Option Addr} {n0_0 : Nat} {a1 : Fl} {b1_0 : Nat} {I : Imm} {r : Fl}  (hf0_0 : RepS Kd.flt I A0_0 n0_0 a0)  (hf1_0 : FRep a1 b1_0) (hr : aggr_values_count a0 a1 = r) (L : Own) :
    CallsTo Tryz.prog 98 #[.slice A0_0 a0.length n0_0, .float .f64 b1_0] I L (fun v I' L' => ∃ b0_0, FRep r b0_0 ∧ v = .float .f64 b0_0 ∧ L = L') := by
  replace hr : some (aggr_values_count a0 a1) = some r := congrArg some hr
  unfold aggr_values_count at hr
  refine callsTo_body (N := 8) Tryz.func98 (by kernel_rfl) (by kernel_rfl) (by kernel_rfl) ?_
  refine gk_pick [0, 1] (K' := [(0, .slice A0_0 a0.length n0_0), (1, .float .f64 b1_0)]) (by kernel_rfl) ?_
  refine gk_seq (by kernel_rfl) ?_
  refine gk_region (by kernel_rfl) ?_
  refine gl_pure 1 [0] (K' := [(0, .slice A0_0 a0.length n0_0)]) (by kernel_rfl) ?_
  refine gl_atE (by kernel_rfl) ?_
  refine ge_seq ?_
  refine gk_seq (by kernel_rfl) ?_
  refine gk_region (by kernel_rfl) ?_
  refine gl_pure 4 [4] (K' := [(4, .float .f64 (FloatKind.nearest .f64 (a0.length : Int)))]) (by kernel_rfl) ?_
  refine gl_atE (by kernel_rfl) ?_
  refine ge_seq ?_
  refine gk_ret (by kernel_rfl) ?_
  obtain rfl := some_inj hr
  exact ge_result trivial (ResOk.tmp (by kernel_rfl) ResOk.nil) (Imm.refl _) ⟨(FloatKind.nearest .f64 (a0.length : Int)), (FRep.of (FloatKind.nearest .f64 (a0.length : Int))), rfl, rfl⟩
theorem aggr_values_count_impl88  {I : Imm}  : Fn88 I (.func (.func 98) #[] #[]) (fun x0 x1 => some (aggr_values_count x0 x1)) := ⟨fun I' hI x0 x1 r hr A0_0 c0_0 b1_0 h0_0 h1_0 L => ⟨98, #[], #[], rfl, ⟨_, Tryz.func98, by kernel_rfl, by kernel_rfl⟩, by
  simp only [List.append_toArray, List.nil_append, List.append_nil, Array.append_empty, Array.empty_append, List.push_append_toArray, List.cons_append]
  exact aggr_values_count_walk  h0_0 h1_0  (some_inj hr) L⟩⟩
/-! 99 aggr_values_group  -/
noncomputable def aggr_values_group (a0 : List Fl) (a1 : Fl) : Fl :=
  (some 4607182418800017408 : Fl)
theorem aggr_values_group_walk {a0 : List Fl} {A0_0 : Option Addr} {n0_0 : Nat} {a1 : Fl} {b1_0 : Nat} {I : Imm} {r : Fl}  (hf0_0 : RepS Kd.flt I A0_0 n0_0 a0)  (hf1_0 : FRep a1 b1_0) (hr : aggr_values_group a0 a1 = r) (L : Own) :
    CallsTo Tryz.prog 99 #[.slice A0_0 a0.length n0_0, .float .f64 b1_0] I L (fun v I' L' => ∃ b0_0, FRep r b0_0 ∧ v = .float .f64 b0_0 ∧ L = L') := by
  replace hr : some (aggr_values_group a0 a1) = some r := congrArg some hr
  unfold aggr_values_group at hr
  refine callsTo_body (N := 5) Tryz.func99 (by kernel_rfl) (by kernel_rfl) (by kernel_rfl) ?_
  refine gk_pick [0, 1] (K' := [(0, .slice A0_0 a0.length n0_0), (1, .float .f64 b1_0)]) (by kernel_rfl) ?_
  refine gk_seq (by kernel_rfl) ?_
  refine gk_region (by kernel_rfl) ?_
  refine gl_pure 1 [] (K' := []) (by kernel_rfl) ?_
  refine gl_atE (by kernel_rfl) ?_
  refine ge_seq ?_
  refine gk_seq (by kernel_rfl) ?_
  refine gk_region (by kernel_rfl) ?_
  refine gl_pure 1 [4] (K' := [(4, .float .f64 4607182418800017408)]) (by kernel_rfl) ?_
  refine gl_atE (by kernel_rfl) ?_
  refine ge_seq ?_
  refine gk_ret (by kernel_rfl) ?_
  obtain rfl := some_inj hr
  exact ge_result trivial (ResOk.tmp (by kernel_rfl) ResOk.nil) (Imm.refl _) ⟨4607182418800017408, (FRep.of 4607182418800017408), rfl, rfl⟩
theorem aggr_values_group_impl88  {I : Imm}  : Fn88 I (.func (.func 99) #[] #[]) (fun x0 x1 => some (aggr_values_group x0 x1)) := ⟨fun I' hI x0 x1 r hr A0_0 c0_0 b1_0 h0_0 h1_0 L => ⟨99, #[], #[], rfl, ⟨_, Tryz.func99, by kernel_rfl, by kernel_rfl⟩, by
  simp only [List.append_toArray, List.nil_append, List.append_nil, Array.append_empty, Array.empty_append, List.push_append_toArray, List.cons_append]
  exact aggr_values_group_walk  h0_0 h1_0  (some_inj hr) L⟩⟩
/-! 100 aggr_values_stdvar  -/
noncomputable def aggr_values_stdvar_l35 (a0 : List Fl) (y1 : Fl) : ((List Fl) × Int) → Option (((List Fl) × Int) ⊕ ((List Fl))) := fun s18 =>
  bif (decide (s18.2 < (a0.length : Int))) then
  (Option.bind (ix a0 s18.2) fun (x38 : Fl) =>
    Option.bind (app s18.1 [(farith .mul (farith .sub x38 y1) (farith .sub x38 y1))]) fun (zs56 : List Fl) =>
    some (Sum.inl (zs56, (IntKind.wrap .i64 (s18.2 + 1)))))
  else
  (some (Sum.inr s18.1))
noncomputable def aggr_values_stdvar (a0 : List Fl) (a1 : Fl) : Option Fl :=
  Option.bind (aggr_values_avg a0 a1) fun (y1 : Fl) =>
  Option.bind (loopO (aggr_values_stdvar_l35 a0 y1) ([], 0)) fun (r16 : (List Fl)) =>
  Option.bind (aggr_values_sum r16 a1) fun (y66 : Fl) =>
  some (farith .quo y66 (some (FloatKind.nearest .f64 (a0.length : Int)) : Fl))
theorem aggr_values_stdvar_walk {a0 : List Fl} {A0_0 : Option Addr} {n0_0 : Nat} {a1 : Fl} {b1_0 : Nat} {I : Imm} {r : Fl}  (hf0_0 : RepS Kd.flt I A0_0 n0_0 a0)  (hf1_0 : FRep a1 b1_0) (hr : aggr_values_stdvar a0 a1 = some r) (L : Own) :
    CallsTo Tryz.prog 100 #[.slice A0_0 a0.length n0_0, .float .f64 b1_0] I L (fun v I' L' => ∃ b0_0, FRep r b0_0 ∧ v = .float .f64 b0_0 ∧ L = L') := by
  unfold aggr_values_stdvar at hr
  refine callsTo_body (N := 36) Tryz.func100 (by kernel_rfl) (by kernel_rfl) (by kernel_rfl) ?_
  refine gk_pick [0, 1] (K' := [(0, .slice A0_0 a0.length n0_0), (1, .float .f64 b1_0)]) (by kernel_rfl) ?_
  refine gk_seq (by kernel_rfl) ?_
  refine gk_region (by kernel_rfl) ?_
  refine gl_pure 1 [0, 1] (K' := [(0, .slice A0_0 a0.length n0_0), (1, .float .f64 b1_0)]) (by kernel_rfl) ?_
  refine gl_atE (by kernel_rfl) ?_
  refine ge_seq ?_
  refine gk_seq (by kernel_rfl) ?_
  refine gk_region (by kernel_rfl) ?_
  refine gl_pure 2 [0, 1, 10, 11] (K' := [(0, .slice A0_0 a0.length n0_0), (1, .float .f64 b1_0), (10, .slice A0_0 a0.length n0_0), (11, .float .f64 b1_0)]) (by kernel_rfl) ?_
  obtain ⟨y1, hx2, hr⟩ := bind_some hr
  refine gl_call (by kernel_rfl) (aggr_values_avg_walk (r := y1) hf0_0 hf1_0 hx2 _) ?_
  rintro v I3 L4 hI5 ⟨z6, hO7, rfl, rfl⟩
  refine gl_pure 1 [0, 1, 5] (K' := [(0, .slice A0_0 a0.length n0_0), (1, .float .f64 b1_0), (5, .float .f64 z6)]) (by kernel_rfl) ?_
  refine gl_atE (by kernel_rfl) ?_
  refine ge_seq ?_
  refine gk_seq (by kernel_rfl) ?_
  refine gk_region (by kernel_rfl) ?_
  refine gl_pure 1 [0, 1, 5, 6] (K' := [(0, .slice A0_0 a0.length n0_0), (1, .float .f64 b1_0), (5, .float .f64 z6), (6, .slice none 0 0)]) (by kernel_rfl) ?_
  refine gl_atE (by kernel_rfl) ?_
  refine ge_seq ?_
  refine gk_seq (by kernel_rfl) ?_
  refine gk_seq (by kernel_rfl) ?_
  refine gk_region (by kernel_rfl) ?_
  refine gl_pure 3 [0, 1, 5, 6, 13, 14, 15] (K' := [(0, .slice A0_0 a0.length n0_0), (1, .float .f64 b1_0), (5, .float .f64 z6), (6, .slice none 0 0), (13, .slice A0_0 a0.length n0_0), (14, .int .i64 (a0.length : Int)), (15, .int .i64 0)]) (by kernel_rfl) ?_
  refine gl_atE (by kernel_rfl) ?_
  refine ge_seq ?_
  obtain ⟨r16, hl17, hr⟩ := bind_some hr
  refine gk_join (fun t I' L' => ∃ A29 n30 C31, OwnS Kd.flt 37 I' A29 n30 r16 C31 ∧ I3 ≤ I' ∧ C31 ++ L = L' ∧ Knows 36 [(0, .slice A0_0 a0.length n0_0), (1, .float .f64 b1_0), (6, .slice A29 r16.length n30)] t) ?_ ?_
  · refine gk_block (by kernel_rfl) ?_
    refine gk_pick [0, 1, 5, 6, 13, 14, 15] (K' := [(0, .slice A0_0 a0.length n0_0), (1, .float .f64 b1_0), (5, .float .f64 z6), (6, .slice none 0 0), (13, .slice A0_0 a0.length n0_0), (14, .int .i64 (a0.length : Int)), (15, .int .i64 0)]) (by kernel_rfl) ?_
    intro t hK
    refine gc_loop (aggr_values_stdvar_l35 a0 y1) (fun s18 t I' L' => ∃ A22 n23 C24, OwnS Kd.flt 37 I' A22 n23 s18.1 C24 ∧ I3 ≤ I' ∧ C24 ++ L = L' ∧ Knows 36 [(0, .slice A0_0 a0.length n0_0), (1, .float .f64 b1_0), (5, .float .f64 z6), (6, .slice A22 s18.1.length n23), (13, .slice A0_0 a0.length n0_0), (14, .int .i64 (a0.length : Int)), (15, .int .i64 s18.2)] t) (by kernel_rfl) ?_ hl17 ⟨none, 0, [], OwnS.nil _ _ _ _, (Imm.refl _), rfl, hK⟩
    rintro s18 o19 t I27 L' hb20 ⟨A22, n23, C24, hO25, hI21, rfl, hK26⟩
    unfold aggr_values_stdvar_l35 at hb20
    refine gk_at hK26 ?_
    refine gk_seq (by kernel_rfl) ?_
    refine gk_region (by kernel_rfl) ?_
    refine gl_pure 1 [0, 1, 5, 6, 13, 14, 15, 16] (K' := [(0, .slice A0_0 a0.length n0_0), (1, .float .f64 b1_0), (5, .float .f64 z6), (6, .slice A22 s18.1.length n23), (13, .slice A0_0 a0.length n0_0), (14, .int .i64 (a0.length : Int)), (15, .int .i64 s18.2), (16, .bool (decide (s18.2 < (a0.length : Int))))]) (by kernel_rfl) ?_
    refine gl_atE (by kernel_rfl) ?_
    refine ge_seq ?_
    refine gk_seq (by kernel_rfl) ?_
    refine gk_cond (b := (decide (s18.2 < (a0.length : Int)))) (by kernel_rfl) (by kernel_rfl) (fun hc37 => ?_) (fun hc37 => ?_)
    · have hb20 := cond_t hc37 hb20
      refine gk_skip (by kernel_rfl) ?_
      refine ge_seq ?_
      refine gk_seq (by kernel_rfl) ?_
      refine gk_block (by kernel_rfl) ?_
      refine gk_seq (by kernel_rfl) ?_
      refine gk_region (by kernel_rfl) ?_
      obtain ⟨x38, hx39, hb20⟩ := bind_some hb20
      obtain ⟨p40, cs41, hR42, hA43, ha44⟩ := RepS.ixAt hx39 (hf0_0.mono (Imm.trans hI5 hI21))
      have hi45 := ix_some hx39
      obtain ⟨b46, rfl, hf47⟩ := hR42
      refine gl_indexAddrF (c := n0_0) (T' := 92) (e := 37) (xs := (.tmp 13)) (xi := (.tmp 15)) (kd := .i64) ha44 hi45.1 hi45.2.1 (by kernel_rfl) (by kernel_rfl) (by kernel_rfl) (by kernel_rfl) (by kernel_rfl) ?_
      refine gl_load (T' := 37) (xp := (.tmp 17)) (p := p40) (c := .float .f64 b46) (n := 1) (by kernel_rfl) (by kernel_rfl) (by kernel_rfl) (by kernel_rfl) hA43 ?_
      refine gl_pure 1 [0, 1, 5, 6, 8, 13, 14, 15] (K' := [(0, .slice A0_0 a0.length n0_0), (1, .float .f64 b1_0), (5, .float .f64 z6), (6, .slice A22 s18.1.length n23), (8, .float .f64 b46), (13, .slice A0_0 a0.length n0_0), (14, .int .i64 (a0.length : Int)), (15, .int .i64 s18.2)]) (by kernel_rfl) ?_
      refine gl_atE (by kernel_rfl) ?_
      refine ge_seq ?_
      refine gk_seq (by kernel_rfl) ?_
      refine gk_region (by kernel_rfl) ?_
      refine gl_pure 2 [0, 1, 5, 6, 13, 14, 15, 19, 20] (K' := [(0, .slice A0_0 a0.length n0_0), (1, .float .f64 b1_0), (5, .float .f64 z6), (6, .slice A22 s18.1.length n23), (13, .slice A0_0 a0.length n0_0), (14, .int .i64 (a0.length : Int)), (15, .int .i64 s18.2), (19, .float .f64 b46), (20, .float .f64 z6)]) (by kernel_rfl) ?_
      refine gl_farith (op := .sub) (t := 37) (t' := 37) (xx := (.tmp 19)) (yy := (.tmp 20)) hf47 hO7 (by kernel_rfl) (by kernel_rfl) rfl (by kernel_rfl) (by kernel_rfl) (fun b48 hf49 => ?_)
      refine gl_pure 1 [0, 1, 5, 6, 9, 13, 14, 15] (K' := [(0, .slice A0_0 a0.length n0_0), (1, .float .f64 b1_0), (5, .float .f64 z6), (6, .slice A22 s18.1.length n23), (9, .float .f64 b48), (13, .slice A0_0 a0.length n0_0), (14, .int .i64 (a0.length : Int)), (15, .int .i64 s18.2)]) (by kernel_rfl) ?_
      refine gl_atE (by kernel_rfl) ?_
      refine ge_seq ?_
      refine gk_region (by kernel_rfl) ?_
      refine gl_pure 3 [0, 1, 5, 13, 14, 15, 22, 23, 24] (K' := [(0, .slice A0_0 a0.length n0_0), (1, .float .f64 b1_0), (5, .float .f64 z6), (13, .slice A0_0 a0.length n0_0), (14, .int .i64 (a0.length : Int)), (15, .int .i64 s18.2), (22, .slice A22 s18.1.length n23), (23, .float .f64 b48), (24, .float .f64 b48)]) (by kernel_rfl) ?_
      refine gl_farith (op := .mul) (t := 37) (t' := 37) (xx := (.tmp 23)) (yy := (.tmp 24)) hf49 hf49 (by kernel_rfl) (by kernel_rfl) rfl (by kernel_rfl) (by kernel_rfl) (fun b50 hf51 => ?_)
      refine gl_buildSlice (T' := 92) (e := 37) (n := 1) (len := 1) (parts := #[(0, (.tmp 25))]) (l := [(0, .float .f64 b50)]) (cs := #[.float .f64 b50]) (by kernel_rfl) (by kernel_rfl) (by kernel_rfl) (by kernel_rfl) (by kernel_rfl) (fun g52 => ?_)
      have hO53 : OwnS Kd.flt 37 I27 (some ⟨g52, 0, none⟩) 1 [(farith .mul (farith .sub x38 y1) (farith .sub x38 y1))] [(g52, .cells #[.float .f64 b50] 37)] := OwnS.lit (row_cons (l := [.float .f64 b50]) ⟨_, rfl, hf51⟩ (row_nil _ _)) rfl rfl rfl
      refine gl_reord (D := [(g52, .cells #[.float .f64 b50] 37)] ++ (C24 ++ L)) (Reord.refl _) ?_
      obtain ⟨zs56, hz57, hb20⟩ := bind_some hb20
      refine gl_append (xv := .slice (some ⟨g52, 0, none⟩) [(farith .mul (farith .sub x38 y1) (farith .sub x38 y1))].length 1) (d := Kd.flt) (t := 92) (tx := 92) (e := 37) (s := (.tmp 22)) (x := (.tmp 26)) (xs := s18.1) (fun X => [(g52, .cells #[.float .f64 b50] 37)] ++ (X ++ L)) hz57 (by kernel_rfl) (by kernel_rfl) (by kernel_rfl) (by kernel_rfl) (by kernel_rfl) (by kernel_rfl) (fun X => (Upd.app _ (Upd.head _ X _))) hO25 (SrcOk.slice (c := 1) (e := 37) (n := 1) (OwnS.rd hO53 (Upd.selfC _ _)) (by kernel_rfl)) (fun A58 n59 C60 hO61 => ?_)
      refine gl_pure 1 [0, 1, 5, 6, 13, 14, 15] (K' := [(0, .slice A0_0 a0.length n0_0), (1, .float .f64 b1_0), (5, .float .f64 z6), (6, .slice A58 zs56.length n59), (13, .slice A0_0 a0.length n0_0), (14, .int .i64 (a0.length : Int)), (15, .int .i64 s18.2)]) (by kernel_rfl) ?_
      refine gl_atE (by kernel_rfl) ?_
      refine ge_block_normal ?_
      refine ge_seq ?_
      refine gk_region (by kernel_rfl) ?_
      refine gl_pure 2 [0, 1, 5, 6, 13, 14, 15] (K' := [(0, .slice A0_0 a0.length n0_0), (1, .float .f64 b1_0), (5, .float .f64 z6), (6, .slice A58 zs56.length n59), (13, .slice A0_0 a0.length n0_0), (14, .int .i64 (a0.length : Int)), (15, .int .i64 (IntKind.wrap .i64 (s18.2 + 1)))]) (by kernel_rfl) ?_
      refine gl_reord (D := C60 ++ L) (Reord.step (Upd.app _ (Upd.rmC _ _)) (Reord.skipC (Reord.refl _))) ?_
      refine gl_atE (by kernel_rfl) ?_
      obtain rfl := some_inj hb20
      exact ge_round fun t ht => ⟨A58, n59, C60, hO61, hI21, rfl, ht.pick (l := [0, 1, 5, 6, 13, 14, 15]) (by kernel_rfl)⟩
    · have hb20 := cond_f hc37 hb20
      refine gk_exit (by kernel_rfl) ?_
      refine ge_seq_exit ?_
      obtain rfl := some_inj hb20
      refine ge_round_out (fun hrr => ?_) (by intro h; cases h)
      obtain rfl := hrr
      refine ge_block_hit (by kernel_rfl) ?_
      exact ge_mid fun t ht => ⟨A22, n23, C24, hO25, hI21, rfl, ht.pick (l := [0, 1, 6]) (by kernel_rfl)⟩
  · rintro t I34 L' ⟨A29, n30, C31, hO32, hI28, rfl, hK33⟩
    refine ge_at hK33 ?_
    refine ge_seq ?_
    refine gk_seq (by kernel_rfl) ?_
    refine gk_region (by kernel_rfl) ?_
    refine gl_pure 2 [0, 29, 30] (K' := [(0, .slice A0_0 a0.length n0_0), (29, .slice A29 r16.length n30), (30, .float .f64 b1_0)]) (by kernel_rfl) ?_
    refine gl_rest (Tk.step (Upd.rmC _ _) (Tk.nil _)) (fun J62 hJ63 hC64 => ?_)
    have hf65 := (OwnS.rest hO32 hJ63 hC64.left)
    obtain ⟨y66, hx67, hr⟩ := bind_some hr
    refine gl_call (by kernel_rfl) (aggr_values_sum_walk (r := y66) hf65 hf1_0 hx67 _) ?_
    rintro v I68 L69 hI70 ⟨z71, hO72, rfl, rfl⟩
    refine gl_pure 3 [31, 34] (K' := [(31, .float .f64 z71), (34, .float .f64 (FloatKind.nearest .f64 (a0.length : Int)))]) (by kernel_rfl) ?_
    refine gl_farith (op := .quo) (t := 37) (t' := 37) (xx := (.tmp 31)) (yy := (.tmp 34)) hO72 (FRep.of (FloatKind.nearest .f64 (a0.length : Int))) (by kernel_rfl) (by kernel_rfl) rfl (by kernel_rfl) (by kernel_rfl) (fun b73 hf74 => ?_)
    refine gl_pure 1 [4] (K' := [(4, .float .f64 b73)]) (by kernel_rfl) ?_
    refine gl_atE (by kernel_rfl) ?_
    refine ge_seq ?_
    refine gk_ret (by kernel_rfl) ?_
    obtain rfl := some_inj hr
    exact ge_result trivial (ResOk.tmp (by kernel_rfl) ResOk.nil) (Imm.trans (Imm.trans (Imm.trans hI5 hI28) hJ63) hI70) ⟨b73, hf74, rfl, rfl⟩
theorem aggr_values_stdvar_impl88  {I : Imm}  : Fn88 I (.func (.func 100) #[] #[]) aggr_values_stdvar := ⟨fun I' hI x0 x1 r hr A0_0 c0_0 b1_0 h0_0 h1_0 L => ⟨100, #[], #[], rfl, ⟨_, Tryz.func100, by kernel_rfl, by kernel_rfl⟩, by
  simp only [List.append_toArray, List.nil_append, List.append_nil, Array.append_empty, Array.empty_append, List.push_append_toArray, List.cons_append]
  exact aggr_values_stdvar_walk  h0_0 h1_0  hr L⟩⟩
/-! 65 math_Sqrt  -/
noncomputable def math_Sqrt (a0 : Fl) : Fl :=
  (fsqrt a0)
theorem math_Sqrt_walk {a0 : Fl} {b0_0 : Nat} {I : Imm} {r : Fl}  (hf0_0 : FRep a0 b0_0) (hr : math_Sqrt a0 = r) (L : Own) :
    CallsTo Tryz.prog 65 #[.float .f64 b0_0] I L (fun v I' L' => ∃ b0_0, FRep r b0_0 ∧ v = .float .f64 b0_0 ∧ L = L') := by
  replace hr : some (math_Sqrt a0) = some r := congrArg some hr
  unfold math_Sqrt at hr
  refine callsTo_body (N := 5) Tryz.func65 (by kernel_rfl) (by kernel_rfl) (by kernel_rfl) ?_
  refine gk_pick [0] (K' := [(0, .float .f64 b0_0)]) (by kernel_rfl) ?_
  refine gk_seq (by kernel_rfl) ?_
  refine gk_region (by kernel_rfl) ?_
  refine gl_pure 1 [0] (K' := [(0, .float .f64 b0_0)]) (by kernel_rfl) ?_
  refine gl_atE (by kernel_rfl) ?_
  refine ge_seq ?_
  refine gk_seq (by kernel_rfl) ?_
  refine gk_region (by kernel_rfl) ?_
  refine gl_pure 1 [3] (K' := [(3, .float .f64 b0_0)]) (by kernel_rfl) ?_
  refine gl_fsqrt hf0_0 Tryz.func113 (by kernel_rfl) (by kernel_rfl) (by kernel_rfl) (by kernel_rfl) (by kernel_rfl) (by kernel_rfl) (fun b1 hf2 => ?_)
  refine gl_pure 1 [2] (K' := [(2, .float .f64 b1)]) (by kernel_rfl) ?_
  refine gl_atE (by kernel_rfl) ?_
  refine ge_seq ?_
  refine gk_ret (by kernel_rfl) ?_
  obtain rfl := some_inj hr
  exact ge_result trivial (ResOk.tmp (by kernel_rfl) ResOk.nil) (Imm.refl _) ⟨b1, hf2, rfl, rfl⟩
/-! 101 aggr_values_stddev  -/
noncomputable def aggr_values_stddev (a0 : List Fl) (a1 : Fl) : Option Fl :=
  Option.bind (aggr_values_stdvar a0 a1) fun (y1 : Fl) =>
  some (math_Sqrt y1)
theorem aggr_values_stddev_walk {a0 : List Fl} {A0_0 : Option Addr} {n0_0 : Nat} {a1 : Fl} {b1_0 : Nat} {I : Imm} {r : Fl}  (hf0_0 : RepS Kd.flt I A0_0 n0_0 a0)  (hf1_0 : FRep a1 b1_0) (hr : aggr_values_stddev a0 a1 = some r) (L : Own) :
    CallsTo Tryz.prog 101 #[.slice A0_0 a0.length n0_0, .float .f64 b1_0] I L (fun v I' L' => ∃ b0_0, FRep r b0_0 ∧ v = .float .f64 b0_0 ∧ L = L') := by
  unfold aggr_values_stddev at hr
  refine callsTo_body (N := 9) Tryz.func101 (by kernel_rfl) (by kernel_rfl) (by kernel_rfl) ?_
  refine gk_pick [0, 1] (K' := [(0, .slice A0_0 a0.length n0_0), (1, .float .f64 b1_0)]) (by kernel_rfl) ?_
  refine gk_seq (by kernel_rfl) ?_
  refine gk_region (by kernel_rfl) ?_
  refine gl_pure 1 [0, 1] (K' := [(0, .slice A0_0 a0.length n0_0), (1, .float .f64 b1_0)]) (by kernel_rfl) ?_
  refine gl_atE (by kernel_rfl) ?_
  refine ge_seq ?_
  refine gk_seq (by kernel_rfl) ?_
  refine gk_region (by kernel_rfl) ?_
  refine gl_pure 2 [5, 6] (K' := [(5, .slice A0_0 a0.length n0_0), (6, .float .f64 b1_0)]) (by kernel_rfl) ?_
  obtain ⟨y1, hx2, hr⟩ := bind_some hr
  refine gl_call (by kernel_rfl) (aggr_values_stdvar_walk (r := y1) hf0_0 hf1_0 hx2 _) ?_
  rintro v I3 L4 hI5 ⟨z6, hO7, rfl, rfl⟩
  refine gl_call (by kernel_rfl) (math_Sqrt_walk (r := (math_Sqrt y1)) hO7 rfl _) ?_
  rintro v I8 L9 hI10 ⟨z11, hO12, rfl, rfl⟩
  refine gl_pure 1 [4] (K' := [(4, .float .f64 z11)]) (by kernel_rfl) ?_
  refine gl_atE (by kernel_rfl) ?_
  refine ge_seq ?_
  refine gk_ret (by kernel_rfl) ?_
  obtain rfl := some_inj hr
  exact ge_result trivial (ResOk.tmp (by kernel_rfl) ResOk.nil) (Imm.trans hI5 hI10) ⟨z11, hO12, rfl, rfl⟩
theorem aggr_values_stddev_impl88  {I : Imm}  : Fn88 I (.func (.func 101) #[] #[]) aggr_values_stddev := ⟨fun I' hI x0 x1 r hr A0_0 c0_0 b1_0 h0_0 h1_0 L => ⟨101, #[], #[], rfl, ⟨_, Tryz.func101, by kernel_rfl, by kernel_rfl⟩, by
  simp only [List.append_toArray, List.nil_append, List.append_nil, Array.append_empty, Array.empty_append, List.push_append_toArray, List.cons_append]
  exact aggr_values_stddev_walk  h0_0 h1_0  hr L⟩⟩
/-! 114 math_Inf  -/
noncomputable def math_Inf (a0 : Int) : Option Fl :=
  Option.bind (bif (decide (a0 ≥ 0)) then
    (some 9218868437227405312)
    else
    (some 18442240474082181120)) fun (j1 : Int) =>
  some (some (j1 : Int).toNat : Fl)
theorem math_Inf_walk {a0 : Int} {I : Imm} {r : Fl}  (hr : math_Inf a0 = some r) (L : Own) :
    CallsTo Tryz.prog 114 #[.int .i64 a0] I L (fun v I' L' => ∃ b0_0, FRep r b0_0 ∧ v = .float .f64 b0_0 ∧ L = L') := by
  unfold math_Inf at hr
  refine callsTo_body (N := 8) Tryz.func114 (by kernel_rfl) (by kernel_rfl) (by kernel_rfl) ?_
  refine gk_pick [0] (K' := [(0, .int .i64 a0)]) (by kernel_rfl) ?_
  refine gk_seq (by kernel_rfl) ?_
  refine gk_region (by kernel_rfl) ?_
  refine gl_pure 1 [0] (K' := [(0, .int .i64 a0)]) (by kernel_rfl) ?_
  refine gl_atE (by kernel_rfl) ?_
  refine ge_seq ?_
  refine gk_seq (by kernel_rfl) ?_
  refine gk_region (by kernel_rfl) ?_
  refine gl_pure 1 [0] (K' := [(0, .int .i64 a0)]) (by kernel_rfl) ?_
  refine gl_atE (by kernel_rfl) ?_
  refine ge_seq ?_
  refine gk_seq (by kernel_rfl) ?_
  refine gk_seq (by kernel_rfl) ?_
  refine gk_region (by kernel_rfl) ?_
  refine gl_pure 2 [5] (K' := [(5, .bool (decide (a0 ≥ 0)))]) (by kernel_rfl) ?_
  refine gl_atE (by kernel_rfl) ?_
  refine ge_seq ?_
  obtain ⟨j1, hj2, hr⟩ := bind_some hr
  refine gk_join (fun t I' L' => I ≤ I' ∧ L = L' ∧ Knows 8 [(3, .int .u64 j1)] t) ?_ ?_
  · refine gk_cond (b := (decide (a0 ≥ 0))) (by kernel_rfl) (by kernel_rfl) (fun hc6 => ?_) (fun hc6 => ?_)
    · have hj2 := cond_t hc6 hj2
      refine gk_region (by kernel_rfl) ?_
      refine gl_pure 1 [3] (K' := [(3, .int .u64 9218868437227405312)]) (by kernel_rfl) ?_
      refine gl_atE (by kernel_rfl) ?_
      obtain rfl := some_inj hj2
      exact ge_mid fun t ht => ⟨(Imm.refl _), rfl, ht.pick (l := [3]) (by kernel_rfl)⟩
    · have hj2 := cond_f hc6 hj2
      refine gk_region (by kernel_rfl) ?_
      refine gl_pure 1 [3] (K' := [(3, .int .u64 18442240474082181120)]) (by kernel_rfl) ?_
      refine gl_atE (by kernel_rfl) ?_
      obtain rfl := some_inj hj2
      exact ge_mid fun t ht => ⟨(Imm.refl _), rfl, ht.pick (l := [3]) (by kernel_rfl)⟩
  · rintro t I5 L' ⟨hI3, rfl, hK4⟩
    refine ge_at hK4 ?_
    refine ge_seq ?_
    refine gk_seq (by kernel_rfl) ?_
    refine gk_region (by kernel_rfl) ?_
    refine gl_pure 1 [6] (K' := [(6, .int .u64 j1)]) (by kernel_rfl) ?_
    refine gl_f64from (n := j1) Tryz.func105 (by kernel_rfl) (by kernel_rfl) (by kernel_rfl) (by kernel_rfl) (by kernel_rfl) (by kernel_rfl) ?_
    refine gl_pure 1 [2] (K' := [(2, .float .f64 ((j1 : Int).toNat))]) (by kernel_rfl) ?_
    refine gl_atE (by kernel_rfl) ?_
    refine ge_seq ?_
    refine gk_ret (by kernel_rfl) ?_
    obtain rfl := some_inj hr
    exact ge_result trivial (ResOk.tmp (by kernel_rfl) ResOk.nil) hI3 ⟨(j1 : Int).toNat, (FRep.of (j1 : Int).toNat), rfl, rfl⟩
/-! 143 slices_Clone  -/
noncomputable def slices_Clone (a0 : List Fl) : Option (List Fl) :=
  Option.bind (app ([] : List Fl) a0) fun (zs3 : List Fl) =>
  some zs3
theorem slices_Clone_walk {a0 : List Fl} {A0_0 : Option Addr} {n0_0 : Nat} {I : Imm} {r : (List Fl)}  (hf0_0 : RepS Kd.flt I A0_0 n0_0 a0) (hr : slices_Clone a0 = some r) (L : Own) :
    CallsTo Tryz.prog 143 #[.slice A0_0 a0.length n0_0] I L (fun v I' L' => ∃ A0 c0 C0, OwnS Kd.flt 37 I' A0 c0 r C0 ∧ v = .slice A0 r.length c0 ∧ C0 ++ L = L') := by
  unfold slices_Clone at hr
  refine callsTo_body (N := 8) Tryz.func143 (by kernel_rfl) (by kernel_rfl) (by kernel_rfl) ?_
  refine gk_pick [0] (K' := [(0, .slice A0_0 a0.length n0_0)]) (by kernel_rfl) ?_
  refine gk_seq (by kernel_rfl) ?_
  refine gk_region (by kernel_rfl) ?_
  refine gl_pure 1 [0] (K' := [(0, .slice A0_0 a0.length n0_0)]) (by kernel_rfl) ?_
  refine gl_atE (by kernel_rfl) ?_
  refine ge_seq ?_
  refine gk_seq (by kernel_rfl) ?_
  refine gk_seq (by kernel_rfl) ?_
  refine gk_region (by kernel_rfl) ?_
  refine gl_pure 1 [0, 3] (K' := [(0, .slice A0_0 a0.length n0_0), (3, .slice A0_0 a0.length n0_0)]) (by kernel_rfl) ?_
  refine gl_eqNil (A := A0_0) (len := a0.length) (c := n0_0) (a := 0) (b := 0) (t := 92) (t' := 92) (x := (.tmp 3)) (y := (.const (.slice none 0 0))) (by kernel_rfl) (by kernel_rfl) (by kernel_rfl) (by kernel_rfl) (by kernel_rfl) ?_
  refine gl_atE (by kernel_rfl) ?_
  refine ge_seq ?_
  refine gk_cond (b := A0_0.isNone) (by kernel_rfl) (by kernel_rfl) (fun hc1 => ?_) (fun hc1 => ?_)
  · have hr := clone_nil hr (RepS.isNil hf0_0 hc1)
    refine gk_seq (by kernel_rfl) ?_
    refine gk_region (by kernel_rfl) ?_
    refine gl_pure 1 [2] (K' := [(2, .slice none 0 0)]) (by kernel_rfl) ?_
    refine gl_atE (by kernel_rfl) ?_
    refine ge_seq ?_
    refine gk_ret (by kernel_rfl) ?_
    refine ge_seq_ret ?_
    obtain rfl := some_inj hr
    exact ge_result trivial (ResOk.tmp (by kernel_rfl) ResOk.nil) (Imm.refl _) ⟨none, 0, [], OwnS.nil _ _ _ _, rfl, rfl⟩
  · refine gk_skip (by kernel_rfl) ?_
    refine ge_seq ?_
    refine gk_seq (by kernel_rfl) ?_
    refine gk_region (by kernel_rfl) ?_
    refine gl_buildSlice0 (T' := 92) (e := 37) (n := 1) (by kernel_rfl) (by kernel_rfl) (by kernel_rfl) (fun g2 => ?_)
    refine gl_reord (D := [(g2, .cells #[] 37)] ++ L) (Reord.refl _) ?_
    refine gl_pure 1 [5, 6] (K' := [(5, .slice (some ⟨g2, 0, none⟩) ([] : List Fl).length 0), (6, .slice A0_0 a0.length n0_0)]) (by kernel_rfl) ?_
    obtain ⟨zs3, hz4, hr⟩ := bind_some hr
    refine gl_append (xv := .slice A0_0 a0.length n0_0) (d := Kd.flt) (t := 92) (tx := 92) (e := 37) (s := (.tmp 5)) (x := (.tmp 6)) (xs := ([] : List Fl)) (fun X => X ++ L) hz4 (by kernel_rfl) (by kernel_rfl) (by kernel_rfl) (by kernel_rfl) (by kernel_rfl) (by kernel_rfl) (fun X => (Upd.head _ X _)) (OwnS.empty _ _ _ _) (SrcOk.slice (c := n0_0) (e := 37) (n := 1) (RepS.rd hf0_0 _) (by kernel_rfl)) (fun A5 n6 C7 hO8 => ?_)
    refine gl_pure 1 [2] (K' := [(2, .slice A5 zs3.length n6)]) (by kernel_rfl) ?_
    refine gl_atE (by kernel_rfl) ?_
    refine ge_seq ?_
    refine gk_ret (by kernel_rfl) ?_
    obtain rfl := some_inj hr
    exact ge_result trivial (ResOk.tmp (by kernel_rfl) ResOk.nil) (Imm.refl _) ⟨A5, n6, C7, hO8, rfl, rfl⟩
/-! 195 cmp_isNaN  -/
noncomputable def cmp_isNaN (a0 : Fl) : Bool :=
  (fcmp .neq a0 a0)
theorem cmp_isNaN_walk {a0 : Fl} {b0_0 : Nat} {I : Imm} {r : Bool}  (hf0_0 : FRep a0 b0_0) (hr : cmp_isNaN a0 = r) (L : Own) :
    CallsTo Tryz.prog 195 #[.float .f64 b0_0] I L (fun v I' L' => v = .bool r ∧ L = L') := by
  replace hr : some (cmp_isNaN a0) = some r := congrArg some hr
  unfold cmp_isNaN at hr
  refine callsTo_body (N := 6) Tryz.func195 (by kernel_rfl) (by kernel_rfl) (by kernel_rfl) ?_
  refine gk_pick [0] (K' := [(0, .float .f64 b0_0)]) (by kernel_rfl) ?_
  refine gk_seq (by kernel_rfl) ?_
  refine gk_region (by kernel_rfl) ?_
  refine gl_pure 1 [0] (K' := [(0, .float .f64 b0_0)]) (by kernel_rfl) ?_
  refine gl_atE (by kernel_rfl) ?_
  refine ge_seq ?_
  refine gk_seq (by kernel_rfl) ?_
  refine gk_region (by kernel_rfl) ?_
  refine gl_pure 2 [3, 4] (K' := [(3, .float .f64 b0_0), (4, .float .f64 b0_0)]) (by kernel_rfl) ?_
  refine gl_fcmp (op := .neq) (t := 37) (t' := 37) (xx := (.tmp 3)) (yy := (.tmp 4)) hf0_0 hf0_0 (by kernel_rfl) (by kernel_rfl) rfl (by kernel_rfl) (by kernel_rfl) ?_
  refine gl_pure 1 [2] (K' := [(2, .bool (fcmp .neq a0 a0))]) (by kernel_rfl) ?_
  refine gl_atE (by kernel_rfl) ?_
  refine ge_seq ?_
  refine gk_ret (by kernel_rfl) ?_
  obtain rfl := some_inj hr
  exact ge_result trivial (ResOk.tmp (by kernel_rfl) ResOk.nil) (Imm.refl _) ⟨rfl, rfl⟩
/-! 175 cmp_Compare  -/
noncomputable def cmp_Compare (a0 : Fl) (a1 : Fl) : Int :=
  bif (cmp_isNaN a0) then
  (bif (cmp_isNaN a1) then
    (0)
    else
    ((-1)))
  else
  (bif (cmp_isNaN a1) then
    (1)
    else
    (bif (fcmp .lss a0 a1) then
      ((-1))
      else
      (bif (fcmp .gtr a0 a1) then
        (1)
        else
        (0))))
theorem cmp_Compare_walk {a0 : Fl} {b0_0 : Nat} {a1 : Fl} {b1_0 : Nat} {I : Imm} {r : Int}  (hf0_0 : FRep a0 b0_0)  (hf1_0 : FRep a1 b1_0) (hr : cmp_Compare a0 a1 = r) (L : Own) :
    CallsTo Tryz.prog 175 #[.float .f64 b0_0, .float .f64 b1_0] I L (fun v I' L' => v = .int .i64 r ∧ L = L') := by
  replace hr : some (cmp_Compare a0 a1) = some r := congrArg some hr
  unfold cmp_Compare at hr
  refine callsTo_body (N := 20) Tryz.func175 (by kernel_rfl) (by kernel_rfl) (by kernel_rfl) ?_
  refine gk_pick [0, 1] (K' := [(0, .float .f64 b0_0), (1, .float .f64 b1_0)]) (by kernel_rfl) ?_
  refine gk_seq (by kernel_rfl) ?_
  refine gk_region (by kernel_rfl) ?_
  refine gl_pure 1 [0, 1] (K' := [(0, .float .f64 b0_0), (1, .float .f64 b1_0)]) (by kernel_rfl) ?_
  refine gl_atE (by kernel_rfl) ?_
  refine ge_seq ?_
  refine gk_seq (by kernel_rfl) ?_
  refine gk_region (by kernel_rfl) ?_
  refine gl_pure 1 [0, 1, 7] (K' := [(0, .float .f64 b0_0), (1, .float .f64 b1_0), (7, .float .f64 b0_0)]) (by kernel_rfl) ?_
  refine gl_callQ (by kernel_rfl) (cmp_isNaN_walk (r := (cmp_isNaN a0)) hf0_0 rfl _) ?_
  refine gl_pure 1 [0, 1, 5] (K' := [(0, .float .f64 b0_0), (1, .float .f64 b1_0), (5, .bool (cmp_isNaN a0))]) (by kernel_rfl) ?_
  refine gl_atE (by kernel_rfl) ?_
  refine ge_seq ?_
  refine gk_seq (by kernel_rfl) ?_
  refine gk_region (by kernel_rfl) ?_
  refine gl_pure 1 [0, 1, 5, 9] (K' := [(0, .float .f64 b0_0), (1, .float .f64 b1_0), (5, .bool (cmp_isNaN a0)), (9, .float .f64 b1_0)]) (by kernel_rfl) ?_
  refine gl_callQ (by kernel_rfl) (cmp_isNaN_walk (r := (cmp_isNaN a1)) hf1_0 rfl _) ?_
  refine gl_pure 1 [0, 1, 5, 6] (K' := [(0, .float .f64 b0_0), (1, .float .f64 b1_0), (5, .bool (cmp_isNaN a0)), (6, .bool (cmp_isNaN a1))]) (by kernel_rfl) ?_
  refine gl_atE (by kernel_rfl) ?_
  refine ge_seq ?_
  refine gk_seq (by kernel_rfl) ?_
  refine gk_seq (by kernel_rfl) ?_
  refine gk_region (by kernel_rfl) ?_
  refine gl_pure 1 [0, 1, 6, 11] (K' := [(0, .float .f64 b0_0), (1, .float .f64 b1_0), (6, .bool (cmp_isNaN a1)), (11, .bool (cmp_isNaN a0))]) (by kernel_rfl) ?_
  refine gl_atE (by kernel_rfl) ?_
  refine ge_seq ?_
  refine gk_cond (b := (cmp_isNaN a0)) (by kernel_rfl) (by kernel_rfl) (fun hc1 => ?_) (fun hc1 => ?_)
  · have hr := scond_t hc1 hr
    refine gk_seq (by kernel_rfl) ?_
    refine gk_seq (by kernel_rfl) ?_
    refine gk_region (by kernel_rfl) ?_
    refine gl_pure 1 [12] (K' := [(12, .bool (cmp_isNaN a1))]) (by kernel_rfl) ?_
    refine gl_atE (by kernel_rfl) ?_
    refine ge_seq ?_
    refine gk_cond (b := (cmp_isNaN a1)) (by kernel_rfl) (by kernel_rfl) (fun hc2 => ?_) (fun hc2 => ?_)
    · have hr := scond_t hc2 hr
      refine gk_seq (by kernel_rfl) ?_
      refine gk_region (by kernel_rfl) ?_
      refine gl_pure 1 [4] (K' := [(4, .int .i64 0)]) (by kernel_rfl) ?_
      refine gl_atE (by kernel_rfl) ?_
      refine ge_seq ?_
      refine gk_ret (by kernel_rfl) ?_
      refine ge_seq_ret ?_
      refine ge_seq_ret ?_
      obtain rfl := some_inj hr
      exact ge_result trivial (ResOk.tmp (by kernel_rfl) ResOk.nil) (Imm.refl _) ⟨rfl, rfl⟩
    · have hr := scond_f hc2 hr
      refine gk_skip (by kernel_rfl) ?_
      refine ge_seq ?_
      refine gk_seq (by kernel_rfl) ?_
      refine gk_region (by kernel_rfl) ?_
      refine gl_pure 1 [4] (K' := [(4, .int .i64 (-1))]) (by kernel_rfl) ?_
      refine gl_atE (by kernel_rfl) ?_
      refine ge_seq ?_
      refine gk_ret (by kernel_rfl) ?_
      refine ge_seq_ret ?_
      obtain rfl := some_inj hr
      exact ge_result trivial (ResOk.tmp (by kernel_rfl) ResOk.nil) (Imm.refl _) ⟨rfl, rfl⟩
  · have hr := scond_f hc1 hr
    refine gk_skip (by kernel_rfl) ?_
    refine ge_seq ?_
    refine gk_seq (by kernel_rfl) ?_
    refine gk_seq (by kernel_rfl) ?_
    refine gk_region (by kernel_rfl) ?_
    refine gl_pure 1 [0, 1, 13] (K' := [(0, .float .f64 b0_0), (1, .float .f64 b1_0), (13, .bool (cmp_isNaN a1))]) (by kernel_rfl) ?_
    refine gl_atE (by kernel_rfl) ?_
    refine ge_seq ?_
    refine gk_cond (b := (cmp_isNaN a1)) (by kernel_rfl) (by kernel_rfl) (fun hc3 => ?_) (fun hc3 => ?_)
    · have hr := scond_t hc3 hr
      refine gk_seq (by kernel_rfl) ?_
      refine gk_region (by kernel_rfl) ?_
      refine gl_pure 1 [4] (K' := [(4, .int .i64 1)]) (by kernel_rfl) ?_
      refine gl_atE (by kernel_rfl) ?_
      refine ge_seq ?_
      refine gk_ret (by kernel_rfl) ?_
      refine ge_seq_ret ?_
      obtain rfl := some_inj hr
      exact ge_result trivial (ResOk.tmp (by kernel_rfl) ResOk.nil) (Imm.refl _) ⟨rfl, rfl⟩
    · have hr := scond_f hc3 hr
      refine gk_skip (by kernel_rfl) ?_
      refine ge_seq ?_
      refine gk_seq (by kernel_rfl) ?_
      refine gk_seq (by kernel_rfl) ?_
      refine gk_region (by kernel_rfl) ?_
      refine gl_pure 2 [0, 1, 14, 15] (K' := [(0, .float .f64 b0_0), (1, .float .f64 b1_0), (14, .float .f64 b0_0), (15, .float .f64 b1_0)]) (by kernel_rfl) ?_
      refine gl_fcmp (op := .lss) (t := 37) (t' := 37) (xx := (.tmp 14)) (yy := (.tmp 15)) hf0_0 hf1_0 (by kernel_rfl) (by kernel_rfl) rfl (by kernel_rfl) (by kernel_rfl) ?_
      refine gl_atE (by kernel_rfl) ?_
      refine ge_seq ?_
      refine gk_cond (b := (fcmp .lss a0 a1)) (by kernel_rfl) (by kernel_rfl) (fun hc4 => ?_) (fun hc4 => ?_)
      · have hr := scond_t hc4 hr
        refine gk_seq (by kernel_rfl) ?_
        refine gk_region (by kernel_rfl) ?_
        refine gl_pure 1 [4] (K' := [(4, .int .i64 (-1))]) (by kernel_rfl) ?_
        refine gl_atE (by kernel_rfl) ?_
        refine ge_seq ?_
        refine gk_ret (by kernel_rfl) ?_
        refine ge_seq_ret ?_
        obtain rfl := some_inj hr
        exact ge_result trivial (ResOk.tmp (by kernel_rfl) ResOk.nil) (Imm.refl _) ⟨rfl, rfl⟩
      · have hr := scond_f hc4 hr
        refine gk_skip (by kernel_rfl) ?_
        refine ge_seq ?_
        refine gk_seq (by kernel_rfl) ?_
        refine gk_seq (by kernel_rfl) ?_
        refine gk_region (by kernel_rfl) ?_
        refine gl_pure 2 [17, 18] (K' := [(17, .float .f64 b0_0), (18, .float .f64 b1_0)]) (by kernel_rfl) ?_
        refine gl_fcmp (op := .gtr) (t := 37) (t' := 37) (xx := (.tmp 17)) (yy := (.tmp 18)) hf0_0 hf1_0 (by kernel_rfl) (by kernel_rfl) rfl (by kernel_rfl) (by kernel_rfl) ?_
        refine gl_atE (by kernel_rfl) ?_
        refine ge_seq ?_
        refine gk_cond (b := (fcmp .gtr a0 a1)) (by kernel_rfl) (by kernel_rfl) (fun hc5 => ?_) (fun hc5 => ?_)
        · have hr := scond_t hc5 hr
          refine gk_seq (by kernel_rfl) ?_
          refine gk_region (by kernel_rfl) ?_
          refine gl_pure 1 [4] (K' := [(4, .int .i64 1)]) (by kernel_rfl) ?_
          refine gl_atE (by kernel_rfl) ?_
          refine ge_seq ?_
          refine gk_ret (by kernel_rfl) ?_
          refine ge_seq_ret ?_
          obtain rfl := some_inj hr
          exact ge_result trivial (ResOk.tmp (by kernel_rfl) ResOk.nil) (Imm.refl _) ⟨rfl, rfl⟩
        · have hr := scond_f hc5 hr
          refine gk_skip (by kernel_rfl) ?_
          refine ge_seq ?_
          refine gk_seq (by kernel_rfl) ?_
          refine gk_region (by kernel_rfl) ?_
          refine gl_pure 1 [4] (K' := [(4, .int .i64 0)]) (by kernel_rfl) ?_
          refine gl_atE (by kernel_rfl) ?_
          refine ge_seq ?_
          refine gk_ret (by kernel_rfl) ?_
          obtain rfl := some_inj hr
          exact ge_result trivial (ResOk.tmp (by kernel_rfl) ResOk.nil) (Imm.refl _) ⟨rfl, rfl⟩
/-! 196 cmp_isNaN_f196  -/
noncomputable def cmp_isNaN_f196 (a0 : Int) : Bool :=
  (a0 != a0)
theorem cmp_isNaN_f196_walk {a0 : Int} {I : Imm} {r : Bool}  (hr : cmp_isNaN_f196 a0 = r) (L : Own) :
    CallsTo Tryz.prog 196 #[.int .u64 a0] I L (fun v I' L' => v = .bool r ∧ L = L') := by
  replace hr : some (cmp_isNaN_f196 a0) = some r := congrArg some hr
  unfold cmp_isNaN_f196 at hr
  refine callsTo_body (N := 6) Tryz.func196 (by kernel_rfl) (by kernel_rfl) (by kernel_rfl) ?_
  refine gk_pick [0] (K' := [(0, .int .u64 a0)]) (by kernel_rfl) ?_
  refine gk_seq (by kernel_rfl) ?_
  refine gk_region (by kernel_rfl) ?_
  refine gl_pure 1 [0] (K' := [(0, .int .u64 a0)]) (by kernel_rfl) ?_
  refine gl_atE (by kernel_rfl) ?_
  refine ge_seq ?_
  refine gk_seq (by kernel_rfl) ?_
  refine gk_region (by kernel_rfl) ?_
  refine gl_pure 4 [2] (K' := [(2, .bool (a0 != a0))]) (by kernel_rfl) ?_
  refine gl_atE (by kernel_rfl) ?_
  refine ge_seq ?_
  refine gk_ret (by kernel_rfl) ?_
  obtain rfl := some_inj hr
  exact ge_result trivial (ResOk.tmp (by kernel_rfl) ResOk.nil) (Imm.refl _) ⟨rfl, rfl⟩
/-! 176 cmp_Compare_f176  -/
noncomputable def cmp_Compare_f176 (a0 : Int) (a1 : Int) : Int :=
  bif (cmp_isNaN_f196 a0) then
  (bif (cmp_isNaN_f196 a1) then
    (0)
    else
    ((-1)))
  else
  (bif (cmp_isNaN_f196 a1) then
    (1)
    else
    (bif (decide (a0 < a1)) then
      ((-1))
      else
      (bif (decide (a0 > a1)) then
        (1)
        else
        (0))))
theorem cmp_Compare_f176_walk {a0 : Int} {a1 : Int} {I : Imm} {r : Int}  (hr : cmp_Compare_f176 a0 a1 = r) (L : Own) :
    CallsTo Tryz.prog 176 #[.int .u64 a0, .int .u64 a1] I L (fun v I' L' => v = .int .i64 r ∧ L = L') := by
  replace hr : some (cmp_Compare_f176 a0 a1) = some r := congrArg some hr
  unfold cmp_Compare_f176 at hr
  refine callsTo_body (N := 20) Tryz.func176 (by kernel_rfl) (by kernel_rfl) (by kernel_rfl) ?_
  refine gk_pick [0, 1] (K' := [(0, .int .u64 a0), (1, .int .u64 a1)]) (by kernel_rfl) ?_
  refine gk_seq (by kernel_rfl) ?_
  refine gk_region (by kernel_rfl) ?_
  refine gl_pure 1 [0, 1] (K' := [(0, .int .u64 a0), (1, .int .u64 a1)]) (by kernel_rfl) ?_
  refine gl_atE (by kernel_rfl) ?_
  refine ge_seq ?_
  refine gk_seq (by kernel_rfl) ?_
  refine gk_region (by kernel_rfl) ?_
  refine gl_pure 1 [0, 1, 7] (K' := [(0, .int .u64 a0), (1, .int .u64 a1), (7, .int .u64 a0)]) (by kernel_rfl) ?_
  refine gl_callQ (by kernel_rfl) (cmp_isNaN_f196_walk (r := (cmp_isNaN_f196 a0))  rfl _) ?_
  refine gl_pure 1 [0, 1, 5] (K' := [(0, .int .u64 a0), (1, .int .u64 a1), (5, .bool (cmp_isNaN_f196 a0))]) (by kernel_rfl) ?_
  refine gl_atE (by kernel_rfl) ?_
  refine ge_seq ?_
  refine gk_seq (by kernel_rfl) ?_
  refine gk_region (by kernel_rfl) ?_
  refine gl_pure 1 [0, 1, 5, 9] (K' := [(0, .int .u64 a0), (1, .int .u64 a1), (5, .bool (cmp_isNaN_f196 a0)), (9, .int .u64 a1)]) (by kernel_rfl) ?_
  refine gl_callQ (by kernel_rfl) (cmp_isNaN_f196_walk (r := (cmp_isNaN_f196 a1))  rfl _) ?_
  refine gl_pure 1 [0, 1, 5, 6] (K' := [(0, .int .u64 a0), (1, .int .u64 a1), (5, .bool (cmp_isNaN_f196 a0)), (6, .bool (cmp_isNaN_f196 a1))]) (by kernel_rfl) ?_
  refine gl_atE (by kernel_rfl) ?_
  refine ge_seq ?_
  refine gk_seq (by kernel_rfl) ?_
  refine gk_seq (by kernel_rfl) ?_
  refine gk_region (by kernel_rfl) ?_
  refine gl_pure 1 [0, 1, 6, 11] (K' := [(0, .int .u64 a0), (1, .int .u64 a1), (6, .bool (cmp_isNaN_f196 a1)), (11, .bool (cmp_isNaN_f196 a0))]) (by kernel_rfl) ?_
  refine gl_atE (by kernel_rfl) ?_
  refine ge_seq ?_
  refine gk_cond (b := (cmp_isNaN_f196 a0)) (by kernel_rfl) (by kernel_rfl) (fun hc1 => ?_) (fun hc1 => ?_)
  · have hr := scond_t hc1 hr
    refine gk_seq (by kernel_rfl) ?_
    refine gk_seq (by kernel_rfl) ?_
    refine gk_region (by kernel_rfl) ?_
    refine gl_pure 1 [12] (K' := [(12, .bool (cmp_isNaN_f196 a1))]) (by kernel_rfl) ?_
    refine gl_atE (by kernel_rfl) ?_
    refine ge_seq ?_
    refine gk_cond (b := (cmp_isNaN_f196 a1)) (by kernel_rfl) (by kernel_rfl) (fun hc2 => ?_) (fun hc2 => ?_)
    · have hr := scond_t hc2 hr
      refine gk_seq (by kernel_rfl) ?_
      refine gk_region (by kernel_rfl) ?_
      refine gl_pure 1 [4] (K' := [(4, .int .i64 0)]) (by kernel_rfl) ?_
      refine gl_atE (by kernel_rfl) ?_
      refine ge_seq ?_
      refine gk_ret (by kernel_rfl) ?_
      refine ge_seq_ret ?_
      refine ge_seq_ret ?_
      obtain rfl := some_inj hr
      exact ge_result trivial (ResOk.tmp (by kernel_rfl) ResOk.nil) (Imm.refl _) ⟨rfl, rfl⟩
    · have hr := scond_f hc2 hr
      refine gk_skip (by kernel_rfl) ?_
      refine ge_seq ?_
      refine gk_seq (by kernel_rfl) ?_
      refine gk_region (by kernel_rfl) ?_
      refine gl_pure 1 [4] (K' := [(4, .int .i64 (-1))]) (by kernel_rfl) ?_
      refine gl_atE (by kernel_rfl) ?_
      refine ge_seq ?_
      refine gk_ret (by kernel_rfl) ?_
      refine ge_seq_ret ?_
      obtain rfl := some_inj hr
      exact ge_result trivial (ResOk.tmp (by kernel_rfl) ResOk.nil) (Imm.refl _) ⟨rfl, rfl⟩
  · have hr := scond_f hc1 hr
    refine gk_skip (by kernel_rfl) ?_
    refine ge_seq ?_
    refine gk_seq (by kernel_rfl) ?_
    refine gk_seq (by kernel_rfl) ?_
    refine gk_region (by kernel_rfl) ?_
    refine gl_pure 1 [0, 1, 13] (K' := [(0, .int .u64 a0), (1, .int .u64 a1), (13, .bool (cmp_isNaN_f196 a1))]) (by kernel_rfl) ?_
    refine gl_atE (by kernel_rfl) ?_
    refine ge_seq ?_
    refine gk_cond (b := (cmp_isNaN_f196 a1)) (by kernel_rfl) (by kernel_rfl) (fun hc3 => ?_) (fun hc3 => ?_)
    · have hr := scond_t hc3 hr
      refine gk_seq (by kernel_rfl) ?_
      refine gk_region (by kernel_rfl) ?_
      refine gl_pure 1 [4] (K' := [(4, .int .i64 1)]) (by kernel_rfl) ?_
      refine gl_atE (by kernel_rfl) ?_
      refine ge_seq ?_
      refine gk_ret (by kernel_rfl) ?_
      refine ge_seq_ret ?_
      obtain rfl := some_inj hr
      exact ge_result trivial (ResOk.tmp (by kernel_rfl) ResOk.nil) (Imm.refl _) ⟨rfl, rfl⟩
    · have hr := scond_f hc3 hr
      refine gk_skip (by kernel_rfl) ?_
      refine ge_seq ?_
      refine gk_seq (by kernel_rfl) ?_
      refine gk_seq (by kernel_rfl) ?_
      refine gk_region (by kernel_rfl) ?_
      refine gl_pure 3 [0, 1, 16] (K' := [(0, .int .u64 a0), (1, .int .u64 a1), (16, .bool (decide (a0 < a1)))]) (by kernel_rfl) ?_
      refine gl_atE (by kernel_rfl) ?_
      refine ge_seq ?_
      refine gk_cond (b := (decide (a0 < a1))) (by kernel_rfl) (by kernel_rfl) (fun hc4 => ?_) (fun hc4 => ?_)
      · have hr := scond_t hc4 hr
        refine gk_seq (by kernel_rfl) ?_
        refine gk_region (by kernel_rfl) ?_
        refine gl_pure 1 [4] (K' := [(4, .int .i64 (-1))]) (by kernel_rfl) ?_
        refine gl_atE (by kernel_rfl) ?_
        refine ge_seq ?_
        refine gk_ret (by kernel_rfl) ?_
        refine ge_seq_ret ?_
        obtain rfl := some_inj hr
        exact ge_result trivial (ResOk.tmp (by kernel_rfl) ResOk.nil) (Imm.refl _) ⟨rfl, rfl⟩
      · have hr := scond_f hc4 hr
        refine gk_skip (by kernel_rfl) ?_
        refine ge_seq ?_
        refine gk_seq (by kernel_rfl) ?_
        refine gk_seq (by kernel_rfl) ?_
        refine gk_region (by kernel_rfl) ?_
        refine gl_pure 3 [19] (K' := [(19, .bool (decide (a0 > a1)))]) (by kernel_rfl) ?_
        refine gl_atE (by kernel_rfl) ?_
        refine ge_seq ?_
        refine gk_cond (b := (decide (a0 > a1))) (by kernel_rfl) (by kernel_rfl) (fun hc5 => ?_) (fun hc5 => ?_)
        · have hr := scond_t hc5 hr
          refine gk_seq (by kernel_rfl) ?_
          refine gk_region (by kernel_rfl) ?_
          refine gl_pure 1 [4] (K' := [(4, .int .i64 1)]) (by kernel_rfl) ?_
          refine gl_atE (by kernel_rfl) ?_
          refine ge_seq ?_
          refine gk_ret (by kernel_rfl) ?_
          refine ge_seq_ret ?_
          obtain rfl := some_inj hr
          exact ge_result trivial (ResOk.tmp (by kernel_rfl) ResOk.nil) (Imm.refl _) ⟨rfl, rfl⟩
        · have hr := scond_f hc5 hr
          refine gk_skip (by kernel_rfl) ?_
          refine ge_seq ?_
          refine gk_seq (by kernel_rfl) ?_
          refine gk_region (by kernel_rfl) ?_
          refine gl_pure 1 [4] (K' := [(4, .int .i64 0)]) (by kernel_rfl) ?_
          refine gl_atE (by kernel_rfl) ?_
          refine ge_seq ?_
          refine gk_ret (by kernel_rfl) ?_
          obtain rfl := some_inj hr
          exact ge_result trivial (ResOk.tmp (by kernel_rfl) ResOk.nil) (Imm.refl _) ⟨rfl, rfl⟩
/-! 145 aggr_ahead  -/
noncomputable def aggr_ahead (a0 : Fl) (a1 : Fl) : Option Int :=
  bif ((cmp_Compare a0 a1) != 0) then
  (some (cmp_Compare a0 a1))
  else
  (Option.bind (fbits a1) fun (q2 : Int) =>
    Option.bind (fbits a0) fun (q4 : Int) =>
    some (cmp_Compare_f176 (shr .u64 q2 63) (shr .u64 q4 63)))
theorem aggr_ahead_walk {a0 : Fl} {b0_0 : Nat} {a1 : Fl} {b1_0 : Nat} {I : Imm} {r : Int}  (hf0_0 : FRep a0 b0_0)  (hf1_0 : FRep a1 b1_0) (hr : aggr_ahead a0 a1 = some r) (L : Own) :
    CallsTo Tryz.prog 145 #[.float .f64 b0_0, .float .f64 b1_0] I L (fun v I' L' => v = .int .i64 r ∧ L = L') := by
  unfold aggr_ahead at hr
  refine callsTo_body (N := 19) Tryz.func145 (by kernel_rfl) (by kernel_rfl) (by kernel_rfl) ?_
  refine gk_pick [0, 1] (K' := [(0, .float .f64 b0_0), (1, .float .f64 b1_0)]) (by kernel_rfl) ?_
  refine gk_seq (by kernel_rfl) ?_
  refine gk_region (by kernel_rfl) ?_
  refine gl_pure 1 [0, 1] (K' := [(0, .float .f64 b0_0), (1, .float .f64 b1_0)]) (by kernel_rfl) ?_
  refine gl_atE (by kernel_rfl) ?_
  refine ge_seq ?_
  refine gk_seq (by kernel_rfl) ?_
  refine gk_seq (by kernel_rfl) ?_
  refine gk_region (by kernel_rfl) ?_
  refine gl_pure 2 [0, 1, 6, 7] (K' := [(0, .float .f64 b0_0), (1, .float .f64 b1_0), (6, .float .f64 b0_0), (7, .float .f64 b1_0)]) (by kernel_rfl) ?_
  refine gl_callQ (by kernel_rfl) (cmp_Compare_walk (r := (cmp_Compare a0 a1)) hf0_0 hf1_0 rfl _) ?_
  refine gl_pure 1 [0, 1, 5] (K' := [(0, .float .f64 b0_0), (1, .float .f64 b1_0), (5, .int .i64 (cmp_Compare a0 a1))]) (by kernel_rfl) ?_
  refine gl_atE (by kernel_rfl) ?_
  refine ge_seq ?_
  refine gk_seq (by kernel_rfl) ?_
  refine gk_region (by kernel_rfl) ?_
  refine gl_pure 2 [0, 1, 5, 10] (K' := [(0, .float .f64 b0_0), (1, .float .f64 b1_0), (5, .int .i64 (cmp_Compare a0 a1)), (10, .bool ((cmp_Compare a0 a1) != 0))]) (by kernel_rfl) ?_
  refine gl_atE (by kernel_rfl) ?_
  refine ge_seq ?_
  refine gk_cond (b := ((cmp_Compare a0 a1) != 0)) (by kernel_rfl) (by kernel_rfl) (fun hc1 => ?_) (fun hc1 => ?_)
  · have hr := cond_t hc1 hr
    refine gk_seq (by kernel_rfl) ?_
    refine gk_region (by kernel_rfl) ?_
    refine gl_pure 2 [4] (K' := [(4, .int .i64 (cmp_Compare a0 a1))]) (by kernel_rfl) ?_
    refine gl_atE (by kernel_rfl) ?_
    refine ge_seq ?_
    refine gk_ret (by kernel_rfl) ?_
    refine ge_seq_ret ?_
    obtain rfl := some_inj hr
    exact ge_result trivial (ResOk.tmp (by kernel_rfl) ResOk.nil) (Imm.refl _) ⟨rfl, rfl⟩
  · have hr := cond_f hc1 hr
    refine gk_skip (by kernel_rfl) ?_
    refine ge_seq ?_
    refine gk_seq (by kernel_rfl) ?_
    refine gk_region (by kernel_rfl) ?_
    refine gl_pure 1 [0, 12] (K' := [(0, .float .f64 b0_0), (12, .float .f64 b1_0)]) (by kernel_rfl) ?_
    obtain ⟨q2, hx3, hr⟩ := bind_some hr
    refine gl_f64bits hx3 hf1_0 Tryz.func46 (by kernel_rfl) (by kernel_rfl) (by kernel_rfl) (by kernel_rfl) (by kernel_rfl) (by kernel_rfl) ?_
    refine gl_pure 2 [14, 15] (K' := [(14, .int .u64 (shr .u64 q2 63)), (15, .float .f64 b0_0)]) (by kernel_rfl) ?_
    obtain ⟨q4, hx5, hr⟩ := bind_some hr
    refine gl_f64bits hx5 hf0_0 Tryz.func46 (by kernel_rfl) (by kernel_rfl) (by kernel_rfl) (by kernel_rfl) (by kernel_rfl) (by kernel_rfl) ?_
    refine gl_pure 1 [14, 17] (K' := [(14, .int .u64 (shr .u64 q2 63)), (17, .int .u64 (shr .u64 q4 63))]) (by kernel_rfl) ?_
    refine gl_callQ (by kernel_rfl) (cmp_Compare_f176_walk (r := (cmp_Compare_f176 (shr .u64 q2 63) (shr .u64 q4 63)))  rfl _) ?_
    refine gl_pure 1 [4] (K' := [(4, .int .i64 (cmp_Compare_f176 (shr .u64 q2 63) (shr .u64 q4 63)))]) (by kernel_rfl) ?_
    refine gl_atE (by kernel_rfl) ?_
    refine ge_seq ?_
    refine gk_ret (by kernel_rfl) ?_
    obtain rfl := some_inj hr
    exact ge_result trivial (ResOk.tmp (by kernel_rfl) ResOk.nil) (Imm.refl _) ⟨rfl, rfl⟩
/-! 193 slices_insertionSortCmpFunc ('inp', 'imm', 'imm', ('cfn', 145)) -/
noncomputable def slices_insertionSortCmpFunc_l52 (a1 : Int) : ((List Fl) × Int) → Option (((List Fl) × Int) ⊕ ((List Fl))) := fun s37 =>
  Option.bind (bif (decide (s37.2 > a1)) then
    (Option.bind (ix s37.1 s37.2) fun (x60 : Fl) =>
      Option.bind (ix s37.1 (IntKind.wrap .i64 (s37.2 - 1))) fun (x71 : Fl) =>
      Option.bind (aggr_ahead x60 x71) fun (y82 : Int) =>
      some (decide (y82 < 0)))
    else
    (some false)) fun (j54 : Bool) =>
  bif j54 then
  (Option.bind (ix s37.1 (IntKind.wrap .i64 (s37.2 - 1))) fun (x85 : Fl) =>
    Option.bind (ix s37.1 s37.2) fun (x96 : Fl) =>
    Option.bind (ix s37.1 s37.2) fun (x107 : Fl) =>
    Option.bind (ix (lset s37.1 s37.2 x85) (IntKind.wrap .i64 (s37.2 - 1))) fun (x121 : Fl) =>
    some (Sum.inl ((lset (lset s37.1 s37.2 x85) (IntKind.wrap .i64 (s37.2 - 1)) x96), (IntKind.wrap .i64 (s37.2 - 1)))))
  else
  (some (Sum.inr s37.1))
noncomputable def slices_insertionSortCmpFunc_l25 (a1 : Int) (a2 : Int) : ((List Fl) × Int) → Option (((List Fl) × Int) ⊕ ((List Fl))) := fun s10 =>
  bif (decide (s10.2 < a2)) then
  (Option.bind (loopO (slices_insertionSortCmpFunc_l52 a1) (s10.1, s10.2)) fun (r35 : (List Fl)) =>
    some (Sum.inl (r35, (IntKind.wrap .i64 (s10.2 + 1)))))
  else
  (some (Sum.inr s10.1))
noncomputable def slices_insertionSortCmpFunc (a0 : List Fl) (a1 : Int) (a2 : Int) : Option (List Fl) :=
  Option.bind (loopO (slices_insertionSortCmpFunc_l25 a1 a2) (a0, (IntKind.wrap .i64 (a1 + 1)))) fun (r8 : (List Fl)) =>
  some r8
theorem slices_insertionSortCmpFunc_walk {a0 : List Fl} {A0 : Option Addr} {c0 : Nat} {C0 : Own} {a1 : Int} {a2 : Int} {I : Imm} {r : (List Fl)} (hO0 : OwnS Kd.flt 37 I A0 c0 a0 C0) (hr : slices_insertionSortCmpFunc a0 a1 a2 = some r) (L : Own) :
    CallsTo Tryz.prog 193 #[.slice A0 a0.length c0, .int .i64 a1, .int .i64 a2, .func (.func 145) #[] #[]] I (C0 ++ L) (fun v I' L' => ∃ C0, OwnS Kd.flt 37 I' A0 c0 r C0 ∧ r.length = a0.length ∧ v = .tuple #[] ∧ C0 ++ L = L') := by
  unfold slices_insertionSortCmpFunc at hr
  refine callsTo_body (N := 53) Tryz.func193 (by kernel_rfl) (by kernel_rfl) (by kernel_rfl) ?_
  refine gk_pick [0, 1, 2, 3] (K' := [(0, .slice A0 a0.length c0), (1, .int .i64 a1), (2, .int .i64 a2), (3, .func (.func 145) #[] #[])]) (by kernel_rfl) ?_
  refine gk_seq (by kernel_rfl) ?_
  refine gk_region (by kernel_rfl) ?_
  refine gl_pure 3 [0, 1, 2, 3, 8] (K' := [(0, .slice A0 a0.length c0), (1, .int .i64 a1), (2, .int .i64 a2), (3, .func (.func 145) #[] #[]), (8, .int .i64 (IntKind.wrap .i64 (a1 + 1)))]) (by kernel_rfl) ?_
  refine gl_atE (by kernel_rfl) ?_
  refine ge_seq ?_
  obtain ⟨r8, hl9, hr⟩ := bind_some hr
  refine gk_join (fun t I' L' => ∃ C20, OwnS Kd.flt 37 I' A0 c0 r8 C20 ∧ (r8.length = a0.length) ∧ I ≤ I' ∧ C20 ++ L = L' ∧ Knows 53 [(0, .slice A0 r8.length c0)] t) ?_ ?_
  · refine gk_block (by kernel_rfl) ?_
    refine gk_pick [0, 1, 2, 3, 8] (K' := [(0, .slice A0 a0.length c0), (1, .int .i64 a1), (2, .int .i64 a2), (3, .func (.func 145) #[] #[]), (8, .int .i64 (IntKind.wrap .i64 (a1 + 1)))]) (by kernel_rfl) ?_
    intro t hK
    refine gc_loop (slices_insertionSortCmpFunc_l25 a1 a2) (fun s10 t I' L' => ∃ C14, OwnS Kd.flt 37 I' A0 c0 s10.1 C14 ∧ (s10.1.length = a0.length) ∧ I ≤ I' ∧ C14 ++ L = L' ∧ Knows 53 [(0, .slice A0 s10.1.length c0), (1, .int .i64 a1), (2, .int .i64 a2), (3, .func (.func 145) #[] #[]), (8, .int .i64 s10.2)] t) (by kernel_rfl) ?_ hl9 ⟨C0, hO0, rfl, (Imm.refl _), rfl, hK⟩
    rintro s10 o11 t I18 L' hb12 ⟨C14, hO15, hL16, hI13, rfl, hK17⟩
    unfold slices_insertionSortCmpFunc_l25 at hb12
    refine gk_at hK17 ?_
    refine gk_seq (by kernel_rfl) ?_
    refine gk_seq (by kernel_rfl) ?_
    refine gk_region (by kernel_rfl) ?_
    refine gl_pure 3 [0, 1, 2, 3, 8, 14] (K' := [(0, .slice A0 s10.1.length c0), (1, .int .i64 a1), (2, .int .i64 a2), (3, .func (.func 145) #[] #[]), (8, .int .i64 s10.2), (14, .bool (decide (s10.2 < a2)))]) (by kernel_rfl) ?_
    refine gl_atE (by kernel_rfl) ?_
    refine ge_seq ?_
    refine gk_cond (b := (decide (s10.2 < a2))) (by kernel_rfl) (by kernel_rfl) (fun hc27 => ?_) (fun hc27 => ?_)
    · have hb12 := cond_t hc27 hb12
      refine gk_skip (by kernel_rfl) ?_
      refine ge_seq ?_
      refine gk_seq (by kernel_rfl) ?_
      refine gk_block (by kernel_rfl) ?_
      refine gk_seq (by kernel_rfl) ?_
      refine gk_region (by kernel_rfl) ?_
      refine gl_pure 2 [0, 1, 2, 3, 8, 9] (K' := [(0, .slice A0 s10.1.length c0), (1, .int .i64 a1), (2, .int .i64 a2), (3, .func (.func 145) #[] #[]), (8, .int .i64 s10.2), (9, .int .i64 s10.2)]) (by kernel_rfl) ?_
      refine gl_atE (by kernel_rfl) ?_
      refine ge_seq ?_
      obtain ⟨r35, hl36, hb12⟩ := bind_some hb12
      refine gk_join (fun t I' L' => ∃ C47, OwnS Kd.flt 37 I' A0 c0 r35 C47 ∧ (r35.length = a0.length) ∧ I18 ≤ I' ∧ C47 ++ L = L' ∧ Knows 53 [(0, .slice A0 r35.length c0), (1, .int .i64 a1), (2, .int .i64 a2), (3, .func (.func 145) #[] #[]), (8, .int .i64 s10.2)] t) ?_ ?_
      · refine gk_block (by kernel_rfl) ?_
        refine gk_pick [0, 1, 2, 3, 8, 9] (K' := [(0, .slice A0 s10.1.length c0), (1, .int .i64 a1), (2, .int .i64 a2), (3, .func (.func 145) #[] #[]), (8, .int .i64 s10.2), (9, .int .i64 s10.2)]) (by kernel_rfl) ?_
        intro t hK
        refine gc_loop (slices_insertionSortCmpFunc_l52 a1) (fun s37 t I' L' => ∃ C41, OwnS Kd.flt 37 I' A0 c0 s37.1 C41 ∧ (s37.1.length = a0.length) ∧ I18 ≤ I' ∧ C41 ++ L = L' ∧ Knows 53 [(0, .slice A0 s37.1.length c0), (1, .int .i64 a1), (2, .int .i64 a2), (3, .func (.func 145) #[] #[]), (8, .int .i64 s10.2), (9, .int .i64 s37.2)] t) (by kernel_rfl) ?_ hl36 ⟨C14, hO15, hL16, (Imm.refl _), rfl, hK⟩
        rintro s37 o38 t I45 L' hb39 ⟨C41, hO42, hL43, hI40, rfl, hK44⟩
        unfold slices_insertionSortCmpFunc_l52 at hb39
        refine gk_at hK44 ?_
        refine gk_seq (by kernel_rfl) ?_
        refine gk_seq (by kernel_rfl) ?_
        obtain ⟨j54, hj55, hb39⟩ := bind_some hb39
        refine gk_join (fun t I' L' => I45 ≤ I' ∧ C41 ++ L = L' ∧ Knows 53 [(0, .slice A0 s37.1.length c0), (1, .int .i64 a1), (2, .int .i64 a2), (3, .func (.func 145) #[] #[]), (8, .int .i64 s10.2), (9, .int .i64 s37.2), (34, .bool j54)] t) ?_ ?_
        · refine gk_draw 14 [(0, true), (1, true), (2, true), (3, true), (4, true), (5, true), (6, true), (7, true), (8, true), (9, true), (10, true), (11, true), (12, true), (13, true)] (C41 ++ []) (List.forall_mem_append.2 ⟨fun q hq => (List.mem_append_left _ hq), (fun p hp => by cases hp)⟩) (by kernel_rfl) (by kernel_rfl) (by kernel_rfl) ?_ (by kernel_rfl)
          refine gd_pure 4 [0, 1, 2, 3, 8, 9, 21] (K' := [(0, .slice A0 s37.1.length c0), (1, .int .i64 a1), (2, .int .i64 a2), (3, .func (.func 145) #[] #[]), (8, .int .i64 s10.2), (9, .int .i64 s37.2), (21, .bool (decide (s37.2 > a1)))]) (s' := [(4, true), (5, true), (6, true), (7, true), (8, true), (9, true), (10, true), (11, true), (12, true), (13, true)]) (CC.refl (List.forall_mem_append.2 ⟨fun q hq => (List.mem_append_left _ hq), (fun p hp => by cases hp)⟩)) (by kernel_rfl) ?_
          refine gd_case 21 (b := (decide (s37.2 > a1))) (by kernel_rfl) (fun hc59 => ?_) (fun hc59 => ?_)
          · have hj55 := cond_t hc59 hj55
            refine gd_pure 3 [0, 1, 2, 3, 8, 9, 21, 22, 23, 24] (K' := [(0, .slice A0 s37.1.length c0), (1, .int .i64 a1), (2, .int .i64 a2), (3, .func (.func 145) #[] #[]), (8, .int .i64 s10.2), (9, .int .i64 s37.2), (21, .bool true), (22, .func (.func 145) #[] #[]), (23, .slice A0 s37.1.length c0), (24, .int .i64 s37.2)]) (s' := [(7, true), (8, true), (9, true), (10, true), (11, true), (12, true), (13, true)]) (CC.refl (List.forall_mem_append.2 ⟨fun q hq => (List.mem_append_left _ hq), (fun p hp => by cases hp)⟩)) (by kernel_rfl) ?_
            obtain ⟨x60, hx61, hj55⟩ := bind_some hj55
            obtain ⟨p62, cs63, hR64, hA65, ha66, hg70⟩ := OwnS.ixAtG hx61 hO42
            have hi67 := ix_some hx61
            obtain ⟨b68, rfl, hf69⟩ := hR64
            refine gd_q (v := .pointer (some p62)) (by kernel_rfl) (by kernel_rfl) (CC.refl (List.forall_mem_append.2 ⟨fun q hq => (List.mem_append_left _ hq), (fun p hp => by cases hp)⟩)) (fun I' L' T hC kk => gl_indexAddrF (c := c0) (T' := 43) (e := 37) (xs := (.tmp 23)) (xi := (.tmp 24)) (kd := .i64) ha66 hi67.1 hi67.2.1 (by kernel_rfl) (by kernel_rfl) (by kernel_rfl) (by kernel_rfl) (by kernel_rfl) kk) ?_
            refine gd_q (v := .float .f64 b68) (by kernel_rfl) (by kernel_rfl) (CC.refl (List.forall_mem_append.2 ⟨fun q hq => (List.mem_append_left _ hq), (fun p hp => by cases hp)⟩)) (fun I' L' T hC kk => gl_loadO (T' := 37) (xp := (.tmp 25)) (p := p62) (c := .float .f64 b68) (n := 1) (by kernel_rfl) (by kernel_rfl) (by kernel_rfl) (by kernel_rfl) (hA65 _ _ (fun q hq => hC.sub _ (List.mem_append_left _ hq))) kk) ?_
            refine gd_pure 3 [0, 1, 2, 3, 8, 9, 21, 22, 26, 27, 29] (K' := [(0, .slice A0 s37.1.length c0), (1, .int .i64 a1), (2, .int .i64 a2), (3, .func (.func 145) #[] #[]), (8, .int .i64 s10.2), (9, .int .i64 s37.2), (21, .bool true), (22, .func (.func 145) #[] #[]), (26, .float .f64 b68), (27, .slice A0 s37.1.length c0), (29, .int .i64 (IntKind.wrap .i64 (s37.2 - 1)))]) (s' := [(12, true), (13, true)]) (CC.refl (List.forall_mem_append.2 ⟨fun q hq => (List.mem_append_left _ hq), (fun p hp => by cases hp)⟩)) (by kernel_rfl) ?_
            obtain ⟨x71, hx72, hj55⟩ := bind_some hj55
            obtain ⟨p73, cs74, hR75, hA76, ha77, hg81⟩ := OwnS.ixAtG hx72 hO42
            have hi78 := ix_some hx72
            obtain ⟨b79, rfl, hf80⟩ := hR75
            refine gd_q (v := .pointer (some p73)) (by kernel_rfl) (by kernel_rfl) (CC.refl (List.forall_mem_append.2 ⟨fun q hq => (List.mem_append_left _ hq), (fun p hp => by cases hp)⟩)) (fun I' L' T hC kk => gl_indexAddrF (c := c0) (T' := 43) (e := 37) (xs := (.tmp 27)) (xi := (.tmp 29)) (kd := .i64) ha77 hi78.1 hi78.2.1 (by kernel_rfl) (by kernel_rfl) (by kernel_rfl) (by kernel_rfl) (by kernel_rfl) kk) ?_
            refine gd_q (v := .float .f64 b79) (by kernel_rfl) (by kernel_rfl) (CC.refl (List.forall_mem_append.2 ⟨fun q hq => (List.mem_append_left _ hq), (fun p hp => by cases hp)⟩)) (fun I' L' T hC kk => gl_loadO (T' := 37) (xp := (.tmp 30)) (p := p73) (c := .float .f64 b79) (n := 1) (by kernel_rfl) (by kernel_rfl) (by kernel_rfl) (by kernel_rfl) (hA76 _ _ (fun q hq => hC.sub _ (List.mem_append_left _ hq))) kk) ?_
            refine gd_done ?_
            obtain ⟨y82, hx83, hj55⟩ := bind_some hj55
            refine gl_callQ (by kernel_rfl) (aggr_ahead_walk (r := y82) hf69 hf80 hx83 _) ?_
            refine gl_pure 2 [0, 1, 2, 3, 8, 9, 34] (K' := [(0, .slice A0 s37.1.length c0), (1, .int .i64 a1), (2, .int .i64 a2), (3, .func (.func 145) #[] #[]), (8, .int .i64 s10.2), (9, .int .i64 s37.2), (34, .bool (decide (y82 < 0)))]) (by kernel_rfl) ?_
            refine gl_atE (by kernel_rfl) ?_
            obtain rfl := some_inj hj55
            exact ge_mid fun t ht => ⟨(Imm.refl _), rfl, ht.pick (l := [0, 1, 2, 3, 8, 9, 34]) (by kernel_rfl)⟩
          · have hj55 := cond_f hc59 hj55
            refine gd_pure 10 [0, 1, 2, 3, 8, 9, 21, 22, 26, 31] (K' := [(0, .slice A0 s37.1.length c0), (1, .int .i64 a1), (2, .int .i64 a2), (3, .func (.func 145) #[] #[]), (8, .int .i64 s10.2), (9, .int .i64 s37.2), (21, .bool false), (22, undef), (26, undef), (31, undef)]) (s' := []) (CC.refl (List.forall_mem_append.2 ⟨fun q hq => (List.mem_append_left _ hq), (fun p hp => by cases hp)⟩)) (by kernel_rfl) ?_
            refine gd_done ?_
            refine gl_pure 3 [0, 1, 2, 3, 8, 9, 34] (K' := [(0, .slice A0 s37.1.length c0), (1, .int .i64 a1), (2, .int .i64 a2), (3, .func (.func 145) #[] #[]), (8, .int .i64 s10.2), (9, .int .i64 s37.2), (34, .bool false)]) (by kernel_rfl) ?_
            refine gl_atE (by kernel_rfl) ?_
            obtain rfl := some_inj hj55
            exact ge_mid fun t ht => ⟨(Imm.refl _), rfl, ht.pick (l := [0, 1, 2, 3, 8, 9, 34]) (by kernel_rfl)⟩
        · rintro t I58 L' ⟨hI56, rfl, hK57⟩
          refine ge_at hK57 ?_
          refine ge_seq ?_
          refine gk_cond (b := j54) (by kernel_rfl) (by kernel_rfl) (fun hc84 => ?_) (fun hc84 => ?_)
          · have hb39 := cond_t hc84 hb39
            refine gk_skip (by kernel_rfl) ?_
            refine ge_seq ?_
            refine gk_seq (by kernel_rfl) ?_
            refine gk_block (by kernel_rfl) ?_
            refine gk_drawS 17 [(0, true), (1, true), (2, true), (3, true), (4, true), (5, true), (6, true), (7, true), (8, true), (9, true), (10, true), (11, true), (12, true), (13, true), (14, false), (15, false), (16, false)] [9, 13] [] (C41 ++ []) (List.forall_mem_append.2 ⟨fun q hq => (List.mem_append_left _ hq), (fun p hp => by cases hp)⟩) (fun p hp => List.mem_append_right _ ((fun p hp => hp) p hp)) (by kernel_rfl) (by kernel_rfl) (by kernel_rfl) ?_ (by kernel_rfl)
            refine gd_pure 8 [0, 1, 2, 3, 8, 9, 37, 38, 39, 41, 42, 44] (K' := [(0, .slice A0 s37.1.length c0), (1, .int .i64 a1), (2, .int .i64 a2), (3, .func (.func 145) #[] #[]), (8, .int .i64 s10.2), (9, .int .i64 s37.2), (37, .slice A0 s37.1.length c0), (38, .int .i64 s37.2), (39, .slice A0 s37.1.length c0), (41, .int .i64 (IntKind.wrap .i64 (s37.2 - 1))), (42, .slice A0 s37.1.length c0), (44, .int .i64 (IntKind.wrap .i64 (s37.2 - 1)))]) (s' := [(8, true), (9, true), (10, true), (11, true), (12, true), (13, true), (14, false), (15, false), (16, false)]) (CC.refl (List.forall_mem_append.2 ⟨fun q hq => (List.mem_append_left _ hq), (fun p hp => by cases hp)⟩)) (by kernel_rfl) ?_
            obtain ⟨x85, hx86, hb39⟩ := bind_some hb39
            obtain ⟨p87, cs88, hR89, hA90, ha91, hg95⟩ := OwnS.ixAtG hx86 (hO42.mono hI56)
            have hi92 := ix_some hx86
            obtain ⟨b93, rfl, hf94⟩ := hR89
            refine gd_q (v := .pointer (some p87)) (by kernel_rfl) (by kernel_rfl) (CC.refl (List.forall_mem_append.2 ⟨fun q hq => (List.mem_append_left _ hq), (fun p hp => by cases hp)⟩)) (fun I' L' T hC kk => gl_indexAddrF (c := c0) (T' := 43) (e := 37) (xs := (.tmp 42)) (xi := (.tmp 44)) (kd := .i64) ha91 hi92.1 hi92.2.1 (by kernel_rfl) (by kernel_rfl) (by kernel_rfl) (by kernel_rfl) (by kernel_rfl) kk) ?_
            refine gd_q (v := .float .f64 b93) (by kernel_rfl) (by kernel_rfl) (CC.refl (List.forall_mem_append.2 ⟨fun q hq => (List.mem_append_left _ hq), (fun p hp => by cases hp)⟩)) (fun I' L' T hC kk => gl_loadO (T' := 37) (xp := (.tmp 45)) (p := p87) (c := .float .f64 b93) (n := 1) (by kernel_rfl) (by kernel_rfl) (by kernel_rfl) (by kernel_rfl) (hA90 _ _ (fun q hq => hC.sub _ (List.mem_append_left _ hq))) kk) ?_
            refine gd_pure 2 [0, 1, 2, 3, 8, 9, 37, 38, 39, 41, 46, 47, 48] (K' := [(0, .slice A0 s37.1.length c0), (1, .int .i64 a1), (2, .int .i64 a2), (3, .func (.func 145) #[] #[]), (8, .int .i64 s10.2), (9, .int .i64 s37.2), (37, .slice A0 s37.1.length c0), (38, .int .i64 s37.2), (39, .slice A0 s37.1.length c0), (41, .int .i64 (IntKind.wrap .i64 (s37.2 - 1))), (46, .float .f64 b93), (47, .slice A0 s37.1.length c0), (48, .int .i64 s37.2)]) (s' := [(12, true), (13, true), (14, false), (15, false), (16, false)]) (CC.refl (List.forall_mem_append.2 ⟨fun q hq => (List.mem_append_left _ hq), (fun p hp => by cases hp)⟩)) (by kernel_rfl) ?_
            obtain ⟨x96, hx97, hb39⟩ := bind_some hb39
            obtain ⟨p98, cs99, hR100, hA101, ha102, hg106⟩ := OwnS.ixAtG hx97 (hO42.mono hI56)
            have hi103 := ix_some hx97
            obtain ⟨b104, rfl, hf105⟩ := hR100
            refine gd_q (v := .pointer (some p98)) (by kernel_rfl) (by kernel_rfl) (CC.refl (List.forall_mem_append.2 ⟨fun q hq => (List.mem_append_left _ hq), (fun p hp => by cases hp)⟩)) (fun I' L' T hC kk => gl_indexAddrF (c := c0) (T' := 43) (e := 37) (xs := (.tmp 47)) (xi := (.tmp 48)) (kd := .i64) ha102 hi103.1 hi103.2.1 (by kernel_rfl) (by kernel_rfl) (by kernel_rfl) (by kernel_rfl) (by kernel_rfl) kk) ?_
            refine gd_q (v := .float .f64 b104) (by kernel_rfl) (by kernel_rfl) (CC.refl (List.forall_mem_append.2 ⟨fun q hq => (List.mem_append_left _ hq), (fun p hp => by cases hp)⟩)) (fun I' L' T hC kk => gl_loadO (T' := 37) (xp := (.tmp 49)) (p := p98) (c := .float .f64 b104) (n := 1) (by kernel_rfl) (by kernel_rfl) (by kernel_rfl) (by kernel_rfl) (hA101 _ _ (fun q hq => hC.sub _ (List.mem_append_left _ hq))) kk) ?_
            refine gd_one (by kernel_rfl) ?_
            obtain ⟨x107, hx108, hb39⟩ := bind_some hb39
            refine gl_indexAddrW (d := Kd.flt) (c := c0) (T' := 43) (e := 37) (xs := (.tmp 37)) (xi := (.tmp 38)) (kd := .i64) hx108 (hO42.mono hI56) (Upd.selfC _ _) (by kernel_rfl) (by kernel_rfl) (by kernel_rfl) (by kernel_rfl) (by kernel_rfl) (fun p109 cs110 hR111 hA112 hp117 => ?_)
            obtain ⟨b115, rfl, hf116⟩ := hR111
            refine gl_toD (by kernel_rfl) ⟨(Imm.refl _), (List.forall_mem_append.2 ⟨fun q hq => (List.mem_append_left _ hq), (fun p hp => by cases hp)⟩)⟩ ?_
            refine gd_flip (by kernel_rfl) (by kernel_rfl) ?_
            have hl120 : s37.1.length = (lset s37.1 s37.2 x85).length := by simp [lset]
            refine gl_storeE (d := Kd.flt) (T' := 37) (xp := (.tmp 51)) (xv := (.tmp 46)) (v := .float .f64 b93) (off := 0) (y := x85) (fun X => X ++ L) hx108 (hO42.mono hI56) (fun X => (Upd.head _ X _)) hp117 (by kernel_rfl) (by kernel_rfl) (by kernel_rfl) (by kernel_rfl) (by kernel_rfl) (by kernel_rfl) (fun cs h => by obtain ⟨b', rfl, _⟩ := h; exact ⟨_, rfl, hf94⟩) (by kernel_rfl) (fun C118 hO119 => ?_)
            try rw [hl120]
            refine gl_toD (by kernel_rfl) ⟨(Imm.refl _), (fun p hp => by cases hp)⟩ ?_
            refine gd_one (by kernel_rfl) ?_
            obtain ⟨x121, hx122, hb39⟩ := bind_some hb39
            refine gl_indexAddrW (d := Kd.flt) (c := c0) (T' := 43) (e := 37) (xs := (.tmp 39)) (xi := (.tmp 41)) (kd := .i64) hx122 hO119 (Upd.selfC _ _) (by kernel_rfl) (by kernel_rfl) (by kernel_rfl) (by kernel_rfl) (by kernel_rfl) (fun p123 cs124 hR125 hA126 hp131 => ?_)
            obtain ⟨b129, rfl, hf130⟩ := hR125
            refine gl_toD (by kernel_rfl) ⟨(Imm.refl _), (fun p hp => by cases hp)⟩ ?_
            refine gd_done ?_
            have hl134 : (lset s37.1 s37.2 x85).length = (lset (lset s37.1 s37.2 x85) (IntKind.wrap .i64 (s37.2 - 1)) x96).length := by simp [lset]
            refine gl_storeE (d := Kd.flt) (T' := 37) (xp := (.tmp 52)) (xv := (.tmp 50)) (v := .float .f64 b104) (off := 0) (y := x96) (fun X => X ++ L) hx122 hO119 (fun X => (Upd.head _ X _)) hp131 (by kernel_rfl) (by kernel_rfl) (by kernel_rfl) (by kernel_rfl) (by kernel_rfl) (by kernel_rfl) (fun cs h => by obtain ⟨b', rfl, _⟩ := h; exact ⟨_, rfl, hf105⟩) (by kernel_rfl) (fun C132 hO133 => ?_)
            try rw [hl134]
            refine gl_atE (by kernel_rfl) ?_
            refine ge_block_normal ?_
            refine ge_seq ?_
            refine gk_region (by kernel_rfl) ?_
            refine gl_pure 3 [0, 1, 2, 3, 8, 9] (K' := [(0, .slice A0 (lset (lset s37.1 s37.2 x85) (IntKind.wrap .i64 (s37.2 - 1)) x96).length c0), (1, .int .i64 a1), (2, .int .i64 a2), (3, .func (.func 145) #[] #[]), (8, .int .i64 s10.2), (9, .int .i64 (IntKind.wrap .i64 (s37.2 - 1)))]) (by kernel_rfl) ?_
            refine gl_atE (by kernel_rfl) ?_
            obtain rfl := some_inj hb39
            exact ge_round fun t ht => ⟨C132, hO133, (Eq.trans (lset_length _ _ _) (Eq.trans (lset_length _ _ _) hL43)), (Imm.trans hI40 hI56), rfl, ht.pick (l := [0, 1, 2, 3, 8, 9]) (by kernel_rfl)⟩
          · have hb39 := cond_f hc84 hb39
            refine gk_exit (by kernel_rfl) ?_
            refine ge_seq_exit ?_
            obtain rfl := some_inj hb39
            refine ge_round_out (fun hrr => ?_) (by intro h; cases h)
            obtain rfl := hrr
            refine ge_block_hit (by kernel_rfl) ?_
            exact ge_mid fun t ht => ⟨C41, (hO42.mono hI56), hL43, (Imm.trans hI40 hI56), rfl, ht.pick (l := [0, 1, 2, 3, 8]) (by kernel_rfl)⟩
      · rintro t I51 L' ⟨C47, hO48, hL49, hI46, rfl, hK50⟩
        refine ge_at hK50 ?_
        refine ge_block_normal ?_
        refine ge_seq ?_
        refine gk_region (by kernel_rfl) ?_
        refine gl_pure 3 [0, 1, 2, 3, 8] (K' := [(0, .slice A0 r35.length c0), (1, .int .i64 a1), (2, .int .i64 a2), (3, .func (.func 145) #[] #[]), (8, .int .i64 (IntKind.wrap .i64 (s10.2 + 1)))]) (by kernel_rfl) ?_
        refine gl_atE (by kernel_rfl) ?_
        obtain rfl := some_inj hb12
        exact ge_round fun t ht => ⟨C47, hO48, hL49, (Imm.trans hI13 hI46), rfl, ht.pick (l := [0, 1, 2, 3, 8]) (by kernel_rfl)⟩
    · have hb12 := cond_f hc27 hb12
      refine gk_exit (by kernel_rfl) ?_
      refine ge_seq_exit ?_
      obtain rfl := some_inj hb12
      refine ge_round_out (fun hrr => ?_) (by intro h; cases h)
      obtain rfl := hrr
      refine ge_block_hit (by kernel_rfl) ?_
      exact ge_mid fun t ht => ⟨C14, hO15, hL16, hI13, rfl, ht.pick (l := [0]) (by kernel_rfl)⟩
  · rintro t I24 L' ⟨C20, hO21, hL22, hI19, rfl, hK23⟩
    refine ge_at hK23 ?_
    obtain rfl := some_inj hr
    exact ge_result trivial ResOk.nil hI19 ⟨C20, hO21, hL22, rfl, rfl⟩
/-! 211 slices_swapRangeCmpFunc ('inp', 'imm', 'imm', 'imm', ('cfn', 145)) -/
noncomputable def slices_swapRangeCmpFunc_l25 (a1 : Int) (a2 : Int) (a3 : Int) : ((List Fl) × Int) → Option (((List Fl) × Int) ⊕ ((List Fl))) := fun s10 =>
  bif (decide (s10.2 < a3)) then
  (Option.bind (ix s10.1 (IntKind.wrap .i64 (a2 + s10.2))) fun (x28 : Fl) =>
    Option.bind (ix s10.1 (IntKind.wrap .i64 (a1 + s10.2))) fun (x39 : Fl) =>
    Option.bind (ix s10.1 (IntKind.wrap .i64 (a1 + s10.2))) fun (x50 : Fl) =>
    Option.bind (ix (lset s10.1 (IntKind.wrap .i64 (a1 + s10.2)) x28) (IntKind.wrap .i64 (a2 + s10.2))) fun (x64 : Fl) =>
    some (Sum.inl ((lset (lset s10.1 (IntKind.wrap .i64 (a1 + s10.2)) x28) (IntKind.wrap .i64 (a2 + s10.2)) x39), (IntKind.wrap .i64 (s10.2 + 1)))))
  else
  (some (Sum.inr s10.1))
noncomputable def slices_swapRangeCmpFunc (a0 : List Fl) (a1 : Int) (a2 : Int) (a3 : Int) : Option (List Fl) :=
  Option.bind (loopO (slices_swapRangeCmpFunc_l25 a1 a2 a3) (a0, 0)) fun (r8 : (List Fl)) =>
  some r8
theorem slices_swapRangeCmpFunc_walk {a0 : List Fl} {A0 : Option Addr} {c0 : Nat} {C0 : Own} {a1 : Int} {a2 : Int} {a3 : Int} {I : Imm} {r : (List Fl)} (hO0 : OwnS Kd.flt 37 I A0 c0 a0 C0) (hr : slices_swapRangeCmpFunc a0 a1 a2 a3 = some r) (L : Own) :
    CallsTo Tryz.prog 211 #[.slice A0 a0.length c0, .int .i64 a1, .int .i64 a2, .int .i64 a3, .func (.func 145) #[] #[]] I (C0 ++ L) (fun v I' L' => ∃ C0, OwnS Kd.flt 37 I' A0 c0 r C0 ∧ r.length = a0.length ∧ v = .tuple #[] ∧ C0 ++ L = L') := by
  unfold slices_swapRangeCmpFunc at hr
  refine callsTo_body (N := 38) Tryz.func211 (by kernel_rfl) (by kernel_rfl) (by kernel_rfl) ?_
  refine gk_pick [0, 1, 2, 3, 4] (K' := [(0, .slice A0 a0.length c0), (1, .int .i64 a1), (2, .int .i64 a2), (3, .int .i64 a3), (4, .func (.func 145) #[] #[])]) (by kernel_rfl) ?_
  refine gk_seq (by kernel_rfl) ?_
  refine gk_region (by kernel_rfl) ?_
  refine gl_pure 1 [0, 1, 2, 3, 10] (K' := [(0, .slice A0 a0.length c0), (1, .int .i64 a1), (2, .int .i64 a2), (3, .int .i64 a3), (10, .int .i64 0)]) (by kernel_rfl) ?_
  refine gl_atE (by kernel_rfl) ?_
  refine ge_seq ?_
  obtain ⟨r8, hl9, hr⟩ := bind_some hr
  refine gk_join (fun t I' L' => ∃ C20, OwnS Kd.flt 37 I' A0 c0 r8 C20 ∧ (r8.length = a0.length) ∧ I ≤ I' ∧ C20 ++ L = L' ∧ Knows 38 [(0, .slice A0 r8.length c0)] t) ?_ ?_
  · refine gk_block (by kernel_rfl) ?_
    refine gk_pick [0, 1, 2, 3, 10] (K' := [(0, .slice A0 a0.length c0), (1, .int .i64 a1), (2, .int .i64 a2), (3, .int .i64 a3), (10, .int .i64 0)]) (by kernel_rfl) ?_
    intro t hK
    refine gc_loop (slices_swapRangeCmpFunc_l25 a1 a2 a3) (fun s10 t I' L' => ∃ C14, OwnS Kd.flt 37 I' A0 c0 s10.1 C14 ∧ (s10.1.length = a0.length) ∧ I ≤ I' ∧ C14 ++ L = L' ∧ Knows 38 [(0, .slice A0 s10.1.length c0), (1, .int .i64 a1), (2, .int .i64 a2), (3, .int .i64 a3), (10, .int .i64 s10.2)] t) (by kernel_rfl) ?_ hl9 ⟨C0, hO0, rfl, (Imm.refl _), rfl, hK⟩
    rintro s10 o11 t I18 L' hb12 ⟨C14, hO15, hL16, hI13, rfl, hK17⟩
    unfold slices_swapRangeCmpFunc_l25 at hb12
    refine gk_at hK17 ?_
    refine gk_seq (by kernel_rfl) ?_
    refine gk_seq (by kernel_rfl) ?_
    refine gk_region (by kernel_rfl) ?_
    refine gl_pure 3 [0, 1, 2, 3, 10, 13] (K' := [(0, .slice A0 s10.1.length c0), (1, .int .i64 a1), (2, .int .i64 a2), (3, .int .i64 a3), (10, .int .i64 s10.2), (13, .bool (decide (s10.2 < a3)))]) (by kernel_rfl) ?_
    refine gl_atE (by kernel_rfl) ?_
    refine ge_seq ?_
    refine gk_cond (b := (decide (s10.2 < a3))) (by kernel_rfl) (by kernel_rfl) (fun hc27 => ?_) (fun hc27 => ?_)
    · have hb12 := cond_t hc27 hb12
      refine gk_skip (by kernel_rfl) ?_
      refine ge_seq ?_
      refine gk_seq (by kernel_rfl) ?_
      refine gk_block (by kernel_rfl) ?_
      refine gk_drawS 23 [(0, true), (1, true), (2, true), (3, true), (4, true), (5, true), (6, true), (7, true), (8, true), (9, true), (10, true), (11, true), (12, true), (13, true), (14, true), (15, true), (16, true), (17, true), (18, true), (19, true), (20, false), (21, false), (22, false)] [13, 19] [] (C14 ++ []) (List.forall_mem_append.2 ⟨fun q hq => (List.mem_append_left _ hq), (fun p hp => by cases hp)⟩) (fun p hp => List.mem_append_right _ ((fun p hp => hp) p hp)) (by kernel_rfl) (by kernel_rfl) (by kernel_rfl) ?_ (by kernel_rfl)
      refine gd_pure 12 [0, 1, 2, 3, 10, 16, 19, 20, 23, 24, 27] (K' := [(0, .slice A0 s10.1.length c0), (1, .int .i64 a1), (2, .int .i64 a2), (3, .int .i64 a3), (10, .int .i64 s10.2), (16, .slice A0 s10.1.length c0), (19, .int .i64 (IntKind.wrap .i64 (a1 + s10.2))), (20, .slice A0 s10.1.length c0), (23, .int .i64 (IntKind.wrap .i64 (a2 + s10.2))), (24, .slice A0 s10.1.length c0), (27, .int .i64 (IntKind.wrap .i64 (a2 + s10.2)))]) (s' := [(12, true), (13, true), (14, true), (15, true), (16, true), (17, true), (18, true), (19, true), (20, false), (21, false), (22, false)]) (CC.refl (List.forall_mem_append.2 ⟨fun q hq => (List.mem_append_left _ hq), (fun p hp => by cases hp)⟩)) (by kernel_rfl) ?_
      obtain ⟨x28, hx29, hb12⟩ := bind_some hb12
      obtain ⟨p30, cs31, hR32, hA33, ha34, hg38⟩ := OwnS.ixAtG hx29 hO15
      have hi35 := ix_some hx29
      obtain ⟨b36, rfl, hf37⟩ := hR32
      refine gd_q (v := .pointer (some p30)) (by kernel_rfl) (by kernel_rfl) (CC.refl (List.forall_mem_append.2 ⟨fun q hq => (List.mem_append_left _ hq), (fun p hp => by cases hp)⟩)) (fun I' L' T hC kk => gl_indexAddrF (c := c0) (T' := 43) (e := 37) (xs := (.tmp 24)) (xi := (.tmp 27)) (kd := .i64) ha34 hi35.1 hi35.2.1 (by kernel_rfl) (by kernel_rfl) (by kernel_rfl) (by kernel_rfl) (by kernel_rfl) kk) ?_
      refine gd_q (v := .float .f64 b36) (by kernel_rfl) (by kernel_rfl) (CC.refl (List.forall_mem_append.2 ⟨fun q hq => (List.mem_append_left _ hq), (fun p hp => by cases hp)⟩)) (fun I' L' T hC kk => gl_loadO (T' := 37) (xp := (.tmp 28)) (p := p30) (c := .float .f64 b36) (n := 1) (by kernel_rfl) (by kernel_rfl) (by kernel_rfl) (by kernel_rfl) (hA33 _ _ (fun q hq => hC.sub _ (List.mem_append_left _ hq))) kk) ?_
      refine gd_pure 4 [0, 1, 2, 3, 10, 16, 19, 20, 23, 29, 30, 33] (K' := [(0, .slice A0 s10.1.length c0), (1, .int .i64 a1), (2, .int .i64 a2), (3, .int .i64 a3), (10, .int .i64 s10.2), (16, .slice A0 s10.1.length c0), (19, .int .i64 (IntKind.wrap .i64 (a1 + s10.2))), (20, .slice A0 s10.1.length c0), (23, .int .i64 (IntKind.wrap .i64 (a2 + s10.2))), (29, .float .f64 b36), (30, .slice A0 s10.1.length c0), (33, .int .i64 (IntKind.wrap .i64 (a1 + s10.2)))]) (s' := [(18, true), (19, true), (20, false), (21, false), (22, false)]) (CC.refl (List.forall_mem_append.2 ⟨fun q hq => (List.mem_append_left _ hq), (fun p hp => by cases hp)⟩)) (by kernel_rfl) ?_
      obtain ⟨x39, hx40, hb12⟩ := bind_some hb12
      obtain ⟨p41, cs42, hR43, hA44, ha45, hg49⟩ := OwnS.ixAtG hx40 hO15
      have hi46 := ix_some hx40
      obtain ⟨b47, rfl, hf48⟩ := hR43
      refine gd_q (v := .pointer (some p41)) (by kernel_rfl) (by kernel_rfl) (CC.refl (List.forall_mem_append.2 ⟨fun q hq => (List.mem_append_left _ hq), (fun p hp => by cases hp)⟩)) (fun I' L' T hC kk => gl_indexAddrF (c := c0) (T' := 43) (e := 37) (xs := (.tmp 30)) (xi := (.tmp 33)) (kd := .i64) ha45 hi46.1 hi46.2.1 (by kernel_rfl) (by kernel_rfl) (by kernel_rfl) (by kernel_rfl) (by kernel_rfl) kk) ?_
      refine gd_q (v := .float .f64 b47) (by kernel_rfl) (by kernel_rfl) (CC.refl (List.forall_mem_append.2 ⟨fun q hq => (List.mem_append_left _ hq), (fun p hp => by cases hp)⟩)) (fun I' L' T hC kk => gl_loadO (T' := 37) (xp := (.tmp 34)) (p := p41) (c := .float .f64 b47) (n := 1) (by kernel_rfl) (by kernel_rfl) (by kernel_rfl) (by kernel_rfl) (hA44 _ _ (fun q hq => hC.sub _ (List.mem_append_left _ hq))) kk) ?_
      refine gd_one (by kernel_rfl) ?_
      obtain ⟨x50, hx51, hb12⟩ := bind_some hb12
      refine gl_indexAddrW (d := Kd.flt) (c := c0) (T' := 43) (e := 37) (xs := (.tmp 16)) (xi := (.tmp 19)) (kd := .i64) hx51 hO15 (Upd.selfC _ _) (by kernel_rfl) (by kernel_rfl) (by kernel_rfl) (by kernel_rfl) (by kernel_rfl) (fun p52 cs53 hR54 hA55 hp60 => ?_)
      obtain ⟨b58, rfl, hf59⟩ := hR54
      refine gl_toD (by kernel_rfl) ⟨(Imm.refl _), (List.forall_mem_append.2 ⟨fun q hq => (List.mem_append_left _ hq), (fun p hp => by cases hp)⟩)⟩ ?_
      refine gd_flip (by kernel_rfl) (by kernel_rfl) ?_
      have hl63 : s10.1.length = (lset s10.1 (IntKind.wrap .i64 (a1 + s10.2)) x28).length := by simp [lset]
      refine gl_storeE (d := Kd.flt) (T' := 37) (xp := (.tmp 36)) (xv := (.tmp 29)) (v := .float .f64 b36) (off := 0) (y := x28) (fun X => X ++ L) hx51 hO15 (fun X => (Upd.head _ X _)) hp60 (by kernel_rfl) (by kernel_rfl) (by kernel_rfl) (by kernel_rfl) (by kernel_rfl) (by kernel_rfl) (fun cs h => by obtain ⟨b', rfl, _⟩ := h; exact ⟨_, rfl, hf37⟩) (by kernel_rfl) (fun C61 hO62 => ?_)
      try rw [hl63]
      refine gl_toD (by kernel_rfl) ⟨(Imm.refl _), (fun p hp => by cases hp)⟩ ?_
      refine gd_one (by kernel_rfl) ?_
      obtain ⟨x64, hx65, hb12⟩ := bind_some hb12
      refine gl_indexAddrW (d := Kd.flt) (c := c0) (T' := 43) (e := 37) (xs := (.tmp 20)) (xi := (.tmp 23)) (kd := .i64) hx65 hO62 (Upd.selfC _ _) (by kernel_rfl) (by kernel_rfl) (by kernel_rfl) (by kernel_rfl) (by kernel_rfl) (fun p66 cs67 hR68 hA69 hp74 => ?_)
      obtain ⟨b72, rfl, hf73⟩ := hR68
      refine gl_toD (by kernel_rfl) ⟨(Imm.refl _), (fun p hp => by cases hp)⟩ ?_
      refine gd_done ?_
      have hl77 : (lset s10.1 (IntKind.wrap .i64 (a1 + s10.2)) x28).length = (lset (lset s10.1 (IntKind.wrap .i64 (a1 + s10.2)) x28) (IntKind.wrap .i64 (a2 + s10.2)) x39).length := by simp [lset]
      refine gl_storeE (d := Kd.flt) (T' := 37) (xp := (.tmp 37)) (xv := (.tmp 35)) (v := .float .f64 b47) (off := 0) (y := x39) (fun X => X ++ L) hx65 hO62 (fun X => (Upd.head _ X _)) hp74 (by kernel_rfl) (by kernel_rfl) (by kernel_rfl) (by kernel_rfl) (by kernel_rfl) (by kernel_rfl) (fun cs h => by obtain ⟨b', rfl, _⟩ := h; exact ⟨_, rfl, hf48⟩) (by kernel_rfl) (fun C75 hO76 => ?_)
      try rw [hl77]
      refine gl_atE (by kernel_rfl) ?_
      refine ge_block_normal ?_
      refine ge_seq ?_
      refine gk_region (by kernel_rfl) ?_
      refine gl_pure 3 [0, 1, 2, 3, 10] (K' := [(0, .slice A0 (lset (lset s10.1 (IntKind.wrap .i64 (a1 + s10.2)) x28) (IntKind.wrap .i64 (a2 + s10.2)) x39).length c0), (1, .int .i64 a1), (2, .int .i64 a2), (3, .int .i64 a3), (10, .int .i64 (IntKind.wrap .i64 (s10.2 + 1)))]) (by kernel_rfl) ?_
      refine gl_atE (by kernel_rfl) ?_
      obtain rfl := some_inj hb12
      exact ge_round fun t ht => ⟨C75, hO76, (Eq.trans (lset_length _ _ _) (Eq.trans (lset_length _ _ _) hL16)), hI13, rfl, ht.pick (l := [0, 1, 2, 3, 10]) (by kernel_rfl)⟩
    · have hb12 := cond_f hc27 hb12
      refine gk_exit (by kernel_rfl) ?_
      refine ge_seq_exit ?_
      obtain rfl := some_inj hb12
      refine ge_round_out (fun hrr => ?_) (by intro h; cases h)
      obtain rfl := hrr
      refine ge_block_hit (by kernel_rfl) ?_
      exact ge_mid fun t ht => ⟨C14, hO15, hL16, hI13, rfl, ht.pick (l := [0]) (by kernel_rfl)⟩
  · rintro t I24 L' ⟨C20, hO21, hL22, hI19, rfl, hK23⟩
    refine ge_at hK23 ?_
    obtain rfl := some_inj hr
    exact ge_result trivial ResOk.nil hI19 ⟨C20, hO21, hL22, rfl, rfl⟩
/-! 205 slices_rotateCmpFunc ('inp', 'imm', 'imm', 'imm', ('cfn', 145)) -/
noncomputable def slices_rotateCmpFunc_l25 (a2 : Int) : ((List Fl) × Int × Int) → Option (((List Fl) × Int × Int) ⊕ ((List Fl) × Int)) := fun s10 =>
  bif (s10.2.1 != s10.2.2) then
  (Option.bind (bif (decide (s10.2.1 > s10.2.2)) then
      (Option.bind (slices_swapRangeCmpFunc s10.1 (IntKind.wrap .i64 (a2 - s10.2.1)) a2 s10.2.2) fun (y37 : (List Fl)) =>
        some (y37, (IntKind.wrap .i64 (s10.2.1 - s10.2.2)), s10.2.2))
      else
      (Option.bind (slices_swapRangeCmpFunc s10.1 (IntKind.wrap .i64 (a2 - s10.2.1)) (IntKind.wrap .i64 ((IntKind.wrap .i64 (a2 + s10.2.2)) - s10.2.1)) s10.2.1) fun (y45 : (List Fl)) =>
        some (y45, s10.2.1, (IntKind.wrap .i64 (s10.2.2 - s10.2.1))))) fun (j28 : (List Fl) × Int × Int) =>
    some (Sum.inl (j28.1, j28.2.1, j28.2.2)))
  else
  (some (Sum.inr (s10.1, s10.2.1)))
noncomputable def slices_rotateCmpFunc (a0 : List Fl) (a1 : Int) (a2 : Int) (a3 : Int) : Option (List Fl) :=
  Option.bind (loopO (slices_rotateCmpFunc_l25 a2) (a0, (IntKind.wrap .i64 (a2 - a1)), (IntKind.wrap .i64 (a3 - a2)))) fun (r8 : (List Fl) × Int) =>
  Option.bind (slices_swapRangeCmpFunc r8.1 (IntKind.wrap .i64 (a2 - r8.2)) a2 r8.2) fun (y53 : (List Fl)) =>
  some y53
theorem slices_rotateCmpFunc_walk {a0 : List Fl} {A0 : Option Addr} {c0 : Nat} {C0 : Own} {a1 : Int} {a2 : Int} {a3 : Int} {I : Imm} {r : (List Fl)} (hO0 : OwnS Kd.flt 37 I A0 c0 a0 C0) (hr : slices_rotateCmpFunc a0 a1 a2 a3 = some r) (L : Own) :
    CallsTo Tryz.prog 205 #[.slice A0 a0.length c0, .int .i64 a1, .int .i64 a2, .int .i64 a3, .func (.func 145) #[] #[]] I (C0 ++ L) (fun v I' L' => ∃ C0, OwnS Kd.flt 37 I' A0 c0 r C0 ∧ r.length = a0.length ∧ v = .tuple #[] ∧ C0 ++ L = L') := by
  unfold slices_rotateCmpFunc at hr
  refine callsTo_body (N := 58) Tryz.func205 (by kernel_rfl) (by kernel_rfl) (by kernel_rfl) ?_
  refine gk_pick [0, 1, 2, 3, 4] (K' := [(0, .slice A0 a0.length c0), (1, .int .i64 a1), (2, .int .i64 a2), (3, .int .i64 a3), (4, .func (.func 145) #[] #[])]) (by kernel_rfl) ?_
  refine gk_seq (by kernel_rfl) ?_
  refine gk_region (by kernel_rfl) ?_
  refine gl_pure 4 [0, 2, 3, 4, 10] (K' := [(0, .slice A0 a0.length c0), (2, .int .i64 a2), (3, .int .i64 a3), (4, .func (.func 145) #[] #[]), (10, .int .i64 (IntKind.wrap .i64 (a2 - a1)))]) (by kernel_rfl) ?_
  refine gl_atE (by kernel_rfl) ?_
  refine ge_seq ?_
  refine gk_seq (by kernel_rfl) ?_
  refine gk_region (by kernel_rfl) ?_
  refine gl_pure 4 [0, 2, 4, 10, 11] (K' := [(0, .slice A0 a0.length c0), (2, .int .i64 a2), (4, .func (.func 145) #[] #[]), (10, .int .i64 (IntKind.wrap .i64 (a2 - a1))), (11, .int .i64 (IntKind.wrap .i64 (a3 - a2)))]) (by kernel_rfl) ?_
  refine gl_atE (by kernel_rfl) ?_
  refine ge_seq ?_
  refine gk_seq (by kernel_rfl) ?_
  obtain ⟨r8, hl9, hr⟩ := bind_some hr
  refine gk_join (fun t I' L' => ∃ C20, OwnS Kd.flt 37 I' A0 c0 r8.1 C20 ∧ (r8.1.length = a0.length) ∧ I ≤ I' ∧ C20 ++ L = L' ∧ Knows 58 [(0, .slice A0 r8.1.length c0), (2, .int .i64 a2), (4, .func (.func 145) #[] #[]), (10, .int .i64 r8.2)] t) ?_ ?_
  · refine gk_block (by kernel_rfl) ?_
    refine gk_pick [0, 2, 4, 10, 11] (K' := [(0, .slice A0 a0.length c0), (2, .int .i64 a2), (4, .func (.func 145) #[] #[]), (10, .int .i64 (IntKind.wrap .i64 (a2 - a1))), (11, .int .i64 (IntKind.wrap .i64 (a3 - a2)))]) (by kernel_rfl) ?_
    intro t hK
    refine gc_loop (slices_rotateCmpFunc_l25 a2) (fun s10 t I' L' => ∃ C14, OwnS Kd.flt 37 I' A0 c0 s10.1 C14 ∧ (s10.1.length = a0.length) ∧ I ≤ I' ∧ C14 ++ L = L' ∧ Knows 58 [(0, .slice A0 s10.1.length c0), (2, .int .i64 a2), (4, .func (.func 145) #[] #[]), (10, .int .i64 s10.2.1), (11, .int .i64 s10.2.2)] t) (by kernel_rfl) ?_ hl9 ⟨C0, hO0, rfl, (Imm.refl _), rfl, hK⟩
    rintro s10 o11 t I18 L' hb12 ⟨C14, hO15, hL16, hI13, rfl, hK17⟩
    unfold slices_rotateCmpFunc_l25 at hb12
    refine gk_at hK17 ?_
    refine gk_seq (by kernel_rfl) ?_
    refine gk_seq (by kernel_rfl) ?_
    refine gk_region (by kernel_rfl) ?_
    refine gl_pure 3 [0, 2, 4, 10, 11, 20] (K' := [(0, .slice A0 s10.1.length c0), (2, .int .i64 a2), (4, .func (.func 145) #[] #[]), (10, .int .i64 s10.2.1), (11, .int .i64 s10.2.2), (20, .bool (s10.2.1 != s10.2.2))]) (by kernel_rfl) ?_
    refine gl_atE (by kernel_rfl) ?_
    refine ge_seq ?_
    refine gk_cond (b := (s10.2.1 != s10.2.2)) (by kernel_rfl) (by kernel_rfl) (fun hc27 => ?_) (fun hc27 => ?_)
    · have hb12 := cond_t hc27 hb12
      refine gk_skip (by kernel_rfl) ?_
      refine ge_seq ?_
      refine gk_block (by kernel_rfl) ?_
      refine gk_seq (by kernel_rfl) ?_
      refine gk_region (by kernel_rfl) ?_
      refine gl_pure 3 [0, 2, 4, 10, 11, 23] (K' := [(0, .slice A0 s10.1.length c0), (2, .int .i64 a2), (4, .func (.func 145) #[] #[]), (10, .int .i64 s10.2.1), (11, .int .i64 s10.2.2), (23, .bool (decide (s10.2.1 > s10.2.2)))]) (by kernel_rfl) ?_
      refine gl_atE (by kernel_rfl) ?_
      refine ge_seq ?_
      obtain ⟨j28, hj29, hb12⟩ := bind_some hb12
      refine gk_join (fun t I' L' => ∃ C31, OwnS Kd.flt 37 I' A0 c0 j28.1 C31 ∧ (j28.1.length = a0.length) ∧ I18 ≤ I' ∧ C31 ++ L = L' ∧ Knows 58 [(0, .slice A0 j28.1.length c0), (2, .int .i64 a2), (4, .func (.func 145) #[] #[]), (10, .int .i64 j28.2.1), (11, .int .i64 j28.2.2)] t) ?_ ?_
      · refine gk_cond (b := (decide (s10.2.1 > s10.2.2))) (by kernel_rfl) (by kernel_rfl) (fun hc36 => ?_) (fun hc36 => ?_)
        · have hj29 := cond_t hc36 hj29
          refine gk_seq (by kernel_rfl) ?_
          refine gk_region (by kernel_rfl) ?_
          refine gl_pure 7 [0, 2, 4, 10, 11, 24, 27, 28, 29, 30] (K' := [(0, .slice A0 s10.1.length c0), (2, .int .i64 a2), (4, .func (.func 145) #[] #[]), (10, .int .i64 s10.2.1), (11, .int .i64 s10.2.2), (24, .slice A0 s10.1.length c0), (27, .int .i64 (IntKind.wrap .i64 (a2 - s10.2.1))), (28, .int .i64 a2), (29, .int .i64 s10.2.2), (30, .func (.func 145) #[] #[])]) (by kernel_rfl) ?_
          obtain ⟨y37, hx38, hj29⟩ := bind_some hj29
          refine gl_call (by kernel_rfl) (slices_swapRangeCmpFunc_walk (r := y37) (A0 := A0) (c0 := c0) (C0 := C14) (a0 := s10.1) hO15 hx38 _) ?_
          rintro v I39 L40 hI41 ⟨C42, hO43, hO44, rfl, rfl⟩
          refine gl_pick [0, 2, 4, 10, 11, 24, 27, 28, 29, 30, 31] (K' := [(0, .slice A0 s10.1.length c0), (2, .int .i64 a2), (4, .func (.func 145) #[] #[]), (10, .int .i64 s10.2.1), (11, .int .i64 s10.2.2), (24, .slice A0 s10.1.length c0), (27, .int .i64 (IntKind.wrap .i64 (a2 - s10.2.1))), (28, .int .i64 a2), (29, .int .i64 s10.2.2), (30, .func (.func 145) #[] #[]), (31, .tuple #[])]) (by kernel_rfl) ?_
          refine gl_kv (congrArg (fun (zz : Nat) => ([(0, .slice A0 zz c0), (2, .int .i64 a2), (4, .func (.func 145) #[] #[]), (10, .int .i64 s10.2.1), (11, .int .i64 s10.2.2), (24, .slice A0 zz c0), (27, .int .i64 (IntKind.wrap .i64 (a2 - s10.2.1))), (28, .int .i64 a2), (29, .int .i64 s10.2.2), (30, .func (.func 145) #[] #[]), (31, .tuple #[])] : KV)) hO44.symm) ?_
          refine gl_atE (by kernel_rfl) ?_
          refine ge_seq ?_
          refine gk_region (by kernel_rfl) ?_
          refine gl_pure 4 [0, 2, 4, 10, 11] (K' := [(0, .slice A0 y37.length c0), (2, .int .i64 a2), (4, .func (.func 145) #[] #[]), (10, .int .i64 (IntKind.wrap .i64 (s10.2.1 - s10.2.2))), (11, .int .i64 s10.2.2)]) (by kernel_rfl) ?_
          refine gl_atE (by kernel_rfl) ?_
          obtain rfl := some_inj hj29
          exact ge_mid fun t ht => ⟨C42, hO43, (Eq.trans hO44 hL16), hI41, rfl, ht.pick (l := [0, 2, 4, 10, 11]) (by kernel_rfl)⟩
        · have hj29 := cond_f hc36 hj29
          refine gk_seq (by kernel_rfl) ?_
          refine gk_region (by kernel_rfl) ?_
          refine gl_pure 11 [0, 2, 4, 10, 11, 35, 38, 43, 44, 45] (K' := [(0, .slice A0 s10.1.length c0), (2, .int .i64 a2), (4, .func (.func 145) #[] #[]), (10, .int .i64 s10.2.1), (11, .int .i64 s10.2.2), (35, .slice A0 s10.1.length c0), (38, .int .i64 (IntKind.wrap .i64 (a2 - s10.2.1))), (43, .int .i64 (IntKind.wrap .i64 ((IntKind.wrap .i64 (a2 + s10.2.2)) - s10.2.1))), (44, .int .i64 s10.2.1), (45, .func (.func 145) #[] #[])]) (by kernel_rfl) ?_
          obtain ⟨y45, hx46, hj29⟩ := bind_some hj29
          refine gl_call (by kernel_rfl) (slices_swapRangeCmpFunc_walk (r := y45) (A0 := A0) (c0 := c0) (C0 := C14) (a0 := s10.1) hO15 hx46 _) ?_
          rintro v I47 L48 hI49 ⟨C50, hO51, hO52, rfl, rfl⟩
          refine gl_pick [0, 2, 4, 10, 11, 35, 38, 43, 44, 45, 46] (K' := [(0, .slice A0 s10.1.length c0), (2, .int .i64 a2), (4, .func (.func 145) #[] #[]), (10, .int .i64 s10.2.1), (11, .int .i64 s10.2.2), (35, .slice A0 s10.1.length c0), (38, .int .i64 (IntKind.wrap .i64 (a2 - s10.2.1))), (43, .int .i64 (IntKind.wrap .i64 ((IntKind.wrap .i64 (a2 + s10.2.2)) - s10.2.1))), (44, .int .i64 s10.2.1), (45, .func (.func 145) #[] #[]), (46, .tuple #[])]) (by kernel_rfl) ?_
          refine gl_kv (congrArg (fun (zz : Nat) => ([(0, .slice A0 zz c0), (2, .int .i64 a2), (4, .func (.func 145) #[] #[]), (10, .int .i64 s10.2.1), (11, .int .i64 s10.2.2), (35, .slice A0 zz c0), (38, .int .i64 (IntKind.wrap .i64 (a2 - s10.2.1))), (43, .int .i64 (IntKind.wrap .i64 ((IntKind.wrap .i64 (a2 + s10.2.2)) - s10.2.1))), (44, .int .i64 s10.2.1), (45, .func (.func 145) #[] #[]), (46, .tuple #[])] : KV)) hO52.symm) ?_
          refine gl_atE (by kernel_rfl) ?_
          refine ge_seq ?_
          refine gk_region (by kernel_rfl) ?_
          refine gl_pure 4 [0, 2, 4, 10, 11] (K' := [(0, .slice A0 y45.length c0), (2, .int .i64 a2), (4, .func (.func 145) #[] #[]), (10, .int .i64 s10.2.1), (11, .int .i64 (IntKind.wrap .i64 (s10.2.2 - s10.2.1)))]) (by kernel_rfl) ?_
          refine gl_atE (by kernel_rfl) ?_
          obtain rfl := some_inj hj29
          exact ge_mid fun t ht => ⟨C50, hO51, (Eq.trans hO52 hL16), hI49, rfl, ht.pick (l := [0, 2, 4, 10, 11]) (by kernel_rfl)⟩
      · rintro t I35 L' ⟨C31, hO32, hL33, hI30, rfl, hK34⟩
        refine ge_at hK34 ?_
        refine ge_block_normal ?_
        obtain rfl := some_inj hb12
        exact ge_round fun t ht => ⟨C31, hO32, hL33, (Imm.trans hI13 hI30), rfl, ht.pick (l := [0, 2, 4, 10, 11]) (by kernel_rfl)⟩
    · have hb12 := cond_f hc27 hb12
      refine gk_exit (by kernel_rfl) ?_
      refine ge_seq_exit ?_
      obtain rfl := some_inj hb12
      refine ge_round_out (fun hrr => ?_) (by intro h; cases h)
      obtain rfl := hrr
      refine ge_block_hit (by kernel_rfl) ?_
      exact ge_mid fun t ht => ⟨C14, hO15, hL16, hI13, rfl, ht.pick (l := [0, 2, 4, 10]) (by kernel_rfl)⟩
  · rintro t I24 L' ⟨C20, hO21, hL22, hI19, rfl, hK23⟩
    refine ge_at hK23 ?_
    refine ge_seq ?_
    refine gk_region (by kernel_rfl) ?_
    refine gl_pure 7 [0, 50, 53, 54, 55, 56] (K' := [(0, .slice A0 r8.1.length c0), (50, .slice A0 r8.1.length c0), (53, .int .i64 (IntKind.wrap .i64 (a2 - r8.2))), (54, .int .i64 a2), (55, .int .i64 r8.2), (56, .func (.func 145) #[] #[])]) (by kernel_rfl) ?_
    obtain ⟨y53, hx54, hr⟩ := bind_some hr
    refine gl_call (by kernel_rfl) (slices_swapRangeCmpFunc_walk (r := y53) (A0 := A0) (c0 := c0) (C0 := C20) (a0 := r8.1) hO21 hx54 _) ?_
    rintro v I55 L56 hI57 ⟨C58, hO59, hO60, rfl, rfl⟩
    refine gl_pick [0, 50, 53, 54, 55, 56, 57] (K' := [(0, .slice A0 r8.1.length c0), (50, .slice A0 r8.1.length c0), (53, .int .i64 (IntKind.wrap .i64 (a2 - r8.2))), (54, .int .i64 a2), (55, .int .i64 r8.2), (56, .func (.func 145) #[] #[]), (57, .tuple #[])]) (by kernel_rfl) ?_
    refine gl_kv (congrArg (fun (zz : Nat) => ([(0, .slice A0 zz c0), (50, .slice A0 zz c0), (53, .int .i64 (IntKind.wrap .i64 (a2 - r8.2))), (54, .int .i64 a2), (55, .int .i64 r8.2), (56, .func (.func 145) #[] #[]), (57, .tuple #[])] : KV)) hO60.symm) ?_
    refine gl_atE (by kernel_rfl) ?_
    obtain rfl := some_inj hr
    exact ge_result trivial ResOk.nil (Imm.trans hI19 hI57) ⟨C58, hO59, (Eq.trans hO60 hL22), rfl, rfl⟩
/-! 194 slices_symMergeCmpFunc ('inp', 'imm', 'imm', 'imm', ('cfn', 145)): calls itself -/
noncomputable def slices_symMergeCmpFunc_l17 (a0 : List Fl) (a1 : Int) : (Int × Int) → Option ((Int × Int) ⊕ (Int)) := fun s8 =>
  bif (decide (s8.1 < s8.2)) then
  (Option.bind (ix a0 (IntKind.wrap .i64 (shr .u64 (IntKind.wrap .u64 (IntKind.wrap .i64 (s8.1 + s8.2))) 1))) fun (x20 : Fl) =>
    Option.bind (ix a0 a1) fun (x31 : Fl) =>
    Option.bind (aggr_ahead x20 x31) fun (y42 : Int) =>
    Option.bind (bif (decide (y42 < 0)) then
      (some ((IntKind.wrap .i64 ((IntKind.wrap .i64 (shr .u64 (IntKind.wrap .u64 (IntKind.wrap .i64 (s8.1 + s8.2))) 1)) + 1)), s8.2))
      else
      (some (s8.1, (IntKind.wrap .i64 (shr .u64 (IntKind.wrap .u64 (IntKind.wrap .i64 (s8.1 + s8.2))) 1))))) fun (j44 : Int × Int) =>
    some (Sum.inl (j44.1, j44.2)))
  else
  (some (Sum.inr s8.1))
noncomputable def slices_symMergeCmpFunc_l74 (r6 : Int) : ((List Fl) × Int) → Option (((List Fl) × Int) ⊕ ((List Fl))) := fun s59 =>
  bif (decide (s59.2 < (IntKind.wrap .i64 (r6 - 1)))) then
  (Option.bind (ix s59.1 (IntKind.wrap .i64 (s59.2 + 1))) fun (x77 : Fl) =>
    Option.bind (ix s59.1 s59.2) fun (x88 : Fl) =>
    Option.bind (ix s59.1 s59.2) fun (x99 : Fl) =>
    Option.bind (ix (lset s59.1 s59.2 x77) (IntKind.wrap .i64 (s59.2 + 1))) fun (x113 : Fl) =>
    some (Sum.inl ((lset (lset s59.1 s59.2 x77) (IntKind.wrap .i64 (s59.2 + 1)) x88), (IntKind.wrap .i64 (s59.2 + 1)))))
  else
  (some (Sum.inr s59.1))
noncomputable def slices_symMergeCmpFunc_l143 (a0 : List Fl) (a2 : Int) : (Int × Int) → Option ((Int × Int) ⊕ (Int)) := fun s134 =>
  bif (decide (s134.1 < s134.2)) then
  (Option.bind (ix a0 a2) fun (x146 : Fl) =>
    Option.bind (ix a0 (IntKind.wrap .i64 (shr .u64 (IntKind.wrap .u64 (IntKind.wrap .i64 (s134.1 + s134.2))) 1))) fun (x157 : Fl) =>
    Option.bind (aggr_ahead x146 x157) fun (y168 : Int) =>
    Option.bind (bif (!(decide (y168 < 0))) then
      (some ((IntKind.wrap .i64 ((IntKind.wrap .i64 (shr .u64 (IntKind.wrap .u64 (IntKind.wrap .i64 (s134.1 + s134.2))) 1)) + 1)), s134.2))
      else
      (some (s134.1, (IntKind.wrap .i64 (shr .u64 (IntKind.wrap .u64 (IntKind.wrap .i64 (s134.1 + s134.2))) 1))))) fun (j170 : Int × Int) =>
    some (Sum.inl (j170.1, j170.2)))
  else
  (some (Sum.inr s134.1))
noncomputable def slices_symMergeCmpFunc_l200 (r132 : Int) : ((List Fl) × Int) → Option (((List Fl) × Int) ⊕ ((List Fl))) := fun s185 =>
  bif (decide (s185.2 > r132)) then
  (Option.bind (ix s185.1 (IntKind.wrap .i64 (s185.2 - 1))) fun (x203 : Fl) =>
    Option.bind (ix s185.1 s185.2) fun (x214 : Fl) =>
    Option.bind (ix s185.1 s185.2) fun (x225 : Fl) =>
    Option.bind (ix (lset s185.1 s185.2 x203) (IntKind.wrap .i64 (s185.2 - 1))) fun (x239 : Fl) =>
    some (Sum.inl ((lset (lset s185.1 s185.2 x203) (IntKind.wrap .i64 (s185.2 - 1)) x214), (IntKind.wrap .i64 (s185.2 - 1)))))
  else
  (some (Sum.inr s185.1))
noncomputable def slices_symMergeCmpFunc_l274 (a0 : List Fl) (a1 : Int) (a2 : Int) (a3 : Int) : (Int × Int) → Option ((Int × Int) ⊕ (Int)) := fun s265 =>
  bif (decide (s265.1 < s265.2)) then
  (Option.bind (ix a0 (IntKind.wrap .i64 ((IntKind.wrap .i64 ((IntKind.wrap .i64 ((IntKind.wrap .i64 (shr .u64 (IntKind.wrap .u64 (IntKind.wrap .i64 (a1 + a3))) 1)) + a2)) - 1)) - (IntKind.wrap .i64 (shr .u64 (IntKind.wrap .u64 (IntKind.wrap .i64 (s265.1 + s265.2))) 1))))) fun (x277 : Fl) =>
    Option.bind (ix a0 (IntKind.wrap .i64 (shr .u64 (IntKind.wrap .u64 (IntKind.wrap .i64 (s265.1 + s265.2))) 1))) fun (x288 : Fl) =>
    Option.bind (aggr_ahead x277 x288) fun (y299 : Int) =>
    Option.bind (bif (!(decide (y299 < 0))) then
      (some ((IntKind.wrap .i64 ((IntKind.wrap .i64 (shr .u64 (IntKind.wrap .u64 (IntKind.wrap .i64 (s265.1 + s265.2))) 1)) + 1)), s265.2))
      else
      (some (s265.1, (IntKind.wrap .i64 (shr .u64 (IntKind.wrap .u64 (IntKind.wrap .i64 (s265.1 + s265.2))) 1))))) fun (j301 : Int × Int) =>
    some (Sum.inl (j301.1, j301.2)))
  else
  (some (Sum.inr s265.1))
noncomputable def slices_symMergeCmpFunc_b (rec_ : (List Fl) → Int → Int → Int → Option (List Fl)) (a0 : List Fl) (a1 : Int) (a2 : Int) (a3 : Int) : Option (List Fl) :=
  bif ((IntKind.wrap .i64 (a2 - a1)) == 1) then
  (Option.bind (loopO (slices_symMergeCmpFunc_l17 a0 a1) (a2, a3)) fun (r6 : Int) =>
    Option.bind (loopO (slices_symMergeCmpFunc_l74 r6) (a0, a1)) fun (r57 : (List Fl)) =>
    some r57)
  else
  (bif ((IntKind.wrap .i64 (a3 - a2)) == 1) then
    (Option.bind (loopO (slices_symMergeCmpFunc_l143 a0 a2) (a1, a2)) fun (r132 : Int) =>
      Option.bind (loopO (slices_symMergeCmpFunc_l200 r132) (a0, a2)) fun (r183 : (List Fl)) =>
      some r183)
    else
    (Option.bind (bif (decide (a2 > (IntKind.wrap .i64 (shr .u64 (IntKind.wrap .u64 (IntKind.wrap .i64 (a1 + a3))) 1)))) then
        (some ((IntKind.wrap .i64 ((IntKind.wrap .i64 ((IntKind.wrap .i64 (shr .u64 (IntKind.wrap .u64 (IntKind.wrap .i64 (a1 + a3))) 1)) + a2)) - a3)), (IntKind.wrap .i64 (shr .u64 (IntKind.wrap .u64 (IntKind.wrap .i64 (a1 + a3))) 1))))
        else
        (some (a1, a2))) fun (j253 : Int × Int) =>
      Option.bind (loopO (slices_symMergeCmpFunc_l274 a0 a1 a2 a3) (j253.1, j253.2)) fun (r263 : Int) =>
      Option.bind (bif ((decide (r263 < a2)) && (decide (a2 < (IntKind.wrap .i64 ((IntKind.wrap .i64 ((IntKind.wrap .i64 (shr .u64 (IntKind.wrap .u64 (IntKind.wrap .i64 (a1 + a3))) 1)) + a2)) - r263))))) then
        (Option.bind (slices_rotateCmpFunc a0 r263 a2 (IntKind.wrap .i64 ((IntKind.wrap .i64 ((IntKind.wrap .i64 (shr .u64 (IntKind.wrap .u64 (IntKind.wrap .i64 (a1 + a3))) 1)) + a2)) - r263))) fun (y322 : (List Fl)) =>
          some y322)
        else
        (some a0)) fun (j313 : (List Fl)) =>
      Option.bind (bif ((decide (a1 < r263)) && (decide (r263 < (IntKind.wrap .i64 (shr .u64 (IntKind.wrap .u64 (IntKind.wrap .i64 (a1 + a3))) 1))))) then
        (Option.bind (rec_ j313 a1 r263 (IntKind.wrap .i64 (shr .u64 (IntKind.wrap .u64 (IntKind.wrap .i64 (a1 + a3))) 1))) fun (y345 : (List Fl)) =>
          some y345)
        else
        (some j313)) fun (j336 : (List Fl)) =>
      Option.bind (bif ((decide ((IntKind.wrap .i64 (shr .u64 (IntKind.wrap .u64 (IntKind.wrap .i64 (a1 + a3))) 1)) < (IntKind.wrap .i64 ((IntKind.wrap .i64 ((IntKind.wrap .i64 (shr .u64 (IntKind.wrap .u64 (IntKind.wrap .i64 (a1 + a3))) 1)) + a2)) - r263)))) && (decide ((IntKind.wrap .i64 ((IntKind.wrap .i64 ((IntKind.wrap .i64 (shr .u64 (IntKind.wrap .u64 (IntKind.wrap .i64 (a1 + a3))) 1)) + a2)) - r263)) < a3))) then
        (Option.bind (rec_ j336 (IntKind.wrap .i64 (shr .u64 (IntKind.wrap .u64 (IntKind.wrap .i64 (a1 + a3))) 1)) (IntKind.wrap .i64 ((IntKind.wrap .i64 ((IntKind.wrap .i64 (shr .u64 (IntKind.wrap .u64 (IntKind.wrap .i64 (a1 + a3))) 1)) + a2)) - r263)) a3) fun (y368 : (List Fl)) =>
          some y368)
        else
        (some j336)) fun (j359 : (List Fl)) =>
      some j359))
noncomputable def slices_symMergeCmpFunc (a0 : List Fl) (a1 : Int) (a2 : Int) (a3 : Int) : Option (List Fl) :=
  iterF (fun (rec_ : ((List Fl) × Int × Int × Int) → Option (List Fl)) (x : (List Fl) × Int × Int × Int) => slices_symMergeCmpFunc_b (fun a0 a1 a2 a3 => rec_ (a0, a1, a2, a3)) x.1 x.2.1 x.2.2.1 x.2.2.2) 4294967296 (a0, a1, a2, a3)
theorem slices_symMergeCmpFunc_b_walk {rec_ : (List Fl) → Int → Int → Int → Option (List Fl)} (rec__walk : ∀ {a0 : List Fl} {A0 : Option Addr} {c0 : Nat} {C0 : Own} {a1 : Int} {a2 : Int} {a3 : Int} {I : Imm} {r : (List Fl)} (hO0 : OwnS Kd.flt 37 I A0 c0 a0 C0) (hr : rec_ a0 a1 a2 a3 = some r) (L : Own), CallsTo Tryz.prog 194 #[.slice A0 a0.length c0, .int .i64 a1, .int .i64 a2, .int .i64 a3, .func (.func 145) #[] #[]] I (C0 ++ L) (fun v I' L' => ∃ C0, OwnS Kd.flt 37 I' A0 c0 r C0 ∧ r.length = a0.length ∧ v = .tuple #[] ∧ C0 ++ L = L')) {a0 : List Fl} {A0 : Option Addr} {c0 : Nat} {C0 : Own} {a1 : Int} {a2 : Int} {a3 : Int} {I : Imm} {r : (List Fl)} (hO0 : OwnS Kd.flt 37 I A0 c0 a0 C0) (hr : slices_symMergeCmpFunc_b rec_ a0 a1 a2 a3 = some r) (L : Own) :
    CallsTo Tryz.prog 194 #[.slice A0 a0.length c0, .int .i64 a1, .int .i64 a2, .int .i64 a3, .func (.func 145) #[] #[]] I (C0 ++ L) (fun v I' L' => ∃ C0, OwnS Kd.flt 37 I' A0 c0 r C0 ∧ r.length = a0.length ∧ v = .tuple #[] ∧ C0 ++ L = L') := by
  unfold slices_symMergeCmpFunc_b at hr
  refine callsTo_body (N := 220) Tryz.func194 (by kernel_rfl) (by kernel_rfl) (by kernel_rfl) ?_
  refine gk_pick [0, 1, 2, 3, 4] (K' := [(0, .slice A0 a0.length c0), (1, .int .i64 a1), (2, .int .i64 a2), (3, .int .i64 a3), (4, .func (.func 145) #[] #[])]) (by kernel_rfl) ?_
  refine gk_seq (by kernel_rfl) ?_
  refine gk_seq (by kernel_rfl) ?_
  refine gk_region (by kernel_rfl) ?_
  refine gl_pure 4 [0, 1, 2, 3, 4, 28] (K' := [(0, .slice A0 a0.length c0), (1, .int .i64 a1), (2, .int .i64 a2), (3, .int .i64 a3), (4, .func (.func 145) #[] #[]), (28, .bool ((IntKind.wrap .i64 (a2 - a1)) == 1))]) (by kernel_rfl) ?_
  refine gl_atE (by kernel_rfl) ?_
  refine ge_seq ?_
  refine gk_cond (b := ((IntKind.wrap .i64 (a2 - a1)) == 1)) (by kernel_rfl) (by kernel_rfl) (fun hc1 => ?_) (fun hc1 => ?_)
  · have hr := cond_t hc1 hr
    refine gk_seq (by kernel_rfl) ?_
    refine gk_region (by kernel_rfl) ?_
    refine gl_pure 2 [0, 1, 3, 4, 10] (K' := [(0, .slice A0 a0.length c0), (1, .int .i64 a1), (3, .int .i64 a3), (4, .func (.func 145) #[] #[]), (10, .int .i64 a2)]) (by kernel_rfl) ?_
    refine gl_atE (by kernel_rfl) ?_
    refine ge_seq ?_
    refine gk_seq (by kernel_rfl) ?_
    refine gk_region (by kernel_rfl) ?_
    refine gl_pure 2 [0, 1, 4, 10, 11] (K' := [(0, .slice A0 a0.length c0), (1, .int .i64 a1), (4, .func (.func 145) #[] #[]), (10, .int .i64 a2), (11, .int .i64 a3)]) (by kernel_rfl) ?_
    refine gl_atE (by kernel_rfl) ?_
    refine ge_seq ?_
    refine gk_seq (by kernel_rfl) ?_
    obtain ⟨r6, hl7, hr⟩ := bind_some hr
    refine gk_join (fun t I' L' => I ≤ I' ∧ C0 ++ L = L' ∧ Knows 220 [(0, .slice A0 a0.length c0), (1, .int .i64 a1), (10, .int .i64 r6)] t) ?_ ?_
    · refine gk_block (by kernel_rfl) ?_
      refine gk_pick [0, 1, 4, 10, 11] (K' := [(0, .slice A0 a0.length c0), (1, .int .i64 a1), (4, .func (.func 145) #[] #[]), (10, .int .i64 a2), (11, .int .i64 a3)]) (by kernel_rfl) ?_
      intro t hK
      refine gc_loop (slices_symMergeCmpFunc_l17 a0 a1) (fun s8 t I' L' => I ≤ I' ∧ C0 ++ L = L' ∧ Knows 220 [(0, .slice A0 a0.length c0), (1, .int .i64 a1), (4, .func (.func 145) #[] #[]), (10, .int .i64 s8.1), (11, .int .i64 s8.2)] t) (by kernel_rfl) ?_ hl7 ⟨(Imm.refl _), rfl, hK⟩
      rintro s8 o9 t I13 L' hb10 ⟨hI11, rfl, hK12⟩
      unfold slices_symMergeCmpFunc_l17 at hb10
      refine gk_at hK12 ?_
      refine gk_seq (by kernel_rfl) ?_
      refine gk_seq (by kernel_rfl) ?_
      refine gk_region (by kernel_rfl) ?_
      refine gl_pure 3 [0, 1, 4, 10, 11, 33] (K' := [(0, .slice A0 a0.length c0), (1, .int .i64 a1), (4, .func (.func 145) #[] #[]), (10, .int .i64 s8.1), (11, .int .i64 s8.2), (33, .bool (decide (s8.1 < s8.2)))]) (by kernel_rfl) ?_
      refine gl_atE (by kernel_rfl) ?_
      refine ge_seq ?_
      refine gk_cond (b := (decide (s8.1 < s8.2))) (by kernel_rfl) (by kernel_rfl) (fun hc19 => ?_) (fun hc19 => ?_)
      · have hb10 := cond_t hc19 hb10
        refine gk_skip (by kernel_rfl) ?_
        refine ge_seq ?_
        refine gk_block (by kernel_rfl) ?_
        refine gk_seq (by kernel_rfl) ?_
        refine gk_region (by kernel_rfl) ?_
        refine gl_pure 7 [0, 1, 4, 10, 11, 12] (K' := [(0, .slice A0 a0.length c0), (1, .int .i64 a1), (4, .func (.func 145) #[] #[]), (10, .int .i64 s8.1), (11, .int .i64 s8.2), (12, .int .i64 (IntKind.wrap .i64 (shr .u64 (IntKind.wrap .u64 (IntKind.wrap .i64 (s8.1 + s8.2))) 1)))]) (by kernel_rfl) ?_
        refine gl_atE (by kernel_rfl) ?_
        refine ge_seq ?_
        refine gk_seq (by kernel_rfl) ?_
        refine gk_draw 9 [(0, true), (1, true), (2, true), (3, true), (4, true), (5, true), (6, true), (7, true), (8, true)] (C0 ++ []) (List.forall_mem_append.2 ⟨fun q hq => (List.mem_append_left _ hq), (fun p hp => by cases hp)⟩) (by kernel_rfl) (by kernel_rfl) (by kernel_rfl) ?_ (by kernel_rfl)
        refine gd_pure 3 [0, 1, 4, 10, 11, 12, 40, 41, 42] (K' := [(0, .slice A0 a0.length c0), (1, .int .i64 a1), (4, .func (.func 145) #[] #[]), (10, .int .i64 s8.1), (11, .int .i64 s8.2), (12, .int .i64 (IntKind.wrap .i64 (shr .u64 (IntKind.wrap .u64 (IntKind.wrap .i64 (s8.1 + s8.2))) 1))), (40, .func (.func 145) #[] #[]), (41, .slice A0 a0.length c0), (42, .int .i64 (IntKind.wrap .i64 (shr .u64 (IntKind.wrap .u64 (IntKind.wrap .i64 (s8.1 + s8.2))) 1)))]) (s' := [(3, true), (4, true), (5, true), (6, true), (7, true), (8, true)]) (CC.refl (List.forall_mem_append.2 ⟨fun q hq => (List.mem_append_left _ hq), (fun p hp => by cases hp)⟩)) (by kernel_rfl) ?_
        obtain ⟨x20, hx21, hb10⟩ := bind_some hb10
        obtain ⟨p22, cs23, hR24, hA25, ha26, hg30⟩ := OwnS.ixAtG hx21 (hO0.mono hI11)
        have hi27 := ix_some hx21
        obtain ⟨b28, rfl, hf29⟩ := hR24
        refine gd_q (v := .pointer (some p22)) (by kernel_rfl) (by kernel_rfl) (CC.refl (List.forall_mem_append.2 ⟨fun q hq => (List.mem_append_left _ hq), (fun p hp => by cases hp)⟩)) (fun I' L' T hC kk => gl_indexAddrF (c := c0) (T' := 43) (e := 37) (xs := (.tmp 41)) (xi := (.tmp 42)) (kd := .i64) ha26 hi27.1 hi27.2.1 (by kernel_rfl) (by kernel_rfl) (by kernel_rfl) (by kernel_rfl) (by kernel_rfl) kk) ?_
        refine gd_q (v := .float .f64 b28) (by kernel_rfl) (by kernel_rfl) (CC.refl (List.forall_mem_append.2 ⟨fun q hq => (List.mem_append_left _ hq), (fun p hp => by cases hp)⟩)) (fun I' L' T hC kk => gl_loadO (T' := 37) (xp := (.tmp 43)) (p := p22) (c := .float .f64 b28) (n := 1) (by kernel_rfl) (by kernel_rfl) (by kernel_rfl) (by kernel_rfl) (hA25 _ _ (fun q hq => hC.sub _ (List.mem_append_left _ hq))) kk) ?_
        refine gd_pure 2 [0, 1, 4, 10, 11, 12, 40, 44, 45, 46] (K' := [(0, .slice A0 a0.length c0), (1, .int .i64 a1), (4, .func (.func 145) #[] #[]), (10, .int .i64 s8.1), (11, .int .i64 s8.2), (12, .int .i64 (IntKind.wrap .i64 (shr .u64 (IntKind.wrap .u64 (IntKind.wrap .i64 (s8.1 + s8.2))) 1))), (40, .func (.func 145) #[] #[]), (44, .float .f64 b28), (45, .slice A0 a0.length c0), (46, .int .i64 a1)]) (s' := [(7, true), (8, true)]) (CC.refl (List.forall_mem_append.2 ⟨fun q hq => (List.mem_append_left _ hq), (fun p hp => by cases hp)⟩)) (by kernel_rfl) ?_
        obtain ⟨x31, hx32, hb10⟩ := bind_some hb10
        obtain ⟨p33, cs34, hR35, hA36, ha37, hg41⟩ := OwnS.ixAtG hx32 (hO0.mono hI11)
        have hi38 := ix_some hx32
        obtain ⟨b39, rfl, hf40⟩ := hR35
        refine gd_q (v := .pointer (some p33)) (by kernel_rfl) (by kernel_rfl) (CC.refl (List.forall_mem_append.2 ⟨fun q hq => (List.mem_append_left _ hq), (fun p hp => by cases hp)⟩)) (fun I' L' T hC kk => gl_indexAddrF (c := c0) (T' := 43) (e := 37) (xs := (.tmp 45)) (xi := (.tmp 46)) (kd := .i64) ha37 hi38.1 hi38.2.1 (by kernel_rfl) (by kernel_rfl) (by kernel_rfl) (by kernel_rfl) (by kernel_rfl) kk) ?_
        refine gd_q (v := .float .f64 b39) (by kernel_rfl) (by kernel_rfl) (CC.refl (List.forall_mem_append.2 ⟨fun q hq => (List.mem_append_left _ hq), (fun p hp => by cases hp)⟩)) (fun I' L' T hC kk => gl_loadO (T' := 37) (xp := (.tmp 47)) (p := p33) (c := .float .f64 b39) (n := 1) (by kernel_rfl) (by kernel_rfl) (by kernel_rfl) (by kernel_rfl) (hA36 _ _ (fun q hq => hC.sub _ (List.mem_append_left _ hq))) kk) ?_
        refine gd_done ?_
        obtain ⟨y42, hx43, hb10⟩ := bind_some hb10
        refine gl_callQ (by kernel_rfl) (aggr_ahead_walk (r := y42) hf29 hf40 hx43 _) ?_
        refine gl_pure 1 [0, 1, 4, 10, 11, 12, 50] (K' := [(0, .slice A0 a0.length c0), (1, .int .i64 a1), (4, .func (.func 145) #[] #[]), (10, .int .i64 s8.1), (11, .int .i64 s8.2), (12, .int .i64 (IntKind.wrap .i64 (shr .u64 (IntKind.wrap .u64 (IntKind.wrap .i64 (s8.1 + s8.2))) 1))), (50, .bool (decide (y42 < 0)))]) (by kernel_rfl) ?_
        refine gl_atE (by kernel_rfl) ?_
        refine ge_seq ?_
        obtain ⟨j44, hj45, hb10⟩ := bind_some hb10
        refine gk_join (fun t I' L' => I13 ≤ I' ∧ C0 ++ L = L' ∧ Knows 220 [(0, .slice A0 a0.length c0), (1, .int .i64 a1), (4, .func (.func 145) #[] #[]), (10, .int .i64 j44.1), (11, .int .i64 j44.2)] t) ?_ ?_
        · refine gk_cond (b := (decide (y42 < 0))) (by kernel_rfl) (by kernel_rfl) (fun hc49 => ?_) (fun hc49 => ?_)
          · have hj45 := cond_t hc49 hj45
            refine gk_region (by kernel_rfl) ?_
            refine gl_pure 3 [0, 1, 4, 10, 11] (K' := [(0, .slice A0 a0.length c0), (1, .int .i64 a1), (4, .func (.func 145) #[] #[]), (10, .int .i64 (IntKind.wrap .i64 ((IntKind.wrap .i64 (shr .u64 (IntKind.wrap .u64 (IntKind.wrap .i64 (s8.1 + s8.2))) 1)) + 1))), (11, .int .i64 s8.2)]) (by kernel_rfl) ?_
            refine gl_atE (by kernel_rfl) ?_
            obtain rfl := some_inj hj45
            exact ge_mid fun t ht => ⟨(Imm.refl _), rfl, ht.pick (l := [0, 1, 4, 10, 11]) (by kernel_rfl)⟩
          · have hj45 := cond_f hc49 hj45
            refine gk_region (by kernel_rfl) ?_
            refine gl_pure 2 [0, 1, 4, 10, 11] (K' := [(0, .slice A0 a0.length c0), (1, .int .i64 a1), (4, .func (.func 145) #[] #[]), (10, .int .i64 s8.1), (11, .int .i64 (IntKind.wrap .i64 (shr .u64 (IntKind.wrap .u64 (IntKind.wrap .i64 (s8.1 + s8.2))) 1)))]) (by kernel_rfl) ?_
            refine gl_atE (by kernel_rfl) ?_
            obtain rfl := some_inj hj45
            exact ge_mid fun t ht => ⟨(Imm.refl _), rfl, ht.pick (l := [0, 1, 4, 10, 11]) (by kernel_rfl)⟩
        · rintro t I48 L' ⟨hI46, rfl, hK47⟩
          refine ge_at hK47 ?_
          refine ge_block_normal ?_
          obtain rfl := some_inj hb10
          exact ge_round fun t ht => ⟨(Imm.trans hI11 hI46), rfl, ht.pick (l := [0, 1, 4, 10, 11]) (by kernel_rfl)⟩
      · have hb10 := cond_f hc19 hb10
        refine gk_exit (by kernel_rfl) ?_
        refine ge_seq_exit ?_
        obtain rfl := some_inj hb10
        refine ge_round_out (fun hrr => ?_) (by intro h; cases h)
        obtain rfl := hrr
        refine ge_block_hit (by kernel_rfl) ?_
        exact ge_mid fun t ht => ⟨hI11, rfl, ht.pick (l := [0, 1, 10]) (by kernel_rfl)⟩
    · rintro t I16 L' ⟨hI14, rfl, hK15⟩
      refine ge_at hK15 ?_
      refine ge_seq ?_
      refine gk_seq (by kernel_rfl) ?_
      refine gk_seq (by kernel_rfl) ?_
      refine gk_region (by kernel_rfl) ?_
      refine gl_pure 2 [0, 10, 13] (K' := [(0, .slice A0 a0.length c0), (10, .int .i64 r6), (13, .int .i64 a1)]) (by kernel_rfl) ?_
      refine gl_atE (by kernel_rfl) ?_
      refine ge_seq ?_
      obtain ⟨r57, hl58, hr⟩ := bind_some hr
      refine gk_join (fun t I' L' => ∃ C69, OwnS Kd.flt 37 I' A0 c0 r57 C69 ∧ (r57.length = a0.length) ∧ I16 ≤ I' ∧ C69 ++ L = L' ∧ Knows 220 [(0, .slice A0 r57.length c0)] t) ?_ ?_
      · refine gk_block (by kernel_rfl) ?_
        refine gk_pick [0, 10, 13] (K' := [(0, .slice A0 a0.length c0), (10, .int .i64 r6), (13, .int .i64 a1)]) (by kernel_rfl) ?_
        intro t hK
        refine gc_loop (slices_symMergeCmpFunc_l74 r6) (fun s59 t I' L' => ∃ C63, OwnS Kd.flt 37 I' A0 c0 s59.1 C63 ∧ (s59.1.length = a0.length) ∧ I16 ≤ I' ∧ C63 ++ L = L' ∧ Knows 220 [(0, .slice A0 s59.1.length c0), (10, .int .i64 r6), (13, .int .i64 s59.2)] t) (by kernel_rfl) ?_ hl58 ⟨C0, (hO0.mono hI14), rfl, (Imm.refl _), rfl, hK⟩
        rintro s59 o60 t I67 L' hb61 ⟨C63, hO64, hL65, hI62, rfl, hK66⟩
        unfold slices_symMergeCmpFunc_l74 at hb61
        refine gk_at hK66 ?_
        refine gk_seq (by kernel_rfl) ?_
        refine gk_seq (by kernel_rfl) ?_
        refine gk_region (by kernel_rfl) ?_
        refine gl_pure 4 [0, 10, 13, 58] (K' := [(0, .slice A0 s59.1.length c0), (10, .int .i64 r6), (13, .int .i64 s59.2), (58, .bool (decide (s59.2 < (IntKind.wrap .i64 (r6 - 1)))))]) (by kernel_rfl) ?_
        refine gl_atE (by kernel_rfl) ?_
        refine ge_seq ?_
        refine gk_cond (b := (decide (s59.2 < (IntKind.wrap .i64 (r6 - 1))))) (by kernel_rfl) (by kernel_rfl) (fun hc76 => ?_) (fun hc76 => ?_)
        · have hb61 := cond_t hc76 hb61
          refine gk_skip (by kernel_rfl) ?_
          refine ge_seq ?_
          refine gk_seq (by kernel_rfl) ?_
          refine gk_block (by kernel_rfl) ?_
          refine gk_drawS 17 [(0, true), (1, true), (2, true), (3, true), (4, true), (5, true), (6, true), (7, true), (8, true), (9, true), (10, true), (11, true), (12, true), (13, true), (14, false), (15, false), (16, false)] [9, 13] [] (C63 ++ []) (List.forall_mem_append.2 ⟨fun q hq => (List.mem_append_left _ hq), (fun p hp => by cases hp)⟩) (fun p hp => List.mem_append_right _ ((fun p hp => hp) p hp)) (by kernel_rfl) (by kernel_rfl) (by kernel_rfl) ?_ (by kernel_rfl)
          refine gd_pure 8 [0, 10, 13, 61, 62, 63, 65, 66, 68] (K' := [(0, .slice A0 s59.1.length c0), (10, .int .i64 r6), (13, .int .i64 s59.2), (61, .slice A0 s59.1.length c0), (62, .int .i64 s59.2), (63, .slice A0 s59.1.length c0), (65, .int .i64 (IntKind.wrap .i64 (s59.2 + 1))), (66, .slice A0 s59.1.length c0), (68, .int .i64 (IntKind.wrap .i64 (s59.2 + 1)))]) (s' := [(8, true), (9, true), (10, true), (11, true), (12, true), (13, true), (14, false), (15, false), (16, false)]) (CC.refl (List.forall_mem_append.2 ⟨fun q hq => (List.mem_append_left _ hq), (fun p hp => by cases hp)⟩)) (by kernel_rfl) ?_
          obtain ⟨x77, hx78, hb61⟩ := bind_some hb61
          obtain ⟨p79, cs80, hR81, hA82, ha83, hg87⟩ := OwnS.ixAtG hx78 hO64
          have hi84 := ix_some hx78
          obtain ⟨b85, rfl, hf86⟩ := hR81
          refine gd_q (v := .pointer (some p79)) (by kernel_rfl) (by kernel_rfl) (CC.refl (List.forall_mem_append.2 ⟨fun q hq => (List.mem_append_left _ hq), (fun p hp => by cases hp)⟩)) (fun I' L' T hC kk => gl_indexAddrF (c := c0) (T' := 43) (e := 37) (xs := (.tmp 66)) (xi := (.tmp 68)) (kd := .i64) ha83 hi84.1 hi84.2.1 (by kernel_rfl) (by kernel_rfl) (by kernel_rfl) (by kernel_rfl) (by kernel_rfl) kk) ?_
          refine gd_q (v := .float .f64 b85) (by kernel_rfl) (by kernel_rfl) (CC.refl (List.forall_mem_append.2 ⟨fun q hq => (List.mem_append_left _ hq), (fun p hp => by cases hp)⟩)) (fun I' L' T hC kk => gl_loadO (T' := 37) (xp := (.tmp 69)) (p := p79) (c := .float .f64 b85) (n := 1) (by kernel_rfl) (by kernel_rfl) (by kernel_rfl) (by kernel_rfl) (hA82 _ _ (fun q hq => hC.sub _ (List.mem_append_left _ hq))) kk) ?_
          refine gd_pure 2 [0, 10, 13, 61, 62, 63, 65, 70, 71, 72] (K' := [(0, .slice A0 s59.1.length c0), (10, .int .i64 r6), (13, .int .i64 s59.2), (61, .slice A0 s59.1.length c0), (62, .int .i64 s59.2), (63, .slice A0 s59.1.length c0), (65, .int .i64 (IntKind.wrap .i64 (s59.2 + 1))), (70, .float .f64 b85), (71, .slice A0 s59.1.length c0), (72, .int .i64 s59.2)]) (s' := [(12, true), (13, true), (14, false), (15, false), (16, false)]) (CC.refl (List.forall_mem_append.2 ⟨fun q hq => (List.mem_append_left _ hq), (fun p hp => by cases hp)⟩)) (by kernel_rfl) ?_
          obtain ⟨x88, hx89, hb61⟩ := bind_some hb61
          obtain ⟨p90, cs91, hR92, hA93, ha94, hg98⟩ := OwnS.ixAtG hx89 hO64
          have hi95 := ix_some hx89
          obtain ⟨b96, rfl, hf97⟩ := hR92
          refine gd_q (v := .pointer (some p90)) (by kernel_rfl) (by kernel_rfl) (CC.refl (List.forall_mem_append.2 ⟨fun q hq => (List.mem_append_left _ hq), (fun p hp => by cases hp)⟩)) (fun I' L' T hC kk => gl_indexAddrF (c := c0) (T' := 43) (e := 37) (xs := (.tmp 71)) (xi := (.tmp 72)) (kd := .i64) ha94 hi95.1 hi95.2.1 (by kernel_rfl) (by kernel_rfl) (by kernel_rfl) (by kernel_rfl) (by kernel_rfl) kk) ?_
          refine gd_q (v := .float .f64 b96) (by kernel_rfl) (by kernel_rfl) (CC.refl (List.forall_mem_append.2 ⟨fun q hq => (List.mem_append_left _ hq), (fun p hp => by cases hp)⟩)) (fun I' L' T hC kk => gl_loadO (T' := 37) (xp := (.tmp 73)) (p := p90) (c := .float .f64 b96) (n := 1) (by kernel_rfl) (by kernel_rfl) (by kernel_rfl) (by kernel_rfl) (hA93 _ _ (fun q hq => hC.sub _ (List.mem_append_left _ hq))) kk) ?_
          refine gd_one (by kernel_rfl) ?_
          obtain ⟨x99, hx100, hb61⟩ := bind_some hb61
          refine gl_indexAddrW (d := Kd.flt) (c := c0) (T' := 43) (e := 37) (xs := (.tmp 61)) (xi := (.tmp 62)) (kd := .i64) hx100 hO64 (Upd.selfC _ _) (by kernel_rfl) (by kernel_rfl) (by kernel_rfl) (by kernel_rfl) (by kernel_rfl) (fun p101 cs102 hR103 hA104 hp109 => ?_)
          obtain ⟨b107, rfl, hf108⟩ := hR103
          refine gl_toD (by kernel_rfl) ⟨(Imm.refl _), (List.forall_mem_append.2 ⟨fun q hq => (List.mem_append_left _ hq), (fun p hp => by cases hp)⟩)⟩ ?_
          refine gd_flip (by kernel_rfl) (by kernel_rfl) ?_
          have hl112 : s59.1.length = (lset s59.1 s59.2 x77).length := by simp [lset]
          refine gl_storeE (d := Kd.flt) (T' := 37) (xp := (.tmp 75)) (xv := (.tmp 70)) (v := .float .f64 b85) (off := 0) (y := x77) (fun X => X ++ L) hx100 hO64 (fun X => (Upd.head _ X _)) hp109 (by kernel_rfl) (by kernel_rfl) (by kernel_rfl) (by kernel_rfl) (by kernel_rfl) (by kernel_rfl) (fun cs h => by obtain ⟨b', rfl, _⟩ := h; exact ⟨_, rfl, hf86⟩) (by kernel_rfl) (fun C110 hO111 => ?_)
          try rw [hl112]
          refine gl_toD (by kernel_rfl) ⟨(Imm.refl _), (fun p hp => by cases hp)⟩ ?_
          refine gd_one (by kernel_rfl) ?_
          obtain ⟨x113, hx114, hb61⟩ := bind_some hb61
          refine gl_indexAddrW (d := Kd.flt) (c := c0) (T' := 43) (e := 37) (xs := (.tmp 63)) (xi := (.tmp 65)) (kd := .i64) hx114 hO111 (Upd.selfC _ _) (by kernel_rfl) (by kernel_rfl) (by kernel_rfl) (by kernel_rfl) (by kernel_rfl) (fun p115 cs116 hR117 hA118 hp123 => ?_)
          obtain ⟨b121, rfl, hf122⟩ := hR117
          refine gl_toD (by kernel_rfl) ⟨(Imm.refl _), (fun p hp => by cases hp)⟩ ?_
          refine gd_done ?_
          have hl126 : (lset s59.1 s59.2 x77).length = (lset (lset s59.1 s59.2 x77) (IntKind.wrap .i64 (s59.2 + 1)) x88).length := by simp [lset]
          refine gl_storeE (d := Kd.flt) (T' := 37) (xp := (.tmp 76)) (xv := (.tmp 74)) (v := .float .f64 b96) (off := 0) (y := x88) (fun X => X ++ L) hx114 hO111 (fun X => (Upd.head _ X _)) hp123 (by kernel_rfl) (by kernel_rfl) (by kernel_rfl) (by kernel_rfl) (by kernel_rfl) (by kernel_rfl) (fun cs h => by obtain ⟨b', rfl, _⟩ := h; exact ⟨_, rfl, hf97⟩) (by kernel_rfl) (fun C124 hO125 => ?_)
          try rw [hl126]
          refine gl_atE (by kernel_rfl) ?_
          refine ge_block_normal ?_
          refine ge_seq ?_
          refine gk_region (by kernel_rfl) ?_
          refine gl_pure 3 [0, 10, 13] (K' := [(0, .slice A0 (lset (lset s59.1 s59.2 x77) (IntKind.wrap .i64 (s59.2 + 1)) x88).length c0), (10, .int .i64 r6), (13, .int .i64 (IntKind.wrap .i64 (s59.2 + 1)))]) (by kernel_rfl) ?_
          refine gl_atE (by kernel_rfl) ?_
          obtain rfl := some_inj hb61
          exact ge_round fun t ht => ⟨C124, hO125, (Eq.trans (lset_length _ _ _) (Eq.trans (lset_length _ _ _) hL65)), hI62, rfl, ht.pick (l := [0, 10, 13]) (by kernel_rfl)⟩
        · have hb61 := cond_f hc76 hb61
          refine gk_exit (by kernel_rfl) ?_
          refine ge_seq_exit ?_
          obtain rfl := some_inj hb61
          refine ge_round_out (fun hrr => ?_) (by intro h; cases h)
          obtain rfl := hrr
          refine ge_block_hit (by kernel_rfl) ?_
          exact ge_mid fun t ht => ⟨C63, hO64, hL65, hI62, rfl, ht.pick (l := [0]) (by kernel_rfl)⟩
      · rintro t I73 L' ⟨C69, hO70, hL71, hI68, rfl, hK72⟩
        refine ge_at hK72 ?_
        refine ge_seq ?_
        refine gk_ret (by kernel_rfl) ?_
        refine ge_seq_ret ?_
        obtain rfl := some_inj hr
        exact ge_result trivial ResOk.nil (Imm.trans hI14 hI68) ⟨C69, hO70, hL71, rfl, rfl⟩
  · have hr := cond_f hc1 hr
    refine gk_skip (by kernel_rfl) ?_
    refine ge_seq ?_
    refine gk_seq (by kernel_rfl) ?_
    refine gk_seq (by kernel_rfl) ?_
    refine gk_region (by kernel_rfl) ?_
    refine gl_pure 4 [0, 1, 2, 3, 4, 80] (K' := [(0, .slice A0 a0.length c0), (1, .int .i64 a1), (2, .int .i64 a2), (3, .int .i64 a3), (4, .func (.func 145) #[] #[]), (80, .bool ((IntKind.wrap .i64 (a3 - a2)) == 1))]) (by kernel_rfl) ?_
    refine gl_atE (by kernel_rfl) ?_
    refine ge_seq ?_
    refine gk_cond (b := ((IntKind.wrap .i64 (a3 - a2)) == 1)) (by kernel_rfl) (by kernel_rfl) (fun hc127 => ?_) (fun hc127 => ?_)
    · have hr := cond_t hc127 hr
      refine gk_seq (by kernel_rfl) ?_
      refine gk_region (by kernel_rfl) ?_
      refine gl_pure 2 [0, 2, 4, 14] (K' := [(0, .slice A0 a0.length c0), (2, .int .i64 a2), (4, .func (.func 145) #[] #[]), (14, .int .i64 a1)]) (by kernel_rfl) ?_
      refine gl_atE (by kernel_rfl) ?_
      refine ge_seq ?_
      refine gk_seq (by kernel_rfl) ?_
      refine gk_region (by kernel_rfl) ?_
      refine gl_pure 2 [0, 2, 4, 14, 15] (K' := [(0, .slice A0 a0.length c0), (2, .int .i64 a2), (4, .func (.func 145) #[] #[]), (14, .int .i64 a1), (15, .int .i64 a2)]) (by kernel_rfl) ?_
      refine gl_atE (by kernel_rfl) ?_
      refine ge_seq ?_
      refine gk_seq (by kernel_rfl) ?_
      obtain ⟨r132, hl133, hr⟩ := bind_some hr
      refine gk_join (fun t I' L' => I ≤ I' ∧ C0 ++ L = L' ∧ Knows 220 [(0, .slice A0 a0.length c0), (2, .int .i64 a2), (14, .int .i64 r132)] t) ?_ ?_
      · refine gk_block (by kernel_rfl) ?_
        refine gk_pick [0, 2, 4, 14, 15] (K' := [(0, .slice A0 a0.length c0), (2, .int .i64 a2), (4, .func (.func 145) #[] #[]), (14, .int .i64 a1), (15, .int .i64 a2)]) (by kernel_rfl) ?_
        intro t hK
        refine gc_loop (slices_symMergeCmpFunc_l143 a0 a2) (fun s134 t I' L' => I ≤ I' ∧ C0 ++ L = L' ∧ Knows 220 [(0, .slice A0 a0.length c0), (2, .int .i64 a2), (4, .func (.func 145) #[] #[]), (14, .int .i64 s134.1), (15, .int .i64 s134.2)] t) (by kernel_rfl) ?_ hl133 ⟨(Imm.refl _), rfl, hK⟩
        rintro s134 o135 t I139 L' hb136 ⟨hI137, rfl, hK138⟩
        unfold slices_symMergeCmpFunc_l143 at hb136
        refine gk_at hK138 ?_
        refine gk_seq (by kernel_rfl) ?_
        refine gk_seq (by kernel_rfl) ?_
        refine gk_region (by kernel_rfl) ?_
        refine gl_pure 3 [0, 2, 4, 14, 15, 85] (K' := [(0, .slice A0 a0.length c0), (2, .int .i64 a2), (4, .func (.func 145) #[] #[]), (14, .int .i64 s134.1), (15, .int .i64 s134.2), (85, .bool (decide (s134.1 < s134.2)))]) (by kernel_rfl) ?_
        refine gl_atE (by kernel_rfl) ?_
        refine ge_seq ?_
        refine gk_cond (b := (decide (s134.1 < s134.2))) (by kernel_rfl) (by kernel_rfl) (fun hc145 => ?_) (fun hc145 => ?_)
        · have hb136 := cond_t hc145 hb136
          refine gk_skip (by kernel_rfl) ?_
          refine ge_seq ?_
          refine gk_block (by kernel_rfl) ?_
          refine gk_seq (by kernel_rfl) ?_
          refine gk_region (by kernel_rfl) ?_
          refine gl_pure 7 [0, 2, 4, 14, 15, 16] (K' := [(0, .slice A0 a0.length c0), (2, .int .i64 a2), (4, .func (.func 145) #[] #[]), (14, .int .i64 s134.1), (15, .int .i64 s134.2), (16, .int .i64 (IntKind.wrap .i64 (shr .u64 (IntKind.wrap .u64 (IntKind.wrap .i64 (s134.1 + s134.2))) 1)))]) (by kernel_rfl) ?_
          refine gl_atE (by kernel_rfl) ?_
          refine ge_seq ?_
          refine gk_seq (by kernel_rfl) ?_
          refine gk_draw 9 [(0, true), (1, true), (2, true), (3, true), (4, true), (5, true), (6, true), (7, true), (8, true)] (C0 ++ []) (List.forall_mem_append.2 ⟨fun q hq => (List.mem_append_left _ hq), (fun p hp => by cases hp)⟩) (by kernel_rfl) (by kernel_rfl) (by kernel_rfl) ?_ (by kernel_rfl)
          refine gd_pure 3 [0, 2, 4, 14, 15, 16, 92, 93, 94] (K' := [(0, .slice A0 a0.length c0), (2, .int .i64 a2), (4, .func (.func 145) #[] #[]), (14, .int .i64 s134.1), (15, .int .i64 s134.2), (16, .int .i64 (IntKind.wrap .i64 (shr .u64 (IntKind.wrap .u64 (IntKind.wrap .i64 (s134.1 + s134.2))) 1))), (92, .func (.func 145) #[] #[]), (93, .slice A0 a0.length c0), (94, .int .i64 a2)]) (s' := [(3, true), (4, true), (5, true), (6, true), (7, true), (8, true)]) (CC.refl (List.forall_mem_append.2 ⟨fun q hq => (List.mem_append_left _ hq), (fun p hp => by cases hp)⟩)) (by kernel_rfl) ?_
          obtain ⟨x146, hx147, hb136⟩ := bind_some hb136
          obtain ⟨p148, cs149, hR150, hA151, ha152, hg156⟩ := OwnS.ixAtG hx147 (hO0.mono hI137)
          have hi153 := ix_some hx147
          obtain ⟨b154, rfl, hf155⟩ := hR150
          refine gd_q (v := .pointer (some p148)) (by kernel_rfl) (by kernel_rfl) (CC.refl (List.forall_mem_append.2 ⟨fun q hq => (List.mem_append_left _ hq), (fun p hp => by cases hp)⟩)) (fun I' L' T hC kk => gl_indexAddrF (c := c0) (T' := 43) (e := 37) (xs := (.tmp 93)) (xi := (.tmp 94)) (kd := .i64) ha152 hi153.1 hi153.2.1 (by kernel_rfl) (by kernel_rfl) (by kernel_rfl) (by kernel_rfl) (by kernel_rfl) kk) ?_
          refine gd_q (v := .float .f64 b154) (by kernel_rfl) (by kernel_rfl) (CC.refl (List.forall_mem_append.2 ⟨fun q hq => (List.mem_append_left _ hq), (fun p hp => by cases hp)⟩)) (fun I' L' T hC kk => gl_loadO (T' := 37) (xp := (.tmp 95)) (p := p148) (c := .float .f64 b154) (n := 1) (by kernel_rfl) (by kernel_rfl) (by kernel_rfl) (by kernel_rfl) (hA151 _ _ (fun q hq => hC.sub _ (List.mem_append_left _ hq))) kk) ?_
          refine gd_pure 2 [0, 2, 4, 14, 15, 16, 92, 96, 97, 98] (K' := [(0, .slice A0 a0.length c0), (2, .int .i64 a2), (4, .func (.func 145) #[] #[]), (14, .int .i64 s134.1), (15, .int .i64 s134.2), (16, .int .i64 (IntKind.wrap .i64 (shr .u64 (IntKind.wrap .u64 (IntKind.wrap .i64 (s134.1 + s134.2))) 1))), (92, .func (.func 145) #[] #[]), (96, .float .f64 b154), (97, .slice A0 a0.length c0), (98, .int .i64 (IntKind.wrap .i64 (shr .u64 (IntKind.wrap .u64 (IntKind.wrap .i64 (s134.1 + s134.2))) 1)))]) (s' := [(7, true), (8, true)]) (CC.refl (List.forall_mem_append.2 ⟨fun q hq => (List.mem_append_left _ hq), (fun p hp => by cases hp)⟩)) (by kernel_rfl) ?_
          obtain ⟨x157, hx158, hb136⟩ := bind_some hb136
          obtain ⟨p159, cs160, hR161, hA162, ha163, hg167⟩ := OwnS.ixAtG hx158 (hO0.mono hI137)
          have hi164 := ix_some hx158
          obtain ⟨b165, rfl, hf166⟩ := hR161
          refine gd_q (v := .pointer (some p159)) (by kernel_rfl) (by kernel_rfl) (CC.refl (List.forall_mem_append.2 ⟨fun q hq => (List.mem_append_left _ hq), (fun p hp => by cases hp)⟩)) (fun I' L' T hC kk => gl_indexAddrF (c := c0) (T' := 43) (e := 37) (xs := (.tmp 97)) (xi := (.tmp 98)) (kd := .i64) ha163 hi164.1 hi164.2.1 (by kernel_rfl) (by kernel_rfl) (by kernel_rfl) (by kernel_rfl) (by kernel_rfl) kk) ?_
          refine gd_q (v := .float .f64 b165) (by kernel_rfl) (by kernel_rfl) (CC.refl (List.forall_mem_append.2 ⟨fun q hq => (List.mem_append_left _ hq), (fun p hp => by cases hp)⟩)) (fun I' L' T hC kk => gl_loadO (T' := 37) (xp := (.tmp 99)) (p := p159) (c := .float .f64 b165) (n := 1) (by kernel_rfl) (by kernel_rfl) (by kernel_rfl) (by kernel_rfl) (hA162 _ _ (fun q hq => hC.sub _ (List.mem_append_left _ hq))) kk) ?_
          refine gd_done ?_
          obtain ⟨y168, hx169, hb136⟩ := bind_some hb136
          refine gl_callQ (by kernel_rfl) (aggr_ahead_walk (r := y168) hf155 hf166 hx169 _) ?_
          refine gl_pure 2 [0, 2, 4, 14, 15, 16, 103] (K' := [(0, .slice A0 a0.length c0), (2, .int .i64 a2), (4, .func (.func 145) #[] #[]), (14, .int .i64 s134.1), (15, .int .i64 s134.2), (16, .int .i64 (IntKind.wrap .i64 (shr .u64 (IntKind.wrap .u64 (IntKind.wrap .i64 (s134.1 + s134.2))) 1))), (103, .bool (!(decide (y168 < 0))))]) (by kernel_rfl) ?_
          refine gl_atE (by kernel_rfl) ?_
          refine ge_seq ?_
          obtain ⟨j170, hj171, hb136⟩ := bind_some hb136
          refine gk_join (fun t I' L' => I139 ≤ I' ∧ C0 ++ L = L' ∧ Knows 220 [(0, .slice A0 a0.length c0), (2, .int .i64 a2), (4, .func (.func 145) #[] #[]), (14, .int .i64 j170.1), (15, .int .i64 j170.2)] t) ?_ ?_
          · refine gk_cond (b := (!(decide (y168 < 0)))) (by kernel_rfl) (by kernel_rfl) (fun hc175 => ?_) (fun hc175 => ?_)
            · have hj171 := cond_t hc175 hj171
              refine gk_region (by kernel_rfl) ?_
              refine gl_pure 3 [0, 2, 4, 14, 15] (K' := [(0, .slice A0 a0.length c0), (2, .int .i64 a2), (4, .func (.func 145) #[] #[]), (14, .int .i64 (IntKind.wrap .i64 ((IntKind.wrap .i64 (shr .u64 (IntKind.wrap .u64 (IntKind.wrap .i64 (s134.1 + s134.2))) 1)) + 1))), (15, .int .i64 s134.2)]) (by kernel_rfl) ?_
              refine gl_atE (by kernel_rfl) ?_
              obtain rfl := some_inj hj171
              exact ge_mid fun t ht => ⟨(Imm.refl _), rfl, ht.pick (l := [0, 2, 4, 14, 15]) (by kernel_rfl)⟩
            · have hj171 := cond_f hc175 hj171
              refine gk_region (by kernel_rfl) ?_
              refine gl_pure 2 [0, 2, 4, 14, 15] (K' := [(0, .slice A0 a0.length c0), (2, .int .i64 a2), (4, .func (.func 145) #[] #[]), (14, .int .i64 s134.1), (15, .int .i64 (IntKind.wrap .i64 (shr .u64 (IntKind.wrap .u64 (IntKind.wrap .i64 (s134.1 + s134.2))) 1)))]) (by kernel_rfl) ?_
              refine gl_atE (by kernel_rfl) ?_
              obtain rfl := some_inj hj171
              exact ge_mid fun t ht => ⟨(Imm.refl _), rfl, ht.pick (l := [0, 2, 4, 14, 15]) (by kernel_rfl)⟩
          · rintro t I174 L' ⟨hI172, rfl, hK173⟩
            refine ge_at hK173 ?_
            refine ge_block_normal ?_
            obtain rfl := some_inj hb136
            exact ge_round fun t ht => ⟨(Imm.trans hI137 hI172), rfl, ht.pick (l := [0, 2, 4, 14, 15]) (by kernel_rfl)⟩
        · have hb136 := cond_f hc145 hb136
          refine gk_exit (by kernel_rfl) ?_
          refine ge_seq_exit ?_
          obtain rfl := some_inj hb136
          refine ge_round_out (fun hrr => ?_) (by intro h; cases h)
          obtain rfl := hrr
          refine ge_block_hit (by kernel_rfl) ?_
          exact ge_mid fun t ht => ⟨hI137, rfl, ht.pick (l := [0, 2, 14]) (by kernel_rfl)⟩
      · rintro t I142 L' ⟨hI140, rfl, hK141⟩
        refine ge_at hK141 ?_
        refine ge_seq ?_
        refine gk_seq (by kernel_rfl) ?_
        refine gk_seq (by kernel_rfl) ?_
        refine gk_region (by kernel_rfl) ?_
        refine gl_pure 2 [0, 14, 17] (K' := [(0, .slice A0 a0.length c0), (14, .int .i64 r132), (17, .int .i64 a2)]) (by kernel_rfl) ?_
        refine gl_atE (by kernel_rfl) ?_
        refine ge_seq ?_
        obtain ⟨r183, hl184, hr⟩ := bind_some hr
        refine gk_join (fun t I' L' => ∃ C195, OwnS Kd.flt 37 I' A0 c0 r183 C195 ∧ (r183.length = a0.length) ∧ I142 ≤ I' ∧ C195 ++ L = L' ∧ Knows 220 [(0, .slice A0 r183.length c0)] t) ?_ ?_
        · refine gk_block (by kernel_rfl) ?_
          refine gk_pick [0, 14, 17] (K' := [(0, .slice A0 a0.length c0), (14, .int .i64 r132), (17, .int .i64 a2)]) (by kernel_rfl) ?_
          intro t hK
          refine gc_loop (slices_symMergeCmpFunc_l200 r132) (fun s185 t I' L' => ∃ C189, OwnS Kd.flt 37 I' A0 c0 s185.1 C189 ∧ (s185.1.length = a0.length) ∧ I142 ≤ I' ∧ C189 ++ L = L' ∧ Knows 220 [(0, .slice A0 s185.1.length c0), (14, .int .i64 r132), (17, .int .i64 s185.2)] t) (by kernel_rfl) ?_ hl184 ⟨C0, (hO0.mono hI140), rfl, (Imm.refl _), rfl, hK⟩
          rintro s185 o186 t I193 L' hb187 ⟨C189, hO190, hL191, hI188, rfl, hK192⟩
          unfold slices_symMergeCmpFunc_l200 at hb187
          refine gk_at hK192 ?_
          refine gk_seq (by kernel_rfl) ?_
          refine gk_seq (by kernel_rfl) ?_
          refine gk_region (by kernel_rfl) ?_
          refine gl_pure 3 [0, 14, 17, 110] (K' := [(0, .slice A0 s185.1.length c0), (14, .int .i64 r132), (17, .int .i64 s185.2), (110, .bool (decide (s185.2 > r132)))]) (by kernel_rfl) ?_
          refine gl_atE (by kernel_rfl) ?_
          refine ge_seq ?_
          refine gk_cond (b := (decide (s185.2 > r132))) (by kernel_rfl) (by kernel_rfl) (fun hc202 => ?_) (fun hc202 => ?_)
          · have hb187 := cond_t hc202 hb187
            refine gk_skip (by kernel_rfl) ?_
            refine ge_seq ?_
            refine gk_seq (by kernel_rfl) ?_
            refine gk_block (by kernel_rfl) ?_
            refine gk_drawS 17 [(0, true), (1, true), (2, true), (3, true), (4, true), (5, true), (6, true), (7, true), (8, true), (9, true), (10, true), (11, true), (12, true), (13, true), (14, false), (15, false), (16, false)] [9, 13] [] (C189 ++ []) (List.forall_mem_append.2 ⟨fun q hq => (List.mem_append_left _ hq), (fun p hp => by cases hp)⟩) (fun p hp => List.mem_append_right _ ((fun p hp => hp) p hp)) (by kernel_rfl) (by kernel_rfl) (by kernel_rfl) ?_ (by kernel_rfl)
            refine gd_pure 8 [0, 14, 17, 113, 114, 115, 117, 118, 120] (K' := [(0, .slice A0 s185.1.length c0), (14, .int .i64 r132), (17, .int .i64 s185.2), (113, .slice A0 s185.1.length c0), (114, .int .i64 s185.2), (115, .slice A0 s185.1.length c0), (117, .int .i64 (IntKind.wrap .i64 (s185.2 - 1))), (118, .slice A0 s185.1.length c0), (120, .int .i64 (IntKind.wrap .i64 (s185.2 - 1)))]) (s' := [(8, true), (9, true), (10, true), (11, true), (12, true), (13, true), (14, false), (15, false), (16, false)]) (CC.refl (List.forall_mem_append.2 ⟨fun q hq => (List.mem_append_left _ hq), (fun p hp => by cases hp)⟩)) (by kernel_rfl) ?_
            obtain ⟨x203, hx204, hb187⟩ := bind_some hb187
            obtain ⟨p205, cs206, hR207, hA208, ha209, hg213⟩ := OwnS.ixAtG hx204 hO190
            have hi210 := ix_some hx204
            obtain ⟨b211, rfl, hf212⟩ := hR207
            refine gd_q (v := .pointer (some p205)) (by kernel_rfl) (by kernel_rfl) (CC.refl (List.forall_mem_append.2 ⟨fun q hq => (List.mem_append_left _ hq), (fun p hp => by cases hp)⟩)) (fun I' L' T hC kk => gl_indexAddrF (c := c0) (T' := 43) (e := 37) (xs := (.tmp 118)) (xi := (.tmp 120)) (kd := .i64) ha209 hi210.1 hi210.2.1 (by kernel_rfl) (by kernel_rfl) (by kernel_rfl) (by kernel_rfl) (by kernel_rfl) kk) ?_
            refine gd_q (v := .float .f64 b211) (by kernel_rfl) (by kernel_rfl) (CC.refl (List.forall_mem_append.2 ⟨fun q hq => (List.mem_append_left _ hq), (fun p hp => by cases hp)⟩)) (fun I' L' T hC kk => gl_loadO (T' := 37) (xp := (.tmp 121)) (p := p205) (c := .float .f64 b211) (n := 1) (by kernel_rfl) (by kernel_rfl) (by kernel_rfl) (by kernel_rfl) (hA208 _ _ (fun q hq => hC.sub _ (List.mem_append_left _ hq))) kk) ?_
            refine gd_pure 2 [0, 14, 17, 113, 114, 115, 117, 122, 123, 124] (K' := [(0, .slice A0 s185.1.length c0), (14, .int .i64 r132), (17, .int .i64 s185.2), (113, .slice A0 s185.1.length c0), (114, .int .i64 s185.2), (115, .slice A0 s185.1.length c0), (117, .int .i64 (IntKind.wrap .i64 (s185.2 - 1))), (122, .float .f64 b211), (123, .slice A0 s185.1.length c0), (124, .int .i64 s185.2)]) (s' := [(12, true), (13, true), (14, false), (15, false), (16, false)]) (CC.refl (List.forall_mem_append.2 ⟨fun q hq => (List.mem_append_left _ hq), (fun p hp => by cases hp)⟩)) (by kernel_rfl) ?_
            obtain ⟨x214, hx215, hb187⟩ := bind_some hb187
            obtain ⟨p216, cs217, hR218, hA219, ha220, hg224⟩ := OwnS.ixAtG hx215 hO190
            have hi221 := ix_some hx215
            obtain ⟨b222, rfl, hf223⟩ := hR218
            refine gd_q (v := .pointer (some p216)) (by kernel_rfl) (by kernel_rfl) (CC.refl (List.forall_mem_append.2 ⟨fun q hq => (List.mem_append_left _ hq), (fun p hp => by cases hp)⟩)) (fun I' L' T hC kk => gl_indexAddrF (c := c0) (T' := 43) (e := 37) (xs := (.tmp 123)) (xi := (.tmp 124)) (kd := .i64) ha220 hi221.1 hi221.2.1 (by kernel_rfl) (by kernel_rfl) (by kernel_rfl) (by kernel_rfl) (by kernel_rfl) kk) ?_
            refine gd_q (v := .float .f64 b222) (by kernel_rfl) (by kernel_rfl) (CC.refl (List.forall_mem_append.2 ⟨fun q hq => (List.mem_append_left _ hq), (fun p hp => by cases hp)⟩)) (fun I' L' T hC kk => gl_loadO (T' := 37) (xp := (.tmp 125)) (p := p216) (c := .float .f64 b222) (n := 1) (by kernel_rfl) (by kernel_rfl) (by kernel_rfl) (by kernel_rfl) (hA219 _ _ (fun q hq => hC.sub _ (List.mem_append_left _ hq))) kk) ?_
            refine gd_one (by kernel_rfl) ?_
            obtain ⟨x225, hx226, hb187⟩ := bind_some hb187
            refine gl_indexAddrW (d := Kd.flt) (c := c0) (T' := 43) (e := 37) (xs := (.tmp 113)) (xi := (.tmp 114)) (kd := .i64) hx226 hO190 (Upd.selfC _ _) (by kernel_rfl) (by kernel_rfl) (by kernel_rfl) (by kernel_rfl) (by kernel_rfl) (fun p227 cs228 hR229 hA230 hp235 => ?_)
            obtain ⟨b233, rfl, hf234⟩ := hR229
            refine gl_toD (by kernel_rfl) ⟨(Imm.refl _), (List.forall_mem_append.2 ⟨fun q hq => (List.mem_append_left _ hq), (fun p hp => by cases hp)⟩)⟩ ?_
            refine gd_flip (by kernel_rfl) (by kernel_rfl) ?_
            have hl238 : s185.1.length = (lset s185.1 s185.2 x203).length := by simp [lset]
            refine gl_storeE (d := Kd.flt) (T' := 37) (xp := (.tmp 127)) (xv := (.tmp 122)) (v := .float .f64 b211) (off := 0) (y := x203) (fun X => X ++ L) hx226 hO190 (fun X => (Upd.head _ X _)) hp235 (by kernel_rfl) (by kernel_rfl) (by kernel_rfl) (by kernel_rfl) (by kernel_rfl) (by kernel_rfl) (fun cs h => by obtain ⟨b', rfl, _⟩ := h; exact ⟨_, rfl, hf212⟩) (by kernel_rfl) (fun C236 hO237 => ?_)
            try rw [hl238]
            refine gl_toD (by kernel_rfl) ⟨(Imm.refl _), (fun p hp => by cases hp)⟩ ?_
            refine gd_one (by kernel_rfl) ?_
            obtain ⟨x239, hx240, hb187⟩ := bind_some hb187
            refine gl_indexAddrW (d := Kd.flt) (c := c0) (T' := 43) (e := 37) (xs := (.tmp 115)) (xi := (.tmp 117)) (kd := .i64) hx240 hO237 (Upd.selfC _ _) (by kernel_rfl) (by kernel_rfl) (by kernel_rfl) (by kernel_rfl) (by kernel_rfl) (fun p241 cs242 hR243 hA244 hp249 => ?_)
            obtain ⟨b247, rfl, hf248⟩ := hR243
            refine gl_toD (by kernel_rfl) ⟨(Imm.refl _), (fun p hp => by cases hp)⟩ ?_
            refine gd_done ?_
            have hl252 : (lset s185.1 s185.2 x203).length = (lset (lset s185.1 s185.2 x203) (IntKind.wrap .i64 (s185.2 - 1)) x214).length := by simp [lset]
            refine gl_storeE (d := Kd.flt) (T' := 37) (xp := (.tmp 128)) (xv := (.tmp 126)) (v := .float .f64 b222) (off := 0) (y := x214) (fun X => X ++ L) hx240 hO237 (fun X => (Upd.head _ X _)) hp249 (by kernel_rfl) (by kernel_rfl) (by kernel_rfl) (by kernel_rfl) (by kernel_rfl) (by kernel_rfl) (fun cs h => by obtain ⟨b', rfl, _⟩ := h; exact ⟨_, rfl, hf223⟩) (by kernel_rfl) (fun C250 hO251 => ?_)
            try rw [hl252]
            refine gl_atE (by kernel_rfl) ?_
            refine ge_block_normal ?_
            refine ge_seq ?_
            refine gk_region (by kernel_rfl) ?_
            refine gl_pure 3 [0, 14, 17] (K' := [(0, .slice A0 (lset (lset s185.1 s185.2 x203) (IntKind.wrap .i64 (s185.2 - 1)) x214).length c0), (14, .int .i64 r132), (17, .int .i64 (IntKind.wrap .i64 (s185.2 - 1)))]) (by kernel_rfl) ?_
            refine gl_atE (by kernel_rfl) ?_
            obtain rfl := some_inj hb187
            exact ge_round fun t ht => ⟨C250, hO251, (Eq.trans (lset_length _ _ _) (Eq.trans (lset_length _ _ _) hL191)), hI188, rfl, ht.pick (l := [0, 14, 17]) (by kernel_rfl)⟩
          · have hb187 := cond_f hc202 hb187
            refine gk_exit (by kernel_rfl) ?_
            refine ge_seq_exit ?_
            obtain rfl := some_inj hb187
            refine ge_round_out (fun hrr => ?_) (by intro h; cases h)
            obtain rfl := hrr
            refine ge_block_hit (by kernel_rfl) ?_
            exact ge_mid fun t ht => ⟨C189, hO190, hL191, hI188, rfl, ht.pick (l := [0]) (by kernel_rfl)⟩
        · rintro t I199 L' ⟨C195, hO196, hL197, hI194, rfl, hK198⟩
          refine ge_at hK198 ?_
          refine ge_seq ?_
          refine gk_ret (by kernel_rfl) ?_
          refine ge_seq_ret ?_
          obtain rfl := some_inj hr
          exact ge_result trivial ResOk.nil (Imm.trans hI140 hI194) ⟨C195, hO196, hL197, rfl, rfl⟩
    · have hr := cond_f hc127 hr
      refine gk_skip (by kernel_rfl) ?_
      refine ge_seq ?_
      refine gk_seq (by kernel_rfl) ?_
      refine gk_region (by kernel_rfl) ?_
      refine gl_pure 7 [0, 1, 2, 3, 4, 18] (K' := [(0, .slice A0 a0.length c0), (1, .int .i64 a1), (2, .int .i64 a2), (3, .int .i64 a3), (4, .func (.func 145) #[] #[]), (18, .int .i64 (IntKind.wrap .i64 (shr .u64 (IntKind.wrap .u64 (IntKind.wrap .i64 (a1 + a3))) 1)))]) (by kernel_rfl) ?_
      refine gl_atE (by kernel_rfl) ?_
      refine ge_seq ?_
      refine gk_seq (by kernel_rfl) ?_
      refine gk_region (by kernel_rfl) ?_
      refine gl_pure 4 [0, 1, 2, 3, 4, 18, 19] (K' := [(0, .slice A0 a0.length c0), (1, .int .i64 a1), (2, .int .i64 a2), (3, .int .i64 a3), (4, .func (.func 145) #[] #[]), (18, .int .i64 (IntKind.wrap .i64 (shr .u64 (IntKind.wrap .u64 (IntKind.wrap .i64 (a1 + a3))) 1))), (19, .int .i64 (IntKind.wrap .i64 ((IntKind.wrap .i64 (shr .u64 (IntKind.wrap .u64 (IntKind.wrap .i64 (a1 + a3))) 1)) + a2)))]) (by kernel_rfl) ?_
      refine gl_atE (by kernel_rfl) ?_
      refine ge_seq ?_
      refine gk_seq (by kernel_rfl) ?_
      refine gk_region (by kernel_rfl) ?_
      refine gl_pure 2 [0, 1, 2, 3, 4, 18, 19] (K' := [(0, .slice A0 a0.length c0), (1, .int .i64 a1), (2, .int .i64 a2), (3, .int .i64 a3), (4, .func (.func 145) #[] #[]), (18, .int .i64 (IntKind.wrap .i64 (shr .u64 (IntKind.wrap .u64 (IntKind.wrap .i64 (a1 + a3))) 1))), (19, .int .i64 (IntKind.wrap .i64 ((IntKind.wrap .i64 (shr .u64 (IntKind.wrap .u64 (IntKind.wrap .i64 (a1 + a3))) 1)) + a2)))]) (by kernel_rfl) ?_
      refine gl_atE (by kernel_rfl) ?_
      refine ge_seq ?_
      refine gk_seq (by kernel_rfl) ?_
      refine gk_seq (by kernel_rfl) ?_
      refine gk_region (by kernel_rfl) ?_
      refine gl_pure 3 [0, 1, 2, 3, 4, 18, 19, 140] (K' := [(0, .slice A0 a0.length c0), (1, .int .i64 a1), (2, .int .i64 a2), (3, .int .i64 a3), (4, .func (.func 145) #[] #[]), (18, .int .i64 (IntKind.wrap .i64 (shr .u64 (IntKind.wrap .u64 (IntKind.wrap .i64 (a1 + a3))) 1))), (19, .int .i64 (IntKind.wrap .i64 ((IntKind.wrap .i64 (shr .u64 (IntKind.wrap .u64 (IntKind.wrap .i64 (a1 + a3))) 1)) + a2))), (140, .bool (decide (a2 > (IntKind.wrap .i64 (shr .u64 (IntKind.wrap .u64 (IntKind.wrap .i64 (a1 + a3))) 1)))))]) (by kernel_rfl) ?_
      refine gl_atE (by kernel_rfl) ?_
      refine ge_seq ?_
      obtain ⟨j253, hj254, hr⟩ := bind_some hr
      refine gk_join (fun t I' L' => I ≤ I' ∧ C0 ++ L = L' ∧ Knows 220 [(0, .slice A0 a0.length c0), (1, .int .i64 a1), (2, .int .i64 a2), (3, .int .i64 a3), (4, .func (.func 145) #[] #[]), (18, .int .i64 (IntKind.wrap .i64 (shr .u64 (IntKind.wrap .u64 (IntKind.wrap .i64 (a1 + a3))) 1))), (19, .int .i64 (IntKind.wrap .i64 ((IntKind.wrap .i64 (shr .u64 (IntKind.wrap .u64 (IntKind.wrap .i64 (a1 + a3))) 1)) + a2))), (20, .int .i64 j253.1), (21, .int .i64 j253.2)] t) ?_ ?_
      · refine gk_cond (b := (decide (a2 > (IntKind.wrap .i64 (shr .u64 (IntKind.wrap .u64 (IntKind.wrap .i64 (a1 + a3))) 1))))) (by kernel_rfl) (by kernel_rfl) (fun hc258 => ?_) (fun hc258 => ?_)
        · have hj254 := cond_t hc258 hj254
          refine gk_seq (by kernel_rfl) ?_
          refine gk_region (by kernel_rfl) ?_
          refine gl_pure 4 [0, 1, 2, 3, 4, 18, 19, 20] (K' := [(0, .slice A0 a0.length c0), (1, .int .i64 a1), (2, .int .i64 a2), (3, .int .i64 a3), (4, .func (.func 145) #[] #[]), (18, .int .i64 (IntKind.wrap .i64 (shr .u64 (IntKind.wrap .u64 (IntKind.wrap .i64 (a1 + a3))) 1))), (19, .int .i64 (IntKind.wrap .i64 ((IntKind.wrap .i64 (shr .u64 (IntKind.wrap .u64 (IntKind.wrap .i64 (a1 + a3))) 1)) + a2))), (20, .int .i64 (IntKind.wrap .i64 ((IntKind.wrap .i64 ((IntKind.wrap .i64 (shr .u64 (IntKind.wrap .u64 (IntKind.wrap .i64 (a1 + a3))) 1)) + a2)) - a3)))]) (by kernel_rfl) ?_
          refine gl_atE (by kernel_rfl) ?_
          refine ge_seq ?_
          refine gk_region (by kernel_rfl) ?_
          refine gl_pure 2 [0, 1, 2, 3, 4, 18, 19, 20, 21] (K' := [(0, .slice A0 a0.length c0), (1, .int .i64 a1), (2, .int .i64 a2), (3, .int .i64 a3), (4, .func (.func 145) #[] #[]), (18, .int .i64 (IntKind.wrap .i64 (shr .u64 (IntKind.wrap .u64 (IntKind.wrap .i64 (a1 + a3))) 1))), (19, .int .i64 (IntKind.wrap .i64 ((IntKind.wrap .i64 (shr .u64 (IntKind.wrap .u64 (IntKind.wrap .i64 (a1 + a3))) 1)) + a2))), (20, .int .i64 (IntKind.wrap .i64 ((IntKind.wrap .i64 ((IntKind.wrap .i64 (shr .u64 (IntKind.wrap .u64 (IntKind.wrap .i64 (a1 + a3))) 1)) + a2)) - a3))), (21, .int .i64 (IntKind.wrap .i64 (shr .u64 (IntKind.wrap .u64 (IntKind.wrap .i64 (a1 + a3))) 1)))]) (by kernel_rfl) ?_
          refine gl_atE (by kernel_rfl) ?_
          obtain rfl := some_inj hj254
          exact ge_mid fun t ht => ⟨(Imm.refl _), rfl, ht.pick (l := [0, 1, 2, 3, 4, 18, 19, 20, 21]) (by kernel_rfl)⟩
        · have hj254 := cond_f hc258 hj254
          refine gk_seq (by kernel_rfl) ?_
          refine gk_region (by kernel_rfl) ?_
          refine gl_pure 2 [0, 1, 2, 3, 4, 18, 19, 20] (K' := [(0, .slice A0 a0.length c0), (1, .int .i64 a1), (2, .int .i64 a2), (3, .int .i64 a3), (4, .func (.func 145) #[] #[]), (18, .int .i64 (IntKind.wrap .i64 (shr .u64 (IntKind.wrap .u64 (IntKind.wrap .i64 (a1 + a3))) 1))), (19, .int .i64 (IntKind.wrap .i64 ((IntKind.wrap .i64 (shr .u64 (IntKind.wrap .u64 (IntKind.wrap .i64 (a1 + a3))) 1)) + a2))), (20, .int .i64 a1)]) (by kernel_rfl) ?_
          refine gl_atE (by kernel_rfl) ?_
          refine ge_seq ?_
          refine gk_region (by kernel_rfl) ?_
          refine gl_pure 2 [0, 1, 2, 3, 4, 18, 19, 20, 21] (K' := [(0, .slice A0 a0.length c0), (1, .int .i64 a1), (2, .int .i64 a2), (3, .int .i64 a3), (4, .func (.func 145) #[] #[]), (18, .int .i64 (IntKind.wrap .i64 (shr .u64 (IntKind.wrap .u64 (IntKind.wrap .i64 (a1 + a3))) 1))), (19, .int .i64 (IntKind.wrap .i64 ((IntKind.wrap .i64 (shr .u64 (IntKind.wrap .u64 (IntKind.wrap .i64 (a1 + a3))) 1)) + a2))), (20, .int .i64 a1), (21, .int .i64 a2)]) (by kernel_rfl) ?_
          refine gl_atE (by kernel_rfl) ?_
          obtain rfl := some_inj hj254
          exact ge_mid fun t ht => ⟨(Imm.refl _), rfl, ht.pick (l := [0, 1, 2, 3, 4, 18, 19, 20, 21]) (by kernel_rfl)⟩
      · rintro t I257 L' ⟨hI255, rfl, hK256⟩
        refine ge_at hK256 ?_
        refine ge_seq ?_
        refine gk_seq (by kernel_rfl) ?_
        refine gk_region (by kernel_rfl) ?_
        refine gl_pure 3 [0, 1, 2, 3, 4, 18, 19, 20, 21, 22] (K' := [(0, .slice A0 a0.length c0), (1, .int .i64 a1), (2, .int .i64 a2), (3, .int .i64 a3), (4, .func (.func 145) #[] #[]), (18, .int .i64 (IntKind.wrap .i64 (shr .u64 (IntKind.wrap .u64 (IntKind.wrap .i64 (a1 + a3))) 1))), (19, .int .i64 (IntKind.wrap .i64 ((IntKind.wrap .i64 (shr .u64 (IntKind.wrap .u64 (IntKind.wrap .i64 (a1 + a3))) 1)) + a2))), (20, .int .i64 j253.1), (21, .int .i64 j253.2), (22, .int .i64 (IntKind.wrap .i64 ((IntKind.wrap .i64 ((IntKind.wrap .i64 (shr .u64 (IntKind.wrap .u64 (IntKind.wrap .i64 (a1 + a3))) 1)) + a2)) - 1)))]) (by kernel_rfl) ?_
        refine gl_atE (by kernel_rfl) ?_
        refine ge_seq ?_
        refine gk_seq (by kernel_rfl) ?_
        obtain ⟨r263, hl264, hr⟩ := bind_some hr
        refine gk_join (fun t I' L' => I257 ≤ I' ∧ C0 ++ L = L' ∧ Knows 220 [(0, .slice A0 a0.length c0), (1, .int .i64 a1), (2, .int .i64 a2), (3, .int .i64 a3), (4, .func (.func 145) #[] #[]), (18, .int .i64 (IntKind.wrap .i64 (shr .u64 (IntKind.wrap .u64 (IntKind.wrap .i64 (a1 + a3))) 1))), (19, .int .i64 (IntKind.wrap .i64 ((IntKind.wrap .i64 (shr .u64 (IntKind.wrap .u64 (IntKind.wrap .i64 (a1 + a3))) 1)) + a2))), (20, .int .i64 r263)] t) ?_ ?_
        · refine gk_block (by kernel_rfl) ?_
          refine gk_pick [0, 1, 2, 3, 4, 18, 19, 20, 21, 22] (K' := [(0, .slice A0 a0.length c0), (1, .int .i64 a1), (2, .int .i64 a2), (3, .int .i64 a3), (4, .func (.func 145) #[] #[]), (18, .int .i64 (IntKind.wrap .i64 (shr .u64 (IntKind.wrap .u64 (IntKind.wrap .i64 (a1 + a3))) 1))), (19, .int .i64 (IntKind.wrap .i64 ((IntKind.wrap .i64 (shr .u64 (IntKind.wrap .u64 (IntKind.wrap .i64 (a1 + a3))) 1)) + a2))), (20, .int .i64 j253.1), (21, .int .i64 j253.2), (22, .int .i64 (IntKind.wrap .i64 ((IntKind.wrap .i64 ((IntKind.wrap .i64 (shr .u64 (IntKind.wrap .u64 (IntKind.wrap .i64 (a1 + a3))) 1)) + a2)) - 1)))]) (by kernel_rfl) ?_
          intro t hK
          refine gc_loop (slices_symMergeCmpFunc_l274 a0 a1 a2 a3) (fun s265 t I' L' => I257 ≤ I' ∧ C0 ++ L = L' ∧ Knows 220 [(0, .slice A0 a0.length c0), (1, .int .i64 a1), (2, .int .i64 a2), (3, .int .i64 a3), (4, .func (.func 145) #[] #[]), (18, .int .i64 (IntKind.wrap .i64 (shr .u64 (IntKind.wrap .u64 (IntKind.wrap .i64 (a1 + a3))) 1))), (19, .int .i64 (IntKind.wrap .i64 ((IntKind.wrap .i64 (shr .u64 (IntKind.wrap .u64 (IntKind.wrap .i64 (a1 + a3))) 1)) + a2))), (20, .int .i64 s265.1), (21, .int .i64 s265.2), (22, .int .i64 (IntKind.wrap .i64 ((IntKind.wrap .i64 ((IntKind.wrap .i64 (shr .u64 (IntKind.wrap .u64 (IntKind.wrap .i64 (a1 + a3))) 1)) + a2)) - 1)))] t) (by kernel_rfl) ?_ hl264 ⟨(Imm.refl _), rfl, hK⟩
          rintro s265 o266 t I270 L' hb267 ⟨hI268, rfl, hK269⟩
          unfold slices_symMergeCmpFunc_l274 at hb267
          refine gk_at hK269 ?_
          refine gk_seq (by kernel_rfl) ?_
          refine gk_seq (by kernel_rfl) ?_
          refine gk_region (by kernel_rfl) ?_
          refine gl_pure 3 [0, 1, 2, 3, 4, 18, 19, 20, 21, 22, 151] (K' := [(0, .slice A0 a0.length c0), (1, .int .i64 a1), (2, .int .i64 a2), (3, .int .i64 a3), (4, .func (.func 145) #[] #[]), (18, .int .i64 (IntKind.wrap .i64 (shr .u64 (IntKind.wrap .u64 (IntKind.wrap .i64 (a1 + a3))) 1))), (19, .int .i64 (IntKind.wrap .i64 ((IntKind.wrap .i64 (shr .u64 (IntKind.wrap .u64 (IntKind.wrap .i64 (a1 + a3))) 1)) + a2))), (20, .int .i64 s265.1), (21, .int .i64 s265.2), (22, .int .i64 (IntKind.wrap .i64 ((IntKind.wrap .i64 ((IntKind.wrap .i64 (shr .u64 (IntKind.wrap .u64 (IntKind.wrap .i64 (a1 + a3))) 1)) + a2)) - 1))), (151, .bool (decide (s265.1 < s265.2)))]) (by kernel_rfl) ?_
          refine gl_atE (by kernel_rfl) ?_
          refine ge_seq ?_
          refine gk_cond (b := (decide (s265.1 < s265.2))) (by kernel_rfl) (by kernel_rfl) (fun hc276 => ?_) (fun hc276 => ?_)
          · have hb267 := cond_t hc276 hb267
            refine gk_skip (by kernel_rfl) ?_
            refine ge_seq ?_
            refine gk_block (by kernel_rfl) ?_
            refine gk_seq (by kernel_rfl) ?_
            refine gk_region (by kernel_rfl) ?_
            refine gl_pure 7 [0, 1, 2, 3, 4, 18, 19, 20, 21, 22, 23] (K' := [(0, .slice A0 a0.length c0), (1, .int .i64 a1), (2, .int .i64 a2), (3, .int .i64 a3), (4, .func (.func 145) #[] #[]), (18, .int .i64 (IntKind.wrap .i64 (shr .u64 (IntKind.wrap .u64 (IntKind.wrap .i64 (a1 + a3))) 1))), (19, .int .i64 (IntKind.wrap .i64 ((IntKind.wrap .i64 (shr .u64 (IntKind.wrap .u64 (IntKind.wrap .i64 (a1 + a3))) 1)) + a2))), (20, .int .i64 s265.1), (21, .int .i64 s265.2), (22, .int .i64 (IntKind.wrap .i64 ((IntKind.wrap .i64 ((IntKind.wrap .i64 (shr .u64 (IntKind.wrap .u64 (IntKind.wrap .i64 (a1 + a3))) 1)) + a2)) - 1))), (23, .int .i64 (IntKind.wrap .i64 (shr .u64 (IntKind.wrap .u64 (IntKind.wrap .i64 (s265.1 + s265.2))) 1)))]) (by kernel_rfl) ?_
            refine gl_atE (by kernel_rfl) ?_
            refine ge_seq ?_
            refine gk_seq (by kernel_rfl) ?_
            refine gk_draw 11 [(0, true), (1, true), (2, true), (3, true), (4, true), (5, true), (6, true), (7, true), (8, true), (9, true), (10, true)] (C0 ++ []) (List.forall_mem_append.2 ⟨fun q hq => (List.mem_append_left _ hq), (fun p hp => by cases hp)⟩) (by kernel_rfl) (by kernel_rfl) (by kernel_rfl) ?_ (by kernel_rfl)
            refine gd_pure 5 [0, 1, 2, 3, 4, 18, 19, 20, 21, 22, 23, 158, 159, 162] (K' := [(0, .slice A0 a0.length c0), (1, .int .i64 a1), (2, .int .i64 a2), (3, .int .i64 a3), (4, .func (.func 145) #[] #[]), (18, .int .i64 (IntKind.wrap .i64 (shr .u64 (IntKind.wrap .u64 (IntKind.wrap .i64 (a1 + a3))) 1))), (19, .int .i64 (IntKind.wrap .i64 ((IntKind.wrap .i64 (shr .u64 (IntKind.wrap .u64 (IntKind.wrap .i64 (a1 + a3))) 1)) + a2))), (20, .int .i64 s265.1), (21, .int .i64 s265.2), (22, .int .i64 (IntKind.wrap .i64 ((IntKind.wrap .i64 ((IntKind.wrap .i64 (shr .u64 (IntKind.wrap .u64 (IntKind.wrap .i64 (a1 + a3))) 1)) + a2)) - 1))), (23, .int .i64 (IntKind.wrap .i64 (shr .u64 (IntKind.wrap .u64 (IntKind.wrap .i64 (s265.1 + s265.2))) 1))), (158, .func (.func 145) #[] #[]), (159, .slice A0 a0.length c0), (162, .int .i64 (IntKind.wrap .i64 ((IntKind.wrap .i64 ((IntKind.wrap .i64 ((IntKind.wrap .i64 (shr .u64 (IntKind.wrap .u64 (IntKind.wrap .i64 (a1 + a3))) 1)) + a2)) - 1)) - (IntKind.wrap .i64 (shr .u64 (IntKind.wrap .u64 (IntKind.wrap .i64 (s265.1 + s265.2))) 1)))))]) (s' := [(5, true), (6, true), (7, true), (8, true), (9, true), (10, true)]) (CC.refl (List.forall_mem_append.2 ⟨fun q hq => (List.mem_append_left _ hq), (fun p hp => by cases hp)⟩)) (by kernel_rfl) ?_
            obtain ⟨x277, hx278, hb267⟩ := bind_some hb267
            obtain ⟨p279, cs280, hR281, hA282, ha283, hg287⟩ := OwnS.ixAtG hx278 (hO0.mono (Imm.trans hI255 hI268))
            have hi284 := ix_some hx278
            obtain ⟨b285, rfl, hf286⟩ := hR281
            refine gd_q (v := .pointer (some p279)) (by kernel_rfl) (by kernel_rfl) (CC.refl (List.forall_mem_append.2 ⟨fun q hq => (List.mem_append_left _ hq), (fun p hp => by cases hp)⟩)) (fun I' L' T hC kk => gl_indexAddrF (c := c0) (T' := 43) (e := 37) (xs := (.tmp 159)) (xi := (.tmp 162)) (kd := .i64) ha283 hi284.1 hi284.2.1 (by kernel_rfl) (by kernel_rfl) (by kernel_rfl) (by kernel_rfl) (by kernel_rfl) kk) ?_
            refine gd_q (v := .float .f64 b285) (by kernel_rfl) (by kernel_rfl) (CC.refl (List.forall_mem_append.2 ⟨fun q hq => (List.mem_append_left _ hq), (fun p hp => by cases hp)⟩)) (fun I' L' T hC kk => gl_loadO (T' := 37) (xp := (.tmp 163)) (p := p279) (c := .float .f64 b285) (n := 1) (by kernel_rfl) (by kernel_rfl) (by kernel_rfl) (by kernel_rfl) (hA282 _ _ (fun q hq => hC.sub _ (List.mem_append_left _ hq))) kk) ?_
            refine gd_pure 2 [0, 1, 2, 3, 4, 18, 19, 20, 21, 22, 23, 158, 164, 165, 166] (K' := [(0, .slice A0 a0.length c0), (1, .int .i64 a1), (2, .int .i64 a2), (3, .int .i64 a3), (4, .func (.func 145) #[] #[]), (18, .int .i64 (IntKind.wrap .i64 (shr .u64 (IntKind.wrap .u64 (IntKind.wrap .i64 (a1 + a3))) 1))), (19, .int .i64 (IntKind.wrap .i64 ((IntKind.wrap .i64 (shr .u64 (IntKind.wrap .u64 (IntKind.wrap .i64 (a1 + a3))) 1)) + a2))), (20, .int .i64 s265.1), (21, .int .i64 s265.2), (22, .int .i64 (IntKind.wrap .i64 ((IntKind.wrap .i64 ((IntKind.wrap .i64 (shr .u64 (IntKind.wrap .u64 (IntKind.wrap .i64 (a1 + a3))) 1)) + a2)) - 1))), (23, .int .i64 (IntKind.wrap .i64 (shr .u64 (IntKind.wrap .u64 (IntKind.wrap .i64 (s265.1 + s265.2))) 1))), (158, .func (.func 145) #[] #[]), (164, .float .f64 b285), (165, .slice A0 a0.length c0), (166, .int .i64 (IntKind.wrap .i64 (shr .u64 (IntKind.wrap .u64 (IntKind.wrap .i64 (s265.1 + s265.2))) 1)))]) (s' := [(9, true), (10, true)]) (CC.refl (List.forall_mem_append.2 ⟨fun q hq => (List.mem_append_left _ hq), (fun p hp => by cases hp)⟩)) (by kernel_rfl) ?_
            obtain ⟨x288, hx289, hb267⟩ := bind_some hb267
            obtain ⟨p290, cs291, hR292, hA293, ha294, hg298⟩ := OwnS.ixAtG hx289 (hO0.mono (Imm.trans hI255 hI268))
            have hi295 := ix_some hx289
            obtain ⟨b296, rfl, hf297⟩ := hR292
            refine gd_q (v := .pointer (some p290)) (by kernel_rfl) (by kernel_rfl) (CC.refl (List.forall_mem_append.2 ⟨fun q hq => (List.mem_append_left _ hq), (fun p hp => by cases hp)⟩)) (fun I' L' T hC kk => gl_indexAddrF (c := c0) (T' := 43) (e := 37) (xs := (.tmp 165)) (xi := (.tmp 166)) (kd := .i64) ha294 hi295.1 hi295.2.1 (by kernel_rfl) (by kernel_rfl) (by kernel_rfl) (by kernel_rfl) (by kernel_rfl) kk) ?_
            refine gd_q (v := .float .f64 b296) (by kernel_rfl) (by kernel_rfl) (CC.refl (List.forall_mem_append.2 ⟨fun q hq => (List.mem_append_left _ hq), (fun p hp => by cases hp)⟩)) (fun I' L' T hC kk => gl_loadO (T' := 37) (xp := (.tmp 167)) (p := p290) (c := .float .f64 b296) (n := 1) (by kernel_rfl) (by kernel_rfl) (by kernel_rfl) (by kernel_rfl) (hA293 _ _ (fun q hq => hC.sub _ (List.mem_append_left _ hq))) kk) ?_
            refine gd_done ?_
            obtain ⟨y299, hx300, hb267⟩ := bind_some hb267
            refine gl_callQ (by kernel_rfl) (aggr_ahead_walk (r := y299) hf286 hf297 hx300 _) ?_
            refine gl_pure 2 [0, 1, 2, 3, 4, 18, 19, 20, 21, 22, 23, 171] (K' := [(0, .slice A0 a0.length c0), (1, .int .i64 a1), (2, .int .i64 a2), (3, .int .i64 a3), (4, .func (.func 145) #[] #[]), (18, .int .i64 (IntKind.wrap .i64 (shr .u64 (IntKind.wrap .u64 (IntKind.wrap .i64 (a1 + a3))) 1))), (19, .int .i64 (IntKind.wrap .i64 ((IntKind.wrap .i64 (shr .u64 (IntKind.wrap .u64 (IntKind.wrap .i64 (a1 + a3))) 1)) + a2))), (20, .int .i64 s265.1), (21, .int .i64 s265.2), (22, .int .i64 (IntKind.wrap .i64 ((IntKind.wrap .i64 ((IntKind.wrap .i64 (shr .u64 (IntKind.wrap .u64 (IntKind.wrap .i64 (a1 + a3))) 1)) + a2)) - 1))), (23, .int .i64 (IntKind.wrap .i64 (shr .u64 (IntKind.wrap .u64 (IntKind.wrap .i64 (s265.1 + s265.2))) 1))), (171, .bool (!(decide (y299 < 0))))]) (by kernel_rfl) ?_
            refine gl_atE (by kernel_rfl) ?_
            refine ge_seq ?_
            obtain ⟨j301, hj302, hb267⟩ := bind_some hb267
            refine gk_join (fun t I' L' => I270 ≤ I' ∧ C0 ++ L = L' ∧ Knows 220 [(0, .slice A0 a0.length c0), (1, .int .i64 a1), (2, .int .i64 a2), (3, .int .i64 a3), (4, .func (.func 145) #[] #[]), (18, .int .i64 (IntKind.wrap .i64 (shr .u64 (IntKind.wrap .u64 (IntKind.wrap .i64 (a1 + a3))) 1))), (19, .int .i64 (IntKind.wrap .i64 ((IntKind.wrap .i64 (shr .u64 (IntKind.wrap .u64 (IntKind.wrap .i64 (a1 + a3))) 1)) + a2))), (20, .int .i64 j301.1), (21, .int .i64 j301.2), (22, .int .i64 (IntKind.wrap .i64 ((IntKind.wrap .i64 ((IntKind.wrap .i64 (shr .u64 (IntKind.wrap .u64 (IntKind.wrap .i64 (a1 + a3))) 1)) + a2)) - 1)))] t) ?_ ?_
            · refine gk_cond (b := (!(decide (y299 < 0)))) (by kernel_rfl) (by kernel_rfl) (fun hc306 => ?_) (fun hc306 => ?_)
              · have hj302 := cond_t hc306 hj302
                refine gk_region (by kernel_rfl) ?_
                refine gl_pure 3 [0, 1, 2, 3, 4, 18, 19, 20, 21, 22] (K' := [(0, .slice A0 a0.length c0), (1, .int .i64 a1), (2, .int .i64 a2), (3, .int .i64 a3), (4, .func (.func 145) #[] #[]), (18, .int .i64 (IntKind.wrap .i64 (shr .u64 (IntKind.wrap .u64 (IntKind.wrap .i64 (a1 + a3))) 1))), (19, .int .i64 (IntKind.wrap .i64 ((IntKind.wrap .i64 (shr .u64 (IntKind.wrap .u64 (IntKind.wrap .i64 (a1 + a3))) 1)) + a2))), (20, .int .i64 (IntKind.wrap .i64 ((IntKind.wrap .i64 (shr .u64 (IntKind.wrap .u64 (IntKind.wrap .i64 (s265.1 + s265.2))) 1)) + 1))), (21, .int .i64 s265.2), (22, .int .i64 (IntKind.wrap .i64 ((IntKind.wrap .i64 ((IntKind.wrap .i64 (shr .u64 (IntKind.wrap .u64 (IntKind.wrap .i64 (a1 + a3))) 1)) + a2)) - 1)))]) (by kernel_rfl) ?_
                refine gl_atE (by kernel_rfl) ?_
                obtain rfl := some_inj hj302
                exact ge_mid fun t ht => ⟨(Imm.refl _), rfl, ht.pick (l := [0, 1, 2, 3, 4, 18, 19, 20, 21, 22]) (by kernel_rfl)⟩
              · have hj302 := cond_f hc306 hj302
                refine gk_region (by kernel_rfl) ?_
                refine gl_pure 2 [0, 1, 2, 3, 4, 18, 19, 20, 21, 22] (K' := [(0, .slice A0 a0.length c0), (1, .int .i64 a1), (2, .int .i64 a2), (3, .int .i64 a3), (4, .func (.func 145) #[] #[]), (18, .int .i64 (IntKind.wrap .i64 (shr .u64 (IntKind.wrap .u64 (IntKind.wrap .i64 (a1 + a3))) 1))), (19, .int .i64 (IntKind.wrap .i64 ((IntKind.wrap .i64 (shr .u64 (IntKind.wrap .u64 (IntKind.wrap .i64 (a1 + a3))) 1)) + a2))), (20, .int .i64 s265.1), (21, .int .i64 (IntKind.wrap .i64 (shr .u64 (IntKind.wrap .u64 (IntKind.wrap .i64 (s265.1 + s265.2))) 1))), (22, .int .i64 (IntKind.wrap .i64 ((IntKind.wrap .i64 ((IntKind.wrap .i64 (shr .u64 (IntKind.wrap .u64 (IntKind.wrap .i64 (a1 + a3))) 1)) + a2)) - 1)))]) (by kernel_rfl) ?_
                refine gl_atE (by kernel_rfl) ?_
                obtain rfl := some_inj hj302
                exact ge_mid fun t ht => ⟨(Imm.refl _), rfl, ht.pick (l := [0, 1, 2, 3, 4, 18, 19, 20, 21, 22]) (by kernel_rfl)⟩
            · rintro t I305 L' ⟨hI303, rfl, hK304⟩
              refine ge_at hK304 ?_
              refine ge_block_normal ?_
              obtain rfl := some_inj hb267
              exact ge_round fun t ht => ⟨(Imm.trans hI268 hI303), rfl, ht.pick (l := [0, 1, 2, 3, 4, 18, 19, 20, 21, 22]) (by kernel_rfl)⟩
          · have hb267 := cond_f hc276 hb267
            refine gk_exit (by kernel_rfl) ?_
            refine ge_seq_exit ?_
            obtain rfl := some_inj hb267
            refine ge_round_out (fun hrr => ?_) (by intro h; cases h)
            obtain rfl := hrr
            refine ge_block_hit (by kernel_rfl) ?_
            exact ge_mid fun t ht => ⟨hI268, rfl, ht.pick (l := [0, 1, 2, 3, 4, 18, 19, 20]) (by kernel_rfl)⟩
        · rintro t I273 L' ⟨hI271, rfl, hK272⟩
          refine ge_at hK272 ?_
          refine ge_seq ?_
          refine gk_seq (by kernel_rfl) ?_
          refine gk_region (by kernel_rfl) ?_
          refine gl_pure 4 [0, 1, 2, 3, 4, 18, 20, 24] (K' := [(0, .slice A0 a0.length c0), (1, .int .i64 a1), (2, .int .i64 a2), (3, .int .i64 a3), (4, .func (.func 145) #[] #[]), (18, .int .i64 (IntKind.wrap .i64 (shr .u64 (IntKind.wrap .u64 (IntKind.wrap .i64 (a1 + a3))) 1))), (20, .int .i64 r263), (24, .int .i64 (IntKind.wrap .i64 ((IntKind.wrap .i64 ((IntKind.wrap .i64 (shr .u64 (IntKind.wrap .u64 (IntKind.wrap .i64 (a1 + a3))) 1)) + a2)) - r263)))]) (by kernel_rfl) ?_
          refine gl_atE (by kernel_rfl) ?_
          refine ge_seq ?_
          refine gk_seq (by kernel_rfl) ?_
          refine gk_seq (by kernel_rfl) ?_
          obtain ⟨b309, hb310⟩ : ∃ z, z = ((decide (r263 < a2)) && (decide (a2 < (IntKind.wrap .i64 ((IntKind.wrap .i64 ((IntKind.wrap .i64 (shr .u64 (IntKind.wrap .u64 (IntKind.wrap .i64 (a1 + a3))) 1)) + a2)) - r263))))) := ⟨_, rfl⟩
          refine gk_join (fun t I' L' => I273 ≤ I' ∧ C0 ++ L = L' ∧ Knows 220 [(0, .slice A0 a0.length c0), (1, .int .i64 a1), (2, .int .i64 a2), (3, .int .i64 a3), (4, .func (.func 145) #[] #[]), (18, .int .i64 (IntKind.wrap .i64 (shr .u64 (IntKind.wrap .u64 (IntKind.wrap .i64 (a1 + a3))) 1))), (20, .int .i64 r263), (24, .int .i64 (IntKind.wrap .i64 ((IntKind.wrap .i64 ((IntKind.wrap .i64 (shr .u64 (IntKind.wrap .u64 (IntKind.wrap .i64 (a1 + a3))) 1)) + a2)) - r263))), (185, .bool b309)] t) ?_ ?_
          · refine gk_region (by kernel_rfl) ?_
            refine gl_pure 4 [0, 1, 2, 3, 4, 18, 20, 24, 181] (K' := [(0, .slice A0 a0.length c0), (1, .int .i64 a1), (2, .int .i64 a2), (3, .int .i64 a3), (4, .func (.func 145) #[] #[]), (18, .int .i64 (IntKind.wrap .i64 (shr .u64 (IntKind.wrap .u64 (IntKind.wrap .i64 (a1 + a3))) 1))), (20, .int .i64 r263), (24, .int .i64 (IntKind.wrap .i64 ((IntKind.wrap .i64 ((IntKind.wrap .i64 (shr .u64 (IntKind.wrap .u64 (IntKind.wrap .i64 (a1 + a3))) 1)) + a2)) - r263))), (181, .bool (decide (r263 < a2)))]) (by kernel_rfl) ?_
            refine gl_case 181 (b := (decide (r263 < a2))) (by kernel_rfl) (fun hc312 => ?_) (fun hc312 => ?_)
            · refine gl_pure 4 [0, 1, 2, 3, 4, 18, 20, 24, 185] (K' := [(0, .slice A0 a0.length c0), (1, .int .i64 a1), (2, .int .i64 a2), (3, .int .i64 a3), (4, .func (.func 145) #[] #[]), (18, .int .i64 (IntKind.wrap .i64 (shr .u64 (IntKind.wrap .u64 (IntKind.wrap .i64 (a1 + a3))) 1))), (20, .int .i64 r263), (24, .int .i64 (IntKind.wrap .i64 ((IntKind.wrap .i64 ((IntKind.wrap .i64 (shr .u64 (IntKind.wrap .u64 (IntKind.wrap .i64 (a1 + a3))) 1)) + a2)) - r263))), (185, .bool (decide (a2 < (IntKind.wrap .i64 ((IntKind.wrap .i64 ((IntKind.wrap .i64 (shr .u64 (IntKind.wrap .u64 (IntKind.wrap .i64 (a1 + a3))) 1)) + a2)) - r263)))))]) (by kernel_rfl) ?_
              refine gl_atE (by kernel_rfl) ?_
              exact ge_mid fun t ht => ⟨(Imm.refl _), rfl, by rw [(show b309 = (decide (a2 < (IntKind.wrap .i64 ((IntKind.wrap .i64 ((IntKind.wrap .i64 (shr .u64 (IntKind.wrap .u64 (IntKind.wrap .i64 (a1 + a3))) 1)) + a2)) - r263)))) from hb310.trans (by first | (rw [hc312]; done) | (rw [hc312]; rfl) | (simp [hc312]; done) | (simp only [hc312]; rfl) | (simp at *; omega)))]; exact ht.pick (l := [0, 1, 2, 3, 4, 18, 20, 24, 185]) (by kernel_rfl)⟩
            · refine gl_pure 4 [0, 1, 2, 3, 4, 18, 20, 24, 185] (K' := [(0, .slice A0 a0.length c0), (1, .int .i64 a1), (2, .int .i64 a2), (3, .int .i64 a3), (4, .func (.func 145) #[] #[]), (18, .int .i64 (IntKind.wrap .i64 (shr .u64 (IntKind.wrap .u64 (IntKind.wrap .i64 (a1 + a3))) 1))), (20, .int .i64 r263), (24, .int .i64 (IntKind.wrap .i64 ((IntKind.wrap .i64 ((IntKind.wrap .i64 (shr .u64 (IntKind.wrap .u64 (IntKind.wrap .i64 (a1 + a3))) 1)) + a2)) - r263))), (185, .bool false)]) (by kernel_rfl) ?_
              refine gl_atE (by kernel_rfl) ?_
              exact ge_mid fun t ht => ⟨(Imm.refl _), rfl, by rw [(show b309 = false from hb310.trans (by first | (rw [hc312]; done) | (rw [hc312]; rfl) | (simp [hc312]; done) | (simp only [hc312]; rfl) | (simp at *; omega)))]; exact ht.pick (l := [0, 1, 2, 3, 4, 18, 20, 24, 185]) (by kernel_rfl)⟩
          · rintro t I311 L' ⟨hI307, rfl, hK308⟩
            subst hb310
            refine ge_at hK308 ?_
            refine ge_seq ?_
            obtain ⟨j313, hj314, hr⟩ := bind_some hr
            refine gk_join (fun t I' L' => ∃ C316, OwnS Kd.flt 37 I' A0 c0 j313 C316 ∧ (j313.length = a0.length) ∧ I311 ≤ I' ∧ C316 ++ L = L' ∧ Knows 220 [(0, .slice A0 j313.length c0), (1, .int .i64 a1), (3, .int .i64 a3), (4, .func (.func 145) #[] #[]), (18, .int .i64 (IntKind.wrap .i64 (shr .u64 (IntKind.wrap .u64 (IntKind.wrap .i64 (a1 + a3))) 1))), (20, .int .i64 r263), (24, .int .i64 (IntKind.wrap .i64 ((IntKind.wrap .i64 ((IntKind.wrap .i64 (shr .u64 (IntKind.wrap .u64 (IntKind.wrap .i64 (a1 + a3))) 1)) + a2)) - r263)))] t) ?_ ?_
            · refine gk_cond (b := ((decide (r263 < a2)) && (decide (a2 < (IntKind.wrap .i64 ((IntKind.wrap .i64 ((IntKind.wrap .i64 (shr .u64 (IntKind.wrap .u64 (IntKind.wrap .i64 (a1 + a3))) 1)) + a2)) - r263)))))) (by kernel_rfl) (by kernel_rfl) (fun hc321 => ?_) (fun hc321 => ?_)
              · have hj314 := cond_t hc321 hj314
                refine gk_region (by kernel_rfl) ?_
                refine gl_pure 5 [0, 1, 3, 4, 18, 20, 24, 186, 187, 188, 189, 190] (K' := [(0, .slice A0 a0.length c0), (1, .int .i64 a1), (3, .int .i64 a3), (4, .func (.func 145) #[] #[]), (18, .int .i64 (IntKind.wrap .i64 (shr .u64 (IntKind.wrap .u64 (IntKind.wrap .i64 (a1 + a3))) 1))), (20, .int .i64 r263), (24, .int .i64 (IntKind.wrap .i64 ((IntKind.wrap .i64 ((IntKind.wrap .i64 (shr .u64 (IntKind.wrap .u64 (IntKind.wrap .i64 (a1 + a3))) 1)) + a2)) - r263))), (186, .slice A0 a0.length c0), (187, .int .i64 r263), (188, .int .i64 a2), (189, .int .i64 (IntKind.wrap .i64 ((IntKind.wrap .i64 ((IntKind.wrap .i64 (shr .u64 (IntKind.wrap .u64 (IntKind.wrap .i64 (a1 + a3))) 1)) + a2)) - r263))), (190, .func (.func 145) #[] #[])]) (by kernel_rfl) ?_
                obtain ⟨y322, hx323, hj314⟩ := bind_some hj314
                refine gl_call (by kernel_rfl) (slices_rotateCmpFunc_walk (r := y322) (A0 := A0) (c0 := c0) (C0 := C0) (a0 := a0) (hO0.mono (Imm.trans (Imm.trans hI255 hI271) hI307)) hx323 _) ?_
                rintro v I324 L325 hI326 ⟨C327, hO328, hO329, rfl, rfl⟩
                refine gl_pick [0, 1, 3, 4, 18, 20, 24, 186, 187, 188, 189, 190, 191] (K' := [(0, .slice A0 a0.length c0), (1, .int .i64 a1), (3, .int .i64 a3), (4, .func (.func 145) #[] #[]), (18, .int .i64 (IntKind.wrap .i64 (shr .u64 (IntKind.wrap .u64 (IntKind.wrap .i64 (a1 + a3))) 1))), (20, .int .i64 r263), (24, .int .i64 (IntKind.wrap .i64 ((IntKind.wrap .i64 ((IntKind.wrap .i64 (shr .u64 (IntKind.wrap .u64 (IntKind.wrap .i64 (a1 + a3))) 1)) + a2)) - r263))), (186, .slice A0 a0.length c0), (187, .int .i64 r263), (188, .int .i64 a2), (189, .int .i64 (IntKind.wrap .i64 ((IntKind.wrap .i64 ((IntKind.wrap .i64 (shr .u64 (IntKind.wrap .u64 (IntKind.wrap .i64 (a1 + a3))) 1)) + a2)) - r263))), (190, .func (.func 145) #[] #[]), (191, .tuple #[])]) (by kernel_rfl) ?_
                refine gl_kv (congrArg (fun (zz : Nat) => ([(0, .slice A0 zz c0), (1, .int .i64 a1), (3, .int .i64 a3), (4, .func (.func 145) #[] #[]), (18, .int .i64 (IntKind.wrap .i64 (shr .u64 (IntKind.wrap .u64 (IntKind.wrap .i64 (a1 + a3))) 1))), (20, .int .i64 r263), (24, .int .i64 (IntKind.wrap .i64 ((IntKind.wrap .i64 ((IntKind.wrap .i64 (shr .u64 (IntKind.wrap .u64 (IntKind.wrap .i64 (a1 + a3))) 1)) + a2)) - r263))), (186, .slice A0 zz c0), (187, .int .i64 r263), (188, .int .i64 a2), (189, .int .i64 (IntKind.wrap .i64 ((IntKind.wrap .i64 ((IntKind.wrap .i64 (shr .u64 (IntKind.wrap .u64 (IntKind.wrap .i64 (a1 + a3))) 1)) + a2)) - r263))), (190, .func (.func 145) #[] #[]), (191, .tuple #[])] : KV)) hO329.symm) ?_
                refine gl_atE (by kernel_rfl) ?_
                obtain rfl := some_inj hj314
                exact ge_mid fun t ht => ⟨C327, hO328, (Eq.trans hO329 rfl), hI326, rfl, ht.pick (l := [0, 1, 3, 4, 18, 20, 24]) (by kernel_rfl)⟩
              · have hj314 := cond_f hc321 hj314
                refine gk_skip (by kernel_rfl) ?_
                obtain rfl := some_inj hj314
                exact ge_mid fun t ht => ⟨C0, (hO0.mono (Imm.trans (Imm.trans hI255 hI271) hI307)), rfl, (Imm.refl _), rfl, ht.pick (l := [0, 1, 3, 4, 18, 20, 24]) (by kernel_rfl)⟩
            · rintro t I320 L' ⟨C316, hO317, hL318, hI315, rfl, hK319⟩
              refine ge_at hK319 ?_
              refine ge_seq ?_
              refine gk_seq (by kernel_rfl) ?_
              refine gk_seq (by kernel_rfl) ?_
              obtain ⟨b332, hb333⟩ : ∃ z, z = ((decide (a1 < r263)) && (decide (r263 < (IntKind.wrap .i64 (shr .u64 (IntKind.wrap .u64 (IntKind.wrap .i64 (a1 + a3))) 1))))) := ⟨_, rfl⟩
              refine gk_join (fun t I' L' => I320 ≤ I' ∧ C316 ++ L = L' ∧ Knows 220 [(0, .slice A0 j313.length c0), (1, .int .i64 a1), (3, .int .i64 a3), (4, .func (.func 145) #[] #[]), (18, .int .i64 (IntKind.wrap .i64 (shr .u64 (IntKind.wrap .u64 (IntKind.wrap .i64 (a1 + a3))) 1))), (20, .int .i64 r263), (24, .int .i64 (IntKind.wrap .i64 ((IntKind.wrap .i64 ((IntKind.wrap .i64 (shr .u64 (IntKind.wrap .u64 (IntKind.wrap .i64 (a1 + a3))) 1)) + a2)) - r263))), (199, .bool b332)] t) ?_ ?_
              · refine gk_region (by kernel_rfl) ?_
                refine gl_pure 4 [0, 1, 3, 4, 18, 20, 24, 195] (K' := [(0, .slice A0 j313.length c0), (1, .int .i64 a1), (3, .int .i64 a3), (4, .func (.func 145) #[] #[]), (18, .int .i64 (IntKind.wrap .i64 (shr .u64 (IntKind.wrap .u64 (IntKind.wrap .i64 (a1 + a3))) 1))), (20, .int .i64 r263), (24, .int .i64 (IntKind.wrap .i64 ((IntKind.wrap .i64 ((IntKind.wrap .i64 (shr .u64 (IntKind.wrap .u64 (IntKind.wrap .i64 (a1 + a3))) 1)) + a2)) - r263))), (195, .bool (decide (a1 < r263)))]) (by kernel_rfl) ?_
                refine gl_case 195 (b := (decide (a1 < r263))) (by kernel_rfl) (fun hc335 => ?_) (fun hc335 => ?_)
                · refine gl_pure 4 [0, 1, 3, 4, 18, 20, 24, 199] (K' := [(0, .slice A0 j313.length c0), (1, .int .i64 a1), (3, .int .i64 a3), (4, .func (.func 145) #[] #[]), (18, .int .i64 (IntKind.wrap .i64 (shr .u64 (IntKind.wrap .u64 (IntKind.wrap .i64 (a1 + a3))) 1))), (20, .int .i64 r263), (24, .int .i64 (IntKind.wrap .i64 ((IntKind.wrap .i64 ((IntKind.wrap .i64 (shr .u64 (IntKind.wrap .u64 (IntKind.wrap .i64 (a1 + a3))) 1)) + a2)) - r263))), (199, .bool (decide (r263 < (IntKind.wrap .i64 (shr .u64 (IntKind.wrap .u64 (IntKind.wrap .i64 (a1 + a3))) 1)))))]) (by kernel_rfl) ?_
                  refine gl_atE (by kernel_rfl) ?_
                  exact ge_mid fun t ht => ⟨(Imm.refl _), rfl, by rw [(show b332 = (decide (r263 < (IntKind.wrap .i64 (shr .u64 (IntKind.wrap .u64 (IntKind.wrap .i64 (a1 + a3))) 1)))) from hb333.trans (by first | (rw [hc335]; done) | (rw [hc335]; rfl) | (simp [hc335]; done) | (simp only [hc335]; rfl) | (simp at *; omega)))]; exact ht.pick (l := [0, 1, 3, 4, 18, 20, 24, 199]) (by kernel_rfl)⟩
                · refine gl_pure 4 [0, 1, 3, 4, 18, 20, 24, 199] (K' := [(0, .slice A0 j313.length c0), (1, .int .i64 a1), (3, .int .i64 a3), (4, .func (.func 145) #[] #[]), (18, .int .i64 (IntKind.wrap .i64 (shr .u64 (IntKind.wrap .u64 (IntKind.wrap .i64 (a1 + a3))) 1))), (20, .int .i64 r263), (24, .int .i64 (IntKind.wrap .i64 ((IntKind.wrap .i64 ((IntKind.wrap .i64 (shr .u64 (IntKind.wrap .u64 (IntKind.wrap .i64 (a1 + a3))) 1)) + a2)) - r263))), (199, .bool false)]) (by kernel_rfl) ?_
                  refine gl_atE (by kernel_rfl) ?_
                  exact ge_mid fun t ht => ⟨(Imm.refl _), rfl, by rw [(show b332 = false from hb333.trans (by first | (rw [hc335]; done) | (rw [hc335]; rfl) | (simp [hc335]; done) | (simp only [hc335]; rfl) | (simp at *; omega)))]; exact ht.pick (l := [0, 1, 3, 4, 18, 20, 24, 199]) (by kernel_rfl)⟩
              · rintro t I334 L' ⟨hI330, rfl, hK331⟩
                subst hb333
                refine ge_at hK331 ?_
                refine ge_seq ?_
                obtain ⟨j336, hj337, hr⟩ := bind_some hr
                refine gk_join (fun t I' L' => ∃ C339, OwnS Kd.flt 37 I' A0 c0 j336 C339 ∧ (j336.length = a0.length) ∧ I334 ≤ I' ∧ C339 ++ L = L' ∧ Knows 220 [(0, .slice A0 j336.length c0), (3, .int .i64 a3), (4, .func (.func 145) #[] #[]), (18, .int .i64 (IntKind.wrap .i64 (shr .u64 (IntKind.wrap .u64 (IntKind.wrap .i64 (a1 + a3))) 1))), (24, .int .i64 (IntKind.wrap .i64 ((IntKind.wrap .i64 ((IntKind.wrap .i64 (shr .u64 (IntKind.wrap .u64 (IntKind.wrap .i64 (a1 + a3))) 1)) + a2)) - r263)))] t) ?_ ?_
                · refine gk_cond (b := ((decide (a1 < r263)) && (decide (r263 < (IntKind.wrap .i64 (shr .u64 (IntKind.wrap .u64 (IntKind.wrap .i64 (a1 + a3))) 1)))))) (by kernel_rfl) (by kernel_rfl) (fun hc344 => ?_) (fun hc344 => ?_)
                  · have hj337 := cond_t hc344 hj337
                    refine gk_region (by kernel_rfl) ?_
                    refine gl_pure 5 [0, 3, 4, 18, 24, 200, 201, 202, 203, 204] (K' := [(0, .slice A0 j313.length c0), (3, .int .i64 a3), (4, .func (.func 145) #[] #[]), (18, .int .i64 (IntKind.wrap .i64 (shr .u64 (IntKind.wrap .u64 (IntKind.wrap .i64 (a1 + a3))) 1))), (24, .int .i64 (IntKind.wrap .i64 ((IntKind.wrap .i64 ((IntKind.wrap .i64 (shr .u64 (IntKind.wrap .u64 (IntKind.wrap .i64 (a1 + a3))) 1)) + a2)) - r263))), (200, .slice A0 j313.length c0), (201, .int .i64 a1), (202, .int .i64 r263), (203, .int .i64 (IntKind.wrap .i64 (shr .u64 (IntKind.wrap .u64 (IntKind.wrap .i64 (a1 + a3))) 1))), (204, .func (.func 145) #[] #[])]) (by kernel_rfl) ?_
                    obtain ⟨y345, hx346, hj337⟩ := bind_some hj337
                    refine gl_call (by kernel_rfl) (rec__walk (r := y345) (A0 := A0) (c0 := c0) (C0 := C316) (a0 := j313) (hO317.mono hI330) hx346 _) ?_
                    rintro v I347 L348 hI349 ⟨C350, hO351, hO352, rfl, rfl⟩
                    refine gl_pick [0, 3, 4, 18, 24, 200, 201, 202, 203, 204, 205] (K' := [(0, .slice A0 j313.length c0), (3, .int .i64 a3), (4, .func (.func 145) #[] #[]), (18, .int .i64 (IntKind.wrap .i64 (shr .u64 (IntKind.wrap .u64 (IntKind.wrap .i64 (a1 + a3))) 1))), (24, .int .i64 (IntKind.wrap .i64 ((IntKind.wrap .i64 ((IntKind.wrap .i64 (shr .u64 (IntKind.wrap .u64 (IntKind.wrap .i64 (a1 + a3))) 1)) + a2)) - r263))), (200, .slice A0 j313.length c0), (201, .int .i64 a1), (202, .int .i64 r263), (203, .int .i64 (IntKind.wrap .i64 (shr .u64 (IntKind.wrap .u64 (IntKind.wrap .i64 (a1 + a3))) 1))), (204, .func (.func 145) #[] #[]), (205, .tuple #[])]) (by kernel_rfl) ?_
                    refine gl_kv (congrArg (fun (zz : Nat) => ([(0, .slice A0 zz c0), (3, .int .i64 a3), (4, .func (.func 145) #[] #[]), (18, .int .i64 (IntKind.wrap .i64 (shr .u64 (IntKind.wrap .u64 (IntKind.wrap .i64 (a1 + a3))) 1))), (24, .int .i64 (IntKind.wrap .i64 ((IntKind.wrap .i64 ((IntKind.wrap .i64 (shr .u64 (IntKind.wrap .u64 (IntKind.wrap .i64 (a1 + a3))) 1)) + a2)) - r263))), (200, .slice A0 zz c0), (201, .int .i64 a1), (202, .int .i64 r263), (203, .int .i64 (IntKind.wrap .i64 (shr .u64 (IntKind.wrap .u64 (IntKind.wrap .i64 (a1 + a3))) 1))), (204, .func (.func 145) #[] #[]), (205, .tuple #[])] : KV)) hO352.symm) ?_
                    refine gl_atE (by kernel_rfl) ?_
                    obtain rfl := some_inj hj337
                    exact ge_mid fun t ht => ⟨C350, hO351, (Eq.trans hO352 hL318), hI349, rfl, ht.pick (l := [0, 3, 4, 18, 24]) (by kernel_rfl)⟩
                  · have hj337 := cond_f hc344 hj337
                    refine gk_skip (by kernel_rfl) ?_
                    obtain rfl := some_inj hj337
                    exact ge_mid fun t ht => ⟨C316, (hO317.mono hI330), hL318, (Imm.refl _), rfl, ht.pick (l := [0, 3, 4, 18, 24]) (by kernel_rfl)⟩
                · rintro t I343 L' ⟨C339, hO340, hL341, hI338, rfl, hK342⟩
                  refine ge_at hK342 ?_
                  refine ge_seq ?_
                  refine gk_seq (by kernel_rfl) ?_
                  obtain ⟨b355, hb356⟩ : ∃ z, z = ((decide ((IntKind.wrap .i64 (shr .u64 (IntKind.wrap .u64 (IntKind.wrap .i64 (a1 + a3))) 1)) < (IntKind.wrap .i64 ((IntKind.wrap .i64 ((IntKind.wrap .i64 (shr .u64 (IntKind.wrap .u64 (IntKind.wrap .i64 (a1 + a3))) 1)) + a2)) - r263)))) && (decide ((IntKind.wrap .i64 ((IntKind.wrap .i64 ((IntKind.wrap .i64 (shr .u64 (IntKind.wrap .u64 (IntKind.wrap .i64 (a1 + a3))) 1)) + a2)) - r263)) < a3))) := ⟨_, rfl⟩
                  refine gk_join (fun t I' L' => I343 ≤ I' ∧ C339 ++ L = L' ∧ Knows 220 [(0, .slice A0 j336.length c0), (3, .int .i64 a3), (4, .func (.func 145) #[] #[]), (18, .int .i64 (IntKind.wrap .i64 (shr .u64 (IntKind.wrap .u64 (IntKind.wrap .i64 (a1 + a3))) 1))), (24, .int .i64 (IntKind.wrap .i64 ((IntKind.wrap .i64 ((IntKind.wrap .i64 (shr .u64 (IntKind.wrap .u64 (IntKind.wrap .i64 (a1 + a3))) 1)) + a2)) - r263))), (213, .bool b355)] t) ?_ ?_
                  · refine gk_region (by kernel_rfl) ?_
                    refine gl_pure 4 [0, 3, 4, 18, 24, 209] (K' := [(0, .slice A0 j336.length c0), (3, .int .i64 a3), (4, .func (.func 145) #[] #[]), (18, .int .i64 (IntKind.wrap .i64 (shr .u64 (IntKind.wrap .u64 (IntKind.wrap .i64 (a1 + a3))) 1))), (24, .int .i64 (IntKind.wrap .i64 ((IntKind.wrap .i64 ((IntKind.wrap .i64 (shr .u64 (IntKind.wrap .u64 (IntKind.wrap .i64 (a1 + a3))) 1)) + a2)) - r263))), (209, .bool (decide ((IntKind.wrap .i64 (shr .u64 (IntKind.wrap .u64 (IntKind.wrap .i64 (a1 + a3))) 1)) < (IntKind.wrap .i64 ((IntKind.wrap .i64 ((IntKind.wrap .i64 (shr .u64 (IntKind.wrap .u64 (IntKind.wrap .i64 (a1 + a3))) 1)) + a2)) - r263)))))]) (by kernel_rfl) ?_
                    refine gl_case 209 (b := (decide ((IntKind.wrap .i64 (shr .u64 (IntKind.wrap .u64 (IntKind.wrap .i64 (a1 + a3))) 1)) < (IntKind.wrap .i64 ((IntKind.wrap .i64 ((IntKind.wrap .i64 (shr .u64 (IntKind.wrap .u64 (IntKind.wrap .i64 (a1 + a3))) 1)) + a2)) - r263))))) (by kernel_rfl) (fun hc358 => ?_) (fun hc358 => ?_)
                    · refine gl_pure 4 [0, 3, 4, 18, 24, 213] (K' := [(0, .slice A0 j336.length c0), (3, .int .i64 a3), (4, .func (.func 145) #[] #[]), (18, .int .i64 (IntKind.wrap .i64 (shr .u64 (IntKind.wrap .u64 (IntKind.wrap .i64 (a1 + a3))) 1))), (24, .int .i64 (IntKind.wrap .i64 ((IntKind.wrap .i64 ((IntKind.wrap .i64 (shr .u64 (IntKind.wrap .u64 (IntKind.wrap .i64 (a1 + a3))) 1)) + a2)) - r263))), (213, .bool (decide ((IntKind.wrap .i64 ((IntKind.wrap .i64 ((IntKind.wrap .i64 (shr .u64 (IntKind.wrap .u64 (IntKind.wrap .i64 (a1 + a3))) 1)) + a2)) - r263)) < a3)))]) (by kernel_rfl) ?_
                      refine gl_atE (by kernel_rfl) ?_
                      exact ge_mid fun t ht => ⟨(Imm.refl _), rfl, by rw [(show b355 = (decide ((IntKind.wrap .i64 ((IntKind.wrap .i64 ((IntKind.wrap .i64 (shr .u64 (IntKind.wrap .u64 (IntKind.wrap .i64 (a1 + a3))) 1)) + a2)) - r263)) < a3)) from hb356.trans (by first | (rw [hc358]; done) | (rw [hc358]; rfl) | (simp [hc358]; done) | (simp only [hc358]; rfl) | (simp at *; omega)))]; exact ht.pick (l := [0, 3, 4, 18, 24, 213]) (by kernel_rfl)⟩
                    · refine gl_pure 4 [0, 3, 4, 18, 24, 213] (K' := [(0, .slice A0 j336.length c0), (3, .int .i64 a3), (4, .func (.func 145) #[] #[]), (18, .int .i64 (IntKind.wrap .i64 (shr .u64 (IntKind.wrap .u64 (IntKind.wrap .i64 (a1 + a3))) 1))), (24, .int .i64 (IntKind.wrap .i64 ((IntKind.wrap .i64 ((IntKind.wrap .i64 (shr .u64 (IntKind.wrap .u64 (IntKind.wrap .i64 (a1 + a3))) 1)) + a2)) - r263))), (213, .bool false)]) (by kernel_rfl) ?_
                      refine gl_atE (by kernel_rfl) ?_
                      exact ge_mid fun t ht => ⟨(Imm.refl _), rfl, by rw [(show b355 = false from hb356.trans (by first | (rw [hc358]; done) | (rw [hc358]; rfl) | (simp [hc358]; done) | (simp only [hc358]; rfl) | (simp at *; omega)))]; exact ht.pick (l := [0, 3, 4, 18, 24, 213]) (by kernel_rfl)⟩
                  · rintro t I357 L' ⟨hI353, rfl, hK354⟩
                    subst hb356
                    refine ge_at hK354 ?_
                    refine ge_seq ?_
                    obtain ⟨j359, hj360, hr⟩ := bind_some hr
                    refine gk_join (fun t I' L' => ∃ C362, OwnS Kd.flt 37 I' A0 c0 j359 C362 ∧ (j359.length = a0.length) ∧ I357 ≤ I' ∧ C362 ++ L = L' ∧ Knows 220 [(0, .slice A0 j359.length c0)] t) ?_ ?_
                    · refine gk_cond (b := ((decide ((IntKind.wrap .i64 (shr .u64 (IntKind.wrap .u64 (IntKind.wrap .i64 (a1 + a3))) 1)) < (IntKind.wrap .i64 ((IntKind.wrap .i64 ((IntKind.wrap .i64 (shr .u64 (IntKind.wrap .u64 (IntKind.wrap .i64 (a1 + a3))) 1)) + a2)) - r263)))) && (decide ((IntKind.wrap .i64 ((IntKind.wrap .i64 ((IntKind.wrap .i64 (shr .u64 (IntKind.wrap .u64 (IntKind.wrap .i64 (a1 + a3))) 1)) + a2)) - r263)) < a3)))) (by kernel_rfl) (by kernel_rfl) (fun hc367 => ?_) (fun hc367 => ?_)
                      · have hj360 := cond_t hc367 hj360
                        refine gk_region (by kernel_rfl) ?_
                        refine gl_pure 5 [0, 214, 215, 216, 217, 218] (K' := [(0, .slice A0 j336.length c0), (214, .slice A0 j336.length c0), (215, .int .i64 (IntKind.wrap .i64 (shr .u64 (IntKind.wrap .u64 (IntKind.wrap .i64 (a1 + a3))) 1))), (216, .int .i64 (IntKind.wrap .i64 ((IntKind.wrap .i64 ((IntKind.wrap .i64 (shr .u64 (IntKind.wrap .u64 (IntKind.wrap .i64 (a1 + a3))) 1)) + a2)) - r263))), (217, .int .i64 a3), (218, .func (.func 145) #[] #[])]) (by kernel_rfl) ?_
                        obtain ⟨y368, hx369, hj360⟩ := bind_some hj360
                        refine gl_call (by kernel_rfl) (rec__walk (r := y368) (A0 := A0) (c0 := c0) (C0 := C339) (a0 := j336) (hO340.mono hI353) hx369 _) ?_
                        rintro v I370 L371 hI372 ⟨C373, hO374, hO375, rfl, rfl⟩
                        refine gl_pick [0, 214, 215, 216, 217, 218, 219] (K' := [(0, .slice A0 j336.length c0), (214, .slice A0 j336.length c0), (215, .int .i64 (IntKind.wrap .i64 (shr .u64 (IntKind.wrap .u64 (IntKind.wrap .i64 (a1 + a3))) 1))), (216, .int .i64 (IntKind.wrap .i64 ((IntKind.wrap .i64 ((IntKind.wrap .i64 (shr .u64 (IntKind.wrap .u64 (IntKind.wrap .i64 (a1 + a3))) 1)) + a2)) - r263))), (217, .int .i64 a3), (218, .func (.func 145) #[] #[]), (219, .tuple #[])]) (by kernel_rfl) ?_
                        refine gl_kv (congrArg (fun (zz : Nat) => ([(0, .slice A0 zz c0), (214, .slice A0 zz c0), (215, .int .i64 (IntKind.wrap .i64 (shr .u64 (IntKind.wrap .u64 (IntKind.wrap .i64 (a1 + a3))) 1))), (216, .int .i64 (IntKind.wrap .i64 ((IntKind.wrap .i64 ((IntKind.wrap .i64 (shr .u64 (IntKind.wrap .u64 (IntKind.wrap .i64 (a1 + a3))) 1)) + a2)) - r263))), (217, .int .i64 a3), (218, .func (.func 145) #[] #[]), (219, .tuple #[])] : KV)) hO375.symm) ?_
                        refine gl_atE (by kernel_rfl) ?_
                        obtain rfl := some_inj hj360
                        exact ge_mid fun t ht => ⟨C373, hO374, (Eq.trans hO375 hL341), hI372, rfl, ht.pick (l := [0]) (by kernel_rfl)⟩
                      · have hj360 := cond_f hc367 hj360
                        refine gk_skip (by kernel_rfl) ?_
                        obtain rfl := some_inj hj360
                        exact ge_mid fun t ht => ⟨C339, (hO340.mono hI353), hL341, (Imm.refl _), rfl, ht.pick (l := [0]) (by kernel_rfl)⟩
                    · rintro t I366 L' ⟨C362, hO363, hL364, hI361, rfl, hK365⟩
                      refine ge_at hK365 ?_
                      obtain rfl := some_inj hr
                      exact ge_result trivial ResOk.nil (Imm.trans (Imm.trans (Imm.trans (Imm.trans (Imm.trans (Imm.trans (Imm.trans hI255 hI271) hI307) hI315) hI330) hI338) hI353) hI361) ⟨C362, hO363, hL364, rfl, rfl⟩
theorem slices_symMergeCmpFunc_walk {a0 : List Fl} {A0 : Option Addr} {c0 : Nat} {C0 : Own} {a1 : Int} {a2 : Int} {a3 : Int} {I : Imm} {r : (List Fl)} (hO0 : OwnS Kd.flt 37 I A0 c0 a0 C0) (hr : slices_symMergeCmpFunc a0 a1 a2 a3 = some r) (L : Own) :
    CallsTo Tryz.prog 194 #[.slice A0 a0.length c0, .int .i64 a1, .int .i64 a2, .int .i64 a3, .func (.func 145) #[] #[]] I (C0 ++ L) (fun v I' L' => ∃ C0, OwnS Kd.flt 37 I' A0 c0 r C0 ∧ r.length = a0.length ∧ v = .tuple #[] ∧ C0 ++ L = L') := by
  have key : ∀ n : Nat, ∀ {a0 : List Fl} {A0 : Option Addr} {c0 : Nat} {C0 : Own} {a1 : Int} {a2 : Int} {a3 : Int} {I : Imm} {r : (List Fl)} (hO0 : OwnS Kd.flt 37 I A0 c0 a0 C0) (hr : iterF (fun (rec_ : ((List Fl) × Int × Int × Int) → Option (List Fl)) (x : (List Fl) × Int × Int × Int) => slices_symMergeCmpFunc_b (fun a0 a1 a2 a3 => rec_ (a0, a1, a2, a3)) x.1 x.2.1 x.2.2.1 x.2.2.2) n (a0, a1, a2, a3) = some r) (L : Own), CallsTo Tryz.prog 194 #[.slice A0 a0.length c0, .int .i64 a1, .int .i64 a2, .int .i64 a3, .func (.func 145) #[] #[]] I (C0 ++ L) (fun v I' L' => ∃ C0, OwnS Kd.flt 37 I' A0 c0 r C0 ∧ r.length = a0.length ∧ v = .tuple #[] ∧ C0 ++ L = L') := by
    intro n
    induction n with
    | zero => intro _ _ _ _ _ _ _ _ _ _ hr _; cases hr
    | succ n ih => intro a0 A0 c0 C0 a1 a2 a3 I r hO0 hr L; exact slices_symMergeCmpFunc_b_walk (rec_ := fun a0 a1 a2 a3 => iterF (fun (rec_ : ((List Fl) × Int × Int × Int) → Option (List Fl)) (x : (List Fl) × Int × Int × Int) => slices_symMergeCmpFunc_b (fun a0 a1 a2 a3 => rec_ (a0, a1, a2, a3)) x.1 x.2.1 x.2.2.1 x.2.2.2) n (a0, a1, a2, a3)) ih hO0 hr L
  exact key _ hO0 hr L
end Go.Proofs.YtkjkkimnjpodiaaGreatDoor
