/- Parts: L1a. -/
import Derived.Test.YtnlkfajnaelnnaaGreatDoorProg
import Derived.Test.YtnlkfajnaelnnaaGreatDoorChecked
import Derived.Test.YtnlkfajnaelnnaaGreatDoorM1y
import Derived.Test.YtnlkfajnaelnnaaGreatDoorT4y
import Derived.Lib.LaidU8T
import Derived.Shelf.Unicode.ValidAny
set_option linter.unusedVariables false
set_option linter.unusedSimpArgs false
set_option maxRecDepth 100000
namespace Go.Proofs.YtnlkfajnaelnnaaGreatDoor
open Go.GB
structure S145 where
  f0 : Int
  f1 : Int
def kS145 : Kd S145 := Kd.iso (Kd.pair (Kd.int .u8) (Kd.int .u8)) (fun x => (x.f0, x.f1))
theorem kS145_open {I : Imm} {x : S145} {cs : List Value} (h : kS145.R I x cs) : cs = [.int .u8 x.f0, .int .u8 x.f1] := by
  obtain ⟨_, _, rfl, h_0, h_1⟩ := h
  obtain rfl := h_0
  obtain rfl := h_1
  exact rfl
theorem kS145_mk {I : Imm} {x : S145}   : kS145.R I x [.int .u8 x.f0, .int .u8 x.f1] :=
  ⟨[.int .u8 x.f0], [.int .u8 x.f1], rfl, rfl, rfl⟩
def tab0 : List Int := (List.range 256).map fun c => (Go.Lib.firstT c : Int)
def tab1 : List S145 := (List.range 16).map fun i => ⟨(Go.Lib.accLo i : Int), (Go.Lib.accHi i : Int)⟩
structure Gl (I : Imm) : Prop where
  dr : I.dr = 0
  g0 : RepS (Kd.int .u8) I (some ⟨0, 0, none⟩) 256 tab0
  g1 : RepS kS145 I (some ⟨1, 0, none⟩) 16 tab1
theorem Gl.mono {I J : Imm} (h : Gl I) (hI : I ≤ J) : Gl J := ⟨hI.dr.trans h.dr, h.g0.mono hI, h.g1.mono hI⟩
structure S49 where
  f0 : ByteArray
  f1 : ByteArray
def kS49 : Kd S49 := Kd.iso (Kd.pair Kd.str Kd.str) (fun x => (x.f0, x.f1))
def wS49 (x : S49) (n : Nat) : Prop := ∃ n0 n1, n0 + n1 + 1 ≤ n ∧ wStr x.f0 n0 ∧ wStr x.f1 n1
theorem kS49_open {I : Imm} {x : S49} {cs : List Value} (h : kS49.R I x cs) : cs = [.string x.f0, .string x.f1] := by
  obtain ⟨_, _, rfl, h_0, h_1⟩ := h
  obtain rfl := h_0
  obtain rfl := h_1
  exact rfl
theorem kS49_mk {I : Imm} {x : S49}   : kS49.R I x [.string x.f0, .string x.f1] :=
  ⟨[.string x.f0], [.string x.f1], rfl, rfl, rfl⟩
structure Fn102 (I : Imm) (fv : Value) (f : S49 → S49 → Option Int) : Prop where
  out : ∀ I', I ≤ I' → ∀ (x0 : S49) (x1 : S49) (r : Int), f x0 x1 = some r → ∀ L, CallsV Tryz.prog fv [.agg #[.string x0.f0, .string x0.f1], .agg #[.string x1.f0, .string x1.f1]] I' L (fun v I' L' => v = .int .i64 r ∧ L = L')
theorem Fn102.mono {I J : Imm} {fv : Value} {f : S49 → S49 → Option Int} (h : Fn102 I fv f) (hI : I ≤ J) : Fn102 J fv f := ⟨fun I' hI' => h.out I' (Imm.trans hI hI')⟩
/-! 81 slices_CompareFunc  -/
/-! 119 bytealg_CompareString  -/
noncomputable def bytealg_CompareString (a0 : ByteArray) (a1 : ByteArray) : Int :=
  (Lib.compareBytes a0.data.toList a1.data.toList)
theorem bytealg_CompareString_walk {a0 : ByteArray} {a1 : ByteArray} {I : Imm} {r : Int}  (hr : bytealg_CompareString a0 a1 = r) (L : Own) :
    CallsTo Tryz.prog 119 #[.string a0, .string a1] I L (fun v I' L' => v = .int .i64 r ∧ L = L') := by
  replace hr : some (bytealg_CompareString a0 a1) = some r := congrArg some hr
  unfold bytealg_CompareString at hr
  refine callsTo_body (N := 8) Tryz.func119 (by kernel_rfl) (by kernel_rfl) (by kernel_rfl) ?_
  refine gk_pick [0, 1] (K' := [(0, .string a0), (1, .string a1)]) (by kernel_rfl) ?_
  refine gk_seq (by kernel_rfl) ?_
  refine gk_region (by kernel_rfl) ?_
  refine gl_pure 1 [0, 1] (K' := [(0, .string a0), (1, .string a1)]) (by kernel_rfl) ?_
  refine gl_atE (by kernel_rfl) ?_
  refine ge_seq ?_
  refine gk_seq (by kernel_rfl) ?_
  refine gk_region (by kernel_rfl) ?_
  refine gl_pure 2 [5, 6] (K' := [(5, .string a0), (6, .string a1)]) (by kernel_rfl) ?_
  refine gl_cmpstring (a := a0) (b := a1) Tryz.func136 (by kernel_rfl) (by kernel_rfl) (by kernel_rfl) (by kernel_rfl) (by kernel_rfl) (by kernel_rfl) ?_
  refine gl_pure 1 [4] (K' := [(4, .int .i64 (Lib.compareBytes a0.data.toList a1.data.toList))]) (by kernel_rfl) ?_
  refine gl_atE (by kernel_rfl) ?_
  refine ge_seq ?_
  refine gk_ret (by kernel_rfl) ?_
  obtain rfl := some_inj hr
  exact ge_result trivial (ResOk.tmp (by kernel_rfl) ResOk.nil) (Imm.refl _) ⟨rfl, rfl⟩
/-! 83 strings_Compare  -/
noncomputable def strings_Compare (a0 : ByteArray) (a1 : ByteArray) : Int :=
  (bytealg_CompareString a0 a1)
theorem strings_Compare_walk {a0 : ByteArray} {a1 : ByteArray} {I : Imm} {r : Int}  (hr : strings_Compare a0 a1 = r) (L : Own) :
    CallsTo Tryz.prog 83 #[.string a0, .string a1] I L (fun v I' L' => v = .int .i64 r ∧ L = L') := by
  replace hr : some (strings_Compare a0 a1) = some r := congrArg some hr
  unfold strings_Compare at hr
  refine callsTo_body (N := 8) Tryz.func83 (by kernel_rfl) (by kernel_rfl) (by kernel_rfl) ?_
  refine gk_pick [0, 1] (K' := [(0, .string a0), (1, .string a1)]) (by kernel_rfl) ?_
  refine gk_seq (by kernel_rfl) ?_
  refine gk_region (by kernel_rfl) ?_
  refine gl_pure 1 [0, 1] (K' := [(0, .string a0), (1, .string a1)]) (by kernel_rfl) ?_
  refine gl_atE (by kernel_rfl) ?_
  refine ge_seq ?_
  refine gk_seq (by kernel_rfl) ?_
  refine gk_region (by kernel_rfl) ?_
  refine gl_pure 2 [5, 6] (K' := [(5, .string a0), (6, .string a1)]) (by kernel_rfl) ?_
  refine gl_callQ (by kernel_rfl) (bytealg_CompareString_walk (r := (bytealg_CompareString a0 a1))  rfl _) ?_
  refine gl_pure 1 [4] (K' := [(4, .int .i64 (bytealg_CompareString a0 a1))]) (by kernel_rfl) ?_
  refine gl_atE (by kernel_rfl) ?_
  refine ge_seq ?_
  refine gk_ret (by kernel_rfl) ?_
  obtain rfl := some_inj hr
  exact ge_result trivial (ResOk.tmp (by kernel_rfl) ResOk.nil) (Imm.refl _) ⟨rfl, rfl⟩
/-! 82 labels_Compare_1  -/
/-! 33 labels_Compare  -/
/-! 84 tocsinref04_side  -/
/-! 34 tocsinref04_Compare  -/
/-! 27 tocsinlaw04_same  -/
noncomputable def tocsinlaw04_same_l18 (a0 : List S49) (a1 : List S49) : Int → Option ((Int) ⊕ ((Unit) ⊕ (Bool))) := fun s8 =>
  bif (decide (s8 < (a0.length : Int))) then
  (Option.bind (ix a0 s8) fun (x21 : S49) =>
    Option.bind (ix a1 s8) fun (x29 : S49) =>
    bif (!((x21.f0.toList == x29.f0.toList) && (x21.f1.toList == x29.f1.toList))) then
    (some (Sum.inr (Sum.inr false)))
    else
    (some (Sum.inl (IntKind.wrap .i64 (s8 + 1)))))
  else
  (some (Sum.inr (Sum.inl ())))
noncomputable def tocsinlaw04_same (a0 : List S49) (a1 : List S49) : Option Bool :=
  bif ((a0.length : Int) != (a1.length : Int)) then
  (some false)
  else
  (Option.bind (loopO (tocsinlaw04_same_l18 a0 a1) 0) fun (r6 : (Unit) ⊕ (Bool)) =>
    match r6 with
    | Sum.inl r14 => some true
    | Sum.inr v38 => some v38)
theorem tocsinlaw04_same_walk {a0 : List S49} {A0_0 : Option Addr} {n0_0 : Nat} {a1 : List S49} {A1_0 : Option Addr} {n1_0 : Nat} {I : Imm} {r : Bool}  (hf0_0 : RepS kS49 I A0_0 n0_0 a0)  (hf1_0 : RepS kS49 I A1_0 n1_0 a1) (hr : tocsinlaw04_same a0 a1 = some r) (L : Own) :
    CallsTo Tryz.prog 27 #[.slice A0_0 a0.length n0_0, .slice A1_0 a1.length n1_0] I L (fun v I' L' => v = .bool r ∧ L = L') := by
  unfold tocsinlaw04_same at hr
  refine callsTo_body (N := 26) Tryz.func27 (by kernel_rfl) (by kernel_rfl) (by kernel_rfl) ?_
  refine gk_pick [0, 1] (K' := [(0, .slice A0_0 a0.length n0_0), (1, .slice A1_0 a1.length n1_0)]) (by kernel_rfl) ?_
  refine gk_seq (by kernel_rfl) ?_
  refine gk_region (by kernel_rfl) ?_
  refine gl_pure 1 [0, 1] (K' := [(0, .slice A0_0 a0.length n0_0), (1, .slice A1_0 a1.length n1_0)]) (by kernel_rfl) ?_
  refine gl_atE (by kernel_rfl) ?_
  refine ge_seq ?_
  refine gk_seq (by kernel_rfl) ?_
  refine gk_seq (by kernel_rfl) ?_
  refine gk_region (by kernel_rfl) ?_
  refine gl_pure 5 [0, 1, 10] (K' := [(0, .slice A0_0 a0.length n0_0), (1, .slice A1_0 a1.length n1_0), (10, .bool ((a0.length : Int) != (a1.length : Int)))]) (by kernel_rfl) ?_
  refine gl_atE (by kernel_rfl) ?_
  refine ge_seq ?_
  refine gk_cond (b := ((a0.length : Int) != (a1.length : Int))) (by kernel_rfl) (by kernel_rfl) (fun hc1 => ?_) (fun hc1 => ?_)
  · have hr := cond_t hc1 hr
    refine gk_seq (by kernel_rfl) ?_
    refine gk_region (by kernel_rfl) ?_
    refine gl_pure 1 [4] (K' := [(4, .bool false)]) (by kernel_rfl) ?_
    refine gl_atE (by kernel_rfl) ?_
    refine ge_seq ?_
    refine gk_ret (by kernel_rfl) ?_
    refine ge_seq_ret ?_
    obtain rfl := some_inj hr
    exact ge_result trivial (ResOk.tmp (by kernel_rfl) ResOk.nil) (Imm.refl _) ⟨rfl, rfl⟩
  · have hr := cond_f hc1 hr
    refine gk_skip (by kernel_rfl) ?_
    refine ge_seq ?_
    refine gk_seq (by kernel_rfl) ?_
    refine gk_seq (by kernel_rfl) ?_
    refine gk_region (by kernel_rfl) ?_
    refine gl_pure 3 [0, 1, 12, 13] (K' := [(0, .slice A0_0 a0.length n0_0), (1, .slice A1_0 a1.length n1_0), (12, .int .i64 (a0.length : Int)), (13, .int .i64 0)]) (by kernel_rfl) ?_
    refine gl_atE (by kernel_rfl) ?_
    refine ge_seq ?_
    obtain ⟨r6, hl7, hr⟩ := bind_some hr
    refine gk_join (fun t I' L' => ∃ r14, r6 = Sum.inl r14 ∧ I ≤ I' ∧ L = L' ∧ Knows 26 [] t) ?_ ?_
    · refine gk_block (by kernel_rfl) ?_
      refine gk_pick [0, 1, 12, 13] (K' := [(0, .slice A0_0 a0.length n0_0), (1, .slice A1_0 a1.length n1_0), (12, .int .i64 (a0.length : Int)), (13, .int .i64 0)]) (by kernel_rfl) ?_
      intro t hK
      refine gc_loop (tocsinlaw04_same_l18 a0 a1) (fun s8 t I' L' => I ≤ I' ∧ L = L' ∧ Knows 26 [(0, .slice A0_0 a0.length n0_0), (1, .slice A1_0 a1.length n1_0), (12, .int .i64 (a0.length : Int)), (13, .int .i64 s8)] t) (by kernel_rfl) ?_ hl7 ⟨(Imm.refl _), rfl, hK⟩
      rintro s8 o9 t I13 L' hb10 ⟨hI11, rfl, hK12⟩
      unfold tocsinlaw04_same_l18 at hb10
      refine gk_at hK12 ?_
      refine gk_seq (by kernel_rfl) ?_
      refine gk_region (by kernel_rfl) ?_
      refine gl_pure 1 [0, 1, 12, 13, 14] (K' := [(0, .slice A0_0 a0.length n0_0), (1, .slice A1_0 a1.length n1_0), (12, .int .i64 (a0.length : Int)), (13, .int .i64 s8), (14, .bool (decide (s8 < (a0.length : Int))))]) (by kernel_rfl) ?_
      refine gl_atE (by kernel_rfl) ?_
      refine ge_seq ?_
      refine gk_seq (by kernel_rfl) ?_
      refine gk_cond (b := (decide (s8 < (a0.length : Int)))) (by kernel_rfl) (by kernel_rfl) (fun hc20 => ?_) (fun hc20 => ?_)
      · have hb10 := cond_t hc20 hb10
        refine gk_skip (by kernel_rfl) ?_
        refine ge_seq ?_
        refine gk_seq (by kernel_rfl) ?_
        refine gk_block (by kernel_rfl) ?_
        refine gk_seq (by kernel_rfl) ?_
        refine gk_region (by kernel_rfl) ?_
        refine gl_pure 2 [0, 1, 5, 12, 13] (K' := [(0, .slice A0_0 a0.length n0_0), (1, .slice A1_0 a1.length n1_0), (5, .int .i64 s8), (12, .int .i64 (a0.length : Int)), (13, .int .i64 s8)]) (by kernel_rfl) ?_
        refine gl_atE (by kernel_rfl) ?_
        refine ge_seq ?_
        refine gk_seq (by kernel_rfl) ?_
        refine gk_draw 9 [(0, true), (1, true), (2, true), (3, true), (4, true), (5, true), (6, true), (7, true), (8, true)] [] (fun p hp => by cases hp) (by kernel_rfl) (by kernel_rfl) (by kernel_rfl) ?_ (by kernel_rfl)
        refine gd_pure 2 [0, 1, 5, 12, 13, 16, 17] (K' := [(0, .slice A0_0 a0.length n0_0), (1, .slice A1_0 a1.length n1_0), (5, .int .i64 s8), (12, .int .i64 (a0.length : Int)), (13, .int .i64 s8), (16, .slice A0_0 a0.length n0_0), (17, .int .i64 s8)]) (s' := [(2, true), (3, true), (4, true), (5, true), (6, true), (7, true), (8, true)]) (CC.refl (fun p hp => by cases hp)) (by kernel_rfl) ?_
        obtain ⟨x21, hx22, hb10⟩ := bind_some hb10
        obtain ⟨p23, cs24, hR25, hA26, ha27⟩ := RepS.ixAt hx22 (hf0_0.mono hI11)
        have hi28 := ix_some hx22
        obtain rfl := kS49_open hR25
        refine gd_q (v := .pointer (some p23)) (by kernel_rfl) (by kernel_rfl) (CC.refl (fun p hp => by cases hp)) (fun I' L' T hC kk => gl_indexAddrF (c := n0_0) (T' := 22) (e := 50) (xs := (.tmp 16)) (xi := (.tmp 17)) (kd := .i64) ha27 hi28.1 hi28.2.1 (by kernel_rfl) (by kernel_rfl) (by kernel_rfl) (by kernel_rfl) (by kernel_rfl) kk) ?_
        refine gd_q (v := .agg #[.string x21.f0, .string x21.f1]) (by kernel_rfl) (by kernel_rfl) (CC.refl (fun p hp => by cases hp)) (fun I' L' T hC kk => gl_loadA (T' := 50) (xp := (.tmp 18)) (p := p23) (cs := [.string x21.f0, .string x21.f1]) (by kernel_rfl) (by kernel_rfl) (by kernel_rfl) (by kernel_rfl) ((hA26.mono hC.le).take 2) kk) ?_
        refine gd_pure 2 [0, 1, 12, 13, 19, 20, 21] (K' := [(0, .slice A0_0 a0.length n0_0), (1, .slice A1_0 a1.length n1_0), (12, .int .i64 (a0.length : Int)), (13, .int .i64 s8), (19, .agg #[.string x21.f0, .string x21.f1]), (20, .slice A1_0 a1.length n1_0), (21, .int .i64 s8)]) (s' := [(6, true), (7, true), (8, true)]) (CC.refl (fun p hp => by cases hp)) (by kernel_rfl) ?_
        obtain ⟨x29, hx30, hb10⟩ := bind_some hb10
        obtain ⟨p31, cs32, hR33, hA34, ha35⟩ := RepS.ixAt hx30 (hf1_0.mono hI11)
        have hi36 := ix_some hx30
        obtain rfl := kS49_open hR33
        refine gd_q (v := .pointer (some p31)) (by kernel_rfl) (by kernel_rfl) (CC.refl (fun p hp => by cases hp)) (fun I' L' T hC kk => gl_indexAddrF (c := n1_0) (T' := 22) (e := 50) (xs := (.tmp 20)) (xi := (.tmp 21)) (kd := .i64) ha35 hi36.1 hi36.2.1 (by kernel_rfl) (by kernel_rfl) (by kernel_rfl) (by kernel_rfl) (by kernel_rfl) kk) ?_
        refine gd_q (v := .agg #[.string x29.f0, .string x29.f1]) (by kernel_rfl) (by kernel_rfl) (CC.refl (fun p hp => by cases hp)) (fun I' L' T hC kk => gl_loadA (T' := 50) (xp := (.tmp 22)) (p := p31) (cs := [.string x29.f0, .string x29.f1]) (by kernel_rfl) (by kernel_rfl) (by kernel_rfl) (by kernel_rfl) ((hA34.mono hC.le).take 2) kk) ?_
        refine gd_q (v := .bool (!((x21.f0.toList == x29.f0.toList) && (x21.f1.toList == x29.f1.toList)))) (by kernel_rfl) (by kernel_rfl) (CC.refl (fun p hp => by cases hp)) (fun I' L' T hC kk => gl_eqAgg (cx := #[.string x21.f0, .string x21.f1]) (cy := #[.string x29.f0, .string x29.f1]) (n := true) (t := 50) (t' := 50) (x := (.tmp 19)) (y := (.tmp 23)) (b := ((x21.f0.toList == x29.f0.toList) && (x21.f1.toList == x29.f1.toList))) (by kernel_rfl) (by kernel_rfl) (by kernel_rfl) (by kernel_rfl) (by kernel_rfl) kk) ?_
        refine gd_done ?_
        refine gl_atE (by kernel_rfl) ?_
        refine ge_seq ?_
        refine gk_cond (b := (!((x21.f0.toList == x29.f0.toList) && (x21.f1.toList == x29.f1.toList)))) (by kernel_rfl) (by kernel_rfl) (fun hc37 => ?_) (fun hc37 => ?_)
        · have hb10 := cond_t hc37 hb10
          refine gk_seq (by kernel_rfl) ?_
          refine gk_region (by kernel_rfl) ?_
          refine gl_pure 1 [4] (K' := [(4, .bool false)]) (by kernel_rfl) ?_
          refine gl_atE (by kernel_rfl) ?_
          refine ge_seq ?_
          refine gk_ret (by kernel_rfl) ?_
          refine ge_block_ret ?_
          refine ge_seq_ret ?_
          obtain rfl := some_inj hb10
          refine ge_round_out (fun hrr => ?_) (by intro h; cases h)
          obtain rfl := hrr
          refine ge_block_ret ?_
          refine ge_seq_ret ?_
          refine ge_seq_ret ?_
          obtain rfl := some_inj hr
          exact ge_result trivial (ResOk.tmp (by kernel_rfl) ResOk.nil) hI11 ⟨rfl, rfl⟩
        · have hb10 := cond_f hc37 hb10
          refine gk_skip (by kernel_rfl) ?_
          refine ge_block_normal ?_
          refine ge_seq ?_
          refine gk_region (by kernel_rfl) ?_
          refine gl_pure 2 [0, 1, 12, 13] (K' := [(0, .slice A0_0 a0.length n0_0), (1, .slice A1_0 a1.length n1_0), (12, .int .i64 (a0.length : Int)), (13, .int .i64 (IntKind.wrap .i64 (s8 + 1)))]) (by kernel_rfl) ?_
          refine gl_atE (by kernel_rfl) ?_
          obtain rfl := some_inj hb10
          exact ge_round fun t ht => ⟨hI11, rfl, ht.pick (l := [0, 1, 12, 13]) (by kernel_rfl)⟩
      · have hb10 := cond_f hc20 hb10
        refine gk_exit (by kernel_rfl) ?_
        refine ge_seq_exit ?_
        obtain rfl := some_inj hb10
        refine ge_round_out (fun hrr => ?_) (by intro h; cases h)
        obtain rfl := hrr
        refine ge_block_hit (by kernel_rfl) ?_
        exact ge_mid fun t ht => ⟨_, rfl, hI11, rfl, ht.pick (l := []) (by kernel_rfl)⟩
    · rintro t I17 L' ⟨r14, rfl, hI15, rfl, hK16⟩
      refine ge_at hK16 ?_
      refine ge_seq ?_
      refine gk_seq (by kernel_rfl) ?_
      refine gk_region (by kernel_rfl) ?_
      refine gl_pure 1 [4] (K' := [(4, .bool true)]) (by kernel_rfl) ?_
      refine gl_atE (by kernel_rfl) ?_
      refine ge_seq ?_
      refine gk_ret (by kernel_rfl) ?_
      obtain rfl := some_inj hr
      exact ge_result trivial (ResOk.tmp (by kernel_rfl) ResOk.nil) hI15 ⟨rfl, rfl⟩
/-! 85 labels_Hash_1 ('imm', 'obj') -/
noncomputable def labels_Hash_1_l16 (a0 : ByteArray) : (Int × Int) → Option ((Int × Int) ⊕ (Int)) := fun s7 =>
  bif (decide (s7.2 < (a0.size : Int))) then
  (Option.bind (bx a0 s7.2) fun (c19 : Int) =>
    some (Sum.inl ((IntKind.wrap .u64 ((bitXor .u64 s7.1 (IntKind.wrap .u64 c19)) * 1099511628211)), (IntKind.wrap .i64 (s7.2 + 1)))))
  else
  (some (Sum.inr s7.1))
noncomputable def labels_Hash_1 (a0 : ByteArray) (a1 : Int) : Option Int :=
  Option.bind (loopO (labels_Hash_1_l16 a0) (a1, 0)) fun (r5 : Int) =>
  some (IntKind.wrap .u64 ((bitXor .u64 r5 255) * 1099511628211))
theorem labels_Hash_1_walk {a0 : ByteArray} {a1 : Int} {g1 : Nat} {T1 : TypeId} {I : Imm} {r : Int}  (hr : labels_Hash_1 a0 a1 = some r) (L : Own) :
    CallsTo Tryz.prog 85 #[.string a0, .pointer (some ⟨g1, 0, none⟩)] I ((g1, .cells #[.int .u64 a1] T1) :: L) (fun v I' L' => v = .tuple #[] ∧ (g1, .cells #[.int .u64 r] T1) :: L = L') := by
  unfold labels_Hash_1 at hr
  refine callsTo_body (N := 20) Tryz.func85 (by kernel_rfl) (by kernel_rfl) (by kernel_rfl) ?_
  refine gk_pick [0, 1] (K' := [(0, .string a0), (1, .pointer (some ⟨g1, 0, none⟩))]) (by kernel_rfl) ?_
  refine gk_seq (by kernel_rfl) ?_
  refine gk_seq (by kernel_rfl) ?_
  refine gk_region (by kernel_rfl) ?_
  refine gl_pure 3 [0, 1, 5, 6] (K' := [(0, .string a0), (1, .pointer (some ⟨g1, 0, none⟩)), (5, .int .i64 (a0.size : Int)), (6, .int .i64 0)]) (by kernel_rfl) ?_
  refine gl_atE (by kernel_rfl) ?_
  refine ge_seq ?_
  obtain ⟨r5, hl6, hr⟩ := bind_some hr
  refine gk_join (fun t I' L' => I ≤ I' ∧ (g1, .cells #[.int .u64 r5] T1) :: L = L' ∧ Knows 20 [(1, .pointer (some ⟨g1, 0, none⟩))] t) ?_ ?_
  · refine gk_block (by kernel_rfl) ?_
    refine gk_pick [0, 1, 5, 6] (K' := [(0, .string a0), (1, .pointer (some ⟨g1, 0, none⟩)), (5, .int .i64 (a0.size : Int)), (6, .int .i64 0)]) (by kernel_rfl) ?_
    intro t hK
    refine gc_loop (labels_Hash_1_l16 a0) (fun s7 t I' L' => I ≤ I' ∧ (g1, .cells #[.int .u64 s7.1] T1) :: L = L' ∧ Knows 20 [(0, .string a0), (1, .pointer (some ⟨g1, 0, none⟩)), (5, .int .i64 (a0.size : Int)), (6, .int .i64 s7.2)] t) (by kernel_rfl) ?_ hl6 ⟨(Imm.refl _), rfl, hK⟩
    rintro s7 o8 t I12 L' hb9 ⟨hI10, rfl, hK11⟩
    unfold labels_Hash_1_l16 at hb9
    refine gk_at hK11 ?_
    refine gk_seq (by kernel_rfl) ?_
    refine gk_region (by kernel_rfl) ?_
    refine gl_pure 1 [0, 1, 5, 6, 7] (K' := [(0, .string a0), (1, .pointer (some ⟨g1, 0, none⟩)), (5, .int .i64 (a0.size : Int)), (6, .int .i64 s7.2), (7, .bool (decide (s7.2 < (a0.size : Int))))]) (by kernel_rfl) ?_
    refine gl_atE (by kernel_rfl) ?_
    refine ge_seq ?_
    refine gk_seq (by kernel_rfl) ?_
    refine gk_cond (b := (decide (s7.2 < (a0.size : Int)))) (by kernel_rfl) (by kernel_rfl) (fun hc18 => ?_) (fun hc18 => ?_)
    · have hb9 := cond_t hc18 hb9
      refine gk_skip (by kernel_rfl) ?_
      refine ge_seq ?_
      refine gk_seq (by kernel_rfl) ?_
      refine gk_block (by kernel_rfl) ?_
      refine gk_seq (by kernel_rfl) ?_
      refine gk_region (by kernel_rfl) ?_
      refine gl_pure 2 [0, 1, 3, 5, 6] (K' := [(0, .string a0), (1, .pointer (some ⟨g1, 0, none⟩)), (3, .int .i64 s7.2), (5, .int .i64 (a0.size : Int)), (6, .int .i64 s7.2)]) (by kernel_rfl) ?_
      refine gl_atE (by kernel_rfl) ?_
      refine ge_seq ?_
      refine gk_draw 7 [(0, true), (1, true), (2, true), (3, true), (4, true), (5, true), (6, true)] [(g1, .cells #[.int .u64 s7.1] T1)] (List.forall_mem_cons.2 ⟨List.mem_cons_self, (fun p hp => by cases hp)⟩) (by kernel_rfl) (by kernel_rfl) (by kernel_rfl) ?_ (by kernel_rfl)
      refine gd_q (v := .int .u64 s7.1) (by kernel_rfl) (by kernel_rfl) (CC.refl (List.forall_mem_cons.2 ⟨List.mem_cons_self, (fun p hp => by cases hp)⟩)) (fun I' L' T hC kk => gl_loadB (T' := 41) (xp := (.tmp 1)) (v := .int .u64 s7.1) (g := g1) (off := 0) (cs := #[.int .u64 s7.1]) (e := T1) (fz := (0, 0)) (by kernel_rfl) (by kernel_rfl) (by kernel_rfl) (hC.sub _ List.mem_cons_self) (by kernel_rfl) kk) ?_
      refine gd_pure 2 [0, 1, 5, 6, 9, 10, 11] (K' := [(0, .string a0), (1, .pointer (some ⟨g1, 0, none⟩)), (5, .int .i64 (a0.size : Int)), (6, .int .i64 s7.2), (9, .int .u64 s7.1), (10, .string a0), (11, .int .i64 s7.2)]) (s' := [(3, true), (4, true), (5, true), (6, true)]) (CC.refl (List.forall_mem_cons.2 ⟨List.mem_cons_self, (fun p hp => by cases hp)⟩)) (by kernel_rfl) ?_
      obtain ⟨c19, hx20, hb9⟩ := bind_some hb9
      refine gd_q (v := .int .u8 c19) (by kernel_rfl) (by kernel_rfl) (CC.refl (List.forall_mem_cons.2 ⟨List.mem_cons_self, (fun p hp => by cases hp)⟩)) (fun I' L' T hC kk => gl_index' (T' := 9) (xs := (.tmp 10)) (xi := (.tmp 11)) (kd := .i64) hx20 (by kernel_rfl) (by kernel_rfl) (by kernel_rfl) (by kernel_rfl) (by kernel_rfl) kk) ?_
      refine gd_pure 3 [0, 1, 5, 6, 15] (K' := [(0, .string a0), (1, .pointer (some ⟨g1, 0, none⟩)), (5, .int .i64 (a0.size : Int)), (6, .int .i64 s7.2), (15, .int .u64 (IntKind.wrap .u64 ((bitXor .u64 s7.1 (IntKind.wrap .u64 c19)) * 1099511628211)))]) (s' := []) (CC.refl (List.forall_mem_cons.2 ⟨List.mem_cons_self, (fun p hp => by cases hp)⟩)) (by kernel_rfl) ?_
      refine gd_done ?_
      refine gl_storeB (T' := 41) (xp := (.tmp 1)) (xv := (.tmp 15)) (v := .int .u64 (IntKind.wrap .u64 ((bitXor .u64 s7.1 (IntKind.wrap .u64 c19)) * 1099511628211))) (g := g1) (off := 0) (cs := #[.int .u64 s7.1]) (cs' := #[.int .u64 (IntKind.wrap .u64 ((bitXor .u64 s7.1 (IntKind.wrap .u64 c19)) * 1099511628211))]) (by kernel_rfl) (by kernel_rfl) (by kernel_rfl) (by kernel_rfl) (by kernel_rfl) (Upd.set _ _ _ _) ?_ (by kernel_rfl)
      refine gl_atE (by kernel_rfl) ?_
      refine ge_block_normal ?_
      refine ge_seq ?_
      refine gk_region (by kernel_rfl) ?_
      refine gl_pure 2 [0, 1, 5, 6] (K' := [(0, .string a0), (1, .pointer (some ⟨g1, 0, none⟩)), (5, .int .i64 (a0.size : Int)), (6, .int .i64 (IntKind.wrap .i64 (s7.2 + 1)))]) (by kernel_rfl) ?_
      refine gl_atE (by kernel_rfl) ?_
      obtain rfl := some_inj hb9
      exact ge_round fun t ht => ⟨hI10, rfl, ht.pick (l := [0, 1, 5, 6]) (by kernel_rfl)⟩
    · have hb9 := cond_f hc18 hb9
      refine gk_exit (by kernel_rfl) ?_
      refine ge_seq_exit ?_
      obtain rfl := some_inj hb9
      refine ge_round_out (fun hrr => ?_) (by intro h; cases h)
      obtain rfl := hrr
      refine ge_block_hit (by kernel_rfl) ?_
      exact ge_mid fun t ht => ⟨hI10, rfl, ht.pick (l := [1]) (by kernel_rfl)⟩
  · rintro t I15 L' ⟨hI13, rfl, hK14⟩
    refine ge_at hK14 ?_
    refine ge_seq ?_
    refine gk_region (by kernel_rfl) ?_
    refine gl_loadB (T' := 41) (xp := (.tmp 1)) (v := .int .u64 r5) (g := g1) (off := 0) (cs := #[.int .u64 r5]) (e := T1) (fz := (0, 0)) (by kernel_rfl) (by kernel_rfl) (by kernel_rfl) List.mem_cons_self (by kernel_rfl) ?_
    refine gl_pure 2 [1, 19] (K' := [(1, .pointer (some ⟨g1, 0, none⟩)), (19, .int .u64 (IntKind.wrap .u64 ((bitXor .u64 r5 255) * 1099511628211)))]) (by kernel_rfl) ?_
    refine gl_storeB (T' := 41) (xp := (.tmp 1)) (xv := (.tmp 19)) (v := .int .u64 (IntKind.wrap .u64 ((bitXor .u64 r5 255) * 1099511628211))) (g := g1) (off := 0) (cs := #[.int .u64 r5]) (cs' := #[.int .u64 (IntKind.wrap .u64 ((bitXor .u64 r5 255) * 1099511628211))]) (by kernel_rfl) (by kernel_rfl) (by kernel_rfl) (by kernel_rfl) (by kernel_rfl) (Upd.set _ _ _ _) ?_ (by kernel_rfl)
    refine gl_atE (by kernel_rfl) ?_
    obtain rfl := some_inj hr
    exact ge_result trivial ResOk.nil hI13 ⟨rfl, rfl⟩
/-! 35 labels_Hash  -/
noncomputable def labels_Hash_l17 (a0 : List S49) : (Int × Int) → Option ((Int × Int) ⊕ (Int)) := fun s8 =>
  bif (decide (s8.2 < (a0.length : Int))) then
  (Option.bind (ix a0 s8.2) fun (x20 : S49) =>
    Option.bind (labels_Hash_1 x20.f0 s8.1) fun (y29 : Int) =>
    Option.bind (labels_Hash_1 x20.f1 y29) fun (y34 : Int) =>
    some (Sum.inl (y34, (IntKind.wrap .i64 (s8.2 + 1)))))
  else
  (some (Sum.inr s8.1))
noncomputable def labels_Hash (a0 : List S49) : Option Int :=
  Option.bind (loopO (labels_Hash_l17 a0) (14695981039346656037, 0)) fun (r6 : Int) =>
  some r6
theorem labels_Hash_walk {a0 : List S49} {A0_0 : Option Addr} {n0_0 : Nat} {I : Imm} {r : Int}  (hf0_0 : RepS kS49 I A0_0 n0_0 a0) (hr : labels_Hash a0 = some r) (L : Own) :
    CallsTo Tryz.prog 35 #[.slice A0_0 a0.length n0_0] I L (fun v I' L' => v = .int .u64 r ∧ L = L') := by
  unfold labels_Hash at hr
  refine callsTo_body (N := 24) Tryz.func35 (by kernel_rfl) (by kernel_rfl) (by kernel_rfl) ?_
  refine gk_pick [0] (K' := [(0, .slice A0_0 a0.length n0_0)]) (by kernel_rfl) ?_
  refine gk_seq (by kernel_rfl) ?_
  refine gk_region (by kernel_rfl) ?_
  refine gl_pure 1 [0] (K' := [(0, .slice A0_0 a0.length n0_0)]) (by kernel_rfl) ?_
  refine gl_atE (by kernel_rfl) ?_
  refine ge_seq ?_
  refine gk_seq (by kernel_rfl) ?_
  refine gk_region (by kernel_rfl) ?_
  refine gl_alloc (T' := 41) (cs := #[.int .u64 0]) (by kernel_rfl) (by kernel_rfl) (by kernel_rfl) (fun g1 => ?_)
  refine gl_storeB (T' := 41) (xp := (.tmp 3)) (xv := (.const (.int .u64 14695981039346656037))) (v := .int .u64 14695981039346656037) (g := g1) (off := 0) (cs := #[.int .u64 0]) (cs' := #[.int .u64 14695981039346656037]) (by kernel_rfl) (by kernel_rfl) (by kernel_rfl) (by kernel_rfl) (by kernel_rfl) (Upd.set _ _ _ _) ?_ (by kernel_rfl)
  refine gl_atE (by kernel_rfl) ?_
  refine ge_seq ?_
  refine gk_seq (by kernel_rfl) ?_
  refine gk_region (by kernel_rfl) ?_
  refine gl_pure 2 [0, 3, 4] (K' := [(0, .slice A0_0 a0.length n0_0), (3, .pointer (some ⟨g1, 0, none⟩)), (4, .func (.func 85) #[] #[.pointer (some ⟨g1, 0, none⟩)])]) (by kernel_rfl) ?_
  refine gl_atE (by kernel_rfl) ?_
  refine ge_seq ?_
  refine gk_seq (by kernel_rfl) ?_
  refine gk_seq (by kernel_rfl) ?_
  refine gk_region (by kernel_rfl) ?_
  refine gl_pure 3 [3, 4, 8, 9, 10] (K' := [(3, .pointer (some ⟨g1, 0, none⟩)), (4, .func (.func 85) #[] #[.pointer (some ⟨g1, 0, none⟩)]), (8, .slice A0_0 a0.length n0_0), (9, .int .i64 (a0.length : Int)), (10, .int .i64 0)]) (by kernel_rfl) ?_
  refine gl_atE (by kernel_rfl) ?_
  refine ge_seq ?_
  obtain ⟨r6, hl7, hr⟩ := bind_some hr
  refine gk_join (fun t I' L' => I ≤ I' ∧ (g1, .cells #[.int .u64 r6] 41) :: L = L' ∧ Knows 24 [(3, .pointer (some ⟨g1, 0, none⟩))] t) ?_ ?_
  · refine gk_block (by kernel_rfl) ?_
    refine gk_pick [3, 4, 8, 9, 10] (K' := [(3, .pointer (some ⟨g1, 0, none⟩)), (4, .func (.func 85) #[] #[.pointer (some ⟨g1, 0, none⟩)]), (8, .slice A0_0 a0.length n0_0), (9, .int .i64 (a0.length : Int)), (10, .int .i64 0)]) (by kernel_rfl) ?_
    intro t hK
    refine gc_loop (labels_Hash_l17 a0) (fun s8 t I' L' => I ≤ I' ∧ (g1, .cells #[.int .u64 s8.1] 41) :: L = L' ∧ Knows 24 [(3, .pointer (some ⟨g1, 0, none⟩)), (4, .func (.func 85) #[] #[.pointer (some ⟨g1, 0, none⟩)]), (8, .slice A0_0 a0.length n0_0), (9, .int .i64 (a0.length : Int)), (10, .int .i64 s8.2)] t) (by kernel_rfl) ?_ hl7 ⟨(Imm.refl _), rfl, hK⟩
    rintro s8 o9 t I13 L' hb10 ⟨hI11, rfl, hK12⟩
    unfold labels_Hash_l17 at hb10
    refine gk_at hK12 ?_
    refine gk_seq (by kernel_rfl) ?_
    refine gk_region (by kernel_rfl) ?_
    refine gl_pure 1 [3, 4, 8, 9, 10, 11] (K' := [(3, .pointer (some ⟨g1, 0, none⟩)), (4, .func (.func 85) #[] #[.pointer (some ⟨g1, 0, none⟩)]), (8, .slice A0_0 a0.length n0_0), (9, .int .i64 (a0.length : Int)), (10, .int .i64 s8.2), (11, .bool (decide (s8.2 < (a0.length : Int))))]) (by kernel_rfl) ?_
    refine gl_atE (by kernel_rfl) ?_
    refine ge_seq ?_
    refine gk_seq (by kernel_rfl) ?_
    refine gk_cond (b := (decide (s8.2 < (a0.length : Int)))) (by kernel_rfl) (by kernel_rfl) (fun hc19 => ?_) (fun hc19 => ?_)
    · have hb10 := cond_t hc19 hb10
      refine gk_skip (by kernel_rfl) ?_
      refine ge_seq ?_
      refine gk_seq (by kernel_rfl) ?_
      refine gk_block (by kernel_rfl) ?_
      refine gk_seq (by kernel_rfl) ?_
      refine gk_region (by kernel_rfl) ?_
      obtain ⟨x20, hx21, hb10⟩ := bind_some hb10
      obtain ⟨p22, cs23, hR24, hA25, ha26⟩ := RepS.ixAt hx21 (hf0_0.mono hI11)
      have hi27 := ix_some hx21
      obtain rfl := kS49_open hR24
      refine gl_indexAddrF (c := n0_0) (T' := 22) (e := 50) (xs := (.tmp 8)) (xi := (.tmp 10)) (kd := .i64) ha26 hi27.1 hi27.2.1 (by kernel_rfl) (by kernel_rfl) (by kernel_rfl) (by kernel_rfl) (by kernel_rfl) ?_
      refine gl_loadA (T' := 50) (xp := (.tmp 12)) (p := p22) (cs := [.string x20.f0, .string x20.f1]) (by kernel_rfl) (by kernel_rfl) (by kernel_rfl) (by kernel_rfl) (hA25.take 2) ?_
      refine gl_alloc (T' := 50) (cs := #[.string (⟨#[]⟩ : ByteArray), .string (⟨#[]⟩ : ByteArray)]) (by kernel_rfl) (by kernel_rfl) (by kernel_rfl) (fun g28 => ?_)
      refine gl_storeB (T' := 50) (xp := (.tmp 6)) (xv := (.tmp 13)) (v := .agg #[.string x20.f0, .string x20.f1]) (g := g28) (off := 0) (cs := #[.string (⟨#[]⟩ : ByteArray), .string (⟨#[]⟩ : ByteArray)]) (cs' := #[.string x20.f0, .string x20.f1]) (by kernel_rfl) (by kernel_rfl) (by kernel_rfl) (by kernel_rfl) (by kernel_rfl) (Upd.set _ _ _ _) ?_ (by kernel_rfl)
      refine gl_atE (by kernel_rfl) ?_
      refine ge_seq ?_
      refine gk_seq (by kernel_rfl) ?_
      refine gk_region (by kernel_rfl) ?_
      refine gl_pure 2 [3, 4, 6, 8, 9, 10, 14, 15] (K' := [(3, .pointer (some ⟨g1, 0, none⟩)), (4, .func (.func 85) #[] #[.pointer (some ⟨g1, 0, none⟩)]), (6, .pointer (some ⟨g28, 0, none⟩)), (8, .slice A0_0 a0.length n0_0), (9, .int .i64 (a0.length : Int)), (10, .int .i64 s8.2), (14, .func (.func 85) #[] #[.pointer (some ⟨g1, 0, none⟩)]), (15, .pointer (some ⟨g28, 0, none⟩))]) (by kernel_rfl) ?_
      refine gl_loadB (T' := 9) (xp := (.tmp 15)) (v := .string x20.f0) (g := g28) (off := 0) (cs := #[.string x20.f0, .string x20.f1]) (e := 50) (fz := (0, 0)) (by kernel_rfl) (by kernel_rfl) (by kernel_rfl) List.mem_cons_self (by kernel_rfl) ?_
      obtain ⟨y29, hx30, hb10⟩ := bind_some hb10
      refine gl_reord (D := (g1, .cells #[.int .u64 s8.1] 41) :: ((g28, .cells #[.string x20.f0, .string x20.f1] 50) :: L)) (Reord.step1 (Upd.one _ (Upd.rm1 _ _)) (Reord.step1 (Upd.rm1 _ _) (Reord.refl _))) ?_
      refine gl_call (by kernel_rfl) (labels_Hash_1_walk (r := y29) (g1 := g1) (T1 := 41) (a1 := s8.1) hx30 _) ?_
      rintro v I31 L32 hI33 ⟨rfl, rfl⟩
      refine gl_atE (by kernel_rfl) ?_
      refine ge_seq ?_
      refine gk_region (by kernel_rfl) ?_
      refine gl_pure 2 [3, 4, 8, 9, 10, 18, 19] (K' := [(3, .pointer (some ⟨g1, 0, none⟩)), (4, .func (.func 85) #[] #[.pointer (some ⟨g1, 0, none⟩)]), (8, .slice A0_0 a0.length n0_0), (9, .int .i64 (a0.length : Int)), (10, .int .i64 s8.2), (18, .func (.func 85) #[] #[.pointer (some ⟨g1, 0, none⟩)]), (19, .pointer (some ⟨g28, 1, none⟩))]) (by kernel_rfl) ?_
      refine gl_loadB (T' := 9) (xp := (.tmp 19)) (v := .string x20.f1) (g := g28) (off := 1) (cs := #[.string x20.f0, .string x20.f1]) (e := 50) (fz := (0, 0)) (by kernel_rfl) (by kernel_rfl) (by kernel_rfl) (List.mem_cons_of_mem _ List.mem_cons_self) (by kernel_rfl) ?_
      obtain ⟨y34, hx35, hb10⟩ := bind_some hb10
      refine gl_call (by kernel_rfl) (labels_Hash_1_walk (r := y34) (g1 := g1) (T1 := 41) (a1 := y29) hx35 _) ?_
      rintro v I36 L37 hI38 ⟨rfl, rfl⟩
      refine gl_atE (by kernel_rfl) ?_
      refine ge_block_normal ?_
      refine ge_seq ?_
      refine gk_region (by kernel_rfl) ?_
      refine gl_pure 2 [3, 4, 8, 9, 10] (K' := [(3, .pointer (some ⟨g1, 0, none⟩)), (4, .func (.func 85) #[] #[.pointer (some ⟨g1, 0, none⟩)]), (8, .slice A0_0 a0.length n0_0), (9, .int .i64 (a0.length : Int)), (10, .int .i64 (IntKind.wrap .i64 (s8.2 + 1)))]) (by kernel_rfl) ?_
      refine gl_reord (D := (g1, .cells #[.int .u64 y34] 41) :: L) (Reord.step1 (Upd.rm1 _ _) (Reord.skip (Reord.refl _))) ?_
      refine gl_atE (by kernel_rfl) ?_
      obtain rfl := some_inj hb10
      exact ge_round fun t ht => ⟨(Imm.trans (Imm.trans hI11 hI33) hI38), rfl, ht.pick (l := [3, 4, 8, 9, 10]) (by kernel_rfl)⟩
    · have hb10 := cond_f hc19 hb10
      refine gk_exit (by kernel_rfl) ?_
      refine ge_seq_exit ?_
      obtain rfl := some_inj hb10
      refine ge_round_out (fun hrr => ?_) (by intro h; cases h)
      obtain rfl := hrr
      refine ge_block_hit (by kernel_rfl) ?_
      exact ge_mid fun t ht => ⟨hI11, rfl, ht.pick (l := [3]) (by kernel_rfl)⟩
  · rintro t I16 L' ⟨hI14, rfl, hK15⟩
    refine ge_at hK15 ?_
    refine ge_seq ?_
    refine gk_seq (by kernel_rfl) ?_
    refine gk_region (by kernel_rfl) ?_
    refine gl_loadB (T' := 41) (xp := (.tmp 3)) (v := .int .u64 r6) (g := g1) (off := 0) (cs := #[.int .u64 r6]) (e := 41) (fz := (0, 0)) (by kernel_rfl) (by kernel_rfl) (by kernel_rfl) List.mem_cons_self (by kernel_rfl) ?_
    refine gl_pure 1 [2] (K' := [(2, .int .u64 r6)]) (by kernel_rfl) ?_
    refine gl_atE (by kernel_rfl) ?_
    refine ge_seq ?_
    refine gk_reord (D := L) (Reord.skip (Reord.refl _)) ?_
    refine gk_ret (by kernel_rfl) ?_
    obtain rfl := some_inj hr
    exact ge_result trivial (ResOk.tmp (by kernel_rfl) ResOk.nil) hI14 ⟨rfl, rfl⟩
/-! 36 tocsinref04_Hash  -/
structure S89 where
  f0 : ByteArray
  f1 : Int
  f2 : Int
/-! 67 labels_reader_blanks ('obj',) -/
noncomputable def labels_reader_blanks_l16 (a0 : S89) : Int → Option ((Int) ⊕ (Int)) := fun s7 =>
  Option.bind (bif (decide (s7 < (a0.f0.size : Int))) then
    (Option.bind (bx a0.f0 s7) fun (c24 : Int) =>
      bif (c24 == 32) then
      (some true)
      else
      (Option.bind (bx a0.f0 s7) fun (c27 : Int) =>
        some (c27 == 9)))
    else
    (some false)) fun (j18 : Bool) =>
  bif j18 then
  (some (Sum.inl (IntKind.wrap .i64 (s7 + 1))))
  else
  (some (Sum.inr s7))
noncomputable def labels_reader_blanks (a0 : S89) : Option S89 :=
  Option.bind (loopO (labels_reader_blanks_l16 a0) a0.f1) fun (r5 : Int) =>
  some (⟨a0.f0, r5, a0.f2⟩ : S89)
theorem labels_reader_blanks_walk {a0 : S89} {g0 : Nat} {T0 : TypeId} {I : Imm} {r : S89}  (hr : labels_reader_blanks a0 = some r) (L : Own) :
    CallsTo Tryz.prog 67 #[.pointer (some ⟨g0, 0, none⟩)] I ((g0, .cells #[.string a0.f0, .int .i64 a0.f1, .int .i64 a0.f2] T0) :: L) (fun v I' L' => v = .tuple #[] ∧ (g0, .cells #[.string r.f0, .int .i64 r.f1, .int .i64 r.f2] T0) :: L = L') := by
  unfold labels_reader_blanks at hr
  refine callsTo_body (N := 43) Tryz.func67 (by kernel_rfl) (by kernel_rfl) (by kernel_rfl) ?_
  refine gk_pick [0] (K' := [(0, .pointer (some ⟨g0, 0, none⟩))]) (by kernel_rfl) ?_
  obtain ⟨r5, hl6, hr⟩ := bind_some hr
  refine gk_join (fun t I' L' => I ≤ I' ∧ (g0, .cells #[.string a0.f0, .int .i64 r5, .int .i64 a0.f2] T0) :: L = L' ∧ Knows 43 [] t) ?_ ?_
  · refine gk_block (by kernel_rfl) ?_
    refine gk_pick [0] (K' := [(0, .pointer (some ⟨g0, 0, none⟩))]) (by kernel_rfl) ?_
    intro t hK
    refine gc_loop (labels_reader_blanks_l16 a0) (fun s7 t I' L' => I ≤ I' ∧ (g0, .cells #[.string a0.f0, .int .i64 s7, .int .i64 a0.f2] T0) :: L = L' ∧ Knows 43 [(0, .pointer (some ⟨g0, 0, none⟩))] t) (by kernel_rfl) ?_ hl6 ⟨(Imm.refl _), rfl, hK⟩
    rintro s7 o8 t I12 L' hb9 ⟨hI10, rfl, hK11⟩
    unfold labels_reader_blanks_l16 at hb9
    refine gk_at hK11 ?_
    refine gk_seq (by kernel_rfl) ?_
    refine gk_seq (by kernel_rfl) ?_
    obtain ⟨j18, hj19, hb9⟩ := bind_some hb9
    refine gk_join (fun t I' L' => I12 ≤ I' ∧ (g0, .cells #[.string a0.f0, .int .i64 s7, .int .i64 a0.f2] T0) :: L = L' ∧ Knows 43 [(0, .pointer (some ⟨g0, 0, none⟩)), (35, .bool j18)] t) ?_ ?_
    · refine gk_draw 34 [(0, true), (1, true), (2, true), (3, true), (4, true), (5, true), (6, true), (7, true), (8, true), (9, true), (10, true), (11, true), (12, true), (13, true), (14, true), (15, true), (16, true), (17, true), (18, true), (19, true), (20, true), (21, true), (22, true), (23, true), (24, true), (25, true), (26, true), (27, true), (28, true), (29, true), (30, true), (31, true), (32, true), (33, true)] [(g0, .cells #[.string a0.f0, .int .i64 s7, .int .i64 a0.f2] T0)] (List.forall_mem_cons.2 ⟨List.mem_cons_self, (fun p hp => by cases hp)⟩) (by kernel_rfl) (by kernel_rfl) (by kernel_rfl) ?_ (by kernel_rfl)
      refine gd_pure 3 [0, 4] (K' := [(0, .pointer (some ⟨g0, 0, none⟩)), (4, .pointer (some ⟨g0, 1, none⟩))]) (s' := [(3, true), (4, true), (5, true), (6, true), (7, true), (8, true), (9, true), (10, true), (11, true), (12, true), (13, true), (14, true), (15, true), (16, true), (17, true), (18, true), (19, true), (20, true), (21, true), (22, true), (23, true), (24, true), (25, true), (26, true), (27, true), (28, true), (29, true), (30, true), (31, true), (32, true), (33, true)]) (CC.refl (List.forall_mem_cons.2 ⟨List.mem_cons_self, (fun p hp => by cases hp)⟩)) (by kernel_rfl) ?_
      refine gd_q (v := .int .i64 s7) (by kernel_rfl) (by kernel_rfl) (CC.refl (List.forall_mem_cons.2 ⟨List.mem_cons_self, (fun p hp => by cases hp)⟩)) (fun I' L' T hC kk => gl_loadB (T' := 3) (xp := (.tmp 4)) (v := .int .i64 s7) (g := g0) (off := 1) (cs := #[.string a0.f0, .int .i64 s7, .int .i64 a0.f2]) (e := T0) (fz := (0, 0)) (by kernel_rfl) (by kernel_rfl) (by kernel_rfl) (hC.sub _ List.mem_cons_self) (by kernel_rfl) kk) ?_
      refine gd_pure 3 [0, 5, 8] (K' := [(0, .pointer (some ⟨g0, 0, none⟩)), (5, .int .i64 s7), (8, .pointer (some ⟨g0, 0, none⟩))]) (s' := [(7, true), (8, true), (9, true), (10, true), (11, true), (12, true), (13, true), (14, true), (15, true), (16, true), (17, true), (18, true), (19, true), (20, true), (21, true), (22, true), (23, true), (24, true), (25, true), (26, true), (27, true), (28, true), (29, true), (30, true), (31, true), (32, true), (33, true)]) (CC.refl (List.forall_mem_cons.2 ⟨List.mem_cons_self, (fun p hp => by cases hp)⟩)) (by kernel_rfl) ?_
      refine gd_q (v := .string a0.f0) (by kernel_rfl) (by kernel_rfl) (CC.refl (List.forall_mem_cons.2 ⟨List.mem_cons_self, (fun p hp => by cases hp)⟩)) (fun I' L' T hC kk => gl_loadB (T' := 9) (xp := (.tmp 8)) (v := .string a0.f0) (g := g0) (off := 0) (cs := #[.string a0.f0, .int .i64 s7, .int .i64 a0.f2]) (e := T0) (fz := (0, 0)) (by kernel_rfl) (by kernel_rfl) (by kernel_rfl) (hC.sub _ List.mem_cons_self) (by kernel_rfl) kk) ?_
      refine gd_pure 3 [0, 12] (K' := [(0, .pointer (some ⟨g0, 0, none⟩)), (12, .bool (decide (s7 < (a0.f0.size : Int))))]) (s' := [(11, true), (12, true), (13, true), (14, true), (15, true), (16, true), (17, true), (18, true), (19, true), (20, true), (21, true), (22, true), (23, true), (24, true), (25, true), (26, true), (27, true), (28, true), (29, true), (30, true), (31, true), (32, true), (33, true)]) (CC.refl (List.forall_mem_cons.2 ⟨List.mem_cons_self, (fun p hp => by cases hp)⟩)) (by kernel_rfl) ?_
      refine gd_case 12 (b := (decide (s7 < (a0.f0.size : Int)))) (by kernel_rfl) (fun hc23 => ?_) (fun hc23 => ?_)
      · have hj19 := cond_t hc23 hj19
        refine gd_pure 3 [0, 12, 15] (K' := [(0, .pointer (some ⟨g0, 0, none⟩)), (12, .bool true), (15, .pointer (some ⟨g0, 0, none⟩))]) (s' := [(14, true), (15, true), (16, true), (17, true), (18, true), (19, true), (20, true), (21, true), (22, true), (23, true), (24, true), (25, true), (26, true), (27, true), (28, true), (29, true), (30, true), (31, true), (32, true), (33, true)]) (CC.refl (List.forall_mem_cons.2 ⟨List.mem_cons_self, (fun p hp => by cases hp)⟩)) (by kernel_rfl) ?_
        refine gd_q (v := .string a0.f0) (by kernel_rfl) (by kernel_rfl) (CC.refl (List.forall_mem_cons.2 ⟨List.mem_cons_self, (fun p hp => by cases hp)⟩)) (fun I' L' T hC kk => gl_loadB (T' := 9) (xp := (.tmp 15)) (v := .string a0.f0) (g := g0) (off := 0) (cs := #[.string a0.f0, .int .i64 s7, .int .i64 a0.f2]) (e := T0) (fz := (0, 0)) (by kernel_rfl) (by kernel_rfl) (by kernel_rfl) (hC.sub _ List.mem_cons_self) (by kernel_rfl) kk) ?_
        refine gd_pure 3 [0, 12, 16, 19] (K' := [(0, .pointer (some ⟨g0, 0, none⟩)), (12, .bool true), (16, .string a0.f0), (19, .pointer (some ⟨g0, 1, none⟩))]) (s' := [(18, true), (19, true), (20, true), (21, true), (22, true), (23, true), (24, true), (25, true), (26, true), (27, true), (28, true), (29, true), (30, true), (31, true), (32, true), (33, true)]) (CC.refl (List.forall_mem_cons.2 ⟨List.mem_cons_self, (fun p hp => by cases hp)⟩)) (by kernel_rfl) ?_
        refine gd_q (v := .int .i64 s7) (by kernel_rfl) (by kernel_rfl) (CC.refl (List.forall_mem_cons.2 ⟨List.mem_cons_self, (fun p hp => by cases hp)⟩)) (fun I' L' T hC kk => gl_loadB (T' := 3) (xp := (.tmp 19)) (v := .int .i64 s7) (g := g0) (off := 1) (cs := #[.string a0.f0, .int .i64 s7, .int .i64 a0.f2]) (e := T0) (fz := (0, 0)) (by kernel_rfl) (by kernel_rfl) (by kernel_rfl) (hC.sub _ List.mem_cons_self) (by kernel_rfl) kk) ?_
        obtain ⟨c24, hx25, hj19⟩ := bind_some hj19
        refine gd_q (v := .int .u8 c24) (by kernel_rfl) (by kernel_rfl) (CC.refl (List.forall_mem_cons.2 ⟨List.mem_cons_self, (fun p hp => by cases hp)⟩)) (fun I' L' T hC kk => gl_index' (T' := 9) (xs := (.tmp 16)) (xi := (.tmp 20)) (kd := .i64) hx25 (by kernel_rfl) (by kernel_rfl) (by kernel_rfl) (by kernel_rfl) (by kernel_rfl) kk) ?_
        refine gd_pure 2 [0, 12, 23] (K' := [(0, .pointer (some ⟨g0, 0, none⟩)), (12, .bool true), (23, .bool (c24 == 32))]) (s' := [(22, true), (23, true), (24, true), (25, true), (26, true), (27, true), (28, true), (29, true), (30, true), (31, true), (32, true), (33, true)]) (CC.refl (List.forall_mem_cons.2 ⟨List.mem_cons_self, (fun p hp => by cases hp)⟩)) (by kernel_rfl) ?_
        refine gd_case 23 (b := (c24 == 32)) (by kernel_rfl) (fun hc26 => ?_) (fun hc26 => ?_)
        · have hj19 := cond_t hc26 hj19
          refine gd_pure 12 [0, 35] (K' := [(0, .pointer (some ⟨g0, 0, none⟩)), (35, .bool true)]) (s' := []) (CC.refl (List.forall_mem_cons.2 ⟨List.mem_cons_self, (fun p hp => by cases hp)⟩)) (by kernel_rfl) ?_
          refine gd_done ?_
          refine gl_atE (by kernel_rfl) ?_
          obtain rfl := some_inj hj19
          exact ge_mid fun t ht => ⟨(Imm.refl _), rfl, ht.pick (l := [0, 35]) (by kernel_rfl)⟩
        · have hj19 := cond_f hc26 hj19
          refine gd_pure 3 [0, 12, 23, 26] (K' := [(0, .pointer (some ⟨g0, 0, none⟩)), (12, .bool true), (23, .bool false), (26, .pointer (some ⟨g0, 0, none⟩))]) (s' := [(25, true), (26, true), (27, true), (28, true), (29, true), (30, true), (31, true), (32, true), (33, true)]) (CC.refl (List.forall_mem_cons.2 ⟨List.mem_cons_self, (fun p hp => by cases hp)⟩)) (by kernel_rfl) ?_
          refine gd_q (v := .string a0.f0) (by kernel_rfl) (by kernel_rfl) (CC.refl (List.forall_mem_cons.2 ⟨List.mem_cons_self, (fun p hp => by cases hp)⟩)) (fun I' L' T hC kk => gl_loadB (T' := 9) (xp := (.tmp 26)) (v := .string a0.f0) (g := g0) (off := 0) (cs := #[.string a0.f0, .int .i64 s7, .int .i64 a0.f2]) (e := T0) (fz := (0, 0)) (by kernel_rfl) (by kernel_rfl) (by kernel_rfl) (hC.sub _ List.mem_cons_self) (by kernel_rfl) kk) ?_
          refine gd_pure 3 [0, 12, 23, 27, 30] (K' := [(0, .pointer (some ⟨g0, 0, none⟩)), (12, .bool true), (23, .bool false), (27, .string a0.f0), (30, .pointer (some ⟨g0, 1, none⟩))]) (s' := [(29, true), (30, true), (31, true), (32, true), (33, true)]) (CC.refl (List.forall_mem_cons.2 ⟨List.mem_cons_self, (fun p hp => by cases hp)⟩)) (by kernel_rfl) ?_
          refine gd_q (v := .int .i64 s7) (by kernel_rfl) (by kernel_rfl) (CC.refl (List.forall_mem_cons.2 ⟨List.mem_cons_self, (fun p hp => by cases hp)⟩)) (fun I' L' T hC kk => gl_loadB (T' := 3) (xp := (.tmp 30)) (v := .int .i64 s7) (g := g0) (off := 1) (cs := #[.string a0.f0, .int .i64 s7, .int .i64 a0.f2]) (e := T0) (fz := (0, 0)) (by kernel_rfl) (by kernel_rfl) (by kernel_rfl) (hC.sub _ List.mem_cons_self) (by kernel_rfl) kk) ?_
          obtain ⟨c27, hx28, hj19⟩ := bind_some hj19
          refine gd_q (v := .int .u8 c27) (by kernel_rfl) (by kernel_rfl) (CC.refl (List.forall_mem_cons.2 ⟨List.mem_cons_self, (fun p hp => by cases hp)⟩)) (fun I' L' T hC kk => gl_index' (T' := 9) (xs := (.tmp 27)) (xi := (.tmp 31)) (kd := .i64) hx28 (by kernel_rfl) (by kernel_rfl) (by kernel_rfl) (by kernel_rfl) (by kernel_rfl) kk) ?_
          refine gd_pure 3 [0, 35] (K' := [(0, .pointer (some ⟨g0, 0, none⟩)), (35, .bool (c27 == 9))]) (s' := []) (CC.refl (List.forall_mem_cons.2 ⟨List.mem_cons_self, (fun p hp => by cases hp)⟩)) (by kernel_rfl) ?_
          refine gd_done ?_
          refine gl_atE (by kernel_rfl) ?_
          obtain rfl := some_inj hj19
          exact ge_mid fun t ht => ⟨(Imm.refl _), rfl, ht.pick (l := [0, 35]) (by kernel_rfl)⟩
      · have hj19 := cond_f hc23 hj19
        refine gd_pure 23 [0, 35] (K' := [(0, .pointer (some ⟨g0, 0, none⟩)), (35, .bool false)]) (s' := []) (CC.refl (List.forall_mem_cons.2 ⟨List.mem_cons_self, (fun p hp => by cases hp)⟩)) (by kernel_rfl) ?_
        refine gd_done ?_
        refine gl_atE (by kernel_rfl) ?_
        obtain rfl := some_inj hj19
        exact ge_mid fun t ht => ⟨(Imm.refl _), rfl, ht.pick (l := [0, 35]) (by kernel_rfl)⟩
    · rintro t I22 L' ⟨hI20, rfl, hK21⟩
      refine ge_at hK21 ?_
      refine ge_seq ?_
      refine gk_cond (b := j18) (by kernel_rfl) (by kernel_rfl) (fun hc29 => ?_) (fun hc29 => ?_)
      · have hb9 := cond_t hc29 hb9
        refine gk_skip (by kernel_rfl) ?_
        refine ge_seq ?_
        refine gk_block (by kernel_rfl) ?_
        refine gk_region (by kernel_rfl) ?_
        refine gl_pure 3 [0, 36, 38] (K' := [(0, .pointer (some ⟨g0, 0, none⟩)), (36, .pointer (some ⟨g0, 0, none⟩)), (38, .pointer (some ⟨g0, 1, none⟩))]) (by kernel_rfl) ?_
        refine gl_loadB (T' := 3) (xp := (.tmp 38)) (v := .int .i64 s7) (g := g0) (off := 1) (cs := #[.string a0.f0, .int .i64 s7, .int .i64 a0.f2]) (e := T0) (fz := (0, 0)) (by kernel_rfl) (by kernel_rfl) (by kernel_rfl) List.mem_cons_self (by kernel_rfl) ?_
        refine gl_pure 3 [0, 40, 42] (K' := [(0, .pointer (some ⟨g0, 0, none⟩)), (40, .int .i64 (IntKind.wrap .i64 (s7 + 1))), (42, .pointer (some ⟨g0, 1, none⟩))]) (by kernel_rfl) ?_
        refine gl_storeB (T' := 3) (xp := (.tmp 42)) (xv := (.tmp 40)) (v := .int .i64 (IntKind.wrap .i64 (s7 + 1))) (g := g0) (off := 1) (cs := #[.string a0.f0, .int .i64 s7, .int .i64 a0.f2]) (cs' := #[.string a0.f0, .int .i64 (IntKind.wrap .i64 (s7 + 1)), .int .i64 a0.f2]) (by kernel_rfl) (by kernel_rfl) (by kernel_rfl) (by kernel_rfl) (by kernel_rfl) (Upd.set _ _ _ _) ?_ (by kernel_rfl)
        refine gl_atE (by kernel_rfl) ?_
        refine ge_block_normal ?_
        obtain rfl := some_inj hb9
        exact ge_round fun t ht => ⟨(Imm.trans hI10 hI20), rfl, ht.pick (l := [0]) (by kernel_rfl)⟩
      · have hb9 := cond_f hc29 hb9
        refine gk_exit (by kernel_rfl) ?_
        refine ge_seq_exit ?_
        obtain rfl := some_inj hb9
        refine ge_round_out (fun hrr => ?_) (by intro h; cases h)
        obtain rfl := hrr
        refine ge_block_hit (by kernel_rfl) ?_
        exact ge_mid fun t ht => ⟨(Imm.trans hI10 hI20), rfl, ht.pick (l := []) (by kernel_rfl)⟩
  · rintro t I15 L' ⟨hI13, rfl, hK14⟩
    refine ge_at hK14 ?_
    obtain rfl := some_inj hr
    exact ge_result trivial ResOk.nil hI13 ⟨rfl, rfl⟩
/-! 105 labels_letter  -/
noncomputable def labels_letter (a0 : Int) : Bool :=
  ((((decide (a0 ≥ 97)) && (decide (a0 ≤ 122))) || ((decide (a0 ≥ 65)) && (decide (a0 ≤ 90)))) || (a0 == 95))
theorem labels_letter_walk {a0 : Int} {I : Imm} {r : Bool}  (hr : labels_letter a0 = r) (L : Own) :
    CallsTo Tryz.prog 105 #[.int .u8 a0] I L (fun v I' L' => v = .bool r ∧ L = L') := by
  replace hr : some (labels_letter a0) = some r := congrArg some hr
  unfold labels_letter at hr
  refine callsTo_body (N := 21) Tryz.func105 (by kernel_rfl) (by kernel_rfl) (by kernel_rfl) ?_
  refine gk_pick [0] (K' := [(0, .int .u8 a0)]) (by kernel_rfl) ?_
  refine gk_seq (by kernel_rfl) ?_
  refine gk_region (by kernel_rfl) ?_
  refine gl_pure 1 [0] (K' := [(0, .int .u8 a0)]) (by kernel_rfl) ?_
  refine gl_atE (by kernel_rfl) ?_
  refine ge_seq ?_
  refine gk_seq (by kernel_rfl) ?_
  obtain ⟨b3, hb4⟩ : ∃ z, z = ((((decide (a0 ≥ 97)) && (decide (a0 ≤ 122))) || ((decide (a0 ≥ 65)) && (decide (a0 ≤ 90)))) || (a0 == 95)) := ⟨_, rfl⟩
  refine gk_join (fun t I' L' => I ≤ I' ∧ L = L' ∧ Knows 21 [(2, .bool b3)] t) ?_ ?_
  · refine gk_region (by kernel_rfl) ?_
    refine gl_pure 3 [0, 5] (K' := [(0, .int .u8 a0), (5, .bool (decide (a0 ≥ 97)))]) (by kernel_rfl) ?_
    refine gl_case 5 (b := (decide (a0 ≥ 97))) (by kernel_rfl) (fun hc6 => ?_) (fun hc6 => ?_)
    · refine gl_pure 4 [0, 9] (K' := [(0, .int .u8 a0), (9, .bool (decide (a0 ≤ 122)))]) (by kernel_rfl) ?_
      refine gl_case 9 (b := (decide (a0 ≤ 122))) (by kernel_rfl) (fun hc7 => ?_) (fun hc7 => ?_)
      · refine gl_pure 12 [2] (K' := [(2, .bool true)]) (by kernel_rfl) ?_
        refine gl_atE (by kernel_rfl) ?_
        exact ge_mid fun t ht => ⟨(Imm.refl _), rfl, by rw [(show b3 = true from hb4.trans (by first | (rw [hc6, hc7]; done) | (rw [hc6, hc7]; rfl) | (simp [hc6, hc7]; done) | (simp only [hc6, hc7]; rfl) | (simp at *; omega)))]; exact ht.pick (l := [2]) (by kernel_rfl)⟩
      · refine gl_pure 3 [0, 9, 12] (K' := [(0, .int .u8 a0), (9, .bool false), (12, .bool (decide (a0 ≥ 65)))]) (by kernel_rfl) ?_
        refine gl_case 12 (b := (decide (a0 ≥ 65))) (by kernel_rfl) (fun hc8 => ?_) (fun hc8 => ?_)
        · refine gl_pure 5 [0, 17] (K' := [(0, .int .u8 a0), (17, .bool (decide (a0 ≤ 90)))]) (by kernel_rfl) ?_
          refine gl_case 17 (b := (decide (a0 ≤ 90))) (by kernel_rfl) (fun hc9 => ?_) (fun hc9 => ?_)
          · refine gl_pure 4 [2] (K' := [(2, .bool true)]) (by kernel_rfl) ?_
            refine gl_atE (by kernel_rfl) ?_
            exact ge_mid fun t ht => ⟨(Imm.refl _), rfl, by rw [(show b3 = true from hb4.trans (by first | (rw [hc6, hc7, hc8, hc9]; done) | (rw [hc6, hc7, hc8, hc9]; rfl) | (simp [hc6, hc7, hc8, hc9]; done) | (simp only [hc6, hc7, hc8, hc9]; rfl) | (simp at *; omega)))]; exact ht.pick (l := [2]) (by kernel_rfl)⟩
          · refine gl_pure 4 [2] (K' := [(2, .bool (a0 == 95))]) (by kernel_rfl) ?_
            refine gl_atE (by kernel_rfl) ?_
            exact ge_mid fun t ht => ⟨(Imm.refl _), rfl, by rw [(show b3 = (a0 == 95) from hb4.trans (by first | (rw [hc6, hc7, hc8, hc9]; done) | (rw [hc6, hc7, hc8, hc9]; rfl) | (simp [hc6, hc7, hc8, hc9]; done) | (simp only [hc6, hc7, hc8, hc9]; rfl) | (simp at *; omega)))]; exact ht.pick (l := [2]) (by kernel_rfl)⟩
        · refine gl_pure 9 [2] (K' := [(2, .bool (a0 == 95))]) (by kernel_rfl) ?_
          refine gl_atE (by kernel_rfl) ?_
          exact ge_mid fun t ht => ⟨(Imm.refl _), rfl, by rw [(show b3 = (a0 == 95) from hb4.trans (by first | (rw [hc6, hc7, hc8]; done) | (rw [hc6, hc7, hc8]; rfl) | (simp [hc6, hc7, hc8]; done) | (simp only [hc6, hc7, hc8]; rfl) | (simp at *; omega)))]; exact ht.pick (l := [2]) (by kernel_rfl)⟩
    · refine gl_pure 7 [0, 9, 12] (K' := [(0, .int .u8 a0), (9, .bool false), (12, .bool (decide (a0 ≥ 65)))]) (by kernel_rfl) ?_
      refine gl_case 12 (b := (decide (a0 ≥ 65))) (by kernel_rfl) (fun hc10 => ?_) (fun hc10 => ?_)
      · refine gl_pure 5 [0, 17] (K' := [(0, .int .u8 a0), (17, .bool (decide (a0 ≤ 90)))]) (by kernel_rfl) ?_
        refine gl_case 17 (b := (decide (a0 ≤ 90))) (by kernel_rfl) (fun hc11 => ?_) (fun hc11 => ?_)
        · refine gl_pure 4 [2] (K' := [(2, .bool true)]) (by kernel_rfl) ?_
          refine gl_atE (by kernel_rfl) ?_
          exact ge_mid fun t ht => ⟨(Imm.refl _), rfl, by rw [(show b3 = true from hb4.trans (by first | (rw [hc6, hc10, hc11]; done) | (rw [hc6, hc10, hc11]; rfl) | (simp [hc6, hc10, hc11]; done) | (simp only [hc6, hc10, hc11]; rfl) | (simp at *; omega)))]; exact ht.pick (l := [2]) (by kernel_rfl)⟩
        · refine gl_pure 4 [2] (K' := [(2, .bool (a0 == 95))]) (by kernel_rfl) ?_
          refine gl_atE (by kernel_rfl) ?_
          exact ge_mid fun t ht => ⟨(Imm.refl _), rfl, by rw [(show b3 = (a0 == 95) from hb4.trans (by first | (rw [hc6, hc10, hc11]; done) | (rw [hc6, hc10, hc11]; rfl) | (simp [hc6, hc10, hc11]; done) | (simp only [hc6, hc10, hc11]; rfl) | (simp at *; omega)))]; exact ht.pick (l := [2]) (by kernel_rfl)⟩
      · refine gl_pure 9 [2] (K' := [(2, .bool (a0 == 95))]) (by kernel_rfl) ?_
        refine gl_atE (by kernel_rfl) ?_
        exact ge_mid fun t ht => ⟨(Imm.refl _), rfl, by rw [(show b3 = (a0 == 95) from hb4.trans (by first | (rw [hc6, hc10]; done) | (rw [hc6, hc10]; rfl) | (simp [hc6, hc10]; done) | (simp only [hc6, hc10]; rfl) | (simp at *; omega)))]; exact ht.pick (l := [2]) (by kernel_rfl)⟩
  · rintro t I5 L' ⟨hI1, rfl, hK2⟩
    subst hb4
    refine ge_at hK2 ?_
    refine ge_seq ?_
    refine gk_ret (by kernel_rfl) ?_
    obtain rfl := some_inj hr
    exact ge_result trivial (ResOk.tmp (by kernel_rfl) ResOk.nil) hI1 ⟨rfl, rfl⟩
/-! 104 labels_digit  -/
noncomputable def labels_digit (a0 : Int) : Bool :=
  ((decide (a0 ≥ 48)) && (decide (a0 ≤ 57)))
theorem labels_digit_walk {a0 : Int} {I : Imm} {r : Bool}  (hr : labels_digit a0 = r) (L : Own) :
    CallsTo Tryz.prog 104 #[.int .u8 a0] I L (fun v I' L' => v = .bool r ∧ L = L') := by
  replace hr : some (labels_digit a0) = some r := congrArg some hr
  unfold labels_digit at hr
  refine callsTo_body (N := 9) Tryz.func104 (by kernel_rfl) (by kernel_rfl) (by kernel_rfl) ?_
  refine gk_pick [0] (K' := [(0, .int .u8 a0)]) (by kernel_rfl) ?_
  refine gk_seq (by kernel_rfl) ?_
  refine gk_region (by kernel_rfl) ?_
  refine gl_pure 1 [0] (K' := [(0, .int .u8 a0)]) (by kernel_rfl) ?_
  refine gl_atE (by kernel_rfl) ?_
  refine ge_seq ?_
  refine gk_seq (by kernel_rfl) ?_
  obtain ⟨b3, hb4⟩ : ∃ z, z = ((decide (a0 ≥ 48)) && (decide (a0 ≤ 57))) := ⟨_, rfl⟩
  refine gk_join (fun t I' L' => I ≤ I' ∧ L = L' ∧ Knows 9 [(2, .bool b3)] t) ?_ ?_
  · refine gk_region (by kernel_rfl) ?_
    refine gl_pure 3 [0, 5] (K' := [(0, .int .u8 a0), (5, .bool (decide (a0 ≥ 48)))]) (by kernel_rfl) ?_
    refine gl_case 5 (b := (decide (a0 ≥ 48))) (by kernel_rfl) (fun hc6 => ?_) (fun hc6 => ?_)
    · refine gl_pure 4 [2] (K' := [(2, .bool (decide (a0 ≤ 57)))]) (by kernel_rfl) ?_
      refine gl_atE (by kernel_rfl) ?_
      exact ge_mid fun t ht => ⟨(Imm.refl _), rfl, by rw [(show b3 = (decide (a0 ≤ 57)) from hb4.trans (by first | (rw [hc6]; done) | (rw [hc6]; rfl) | (simp [hc6]; done) | (simp only [hc6]; rfl) | (simp at *; omega)))]; exact ht.pick (l := [2]) (by kernel_rfl)⟩
    · refine gl_pure 4 [2] (K' := [(2, .bool false)]) (by kernel_rfl) ?_
      refine gl_atE (by kernel_rfl) ?_
      exact ge_mid fun t ht => ⟨(Imm.refl _), rfl, by rw [(show b3 = false from hb4.trans (by first | (rw [hc6]; done) | (rw [hc6]; rfl) | (simp [hc6]; done) | (simp only [hc6]; rfl) | (simp at *; omega)))]; exact ht.pick (l := [2]) (by kernel_rfl)⟩
  · rintro t I5 L' ⟨hI1, rfl, hK2⟩
    subst hb4
    refine ge_at hK2 ?_
    refine ge_seq ?_
    refine gk_ret (by kernel_rfl) ?_
    obtain rfl := some_inj hr
    exact ge_result trivial (ResOk.tmp (by kernel_rfl) ResOk.nil) hI1 ⟨rfl, rfl⟩
/-! 58 labels_named  -/
noncomputable def labels_named_l33 (a2 : Bool) (l11 : List Int) : Int → Option ((Int) ⊕ ((Unit) ⊕ (Bool))) := fun s23 =>
  bif (decide (s23 < (l11.length : Int))) then
  (Option.bind (ix l11 s23) fun (x36 : Int) =>
    bif (((!(labels_letter x36)) && (!(labels_digit x36))) && (!(a2 && (x36 == 58)))) then
    (some (Sum.inr (Sum.inr false)))
    else
    (some (Sum.inl (IntKind.wrap .i64 (s23 + 1)))))
  else
  (some (Sum.inr (Sum.inl ())))
noncomputable def labels_named (a0 : ByteArray) (a1 : Int) (a2 : Bool) : Option Bool :=
  Option.bind (bif (a0.toList == (⟨#[]⟩ : ByteArray).toList) then
    (some true)
    else
    (bif (decide ((a0.size : Int) > a1)) then
      (some true)
      else
      (Option.bind (bx a0 0) fun (c8 : Int) =>
        some (labels_digit c8)))) fun (j1 : Bool) =>
  bif j1 then
  (some false)
  else
  (Option.bind (sb a0) fun (l11 : List Int) =>
    Option.bind (loopO (labels_named_l33 a2 l11) 0) fun (r21 : (Unit) ⊕ (Bool)) =>
    match r21 with
    | Sum.inl r29 => some true
    | Sum.inr v54 => some v54)
theorem labels_named_walk {a0 : ByteArray} {a1 : Int} {a2 : Bool} {I : Imm} {r : Bool}  (hr : labels_named a0 a1 a2 = some r) (L : Own) :
    CallsTo Tryz.prog 58 #[.string a0, .int .i64 a1, .bool a2] I L (fun v I' L' => v = .bool r ∧ L = L') := by
  unfold labels_named at hr
  refine callsTo_body (N := 46) Tryz.func58 (by kernel_rfl) (by kernel_rfl) (by kernel_rfl) ?_
  refine gk_pick [0, 1, 2] (K' := [(0, .string a0), (1, .int .i64 a1), (2, .bool a2)]) (by kernel_rfl) ?_
  refine gk_seq (by kernel_rfl) ?_
  refine gk_region (by kernel_rfl) ?_
  refine gl_pure 1 [0, 1, 2] (K' := [(0, .string a0), (1, .int .i64 a1), (2, .bool a2)]) (by kernel_rfl) ?_
  refine gl_atE (by kernel_rfl) ?_
  refine ge_seq ?_
  refine gk_seq (by kernel_rfl) ?_
  refine gk_seq (by kernel_rfl) ?_
  obtain ⟨j1, hj2, hr⟩ := bind_some hr
  refine gk_join (fun t I' L' => I ≤ I' ∧ L = L' ∧ Knows 46 [(0, .string a0), (2, .bool a2), (21, .bool j1)] t) ?_ ?_
  · refine gk_region (by kernel_rfl) ?_
    refine gl_pure 3 [0, 1, 2, 11] (K' := [(0, .string a0), (1, .int .i64 a1), (2, .bool a2), (11, .bool (a0.toList == (⟨#[]⟩ : ByteArray).toList))]) (by kernel_rfl) ?_
    refine gl_case 11 (b := (a0.toList == (⟨#[]⟩ : ByteArray).toList)) (by kernel_rfl) (fun hc6 => ?_) (fun hc6 => ?_)
    · have hj2 := cond_t hc6 hj2
      refine gl_pure 10 [0, 2, 21] (K' := [(0, .string a0), (2, .bool a2), (21, .bool true)]) (by kernel_rfl) ?_
      refine gl_atE (by kernel_rfl) ?_
      obtain rfl := some_inj hj2
      exact ge_mid fun t ht => ⟨(Imm.refl _), rfl, ht.pick (l := [0, 2, 21]) (by kernel_rfl)⟩
    · have hj2 := cond_f hc6 hj2
      refine gl_pure 6 [0, 2, 17] (K' := [(0, .string a0), (2, .bool a2), (17, .bool (decide ((a0.size : Int) > a1)))]) (by kernel_rfl) ?_
      refine gl_case 17 (b := (decide ((a0.size : Int) > a1))) (by kernel_rfl) (fun hc7 => ?_) (fun hc7 => ?_)
      · have hj2 := cond_t hc7 hj2
        refine gl_pure 4 [0, 2, 21] (K' := [(0, .string a0), (2, .bool a2), (21, .bool true)]) (by kernel_rfl) ?_
        refine gl_atE (by kernel_rfl) ?_
        obtain rfl := some_inj hj2
        exact ge_mid fun t ht => ⟨(Imm.refl _), rfl, ht.pick (l := [0, 2, 21]) (by kernel_rfl)⟩
      · have hj2 := cond_f hc7 hj2
        refine gl_pure 1 [0, 2, 17, 18] (K' := [(0, .string a0), (2, .bool a2), (17, .bool false), (18, .string a0)]) (by kernel_rfl) ?_
        obtain ⟨c8, hx9, hj2⟩ := bind_some hj2
        refine gl_index' (T' := 9) (xs := (.tmp 18)) (xi := (.const (.int .i64 0))) (kd := .i64) hx9 (by kernel_rfl) (by kernel_rfl) (by kernel_rfl) (by kernel_rfl) (by kernel_rfl) ?_
        refine gl_callQ (by kernel_rfl) (labels_digit_walk (r := (labels_digit c8))  rfl _) ?_
        refine gl_pure 1 [0, 2, 21] (K' := [(0, .string a0), (2, .bool a2), (21, .bool (labels_digit c8))]) (by kernel_rfl) ?_
        refine gl_atE (by kernel_rfl) ?_
        obtain rfl := some_inj hj2
        exact ge_mid fun t ht => ⟨(Imm.refl _), rfl, ht.pick (l := [0, 2, 21]) (by kernel_rfl)⟩
  · rintro t I5 L' ⟨hI3, rfl, hK4⟩
    refine ge_at hK4 ?_
    refine ge_seq ?_
    refine gk_cond (b := j1) (by kernel_rfl) (by kernel_rfl) (fun hc10 => ?_) (fun hc10 => ?_)
    · have hr := cond_t hc10 hr
      refine gk_seq (by kernel_rfl) ?_
      refine gk_region (by kernel_rfl) ?_
      refine gl_pure 1 [6] (K' := [(6, .bool false)]) (by kernel_rfl) ?_
      refine gl_atE (by kernel_rfl) ?_
      refine ge_seq ?_
      refine gk_ret (by kernel_rfl) ?_
      refine ge_seq_ret ?_
      obtain rfl := some_inj hr
      exact ge_result trivial (ResOk.tmp (by kernel_rfl) ResOk.nil) hI3 ⟨rfl, rfl⟩
    · have hr := cond_f hc10 hr
      refine gk_skip (by kernel_rfl) ?_
      refine ge_seq ?_
      refine gk_seq (by kernel_rfl) ?_
      refine gk_seq (by kernel_rfl) ?_
      refine gk_region (by kernel_rfl) ?_
      refine gl_pure 1 [2, 22] (K' := [(2, .bool a2), (22, .string a0)]) (by kernel_rfl) ?_
      obtain ⟨l11, hx12, hr⟩ := bind_some hr
      refine gl_strBytes (src := 9) (dst := 51) (e := 5) (n := 1) (x := (.tmp 22)) hx12 (by kernel_rfl) (by kernel_rfl) (by kernel_rfl) (by kernel_rfl) (by kernel_rfl) (by kernel_rfl) (fun A13 n14 C15 hO16 => ?_)
      refine gl_pure 2 [2, 23, 24, 25] (K' := [(2, .bool a2), (23, .slice A13 l11.length n14), (24, .int .i64 (l11.length : Int)), (25, .int .i64 0)]) (by kernel_rfl) ?_
      refine gl_atE (by kernel_rfl) ?_
      refine ge_seq ?_
      obtain ⟨r21, hl22, hr⟩ := bind_some hr
      refine gk_join (fun t I' L' => ∃ r29, r21 = Sum.inl r29 ∧ I5 ≤ I' ∧ L = L' ∧ Knows 46 [] t) ?_ ?_
      · refine gk_block (by kernel_rfl) ?_
        refine gk_pick [2, 23, 24, 25] (K' := [(2, .bool a2), (23, .slice A13 l11.length n14), (24, .int .i64 (l11.length : Int)), (25, .int .i64 0)]) (by kernel_rfl) ?_
        intro t hK
        refine gc_loop (labels_named_l33 a2 l11) (fun s23 t I' L' => I5 ≤ I' ∧ C15 ++ L = L' ∧ Knows 46 [(2, .bool a2), (23, .slice A13 l11.length n14), (24, .int .i64 (l11.length : Int)), (25, .int .i64 s23)] t) (by kernel_rfl) ?_ hl22 ⟨(Imm.refl _), rfl, hK⟩
        rintro s23 o24 t I28 L' hb25 ⟨hI26, rfl, hK27⟩
        unfold labels_named_l33 at hb25
        refine gk_at hK27 ?_
        refine gk_seq (by kernel_rfl) ?_
        refine gk_region (by kernel_rfl) ?_
        refine gl_pure 1 [2, 23, 24, 25, 26] (K' := [(2, .bool a2), (23, .slice A13 l11.length n14), (24, .int .i64 (l11.length : Int)), (25, .int .i64 s23), (26, .bool (decide (s23 < (l11.length : Int))))]) (by kernel_rfl) ?_
        refine gl_atE (by kernel_rfl) ?_
        refine ge_seq ?_
        refine gk_seq (by kernel_rfl) ?_
        refine gk_cond (b := (decide (s23 < (l11.length : Int)))) (by kernel_rfl) (by kernel_rfl) (fun hc35 => ?_) (fun hc35 => ?_)
        · have hb25 := cond_t hc35 hb25
          refine gk_skip (by kernel_rfl) ?_
          refine ge_seq ?_
          refine gk_seq (by kernel_rfl) ?_
          refine gk_block (by kernel_rfl) ?_
          refine gk_seq (by kernel_rfl) ?_
          refine gk_region (by kernel_rfl) ?_
          obtain ⟨x36, hx37, hb25⟩ := bind_some hb25
          refine gl_indexAddrW (d := (Kd.int .u8)) (c := n14) (T' := 51) (e := 5) (xs := (.tmp 23)) (xi := (.tmp 25)) (kd := .i64) hx37 (hO16.mono hI26) (Upd.selfC _ _) (by kernel_rfl) (by kernel_rfl) (by kernel_rfl) (by kernel_rfl) (by kernel_rfl) (fun p38 cs39 hR40 hA41 hp44 => ?_)
          obtain rfl := hR40
          refine gl_loadO (T' := 5) (xp := (.tmp 27)) (p := p38) (c := .int .u8 x36) (n := 1) (by kernel_rfl) (by kernel_rfl) (by kernel_rfl) (by kernel_rfl) hA41 ?_
          refine gl_pure 1 [2, 8, 23, 24, 25] (K' := [(2, .bool a2), (8, .int .u8 x36), (23, .slice A13 l11.length n14), (24, .int .i64 (l11.length : Int)), (25, .int .i64 s23)]) (by kernel_rfl) ?_
          refine gl_atE (by kernel_rfl) ?_
          refine ge_seq ?_
          refine gk_seq (by kernel_rfl) ?_
          obtain ⟨b47, hb48⟩ : ∃ z, z = (((!(labels_letter x36)) && (!(labels_digit x36))) && (!(a2 && (x36 == 58)))) := ⟨_, rfl⟩
          refine gk_join (fun t I' L' => I28 ≤ I' ∧ C15 ++ L = L' ∧ Knows 46 [(2, .bool a2), (23, .slice A13 l11.length n14), (24, .int .i64 (l11.length : Int)), (25, .int .i64 s23), (44, .bool b47)] t) ?_ ?_
          · refine gk_region (by kernel_rfl) ?_
            refine gl_pure 1 [2, 8, 23, 24, 25, 29] (K' := [(2, .bool a2), (8, .int .u8 x36), (23, .slice A13 l11.length n14), (24, .int .i64 (l11.length : Int)), (25, .int .i64 s23), (29, .int .u8 x36)]) (by kernel_rfl) ?_
            refine gl_callQ (by kernel_rfl) (labels_letter_walk (r := (labels_letter x36))  rfl _) ?_
            refine gl_pure 2 [2, 8, 23, 24, 25, 32] (K' := [(2, .bool a2), (8, .int .u8 x36), (23, .slice A13 l11.length n14), (24, .int .i64 (l11.length : Int)), (25, .int .i64 s23), (32, .bool (!(labels_letter x36)))]) (by kernel_rfl) ?_
            refine gl_case 32 (b := (!(labels_letter x36))) (by kernel_rfl) (fun hc50 => ?_) (fun hc50 => ?_)
            · refine gl_pure 1 [2, 8, 23, 24, 25, 32, 33] (K' := [(2, .bool a2), (8, .int .u8 x36), (23, .slice A13 l11.length n14), (24, .int .i64 (l11.length : Int)), (25, .int .i64 s23), (32, .bool true), (33, .int .u8 x36)]) (by kernel_rfl) ?_
              refine gl_callQ (by kernel_rfl) (labels_digit_walk (r := (labels_digit x36))  rfl _) ?_
              refine gl_pure 3 [2, 8, 23, 24, 25, 37] (K' := [(2, .bool a2), (8, .int .u8 x36), (23, .slice A13 l11.length n14), (24, .int .i64 (l11.length : Int)), (25, .int .i64 s23), (37, .bool (!(labels_digit x36)))]) (by kernel_rfl) ?_
              refine gl_case 37 (b := (!(labels_digit x36))) (by kernel_rfl) (fun hc51 => ?_) (fun hc51 => ?_)
              · refine gl_pure 2 [2, 8, 23, 24, 25, 37, 39] (K' := [(2, .bool a2), (8, .int .u8 x36), (23, .slice A13 l11.length n14), (24, .int .i64 (l11.length : Int)), (25, .int .i64 s23), (37, .bool true), (39, .bool a2)]) (by kernel_rfl) ?_
                refine gl_case 39 (b := a2) (by kernel_rfl) (fun hc52 => ?_) (fun hc52 => ?_)
                · refine gl_pure 5 [2, 23, 24, 25, 44] (K' := [(2, .bool a2), (23, .slice A13 l11.length n14), (24, .int .i64 (l11.length : Int)), (25, .int .i64 s23), (44, .bool (!(x36 == 58)))]) (by kernel_rfl) ?_
                  refine gl_atE (by kernel_rfl) ?_
                  exact ge_mid fun t ht => ⟨(Imm.refl _), rfl, by rw [(show b47 = (!(x36 == 58)) from hb48.trans (by first | (rw [hc50, hc51, hc52]; done) | (rw [hc50, hc51, hc52]; rfl) | (simp [hc50, hc51, hc52]; done) | (simp only [hc50, hc51, hc52]; rfl) | (simp at *; omega)))]; exact ht.pick (l := [2, 23, 24, 25, 44]) (by kernel_rfl)⟩
                · refine gl_pure 5 [2, 23, 24, 25, 44] (K' := [(2, .bool a2), (23, .slice A13 l11.length n14), (24, .int .i64 (l11.length : Int)), (25, .int .i64 s23), (44, .bool true)]) (by kernel_rfl) ?_
                  refine gl_atE (by kernel_rfl) ?_
                  exact ge_mid fun t ht => ⟨(Imm.refl _), rfl, by rw [(show b47 = true from hb48.trans (by first | (rw [hc50, hc51, hc52]; done) | (rw [hc50, hc51, hc52]; rfl) | (simp [hc50, hc51, hc52]; done) | (simp only [hc50, hc51, hc52]; rfl) | (simp at *; omega)))]; exact ht.pick (l := [2, 23, 24, 25, 44]) (by kernel_rfl)⟩
              · refine gl_pure 7 [2, 23, 24, 25, 44] (K' := [(2, .bool a2), (23, .slice A13 l11.length n14), (24, .int .i64 (l11.length : Int)), (25, .int .i64 s23), (44, .bool false)]) (by kernel_rfl) ?_
                refine gl_atE (by kernel_rfl) ?_
                exact ge_mid fun t ht => ⟨(Imm.refl _), rfl, by rw [(show b47 = false from hb48.trans (by first | (rw [hc50, hc51]; done) | (rw [hc50, hc51]; rfl) | (simp [hc50, hc51]; done) | (simp only [hc50, hc51]; rfl) | (simp at *; omega)))]; exact ht.pick (l := [2, 23, 24, 25, 44]) (by kernel_rfl)⟩
            · refine gl_pure 12 [2, 23, 24, 25, 44] (K' := [(2, .bool a2), (23, .slice A13 l11.length n14), (24, .int .i64 (l11.length : Int)), (25, .int .i64 s23), (44, .bool false)]) (by kernel_rfl) ?_
              refine gl_atE (by kernel_rfl) ?_
              exact ge_mid fun t ht => ⟨(Imm.refl _), rfl, by rw [(show b47 = false from hb48.trans (by first | (rw [hc50]; done) | (rw [hc50]; rfl) | (simp [hc50]; done) | (simp only [hc50]; rfl) | (simp at *; omega)))]; exact ht.pick (l := [2, 23, 24, 25, 44]) (by kernel_rfl)⟩
          · rintro t I49 L' ⟨hI45, rfl, hK46⟩
            subst hb48
            refine ge_at hK46 ?_
            refine ge_seq ?_
            refine gk_cond (b := (((!(labels_letter x36)) && (!(labels_digit x36))) && (!(a2 && (x36 == 58))))) (by kernel_rfl) (by kernel_rfl) (fun hc53 => ?_) (fun hc53 => ?_)
            · have hb25 := cond_t hc53 hb25
              refine gk_seq (by kernel_rfl) ?_
              refine gk_region (by kernel_rfl) ?_
              refine gl_pure 1 [6] (K' := [(6, .bool false)]) (by kernel_rfl) ?_
              refine gl_atE (by kernel_rfl) ?_
              refine ge_seq ?_
              refine gk_reord (D := L) (Reord.skipC (Reord.refl _)) ?_
              refine gk_ret (by kernel_rfl) ?_
              refine ge_block_ret ?_
              refine ge_seq_ret ?_
              obtain rfl := some_inj hb25
              refine ge_round_out (fun hrr => ?_) (by intro h; cases h)
              obtain rfl := hrr
              refine ge_block_ret ?_
              refine ge_seq_ret ?_
              refine ge_seq_ret ?_
              obtain rfl := some_inj hr
              exact ge_result trivial (ResOk.tmp (by kernel_rfl) ResOk.nil) (Imm.trans (Imm.trans hI3 hI26) hI45) ⟨rfl, rfl⟩
            · have hb25 := cond_f hc53 hb25
              refine gk_skip (by kernel_rfl) ?_
              refine ge_block_normal ?_
              refine ge_seq ?_
              refine gk_region (by kernel_rfl) ?_
              refine gl_pure 2 [2, 23, 24, 25] (K' := [(2, .bool a2), (23, .slice A13 l11.length n14), (24, .int .i64 (l11.length : Int)), (25, .int .i64 (IntKind.wrap .i64 (s23 + 1)))]) (by kernel_rfl) ?_
              refine gl_atE (by kernel_rfl) ?_
              obtain rfl := some_inj hb25
              exact ge_round fun t ht => ⟨(Imm.trans hI26 hI45), rfl, ht.pick (l := [2, 23, 24, 25]) (by kernel_rfl)⟩
        · have hb25 := cond_f hc35 hb25
          refine gk_reord (D := L) (Reord.skipC (Reord.refl _)) ?_
          refine gk_exit (by kernel_rfl) ?_
          refine ge_seq_exit ?_
          obtain rfl := some_inj hb25
          refine ge_round_out (fun hrr => ?_) (by intro h; cases h)
          obtain rfl := hrr
          refine ge_block_hit (by kernel_rfl) ?_
          exact ge_mid fun t ht => ⟨_, rfl, hI26, rfl, ht.pick (l := []) (by kernel_rfl)⟩
      · rintro t I32 L' ⟨r29, rfl, hI30, rfl, hK31⟩
        refine ge_at hK31 ?_
        refine ge_seq ?_
        refine gk_seq (by kernel_rfl) ?_
        refine gk_region (by kernel_rfl) ?_
        refine gl_pure 1 [6] (K' := [(6, .bool true)]) (by kernel_rfl) ?_
        refine gl_atE (by kernel_rfl) ?_
        refine ge_seq ?_
        refine gk_ret (by kernel_rfl) ?_
        obtain rfl := some_inj hr
        exact ge_result trivial (ResOk.tmp (by kernel_rfl) ResOk.nil) (Imm.trans hI3 hI30) ⟨rfl, rfl⟩
/-! 19 labels_Metric  -/
noncomputable def labels_Metric (a0 : ByteArray) : Option Bool :=
  Option.bind (labels_named a0 256 true) fun (y1 : Bool) =>
  some y1
theorem labels_Metric_walk {a0 : ByteArray} {I : Imm} {r : Bool}  (hr : labels_Metric a0 = some r) (L : Own) :
    CallsTo Tryz.prog 19 #[.string a0] I L (fun v I' L' => v = .bool r ∧ L = L') := by
  unfold labels_Metric at hr
  refine callsTo_body (N := 5) Tryz.func19 (by kernel_rfl) (by kernel_rfl) (by kernel_rfl) ?_
  refine gk_pick [0] (K' := [(0, .string a0)]) (by kernel_rfl) ?_
  refine gk_seq (by kernel_rfl) ?_
  refine gk_region (by kernel_rfl) ?_
  refine gl_pure 1 [0] (K' := [(0, .string a0)]) (by kernel_rfl) ?_
  refine gl_atE (by kernel_rfl) ?_
  refine ge_seq ?_
  refine gk_seq (by kernel_rfl) ?_
  refine gk_region (by kernel_rfl) ?_
  refine gl_pure 1 [3] (K' := [(3, .string a0)]) (by kernel_rfl) ?_
  obtain ⟨y1, hx2, hr⟩ := bind_some hr
  refine gl_callQ (by kernel_rfl) (labels_named_walk (r := y1)  hx2 _) ?_
  refine gl_pure 1 [2] (K' := [(2, .bool y1)]) (by kernel_rfl) ?_
  refine gl_atE (by kernel_rfl) ?_
  refine ge_seq ?_
  refine gk_ret (by kernel_rfl) ?_
  obtain rfl := some_inj hr
  exact ge_result trivial (ResOk.tmp (by kernel_rfl) ResOk.nil) (Imm.refl _) ⟨rfl, rfl⟩
/-! 17 labels_Name  -/
noncomputable def labels_Name (a0 : ByteArray) : Option Bool :=
  Option.bind (labels_named a0 64 false) fun (y1 : Bool) =>
  some y1
theorem labels_Name_walk {a0 : ByteArray} {I : Imm} {r : Bool}  (hr : labels_Name a0 = some r) (L : Own) :
    CallsTo Tryz.prog 17 #[.string a0] I L (fun v I' L' => v = .bool r ∧ L = L') := by
  unfold labels_Name at hr
  refine callsTo_body (N := 5) Tryz.func17 (by kernel_rfl) (by kernel_rfl) (by kernel_rfl) ?_
  refine gk_pick [0] (K' := [(0, .string a0)]) (by kernel_rfl) ?_
  refine gk_seq (by kernel_rfl) ?_
  refine gk_region (by kernel_rfl) ?_
  refine gl_pure 1 [0] (K' := [(0, .string a0)]) (by kernel_rfl) ?_
  refine gl_atE (by kernel_rfl) ?_
  refine ge_seq ?_
  refine gk_seq (by kernel_rfl) ?_
  refine gk_region (by kernel_rfl) ?_
  refine gl_pure 1 [3] (K' := [(3, .string a0)]) (by kernel_rfl) ?_
  obtain ⟨y1, hx2, hr⟩ := bind_some hr
  refine gl_callQ (by kernel_rfl) (labels_named_walk (r := y1)  hx2 _) ?_
  refine gl_pure 1 [2] (K' := [(2, .bool y1)]) (by kernel_rfl) ?_
  refine gl_atE (by kernel_rfl) ?_
  refine ge_seq ?_
  refine gk_ret (by kernel_rfl) ?_
  obtain rfl := some_inj hr
  exact ge_result trivial (ResOk.tmp (by kernel_rfl) ResOk.nil) (Imm.refl _) ⟨rfl, rfl⟩
/-! 71 labels_reader_fail ('obj', 'imm') -/
noncomputable def labels_reader_fail (a0 : S89) (a1 : Int) : Option S89 :=
  Option.bind (bif (decide (a0.f2 < 0)) then
    (some a1)
    else
    (some a0.f2)) fun (j1 : Int) =>
  some (⟨a0.f0, a0.f1, j1⟩ : S89)
theorem labels_reader_fail_walk {a0 : S89} {g0 : Nat} {T0 : TypeId} {a1 : Int} {I : Imm} {r : S89}  (hr : labels_reader_fail a0 a1 = some r) (L : Own) :
    CallsTo Tryz.prog 71 #[.pointer (some ⟨g0, 0, none⟩), .int .i64 a1] I ((g0, .cells #[.string a0.f0, .int .i64 a0.f1, .int .i64 a0.f2] T0) :: L) (fun v I' L' => v = .tuple #[] ∧ (g0, .cells #[.string r.f0, .int .i64 r.f1, .int .i64 r.f2] T0) :: L = L') := by
  unfold labels_reader_fail at hr
  refine callsTo_body (N := 13) Tryz.func71 (by kernel_rfl) (by kernel_rfl) (by kernel_rfl) ?_
  refine gk_pick [0, 1] (K' := [(0, .pointer (some ⟨g0, 0, none⟩)), (1, .int .i64 a1)]) (by kernel_rfl) ?_
  refine gk_seq (by kernel_rfl) ?_
  refine gk_region (by kernel_rfl) ?_
  refine gl_pure 3 [0, 1, 6] (K' := [(0, .pointer (some ⟨g0, 0, none⟩)), (1, .int .i64 a1), (6, .pointer (some ⟨g0, 2, none⟩))]) (by kernel_rfl) ?_
  refine gl_loadB (T' := 3) (xp := (.tmp 6)) (v := .int .i64 a0.f2) (g := g0) (off := 2) (cs := #[.string a0.f0, .int .i64 a0.f1, .int .i64 a0.f2]) (e := T0) (fz := (0, 0)) (by kernel_rfl) (by kernel_rfl) (by kernel_rfl) List.mem_cons_self (by kernel_rfl) ?_
  refine gl_pure 1 [0, 1, 8] (K' := [(0, .pointer (some ⟨g0, 0, none⟩)), (1, .int .i64 a1), (8, .bool (decide (a0.f2 < 0)))]) (by kernel_rfl) ?_
  refine gl_atE (by kernel_rfl) ?_
  refine ge_seq ?_
  obtain ⟨j1, hj2, hr⟩ := bind_some hr
  refine gk_join (fun t I' L' => I ≤ I' ∧ (g0, .cells #[.string a0.f0, .int .i64 a0.f1, .int .i64 j1] T0) :: L = L' ∧ Knows 13 [] t) ?_ ?_
  · refine gk_cond (b := (decide (a0.f2 < 0))) (by kernel_rfl) (by kernel_rfl) (fun hc6 => ?_) (fun hc6 => ?_)
    · have hj2 := cond_t hc6 hj2
      refine gk_region (by kernel_rfl) ?_
      refine gl_pure 4 [10, 12] (K' := [(10, .int .i64 a1), (12, .pointer (some ⟨g0, 2, none⟩))]) (by kernel_rfl) ?_
      refine gl_storeB (T' := 3) (xp := (.tmp 12)) (xv := (.tmp 10)) (v := .int .i64 a1) (g := g0) (off := 2) (cs := #[.string a0.f0, .int .i64 a0.f1, .int .i64 a0.f2]) (cs' := #[.string a0.f0, .int .i64 a0.f1, .int .i64 a1]) (by kernel_rfl) (by kernel_rfl) (by kernel_rfl) (by kernel_rfl) (by kernel_rfl) (Upd.set _ _ _ _) ?_ (by kernel_rfl)
      refine gl_atE (by kernel_rfl) ?_
      obtain rfl := some_inj hj2
      exact ge_mid fun t ht => ⟨(Imm.refl _), rfl, ht.pick (l := []) (by kernel_rfl)⟩
    · have hj2 := cond_f hc6 hj2
      refine gk_skip (by kernel_rfl) ?_
      obtain rfl := some_inj hj2
      exact ge_mid fun t ht => ⟨(Imm.refl _), rfl, ht.pick (l := []) (by kernel_rfl)⟩
  · rintro t I5 L' ⟨hI3, rfl, hK4⟩
    refine ge_at hK4 ?_
    obtain rfl := some_inj hr
    exact ge_result trivial ResOk.nil hI3 ⟨rfl, rfl⟩
/-! 68 labels_reader_name ('obj', 'imm') -/
noncomputable def labels_reader_name_l22 (a1 : Bool) (y2 : S89) : Int → Option ((Int) ⊕ (Int)) := fun s13 =>
  Option.bind (bif (decide (s13 < (y2.f0.size : Int))) then
    (Option.bind (bx y2.f0 s13) fun (c30 : Int) =>
      bif (labels_letter c30) then
      (some true)
      else
      (Option.bind (bx y2.f0 s13) fun (c33 : Int) =>
        bif (labels_digit c33) then
        (some true)
        else
        (bif a1 then
          (Option.bind (bx y2.f0 s13) fun (c37 : Int) =>
            some (c37 == 58))
          else
          (some false))))
    else
    (some false)) fun (j24 : Bool) =>
  bif j24 then
  (some (Sum.inl (IntKind.wrap .i64 (s13 + 1))))
  else
  (some (Sum.inr s13))
noncomputable def labels_reader_name (a0 : S89) (a1 : Bool) : Option (ByteArray × S89) :=
  bif (decide (a0.f2 ≥ 0)) then
  (some ((⟨#[]⟩ : ByteArray), a0))
  else
  (Option.bind (labels_reader_blanks a0) fun (y2 : S89) =>
    Option.bind (loopO (labels_reader_name_l22 a1 y2) y2.f1) fun (r11 : Int) =>
    Option.bind (sx y2.f0 y2.f1 r11) fun (s41 : ByteArray) =>
    Option.bind (bif a1 then
      (Option.bind (labels_Metric s41) fun (y48 : Bool) =>
        bif (!y48) then
        (some true)
        else
        (bif (!a1) then
          (Option.bind (labels_Name s41) fun (y52 : Bool) =>
            some (!y52))
          else
          (some false)))
      else
      (bif (!a1) then
        (Option.bind (labels_Name s41) fun (y55 : Bool) =>
          some (!y55))
        else
        (some false))) fun (j42 : Bool) =>
    Option.bind (bif j42 then
      (Option.bind (bif (s41.toList == (⟨#[]⟩ : ByteArray).toList) then
          (Option.bind (labels_reader_fail (⟨y2.f0, r11, y2.f2⟩ : S89) r11) fun (y69 : S89) =>
            some (y69.f0, y69.f1, y69.f2))
          else
          (some (y2.f0, r11, y2.f2))) fun (j63 : ByteArray × Int × Int) =>
        Option.bind (labels_reader_fail (⟨j63.1, j63.2.1, j63.2.2⟩ : S89) y2.f1) fun (y74 : S89) =>
        some (y74.f0, y74.f1, y74.f2))
      else
      (some (y2.f0, r11, y2.f2))) fun (j57 : ByteArray × Int × Int) =>
    some (s41, (⟨j57.1, j57.2.1, j57.2.2⟩ : S89)))
theorem labels_reader_name_walk {a0 : S89} {g0 : Nat} {T0 : TypeId} {a1 : Bool} {I : Imm} {r : ByteArray × S89}  (hr : labels_reader_name a0 a1 = some r) (L : Own) :
    CallsTo Tryz.prog 68 #[.pointer (some ⟨g0, 0, none⟩), .bool a1] I ((g0, .cells #[.string a0.f0, .int .i64 a0.f1, .int .i64 a0.f2] T0) :: L) (fun v I' L' => v = .string r.1 ∧ (g0, .cells #[.string r.2.f0, .int .i64 r.2.f1, .int .i64 r.2.f2] T0) :: L = L') := by
  unfold labels_reader_name at hr
  refine callsTo_body (N := 111) Tryz.func68 (by kernel_rfl) (by kernel_rfl) (by kernel_rfl) ?_
  refine gk_pick [0, 1] (K' := [(0, .pointer (some ⟨g0, 0, none⟩)), (1, .bool a1)]) (by kernel_rfl) ?_
  refine gk_seq (by kernel_rfl) ?_
  refine gk_region (by kernel_rfl) ?_
  refine gl_pure 1 [0, 1] (K' := [(0, .pointer (some ⟨g0, 0, none⟩)), (1, .bool a1)]) (by kernel_rfl) ?_
  refine gl_atE (by kernel_rfl) ?_
  refine ge_seq ?_
  refine gk_seq (by kernel_rfl) ?_
  refine gk_seq (by kernel_rfl) ?_
  refine gk_region (by kernel_rfl) ?_
  refine gl_pure 3 [0, 1, 9] (K' := [(0, .pointer (some ⟨g0, 0, none⟩)), (1, .bool a1), (9, .pointer (some ⟨g0, 2, none⟩))]) (by kernel_rfl) ?_
  refine gl_loadB (T' := 3) (xp := (.tmp 9)) (v := .int .i64 a0.f2) (g := g0) (off := 2) (cs := #[.string a0.f0, .int .i64 a0.f1, .int .i64 a0.f2]) (e := T0) (fz := (0, 0)) (by kernel_rfl) (by kernel_rfl) (by kernel_rfl) List.mem_cons_self (by kernel_rfl) ?_
  refine gl_pure 1 [0, 1, 11] (K' := [(0, .pointer (some ⟨g0, 0, none⟩)), (1, .bool a1), (11, .bool (decide (a0.f2 ≥ 0)))]) (by kernel_rfl) ?_
  refine gl_atE (by kernel_rfl) ?_
  refine ge_seq ?_
  refine gk_cond (b := (decide (a0.f2 ≥ 0))) (by kernel_rfl) (by kernel_rfl) (fun hc1 => ?_) (fun hc1 => ?_)
  · have hr := cond_t hc1 hr
    refine gk_seq (by kernel_rfl) ?_
    refine gk_region (by kernel_rfl) ?_
    refine gl_pure 1 [4] (K' := [(4, .string (⟨#[]⟩ : ByteArray))]) (by kernel_rfl) ?_
    refine gl_atE (by kernel_rfl) ?_
    refine ge_seq ?_
    refine gk_ret (by kernel_rfl) ?_
    refine ge_seq_ret ?_
    obtain rfl := some_inj hr
    exact ge_result trivial (ResOk.tmp (by kernel_rfl) ResOk.nil) (Imm.refl _) ⟨rfl, rfl⟩
  · have hr := cond_f hc1 hr
    refine gk_skip (by kernel_rfl) ?_
    refine ge_seq ?_
    refine gk_seq (by kernel_rfl) ?_
    refine gk_region (by kernel_rfl) ?_
    refine gl_pure 1 [0, 1, 12] (K' := [(0, .pointer (some ⟨g0, 0, none⟩)), (1, .bool a1), (12, .pointer (some ⟨g0, 0, none⟩))]) (by kernel_rfl) ?_
    obtain ⟨y2, hx3, hr⟩ := bind_some hr
    refine gl_call (by kernel_rfl) (labels_reader_blanks_walk (r := y2) (g0 := g0) (T0 := T0) (a0 := a0) hx3 _) ?_
    rintro v I4 L5 hI6 ⟨rfl, rfl⟩
    refine gl_atE (by kernel_rfl) ?_
    refine ge_seq ?_
    refine gk_seq (by kernel_rfl) ?_
    refine gk_region (by kernel_rfl) ?_
    refine gl_pure 3 [0, 1, 16] (K' := [(0, .pointer (some ⟨g0, 0, none⟩)), (1, .bool a1), (16, .pointer (some ⟨g0, 1, none⟩))]) (by kernel_rfl) ?_
    refine gl_loadB (T' := 3) (xp := (.tmp 16)) (v := .int .i64 y2.f1) (g := g0) (off := 1) (cs := #[.string y2.f0, .int .i64 y2.f1, .int .i64 y2.f2]) (e := T0) (fz := (0, 0)) (by kernel_rfl) (by kernel_rfl) (by kernel_rfl) List.mem_cons_self (by kernel_rfl) ?_
    refine gl_pure 1 [0, 1, 5] (K' := [(0, .pointer (some ⟨g0, 0, none⟩)), (1, .bool a1), (5, .int .i64 y2.f1)]) (by kernel_rfl) ?_
    refine gl_atE (by kernel_rfl) ?_
    refine ge_seq ?_
    refine gk_seq (by kernel_rfl) ?_
    obtain ⟨r11, hl12, hr⟩ := bind_some hr
    refine gk_join (fun t I' L' => I4 ≤ I' ∧ (g0, .cells #[.string y2.f0, .int .i64 r11, .int .i64 y2.f2] T0) :: L = L' ∧ Knows 111 [(0, .pointer (some ⟨g0, 0, none⟩)), (1, .bool a1), (5, .int .i64 y2.f1)] t) ?_ ?_
    · refine gk_block (by kernel_rfl) ?_
      refine gk_pick [0, 1, 5] (K' := [(0, .pointer (some ⟨g0, 0, none⟩)), (1, .bool a1), (5, .int .i64 y2.f1)]) (by kernel_rfl) ?_
      intro t hK
      refine gc_loop (labels_reader_name_l22 a1 y2) (fun s13 t I' L' => I4 ≤ I' ∧ (g0, .cells #[.string y2.f0, .int .i64 s13, .int .i64 y2.f2] T0) :: L = L' ∧ Knows 111 [(0, .pointer (some ⟨g0, 0, none⟩)), (1, .bool a1), (5, .int .i64 y2.f1)] t) (by kernel_rfl) ?_ hl12 ⟨(Imm.refl _), rfl, hK⟩
      rintro s13 o14 t I18 L' hb15 ⟨hI16, rfl, hK17⟩
      unfold labels_reader_name_l22 at hb15
      refine gk_at hK17 ?_
      refine gk_seq (by kernel_rfl) ?_
      refine gk_seq (by kernel_rfl) ?_
      obtain ⟨j24, hj25, hb15⟩ := bind_some hb15
      refine gk_join (fun t I' L' => I18 ≤ I' ∧ (g0, .cells #[.string y2.f0, .int .i64 s13, .int .i64 y2.f2] T0) :: L = L' ∧ Knows 111 [(0, .pointer (some ⟨g0, 0, none⟩)), (1, .bool a1), (5, .int .i64 y2.f1), (66, .bool j24)] t) ?_ ?_
      · refine gk_draw 49 [(0, true), (1, true), (2, true), (3, true), (4, true), (5, true), (6, true), (7, true), (8, true), (9, true), (10, true), (11, true), (12, true), (13, true), (14, true), (15, true), (16, true), (17, true), (18, true), (19, true), (20, true), (21, true), (22, true), (23, true), (24, true), (25, true), (26, true), (27, true), (28, true), (29, true), (30, true), (31, true), (32, true), (33, true), (34, true), (35, true), (36, true), (37, true), (38, true), (39, true), (40, true), (41, true), (42, true), (43, true), (44, true), (45, true), (46, true), (47, true), (48, true)] [(g0, .cells #[.string y2.f0, .int .i64 s13, .int .i64 y2.f2] T0)] (List.forall_mem_cons.2 ⟨List.mem_cons_self, (fun p hp => by cases hp)⟩) (by kernel_rfl) (by kernel_rfl) (by kernel_rfl) ?_ (by kernel_rfl)
        refine gd_pure 3 [0, 1, 5, 20] (K' := [(0, .pointer (some ⟨g0, 0, none⟩)), (1, .bool a1), (5, .int .i64 y2.f1), (20, .pointer (some ⟨g0, 1, none⟩))]) (s' := [(3, true), (4, true), (5, true), (6, true), (7, true), (8, true), (9, true), (10, true), (11, true), (12, true), (13, true), (14, true), (15, true), (16, true), (17, true), (18, true), (19, true), (20, true), (21, true), (22, true), (23, true), (24, true), (25, true), (26, true), (27, true), (28, true), (29, true), (30, true), (31, true), (32, true), (33, true), (34, true), (35, true), (36, true), (37, true), (38, true), (39, true), (40, true), (41, true), (42, true), (43, true), (44, true), (45, true), (46, true), (47, true), (48, true)]) (CC.refl (List.forall_mem_cons.2 ⟨List.mem_cons_self, (fun p hp => by cases hp)⟩)) (by kernel_rfl) ?_
        refine gd_q (v := .int .i64 s13) (by kernel_rfl) (by kernel_rfl) (CC.refl (List.forall_mem_cons.2 ⟨List.mem_cons_self, (fun p hp => by cases hp)⟩)) (fun I' L' T hC kk => gl_loadB (T' := 3) (xp := (.tmp 20)) (v := .int .i64 s13) (g := g0) (off := 1) (cs := #[.string y2.f0, .int .i64 s13, .int .i64 y2.f2]) (e := T0) (fz := (0, 0)) (by kernel_rfl) (by kernel_rfl) (by kernel_rfl) (hC.sub _ List.mem_cons_self) (by kernel_rfl) kk) ?_
        refine gd_pure 3 [0, 1, 5, 21, 24] (K' := [(0, .pointer (some ⟨g0, 0, none⟩)), (1, .bool a1), (5, .int .i64 y2.f1), (21, .int .i64 s13), (24, .pointer (some ⟨g0, 0, none⟩))]) (s' := [(7, true), (8, true), (9, true), (10, true), (11, true), (12, true), (13, true), (14, true), (15, true), (16, true), (17, true), (18, true), (19, true), (20, true), (21, true), (22, true), (23, true), (24, true), (25, true), (26, true), (27, true), (28, true), (29, true), (30, true), (31, true), (32, true), (33, true), (34, true), (35, true), (36, true), (37, true), (38, true), (39, true), (40, true), (41, true), (42, true), (43, true), (44, true), (45, true), (46, true), (47, true), (48, true)]) (CC.refl (List.forall_mem_cons.2 ⟨List.mem_cons_self, (fun p hp => by cases hp)⟩)) (by kernel_rfl) ?_
        refine gd_q (v := .string y2.f0) (by kernel_rfl) (by kernel_rfl) (CC.refl (List.forall_mem_cons.2 ⟨List.mem_cons_self, (fun p hp => by cases hp)⟩)) (fun I' L' T hC kk => gl_loadB (T' := 9) (xp := (.tmp 24)) (v := .string y2.f0) (g := g0) (off := 0) (cs := #[.string y2.f0, .int .i64 s13, .int .i64 y2.f2]) (e := T0) (fz := (0, 0)) (by kernel_rfl) (by kernel_rfl) (by kernel_rfl) (hC.sub _ List.mem_cons_self) (by kernel_rfl) kk) ?_
        refine gd_pure 3 [0, 1, 5, 28] (K' := [(0, .pointer (some ⟨g0, 0, none⟩)), (1, .bool a1), (5, .int .i64 y2.f1), (28, .bool (decide (s13 < (y2.f0.size : Int))))]) (s' := [(11, true), (12, true), (13, true), (14, true), (15, true), (16, true), (17, true), (18, true), (19, true), (20, true), (21, true), (22, true), (23, true), (24, true), (25, true), (26, true), (27, true), (28, true), (29, true), (30, true), (31, true), (32, true), (33, true), (34, true), (35, true), (36, true), (37, true), (38, true), (39, true), (40, true), (41, true), (42, true), (43, true), (44, true), (45, true), (46, true), (47, true), (48, true)]) (CC.refl (List.forall_mem_cons.2 ⟨List.mem_cons_self, (fun p hp => by cases hp)⟩)) (by kernel_rfl) ?_
        refine gd_case 28 (b := (decide (s13 < (y2.f0.size : Int)))) (by kernel_rfl) (fun hc29 => ?_) (fun hc29 => ?_)
        · have hj25 := cond_t hc29 hj25
          refine gd_pure 3 [0, 1, 5, 28, 31] (K' := [(0, .pointer (some ⟨g0, 0, none⟩)), (1, .bool a1), (5, .int .i64 y2.f1), (28, .bool true), (31, .pointer (some ⟨g0, 0, none⟩))]) (s' := [(14, true), (15, true), (16, true), (17, true), (18, true), (19, true), (20, true), (21, true), (22, true), (23, true), (24, true), (25, true), (26, true), (27, true), (28, true), (29, true), (30, true), (31, true), (32, true), (33, true), (34, true), (35, true), (36, true), (37, true), (38, true), (39, true), (40, true), (41, true), (42, true), (43, true), (44, true), (45, true), (46, true), (47, true), (48, true)]) (CC.refl (List.forall_mem_cons.2 ⟨List.mem_cons_self, (fun p hp => by cases hp)⟩)) (by kernel_rfl) ?_
          refine gd_q (v := .string y2.f0) (by kernel_rfl) (by kernel_rfl) (CC.refl (List.forall_mem_cons.2 ⟨List.mem_cons_self, (fun p hp => by cases hp)⟩)) (fun I' L' T hC kk => gl_loadB (T' := 9) (xp := (.tmp 31)) (v := .string y2.f0) (g := g0) (off := 0) (cs := #[.string y2.f0, .int .i64 s13, .int .i64 y2.f2]) (e := T0) (fz := (0, 0)) (by kernel_rfl) (by kernel_rfl) (by kernel_rfl) (hC.sub _ List.mem_cons_self) (by kernel_rfl) kk) ?_
          refine gd_pure 3 [0, 1, 5, 28, 32, 35] (K' := [(0, .pointer (some ⟨g0, 0, none⟩)), (1, .bool a1), (5, .int .i64 y2.f1), (28, .bool true), (32, .string y2.f0), (35, .pointer (some ⟨g0, 1, none⟩))]) (s' := [(18, true), (19, true), (20, true), (21, true), (22, true), (23, true), (24, true), (25, true), (26, true), (27, true), (28, true), (29, true), (30, true), (31, true), (32, true), (33, true), (34, true), (35, true), (36, true), (37, true), (38, true), (39, true), (40, true), (41, true), (42, true), (43, true), (44, true), (45, true), (46, true), (47, true), (48, true)]) (CC.refl (List.forall_mem_cons.2 ⟨List.mem_cons_self, (fun p hp => by cases hp)⟩)) (by kernel_rfl) ?_
          refine gd_q (v := .int .i64 s13) (by kernel_rfl) (by kernel_rfl) (CC.refl (List.forall_mem_cons.2 ⟨List.mem_cons_self, (fun p hp => by cases hp)⟩)) (fun I' L' T hC kk => gl_loadB (T' := 3) (xp := (.tmp 35)) (v := .int .i64 s13) (g := g0) (off := 1) (cs := #[.string y2.f0, .int .i64 s13, .int .i64 y2.f2]) (e := T0) (fz := (0, 0)) (by kernel_rfl) (by kernel_rfl) (by kernel_rfl) (hC.sub _ List.mem_cons_self) (by kernel_rfl) kk) ?_
          obtain ⟨c30, hx31, hj25⟩ := bind_some hj25
          refine gd_q (v := .int .u8 c30) (by kernel_rfl) (by kernel_rfl) (CC.refl (List.forall_mem_cons.2 ⟨List.mem_cons_self, (fun p hp => by cases hp)⟩)) (fun I' L' T hC kk => gl_index' (T' := 9) (xs := (.tmp 32)) (xi := (.tmp 36)) (kd := .i64) hx31 (by kernel_rfl) (by kernel_rfl) (by kernel_rfl) (by kernel_rfl) (by kernel_rfl) kk) ?_
          refine gd_q (v := .bool (labels_letter c30)) (by kernel_rfl) (by kernel_rfl) (CC.refl (List.forall_mem_cons.2 ⟨List.mem_cons_self, (fun p hp => by cases hp)⟩)) (fun I' L' T hC kk => gl_callQ (by kernel_rfl) (labels_letter_walk (r := (labels_letter c30))  rfl _) kk) ?_
          refine gd_pure 1 [0, 1, 5, 28, 39] (K' := [(0, .pointer (some ⟨g0, 0, none⟩)), (1, .bool a1), (5, .int .i64 y2.f1), (28, .bool true), (39, .bool (labels_letter c30))]) (s' := [(22, true), (23, true), (24, true), (25, true), (26, true), (27, true), (28, true), (29, true), (30, true), (31, true), (32, true), (33, true), (34, true), (35, true), (36, true), (37, true), (38, true), (39, true), (40, true), (41, true), (42, true), (43, true), (44, true), (45, true), (46, true), (47, true), (48, true)]) (CC.refl (List.forall_mem_cons.2 ⟨List.mem_cons_self, (fun p hp => by cases hp)⟩)) (by kernel_rfl) ?_
          refine gd_case 39 (b := (labels_letter c30)) (by kernel_rfl) (fun hc32 => ?_) (fun hc32 => ?_)
          · have hj25 := cond_t hc32 hj25
            refine gd_pure 27 [0, 1, 5, 66] (K' := [(0, .pointer (some ⟨g0, 0, none⟩)), (1, .bool a1), (5, .int .i64 y2.f1), (66, .bool true)]) (s' := []) (CC.refl (List.forall_mem_cons.2 ⟨List.mem_cons_self, (fun p hp => by cases hp)⟩)) (by kernel_rfl) ?_
            refine gd_done ?_
            refine gl_atE (by kernel_rfl) ?_
            obtain rfl := some_inj hj25
            exact ge_mid fun t ht => ⟨(Imm.refl _), rfl, ht.pick (l := [0, 1, 5, 66]) (by kernel_rfl)⟩
          · have hj25 := cond_f hc32 hj25
            refine gd_pure 3 [0, 1, 5, 28, 39, 42] (K' := [(0, .pointer (some ⟨g0, 0, none⟩)), (1, .bool a1), (5, .int .i64 y2.f1), (28, .bool true), (39, .bool false), (42, .pointer (some ⟨g0, 0, none⟩))]) (s' := [(25, true), (26, true), (27, true), (28, true), (29, true), (30, true), (31, true), (32, true), (33, true), (34, true), (35, true), (36, true), (37, true), (38, true), (39, true), (40, true), (41, true), (42, true), (43, true), (44, true), (45, true), (46, true), (47, true), (48, true)]) (CC.refl (List.forall_mem_cons.2 ⟨List.mem_cons_self, (fun p hp => by cases hp)⟩)) (by kernel_rfl) ?_
            refine gd_q (v := .string y2.f0) (by kernel_rfl) (by kernel_rfl) (CC.refl (List.forall_mem_cons.2 ⟨List.mem_cons_self, (fun p hp => by cases hp)⟩)) (fun I' L' T hC kk => gl_loadB (T' := 9) (xp := (.tmp 42)) (v := .string y2.f0) (g := g0) (off := 0) (cs := #[.string y2.f0, .int .i64 s13, .int .i64 y2.f2]) (e := T0) (fz := (0, 0)) (by kernel_rfl) (by kernel_rfl) (by kernel_rfl) (hC.sub _ List.mem_cons_self) (by kernel_rfl) kk) ?_
            refine gd_pure 3 [0, 1, 5, 28, 39, 43, 46] (K' := [(0, .pointer (some ⟨g0, 0, none⟩)), (1, .bool a1), (5, .int .i64 y2.f1), (28, .bool true), (39, .bool false), (43, .string y2.f0), (46, .pointer (some ⟨g0, 1, none⟩))]) (s' := [(29, true), (30, true), (31, true), (32, true), (33, true), (34, true), (35, true), (36, true), (37, true), (38, true), (39, true), (40, true), (41, true), (42, true), (43, true), (44, true), (45, true), (46, true), (47, true), (48, true)]) (CC.refl (List.forall_mem_cons.2 ⟨List.mem_cons_self, (fun p hp => by cases hp)⟩)) (by kernel_rfl) ?_
            refine gd_q (v := .int .i64 s13) (by kernel_rfl) (by kernel_rfl) (CC.refl (List.forall_mem_cons.2 ⟨List.mem_cons_self, (fun p hp => by cases hp)⟩)) (fun I' L' T hC kk => gl_loadB (T' := 3) (xp := (.tmp 46)) (v := .int .i64 s13) (g := g0) (off := 1) (cs := #[.string y2.f0, .int .i64 s13, .int .i64 y2.f2]) (e := T0) (fz := (0, 0)) (by kernel_rfl) (by kernel_rfl) (by kernel_rfl) (hC.sub _ List.mem_cons_self) (by kernel_rfl) kk) ?_
            obtain ⟨c33, hx34, hj25⟩ := bind_some hj25
            refine gd_q (v := .int .u8 c33) (by kernel_rfl) (by kernel_rfl) (CC.refl (List.forall_mem_cons.2 ⟨List.mem_cons_self, (fun p hp => by cases hp)⟩)) (fun I' L' T hC kk => gl_index' (T' := 9) (xs := (.tmp 43)) (xi := (.tmp 47)) (kd := .i64) hx34 (by kernel_rfl) (by kernel_rfl) (by kernel_rfl) (by kernel_rfl) (by kernel_rfl) kk) ?_
            refine gd_q (v := .bool (labels_digit c33)) (by kernel_rfl) (by kernel_rfl) (CC.refl (List.forall_mem_cons.2 ⟨List.mem_cons_self, (fun p hp => by cases hp)⟩)) (fun I' L' T hC kk => gl_callQ (by kernel_rfl) (labels_digit_walk (r := (labels_digit c33))  rfl _) kk) ?_
            refine gd_pure 2 [0, 1, 5, 28, 51] (K' := [(0, .pointer (some ⟨g0, 0, none⟩)), (1, .bool a1), (5, .int .i64 y2.f1), (28, .bool true), (51, .bool (labels_digit c33))]) (s' := [(34, true), (35, true), (36, true), (37, true), (38, true), (39, true), (40, true), (41, true), (42, true), (43, true), (44, true), (45, true), (46, true), (47, true), (48, true)]) (CC.refl (List.forall_mem_cons.2 ⟨List.mem_cons_self, (fun p hp => by cases hp)⟩)) (by kernel_rfl) ?_
            refine gd_case 51 (b := (labels_digit c33)) (by kernel_rfl) (fun hc35 => ?_) (fun hc35 => ?_)
            · have hj25 := cond_t hc35 hj25
              refine gd_pure 15 [0, 1, 5, 66] (K' := [(0, .pointer (some ⟨g0, 0, none⟩)), (1, .bool a1), (5, .int .i64 y2.f1), (66, .bool true)]) (s' := []) (CC.refl (List.forall_mem_cons.2 ⟨List.mem_cons_self, (fun p hp => by cases hp)⟩)) (by kernel_rfl) ?_
              refine gd_done ?_
              refine gl_atE (by kernel_rfl) ?_
              obtain rfl := some_inj hj25
              exact ge_mid fun t ht => ⟨(Imm.refl _), rfl, ht.pick (l := [0, 1, 5, 66]) (by kernel_rfl)⟩
            · have hj25 := cond_f hc35 hj25
              refine gd_pure 2 [0, 1, 5, 28, 51, 53] (K' := [(0, .pointer (some ⟨g0, 0, none⟩)), (1, .bool a1), (5, .int .i64 y2.f1), (28, .bool true), (51, .bool false), (53, .bool a1)]) (s' := [(36, true), (37, true), (38, true), (39, true), (40, true), (41, true), (42, true), (43, true), (44, true), (45, true), (46, true), (47, true), (48, true)]) (CC.refl (List.forall_mem_cons.2 ⟨List.mem_cons_self, (fun p hp => by cases hp)⟩)) (by kernel_rfl) ?_
              refine gd_case 53 (b := a1) (by kernel_rfl) (fun hc36 => ?_) (fun hc36 => ?_)
              · have hj25 := cond_t hc36 hj25
                refine gd_pure 3 [0, 1, 5, 28, 51, 53, 56] (K' := [(0, .pointer (some ⟨g0, 0, none⟩)), (1, .bool a1), (5, .int .i64 y2.f1), (28, .bool true), (51, .bool false), (53, .bool true), (56, .pointer (some ⟨g0, 0, none⟩))]) (s' := [(39, true), (40, true), (41, true), (42, true), (43, true), (44, true), (45, true), (46, true), (47, true), (48, true)]) (CC.refl (List.forall_mem_cons.2 ⟨List.mem_cons_self, (fun p hp => by cases hp)⟩)) (by kernel_rfl) ?_
                refine gd_q (v := .string y2.f0) (by kernel_rfl) (by kernel_rfl) (CC.refl (List.forall_mem_cons.2 ⟨List.mem_cons_self, (fun p hp => by cases hp)⟩)) (fun I' L' T hC kk => gl_loadB (T' := 9) (xp := (.tmp 56)) (v := .string y2.f0) (g := g0) (off := 0) (cs := #[.string y2.f0, .int .i64 s13, .int .i64 y2.f2]) (e := T0) (fz := (0, 0)) (by kernel_rfl) (by kernel_rfl) (by kernel_rfl) (hC.sub _ List.mem_cons_self) (by kernel_rfl) kk) ?_
                refine gd_pure 3 [0, 1, 5, 28, 51, 53, 57, 60] (K' := [(0, .pointer (some ⟨g0, 0, none⟩)), (1, .bool a1), (5, .int .i64 y2.f1), (28, .bool true), (51, .bool false), (53, .bool true), (57, .string y2.f0), (60, .pointer (some ⟨g0, 1, none⟩))]) (s' := [(43, true), (44, true), (45, true), (46, true), (47, true), (48, true)]) (CC.refl (List.forall_mem_cons.2 ⟨List.mem_cons_self, (fun p hp => by cases hp)⟩)) (by kernel_rfl) ?_
                refine gd_q (v := .int .i64 s13) (by kernel_rfl) (by kernel_rfl) (CC.refl (List.forall_mem_cons.2 ⟨List.mem_cons_self, (fun p hp => by cases hp)⟩)) (fun I' L' T hC kk => gl_loadB (T' := 3) (xp := (.tmp 60)) (v := .int .i64 s13) (g := g0) (off := 1) (cs := #[.string y2.f0, .int .i64 s13, .int .i64 y2.f2]) (e := T0) (fz := (0, 0)) (by kernel_rfl) (by kernel_rfl) (by kernel_rfl) (hC.sub _ List.mem_cons_self) (by kernel_rfl) kk) ?_
                obtain ⟨c37, hx38, hj25⟩ := bind_some hj25
                refine gd_q (v := .int .u8 c37) (by kernel_rfl) (by kernel_rfl) (CC.refl (List.forall_mem_cons.2 ⟨List.mem_cons_self, (fun p hp => by cases hp)⟩)) (fun I' L' T hC kk => gl_index' (T' := 9) (xs := (.tmp 57)) (xi := (.tmp 61)) (kd := .i64) hx38 (by kernel_rfl) (by kernel_rfl) (by kernel_rfl) (by kernel_rfl) (by kernel_rfl) kk) ?_
                refine gd_pure 4 [0, 1, 5, 66] (K' := [(0, .pointer (some ⟨g0, 0, none⟩)), (1, .bool a1), (5, .int .i64 y2.f1), (66, .bool (c37 == 58))]) (s' := []) (CC.refl (List.forall_mem_cons.2 ⟨List.mem_cons_self, (fun p hp => by cases hp)⟩)) (by kernel_rfl) ?_
                refine gd_done ?_
                refine gl_atE (by kernel_rfl) ?_
                obtain rfl := some_inj hj25
                exact ge_mid fun t ht => ⟨(Imm.refl _), rfl, ht.pick (l := [0, 1, 5, 66]) (by kernel_rfl)⟩
              · have hj25 := cond_f hc36 hj25
                refine gd_pure 13 [0, 1, 5, 66] (K' := [(0, .pointer (some ⟨g0, 0, none⟩)), (1, .bool a1), (5, .int .i64 y2.f1), (66, .bool false)]) (s' := []) (CC.refl (List.forall_mem_cons.2 ⟨List.mem_cons_self, (fun p hp => by cases hp)⟩)) (by kernel_rfl) ?_
                refine gd_done ?_
                refine gl_atE (by kernel_rfl) ?_
                obtain rfl := some_inj hj25
                exact ge_mid fun t ht => ⟨(Imm.refl _), rfl, ht.pick (l := [0, 1, 5, 66]) (by kernel_rfl)⟩
        · have hj25 := cond_f hc29 hj25
          refine gd_pure 38 [0, 1, 5, 66] (K' := [(0, .pointer (some ⟨g0, 0, none⟩)), (1, .bool a1), (5, .int .i64 y2.f1), (66, .bool false)]) (s' := []) (CC.refl (List.forall_mem_cons.2 ⟨List.mem_cons_self, (fun p hp => by cases hp)⟩)) (by kernel_rfl) ?_
          refine gd_done ?_
          refine gl_atE (by kernel_rfl) ?_
          obtain rfl := some_inj hj25
          exact ge_mid fun t ht => ⟨(Imm.refl _), rfl, ht.pick (l := [0, 1, 5, 66]) (by kernel_rfl)⟩
      · rintro t I28 L' ⟨hI26, rfl, hK27⟩
        refine ge_at hK27 ?_
        refine ge_seq ?_
        refine gk_cond (b := j24) (by kernel_rfl) (by kernel_rfl) (fun hc39 => ?_) (fun hc39 => ?_)
        · have hb15 := cond_t hc39 hb15
          refine gk_skip (by kernel_rfl) ?_
          refine ge_seq ?_
          refine gk_block (by kernel_rfl) ?_
          refine gk_region (by kernel_rfl) ?_
          refine gl_pure 3 [0, 1, 5, 67, 69] (K' := [(0, .pointer (some ⟨g0, 0, none⟩)), (1, .bool a1), (5, .int .i64 y2.f1), (67, .pointer (some ⟨g0, 0, none⟩)), (69, .pointer (some ⟨g0, 1, none⟩))]) (by kernel_rfl) ?_
          refine gl_loadB (T' := 3) (xp := (.tmp 69)) (v := .int .i64 s13) (g := g0) (off := 1) (cs := #[.string y2.f0, .int .i64 s13, .int .i64 y2.f2]) (e := T0) (fz := (0, 0)) (by kernel_rfl) (by kernel_rfl) (by kernel_rfl) List.mem_cons_self (by kernel_rfl) ?_
          refine gl_pure 3 [0, 1, 5, 71, 73] (K' := [(0, .pointer (some ⟨g0, 0, none⟩)), (1, .bool a1), (5, .int .i64 y2.f1), (71, .int .i64 (IntKind.wrap .i64 (s13 + 1))), (73, .pointer (some ⟨g0, 1, none⟩))]) (by kernel_rfl) ?_
          refine gl_storeB (T' := 3) (xp := (.tmp 73)) (xv := (.tmp 71)) (v := .int .i64 (IntKind.wrap .i64 (s13 + 1))) (g := g0) (off := 1) (cs := #[.string y2.f0, .int .i64 s13, .int .i64 y2.f2]) (cs' := #[.string y2.f0, .int .i64 (IntKind.wrap .i64 (s13 + 1)), .int .i64 y2.f2]) (by kernel_rfl) (by kernel_rfl) (by kernel_rfl) (by kernel_rfl) (by kernel_rfl) (Upd.set _ _ _ _) ?_ (by kernel_rfl)
          refine gl_atE (by kernel_rfl) ?_
          refine ge_block_normal ?_
          obtain rfl := some_inj hb15
          exact ge_round fun t ht => ⟨(Imm.trans hI16 hI26), rfl, ht.pick (l := [0, 1, 5]) (by kernel_rfl)⟩
        · have hb15 := cond_f hc39 hb15
          refine gk_exit (by kernel_rfl) ?_
          refine ge_seq_exit ?_
          obtain rfl := some_inj hb15
          refine ge_round_out (fun hrr => ?_) (by intro h; cases h)
          obtain rfl := hrr
          refine ge_block_hit (by kernel_rfl) ?_
          exact ge_mid fun t ht => ⟨(Imm.trans hI16 hI26), rfl, ht.pick (l := [0, 1, 5]) (by kernel_rfl)⟩
    · rintro t I21 L' ⟨hI19, rfl, hK20⟩
      refine ge_at hK20 ?_
      refine ge_seq ?_
      refine gk_seq (by kernel_rfl) ?_
      refine gk_draw 11 [(0, true), (1, true), (2, true), (3, true), (4, true), (5, true), (6, true), (7, true), (8, true), (9, true), (10, true)] [(g0, .cells #[.string y2.f0, .int .i64 r11, .int .i64 y2.f2] T0)] (List.forall_mem_cons.2 ⟨List.mem_cons_self, (fun p hp => by cases hp)⟩) (by kernel_rfl) (by kernel_rfl) (by kernel_rfl) ?_ (by kernel_rfl)
      refine gd_pure 3 [0, 1, 5, 76] (K' := [(0, .pointer (some ⟨g0, 0, none⟩)), (1, .bool a1), (5, .int .i64 y2.f1), (76, .pointer (some ⟨g0, 0, none⟩))]) (s' := [(3, true), (4, true), (5, true), (6, true), (7, true), (8, true), (9, true), (10, true)]) (CC.refl (List.forall_mem_cons.2 ⟨List.mem_cons_self, (fun p hp => by cases hp)⟩)) (by kernel_rfl) ?_
      refine gd_q (v := .string y2.f0) (by kernel_rfl) (by kernel_rfl) (CC.refl (List.forall_mem_cons.2 ⟨List.mem_cons_self, (fun p hp => by cases hp)⟩)) (fun I' L' T hC kk => gl_loadB (T' := 9) (xp := (.tmp 76)) (v := .string y2.f0) (g := g0) (off := 0) (cs := #[.string y2.f0, .int .i64 r11, .int .i64 y2.f2]) (e := T0) (fz := (0, 0)) (by kernel_rfl) (by kernel_rfl) (by kernel_rfl) (hC.sub _ List.mem_cons_self) (by kernel_rfl) kk) ?_
      refine gd_pure 4 [0, 1, 5, 77, 78, 81] (K' := [(0, .pointer (some ⟨g0, 0, none⟩)), (1, .bool a1), (5, .int .i64 y2.f1), (77, .string y2.f0), (78, .int .i64 y2.f1), (81, .pointer (some ⟨g0, 1, none⟩))]) (s' := [(8, true), (9, true), (10, true)]) (CC.refl (List.forall_mem_cons.2 ⟨List.mem_cons_self, (fun p hp => by cases hp)⟩)) (by kernel_rfl) ?_
      refine gd_q (v := .int .i64 r11) (by kernel_rfl) (by kernel_rfl) (CC.refl (List.forall_mem_cons.2 ⟨List.mem_cons_self, (fun p hp => by cases hp)⟩)) (fun I' L' T hC kk => gl_loadB (T' := 3) (xp := (.tmp 81)) (v := .int .i64 r11) (g := g0) (off := 1) (cs := #[.string y2.f0, .int .i64 r11, .int .i64 y2.f2]) (e := T0) (fz := (0, 0)) (by kernel_rfl) (by kernel_rfl) (by kernel_rfl) (hC.sub _ List.mem_cons_self) (by kernel_rfl) kk) ?_
      obtain ⟨s41, hx40, hr⟩ := bind_some hr
      refine gd_q (v := .string s41) (by kernel_rfl) (by kernel_rfl) (CC.refl (List.forall_mem_cons.2 ⟨List.mem_cons_self, (fun p hp => by cases hp)⟩)) (fun I' L' T hC kk => gl_slice' (T' := 9) (xs := (.tmp 77)) (lo := (some (.tmp 78))) (hi := (some (.tmp 82))) hx40 (by kernel_rfl) (by kernel_rfl) (by kernel_rfl) (by kernel_rfl) (by kernel_rfl) (by kernel_rfl) kk) ?_
      refine gd_pure 1 [0, 1, 5, 6] (K' := [(0, .pointer (some ⟨g0, 0, none⟩)), (1, .bool a1), (5, .int .i64 y2.f1), (6, .string s41)]) (s' := []) (CC.refl (List.forall_mem_cons.2 ⟨List.mem_cons_self, (fun p hp => by cases hp)⟩)) (by kernel_rfl) ?_
      refine gd_done ?_
      refine gl_atE (by kernel_rfl) ?_
      refine ge_seq ?_
      refine gk_seq (by kernel_rfl) ?_
      refine gk_seq (by kernel_rfl) ?_
      obtain ⟨j42, hj43, hr⟩ := bind_some hr
      refine gk_join (fun t I' L' => I21 ≤ I' ∧ (g0, .cells #[.string y2.f0, .int .i64 r11, .int .i64 y2.f2] T0) :: L = L' ∧ Knows 111 [(0, .pointer (some ⟨g0, 0, none⟩)), (5, .int .i64 y2.f1), (6, .string s41), (98, .bool j42)] t) ?_ ?_
      · refine gk_region (by kernel_rfl) ?_
        refine gl_pure 2 [0, 1, 5, 6, 85] (K' := [(0, .pointer (some ⟨g0, 0, none⟩)), (1, .bool a1), (5, .int .i64 y2.f1), (6, .string s41), (85, .bool a1)]) (by kernel_rfl) ?_
        refine gl_case 85 (b := a1) (by kernel_rfl) (fun hc47 => ?_) (fun hc47 => ?_)
        · have hj43 := cond_t hc47 hj43
          refine gl_pure 1 [0, 1, 5, 6, 85, 86] (K' := [(0, .pointer (some ⟨g0, 0, none⟩)), (1, .bool a1), (5, .int .i64 y2.f1), (6, .string s41), (85, .bool true), (86, .string s41)]) (by kernel_rfl) ?_
          obtain ⟨y48, hx49, hj43⟩ := bind_some hj43
          refine gl_callQ (by kernel_rfl) (labels_Metric_walk (r := y48)  hx49 _) ?_
          refine gl_pure 3 [0, 1, 5, 6, 90] (K' := [(0, .pointer (some ⟨g0, 0, none⟩)), (1, .bool a1), (5, .int .i64 y2.f1), (6, .string s41), (90, .bool (!y48))]) (by kernel_rfl) ?_
          refine gl_case 90 (b := (!y48)) (by kernel_rfl) (fun hc50 => ?_) (fun hc50 => ?_)
          · have hj43 := cond_t hc50 hj43
            refine gl_pure 8 [0, 5, 6, 98] (K' := [(0, .pointer (some ⟨g0, 0, none⟩)), (5, .int .i64 y2.f1), (6, .string s41), (98, .bool true)]) (by kernel_rfl) ?_
            refine gl_atE (by kernel_rfl) ?_
            obtain rfl := some_inj hj43
            exact ge_mid fun t ht => ⟨(Imm.refl _), rfl, ht.pick (l := [0, 5, 6, 98]) (by kernel_rfl)⟩
          · have hj43 := cond_f hc50 hj43
            refine gl_pure 3 [0, 5, 6, 90, 93] (K' := [(0, .pointer (some ⟨g0, 0, none⟩)), (5, .int .i64 y2.f1), (6, .string s41), (90, .bool false), (93, .bool (!a1))]) (by kernel_rfl) ?_
            refine gl_case 93 (b := (!a1)) (by kernel_rfl) (fun hc51 => ?_) (fun hc51 => ?_)
            · have hj43 := cond_t hc51 hj43
              refine gl_pure 1 [0, 5, 6, 90, 93, 94] (K' := [(0, .pointer (some ⟨g0, 0, none⟩)), (5, .int .i64 y2.f1), (6, .string s41), (90, .bool false), (93, .bool true), (94, .string s41)]) (by kernel_rfl) ?_
              obtain ⟨y52, hx53, hj43⟩ := bind_some hj43
              refine gl_callQ (by kernel_rfl) (labels_Name_walk (r := y52)  hx53 _) ?_
              refine gl_pure 3 [0, 5, 6, 98] (K' := [(0, .pointer (some ⟨g0, 0, none⟩)), (5, .int .i64 y2.f1), (6, .string s41), (98, .bool (!y52))]) (by kernel_rfl) ?_
              refine gl_atE (by kernel_rfl) ?_
              obtain rfl := some_inj hj43
              exact ge_mid fun t ht => ⟨(Imm.refl _), rfl, ht.pick (l := [0, 5, 6, 98]) (by kernel_rfl)⟩
            · have hj43 := cond_f hc51 hj43
              refine gl_pure 5 [0, 5, 6, 98] (K' := [(0, .pointer (some ⟨g0, 0, none⟩)), (5, .int .i64 y2.f1), (6, .string s41), (98, .bool false)]) (by kernel_rfl) ?_
              refine gl_atE (by kernel_rfl) ?_
              obtain rfl := some_inj hj43
              exact ge_mid fun t ht => ⟨(Imm.refl _), rfl, ht.pick (l := [0, 5, 6, 98]) (by kernel_rfl)⟩
        · have hj43 := cond_f hc47 hj43
          refine gl_pure 8 [0, 5, 6, 90, 93] (K' := [(0, .pointer (some ⟨g0, 0, none⟩)), (5, .int .i64 y2.f1), (6, .string s41), (90, .bool false), (93, .bool (!a1))]) (by kernel_rfl) ?_
          refine gl_case 93 (b := (!a1)) (by kernel_rfl) (fun hc54 => ?_) (fun hc54 => ?_)
          · have hj43 := cond_t hc54 hj43
            refine gl_pure 1 [0, 5, 6, 90, 93, 94] (K' := [(0, .pointer (some ⟨g0, 0, none⟩)), (5, .int .i64 y2.f1), (6, .string s41), (90, .bool false), (93, .bool true), (94, .string s41)]) (by kernel_rfl) ?_
            obtain ⟨y55, hx56, hj43⟩ := bind_some hj43
            refine gl_callQ (by kernel_rfl) (labels_Name_walk (r := y55)  hx56 _) ?_
            refine gl_pure 3 [0, 5, 6, 98] (K' := [(0, .pointer (some ⟨g0, 0, none⟩)), (5, .int .i64 y2.f1), (6, .string s41), (98, .bool (!y55))]) (by kernel_rfl) ?_
            refine gl_atE (by kernel_rfl) ?_
            obtain rfl := some_inj hj43
            exact ge_mid fun t ht => ⟨(Imm.refl _), rfl, ht.pick (l := [0, 5, 6, 98]) (by kernel_rfl)⟩
          · have hj43 := cond_f hc54 hj43
            refine gl_pure 5 [0, 5, 6, 98] (K' := [(0, .pointer (some ⟨g0, 0, none⟩)), (5, .int .i64 y2.f1), (6, .string s41), (98, .bool false)]) (by kernel_rfl) ?_
            refine gl_atE (by kernel_rfl) ?_
            obtain rfl := some_inj hj43
            exact ge_mid fun t ht => ⟨(Imm.refl _), rfl, ht.pick (l := [0, 5, 6, 98]) (by kernel_rfl)⟩
      · rintro t I46 L' ⟨hI44, rfl, hK45⟩
        refine ge_at hK45 ?_
        refine ge_seq ?_
        obtain ⟨j57, hj58, hr⟩ := bind_some hr
        refine gk_join (fun t I' L' => I46 ≤ I' ∧ (g0, .cells #[.string j57.1, .int .i64 j57.2.1, .int .i64 j57.2.2] T0) :: L = L' ∧ Knows 111 [(6, .string s41)] t) ?_ ?_
        · refine gk_cond (b := j42) (by kernel_rfl) (by kernel_rfl) (fun hc62 => ?_) (fun hc62 => ?_)
          · have hj58 := cond_t hc62 hj58
            refine gk_seq (by kernel_rfl) ?_
            refine gk_seq (by kernel_rfl) ?_
            refine gk_region (by kernel_rfl) ?_
            refine gl_pure 2 [0, 5, 6, 100] (K' := [(0, .pointer (some ⟨g0, 0, none⟩)), (5, .int .i64 y2.f1), (6, .string s41), (100, .bool (s41.toList == (⟨#[]⟩ : ByteArray).toList))]) (by kernel_rfl) ?_
            refine gl_atE (by kernel_rfl) ?_
            refine ge_seq ?_
            obtain ⟨j63, hj64, hj58⟩ := bind_some hj58
            refine gk_join (fun t I' L' => I46 ≤ I' ∧ (g0, .cells #[.string j63.1, .int .i64 j63.2.1, .int .i64 j63.2.2] T0) :: L = L' ∧ Knows 111 [(0, .pointer (some ⟨g0, 0, none⟩)), (5, .int .i64 y2.f1), (6, .string s41)] t) ?_ ?_
            · refine gk_cond (b := (s41.toList == (⟨#[]⟩ : ByteArray).toList)) (by kernel_rfl) (by kernel_rfl) (fun hc68 => ?_) (fun hc68 => ?_)
              · have hj64 := cond_t hc68 hj64
                refine gk_region (by kernel_rfl) ?_
                refine gl_pure 4 [0, 5, 6, 101, 104] (K' := [(0, .pointer (some ⟨g0, 0, none⟩)), (5, .int .i64 y2.f1), (6, .string s41), (101, .pointer (some ⟨g0, 0, none⟩)), (104, .pointer (some ⟨g0, 1, none⟩))]) (by kernel_rfl) ?_
                refine gl_loadB (T' := 3) (xp := (.tmp 104)) (v := .int .i64 r11) (g := g0) (off := 1) (cs := #[.string y2.f0, .int .i64 r11, .int .i64 y2.f2]) (e := T0) (fz := (0, 0)) (by kernel_rfl) (by kernel_rfl) (by kernel_rfl) List.mem_cons_self (by kernel_rfl) ?_
                obtain ⟨y69, hx70, hj64⟩ := bind_some hj64
                refine gl_call (by kernel_rfl) (labels_reader_fail_walk (r := y69) (g0 := g0) (T0 := T0) (a0 := (⟨y2.f0, r11, y2.f2⟩ : S89)) hx70 _) ?_
                rintro v I71 L72 hI73 ⟨rfl, rfl⟩
                refine gl_atE (by kernel_rfl) ?_
                obtain rfl := some_inj hj64
                exact ge_mid fun t ht => ⟨hI73, rfl, ht.pick (l := [0, 5, 6]) (by kernel_rfl)⟩
              · have hj64 := cond_f hc68 hj64
                refine gk_skip (by kernel_rfl) ?_
                obtain rfl := some_inj hj64
                exact ge_mid fun t ht => ⟨(Imm.refl _), rfl, ht.pick (l := [0, 5, 6]) (by kernel_rfl)⟩
            · rintro t I67 L' ⟨hI65, rfl, hK66⟩
              refine ge_at hK66 ?_
              refine ge_seq ?_
              refine gk_region (by kernel_rfl) ?_
              refine gl_pure 2 [6, 107, 108] (K' := [(6, .string s41), (107, .pointer (some ⟨g0, 0, none⟩)), (108, .int .i64 y2.f1)]) (by kernel_rfl) ?_
              obtain ⟨y74, hx75, hj58⟩ := bind_some hj58
              refine gl_call (by kernel_rfl) (labels_reader_fail_walk (r := y74) (g0 := g0) (T0 := T0) (a0 := (⟨j63.1, j63.2.1, j63.2.2⟩ : S89)) hx75 _) ?_
              rintro v I76 L77 hI78 ⟨rfl, rfl⟩
              refine gl_atE (by kernel_rfl) ?_
              obtain rfl := some_inj hj58
              exact ge_mid fun t ht => ⟨(Imm.trans hI65 hI78), rfl, ht.pick (l := [6]) (by kernel_rfl)⟩
          · have hj58 := cond_f hc62 hj58
            refine gk_skip (by kernel_rfl) ?_
            obtain rfl := some_inj hj58
            exact ge_mid fun t ht => ⟨(Imm.refl _), rfl, ht.pick (l := [6]) (by kernel_rfl)⟩
        · rintro t I61 L' ⟨hI59, rfl, hK60⟩
          refine ge_at hK60 ?_
          refine ge_seq ?_
          refine gk_seq (by kernel_rfl) ?_
          refine gk_region (by kernel_rfl) ?_
          refine gl_pure 2 [4] (K' := [(4, .string s41)]) (by kernel_rfl) ?_
          refine gl_atE (by kernel_rfl) ?_
          refine ge_seq ?_
          refine gk_ret (by kernel_rfl) ?_
          obtain rfl := some_inj hr
          exact ge_result trivial (ResOk.tmp (by kernel_rfl) ResOk.nil) (Imm.trans (Imm.trans (Imm.trans hI6 hI19) hI44) hI59) ⟨rfl, rfl⟩
/-! 69 labels_reader_next ('obj', 'imm') -/
noncomputable def labels_reader_next (a0 : S89) (a1 : Int) : Option (Bool × S89) :=
  bif (decide (a0.f2 ≥ 0)) then
  (some (false, a0))
  else
  (Option.bind (labels_reader_blanks a0) fun (y2 : S89) =>
    Option.bind (bif (decide (y2.f1 ≥ (y2.f0.size : Int))) then
      (some true)
      else
      (Option.bind (bx y2.f0 y2.f1) fun (c13 : Int) =>
        some (c13 != a1))) fun (j7 : Bool) =>
    bif j7 then
    (some (false, y2))
    else
    (some (true, (⟨y2.f0, (IntKind.wrap .i64 (y2.f1 + 1)), y2.f2⟩ : S89))))
theorem labels_reader_next_walk {a0 : S89} {g0 : Nat} {T0 : TypeId} {a1 : Int} {I : Imm} {r : Bool × S89}  (hr : labels_reader_next a0 a1 = some r) (L : Own) :
    CallsTo Tryz.prog 69 #[.pointer (some ⟨g0, 0, none⟩), .int .u8 a1] I ((g0, .cells #[.string a0.f0, .int .i64 a0.f1, .int .i64 a0.f2] T0) :: L) (fun v I' L' => v = .bool r.1 ∧ (g0, .cells #[.string r.2.f0, .int .i64 r.2.f1, .int .i64 r.2.f2] T0) :: L = L') := by
  unfold labels_reader_next at hr
  refine callsTo_body (N := 42) Tryz.func69 (by kernel_rfl) (by kernel_rfl) (by kernel_rfl) ?_
  refine gk_pick [0, 1] (K' := [(0, .pointer (some ⟨g0, 0, none⟩)), (1, .int .u8 a1)]) (by kernel_rfl) ?_
  refine gk_seq (by kernel_rfl) ?_
  refine gk_region (by kernel_rfl) ?_
  refine gl_pure 1 [0, 1] (K' := [(0, .pointer (some ⟨g0, 0, none⟩)), (1, .int .u8 a1)]) (by kernel_rfl) ?_
  refine gl_atE (by kernel_rfl) ?_
  refine ge_seq ?_
  refine gk_seq (by kernel_rfl) ?_
  refine gk_seq (by kernel_rfl) ?_
  refine gk_region (by kernel_rfl) ?_
  refine gl_pure 3 [0, 1, 7] (K' := [(0, .pointer (some ⟨g0, 0, none⟩)), (1, .int .u8 a1), (7, .pointer (some ⟨g0, 2, none⟩))]) (by kernel_rfl) ?_
  refine gl_loadB (T' := 3) (xp := (.tmp 7)) (v := .int .i64 a0.f2) (g := g0) (off := 2) (cs := #[.string a0.f0, .int .i64 a0.f1, .int .i64 a0.f2]) (e := T0) (fz := (0, 0)) (by kernel_rfl) (by kernel_rfl) (by kernel_rfl) List.mem_cons_self (by kernel_rfl) ?_
  refine gl_pure 1 [0, 1, 9] (K' := [(0, .pointer (some ⟨g0, 0, none⟩)), (1, .int .u8 a1), (9, .bool (decide (a0.f2 ≥ 0)))]) (by kernel_rfl) ?_
  refine gl_atE (by kernel_rfl) ?_
  refine ge_seq ?_
  refine gk_cond (b := (decide (a0.f2 ≥ 0))) (by kernel_rfl) (by kernel_rfl) (fun hc1 => ?_) (fun hc1 => ?_)
  · have hr := cond_t hc1 hr
    refine gk_seq (by kernel_rfl) ?_
    refine gk_region (by kernel_rfl) ?_
    refine gl_pure 1 [4] (K' := [(4, .bool false)]) (by kernel_rfl) ?_
    refine gl_atE (by kernel_rfl) ?_
    refine ge_seq ?_
    refine gk_ret (by kernel_rfl) ?_
    refine ge_seq_ret ?_
    obtain rfl := some_inj hr
    exact ge_result trivial (ResOk.tmp (by kernel_rfl) ResOk.nil) (Imm.refl _) ⟨rfl, rfl⟩
  · have hr := cond_f hc1 hr
    refine gk_skip (by kernel_rfl) ?_
    refine ge_seq ?_
    refine gk_seq (by kernel_rfl) ?_
    refine gk_region (by kernel_rfl) ?_
    refine gl_pure 1 [0, 1, 10] (K' := [(0, .pointer (some ⟨g0, 0, none⟩)), (1, .int .u8 a1), (10, .pointer (some ⟨g0, 0, none⟩))]) (by kernel_rfl) ?_
    obtain ⟨y2, hx3, hr⟩ := bind_some hr
    refine gl_call (by kernel_rfl) (labels_reader_blanks_walk (r := y2) (g0 := g0) (T0 := T0) (a0 := a0) hx3 _) ?_
    rintro v I4 L5 hI6 ⟨rfl, rfl⟩
    refine gl_atE (by kernel_rfl) ?_
    refine ge_seq ?_
    refine gk_seq (by kernel_rfl) ?_
    refine gk_seq (by kernel_rfl) ?_
    obtain ⟨j7, hj8, hr⟩ := bind_some hr
    refine gk_join (fun t I' L' => I4 ≤ I' ∧ (g0, .cells #[.string y2.f0, .int .i64 y2.f1, .int .i64 y2.f2] T0) :: L = L' ∧ Knows 42 [(0, .pointer (some ⟨g0, 0, none⟩)), (34, .bool j7)] t) ?_ ?_
    · refine gk_draw 23 [(0, true), (1, true), (2, true), (3, true), (4, true), (5, true), (6, true), (7, true), (8, true), (9, true), (10, true), (11, true), (12, true), (13, true), (14, true), (15, true), (16, true), (17, true), (18, true), (19, true), (20, true), (21, true), (22, true)] [(g0, .cells #[.string y2.f0, .int .i64 y2.f1, .int .i64 y2.f2] T0)] (List.forall_mem_cons.2 ⟨List.mem_cons_self, (fun p hp => by cases hp)⟩) (by kernel_rfl) (by kernel_rfl) (by kernel_rfl) ?_ (by kernel_rfl)
      refine gd_pure 3 [0, 1, 14] (K' := [(0, .pointer (some ⟨g0, 0, none⟩)), (1, .int .u8 a1), (14, .pointer (some ⟨g0, 1, none⟩))]) (s' := [(3, true), (4, true), (5, true), (6, true), (7, true), (8, true), (9, true), (10, true), (11, true), (12, true), (13, true), (14, true), (15, true), (16, true), (17, true), (18, true), (19, true), (20, true), (21, true), (22, true)]) (CC.refl (List.forall_mem_cons.2 ⟨List.mem_cons_self, (fun p hp => by cases hp)⟩)) (by kernel_rfl) ?_
      refine gd_q (v := .int .i64 y2.f1) (by kernel_rfl) (by kernel_rfl) (CC.refl (List.forall_mem_cons.2 ⟨List.mem_cons_self, (fun p hp => by cases hp)⟩)) (fun I' L' T hC kk => gl_loadB (T' := 3) (xp := (.tmp 14)) (v := .int .i64 y2.f1) (g := g0) (off := 1) (cs := #[.string y2.f0, .int .i64 y2.f1, .int .i64 y2.f2]) (e := T0) (fz := (0, 0)) (by kernel_rfl) (by kernel_rfl) (by kernel_rfl) (hC.sub _ List.mem_cons_self) (by kernel_rfl) kk) ?_
      refine gd_pure 3 [0, 1, 15, 18] (K' := [(0, .pointer (some ⟨g0, 0, none⟩)), (1, .int .u8 a1), (15, .int .i64 y2.f1), (18, .pointer (some ⟨g0, 0, none⟩))]) (s' := [(7, true), (8, true), (9, true), (10, true), (11, true), (12, true), (13, true), (14, true), (15, true), (16, true), (17, true), (18, true), (19, true), (20, true), (21, true), (22, true)]) (CC.refl (List.forall_mem_cons.2 ⟨List.mem_cons_self, (fun p hp => by cases hp)⟩)) (by kernel_rfl) ?_
      refine gd_q (v := .string y2.f0) (by kernel_rfl) (by kernel_rfl) (CC.refl (List.forall_mem_cons.2 ⟨List.mem_cons_self, (fun p hp => by cases hp)⟩)) (fun I' L' T hC kk => gl_loadB (T' := 9) (xp := (.tmp 18)) (v := .string y2.f0) (g := g0) (off := 0) (cs := #[.string y2.f0, .int .i64 y2.f1, .int .i64 y2.f2]) (e := T0) (fz := (0, 0)) (by kernel_rfl) (by kernel_rfl) (by kernel_rfl) (hC.sub _ List.mem_cons_self) (by kernel_rfl) kk) ?_
      refine gd_pure 3 [0, 1, 22] (K' := [(0, .pointer (some ⟨g0, 0, none⟩)), (1, .int .u8 a1), (22, .bool (decide (y2.f1 ≥ (y2.f0.size : Int))))]) (s' := [(11, true), (12, true), (13, true), (14, true), (15, true), (16, true), (17, true), (18, true), (19, true), (20, true), (21, true), (22, true)]) (CC.refl (List.forall_mem_cons.2 ⟨List.mem_cons_self, (fun p hp => by cases hp)⟩)) (by kernel_rfl) ?_
      refine gd_case 22 (b := (decide (y2.f1 ≥ (y2.f0.size : Int)))) (by kernel_rfl) (fun hc12 => ?_) (fun hc12 => ?_)
      · have hj8 := cond_t hc12 hj8
        refine gd_pure 12 [0, 34] (K' := [(0, .pointer (some ⟨g0, 0, none⟩)), (34, .bool true)]) (s' := []) (CC.refl (List.forall_mem_cons.2 ⟨List.mem_cons_self, (fun p hp => by cases hp)⟩)) (by kernel_rfl) ?_
        refine gd_done ?_
        refine gl_atE (by kernel_rfl) ?_
        obtain rfl := some_inj hj8
        exact ge_mid fun t ht => ⟨(Imm.refl _), rfl, ht.pick (l := [0, 34]) (by kernel_rfl)⟩
      · have hj8 := cond_f hc12 hj8
        refine gd_pure 3 [0, 1, 22, 25] (K' := [(0, .pointer (some ⟨g0, 0, none⟩)), (1, .int .u8 a1), (22, .bool false), (25, .pointer (some ⟨g0, 0, none⟩))]) (s' := [(14, true), (15, true), (16, true), (17, true), (18, true), (19, true), (20, true), (21, true), (22, true)]) (CC.refl (List.forall_mem_cons.2 ⟨List.mem_cons_self, (fun p hp => by cases hp)⟩)) (by kernel_rfl) ?_
        refine gd_q (v := .string y2.f0) (by kernel_rfl) (by kernel_rfl) (CC.refl (List.forall_mem_cons.2 ⟨List.mem_cons_self, (fun p hp => by cases hp)⟩)) (fun I' L' T hC kk => gl_loadB (T' := 9) (xp := (.tmp 25)) (v := .string y2.f0) (g := g0) (off := 0) (cs := #[.string y2.f0, .int .i64 y2.f1, .int .i64 y2.f2]) (e := T0) (fz := (0, 0)) (by kernel_rfl) (by kernel_rfl) (by kernel_rfl) (hC.sub _ List.mem_cons_self) (by kernel_rfl) kk) ?_
        refine gd_pure 3 [0, 1, 22, 26, 29] (K' := [(0, .pointer (some ⟨g0, 0, none⟩)), (1, .int .u8 a1), (22, .bool false), (26, .string y2.f0), (29, .pointer (some ⟨g0, 1, none⟩))]) (s' := [(18, true), (19, true), (20, true), (21, true), (22, true)]) (CC.refl (List.forall_mem_cons.2 ⟨List.mem_cons_self, (fun p hp => by cases hp)⟩)) (by kernel_rfl) ?_
        refine gd_q (v := .int .i64 y2.f1) (by kernel_rfl) (by kernel_rfl) (CC.refl (List.forall_mem_cons.2 ⟨List.mem_cons_self, (fun p hp => by cases hp)⟩)) (fun I' L' T hC kk => gl_loadB (T' := 3) (xp := (.tmp 29)) (v := .int .i64 y2.f1) (g := g0) (off := 1) (cs := #[.string y2.f0, .int .i64 y2.f1, .int .i64 y2.f2]) (e := T0) (fz := (0, 0)) (by kernel_rfl) (by kernel_rfl) (by kernel_rfl) (hC.sub _ List.mem_cons_self) (by kernel_rfl) kk) ?_
        obtain ⟨c13, hx14, hj8⟩ := bind_some hj8
        refine gd_q (v := .int .u8 c13) (by kernel_rfl) (by kernel_rfl) (CC.refl (List.forall_mem_cons.2 ⟨List.mem_cons_self, (fun p hp => by cases hp)⟩)) (fun I' L' T hC kk => gl_index' (T' := 9) (xs := (.tmp 26)) (xi := (.tmp 30)) (kd := .i64) hx14 (by kernel_rfl) (by kernel_rfl) (by kernel_rfl) (by kernel_rfl) (by kernel_rfl) kk) ?_
        refine gd_pure 3 [0, 34] (K' := [(0, .pointer (some ⟨g0, 0, none⟩)), (34, .bool (c13 != a1))]) (s' := []) (CC.refl (List.forall_mem_cons.2 ⟨List.mem_cons_self, (fun p hp => by cases hp)⟩)) (by kernel_rfl) ?_
        refine gd_done ?_
        refine gl_atE (by kernel_rfl) ?_
        obtain rfl := some_inj hj8
        exact ge_mid fun t ht => ⟨(Imm.refl _), rfl, ht.pick (l := [0, 34]) (by kernel_rfl)⟩
    · rintro t I11 L' ⟨hI9, rfl, hK10⟩
      refine ge_at hK10 ?_
      refine ge_seq ?_
      refine gk_cond (b := j7) (by kernel_rfl) (by kernel_rfl) (fun hc15 => ?_) (fun hc15 => ?_)
      · have hr := cond_t hc15 hr
        refine gk_seq (by kernel_rfl) ?_
        refine gk_region (by kernel_rfl) ?_
        refine gl_pure 1 [4] (K' := [(4, .bool false)]) (by kernel_rfl) ?_
        refine gl_atE (by kernel_rfl) ?_
        refine ge_seq ?_
        refine gk_ret (by kernel_rfl) ?_
        refine ge_seq_ret ?_
        obtain rfl := some_inj hr
        exact ge_result trivial (ResOk.tmp (by kernel_rfl) ResOk.nil) (Imm.trans hI6 hI9) ⟨rfl, rfl⟩
      · have hr := cond_f hc15 hr
        refine gk_skip (by kernel_rfl) ?_
        refine ge_seq ?_
        refine gk_seq (by kernel_rfl) ?_
        refine gk_region (by kernel_rfl) ?_
        refine gl_pure 3 [35, 37] (K' := [(35, .pointer (some ⟨g0, 0, none⟩)), (37, .pointer (some ⟨g0, 1, none⟩))]) (by kernel_rfl) ?_
        refine gl_loadB (T' := 3) (xp := (.tmp 37)) (v := .int .i64 y2.f1) (g := g0) (off := 1) (cs := #[.string y2.f0, .int .i64 y2.f1, .int .i64 y2.f2]) (e := T0) (fz := (0, 0)) (by kernel_rfl) (by kernel_rfl) (by kernel_rfl) List.mem_cons_self (by kernel_rfl) ?_
        refine gl_pure 3 [39, 41] (K' := [(39, .int .i64 (IntKind.wrap .i64 (y2.f1 + 1))), (41, .pointer (some ⟨g0, 1, none⟩))]) (by kernel_rfl) ?_
        refine gl_storeB (T' := 3) (xp := (.tmp 41)) (xv := (.tmp 39)) (v := .int .i64 (IntKind.wrap .i64 (y2.f1 + 1))) (g := g0) (off := 1) (cs := #[.string y2.f0, .int .i64 y2.f1, .int .i64 y2.f2]) (cs' := #[.string y2.f0, .int .i64 (IntKind.wrap .i64 (y2.f1 + 1)), .int .i64 y2.f2]) (by kernel_rfl) (by kernel_rfl) (by kernel_rfl) (by kernel_rfl) (by kernel_rfl) (Upd.set _ _ _ _) ?_ (by kernel_rfl)
        refine gl_atE (by kernel_rfl) ?_
        refine ge_seq ?_
        refine gk_seq (by kernel_rfl) ?_
        refine gk_region (by kernel_rfl) ?_
        refine gl_pure 1 [4] (K' := [(4, .bool true)]) (by kernel_rfl) ?_
        refine gl_atE (by kernel_rfl) ?_
        refine ge_seq ?_
        refine gk_ret (by kernel_rfl) ?_
        obtain rfl := some_inj hr
        exact ge_result trivial (ResOk.tmp (by kernel_rfl) ResOk.nil) (Imm.trans hI6 hI9) ⟨rfl, rfl⟩
/-! 113 labels_reader_want ('obj', 'imm') -/
noncomputable def labels_reader_want (a0 : S89) (a1 : Int) : Option S89 :=
  Option.bind (labels_reader_next a0 a1) fun (y1 : Bool × S89) =>
  Option.bind (bif (!y1.1) then
    (Option.bind (labels_reader_fail y1.2 y1.2.f1) fun (y12 : S89) =>
      some (y12.f0, y12.f1, y12.f2))
    else
    (some (y1.2.f0, y1.2.f1, y1.2.f2))) fun (j6 : ByteArray × Int × Int) =>
  some (⟨j6.1, j6.2.1, j6.2.2⟩ : S89)
theorem labels_reader_want_walk {a0 : S89} {g0 : Nat} {T0 : TypeId} {a1 : Int} {I : Imm} {r : S89}  (hr : labels_reader_want a0 a1 = some r) (L : Own) :
    CallsTo Tryz.prog 113 #[.pointer (some ⟨g0, 0, none⟩), .int .u8 a1] I ((g0, .cells #[.string a0.f0, .int .i64 a0.f1, .int .i64 a0.f2] T0) :: L) (fun v I' L' => v = .tuple #[] ∧ (g0, .cells #[.string r.f0, .int .i64 r.f1, .int .i64 r.f2] T0) :: L = L') := by
  unfold labels_reader_want at hr
  refine callsTo_body (N := 14) Tryz.func113 (by kernel_rfl) (by kernel_rfl) (by kernel_rfl) ?_
  refine gk_pick [0, 1] (K' := [(0, .pointer (some ⟨g0, 0, none⟩)), (1, .int .u8 a1)]) (by kernel_rfl) ?_
  refine gk_seq (by kernel_rfl) ?_
  refine gk_region (by kernel_rfl) ?_
  refine gl_pure 2 [0, 4, 5] (K' := [(0, .pointer (some ⟨g0, 0, none⟩)), (4, .pointer (some ⟨g0, 0, none⟩)), (5, .int .u8 a1)]) (by kernel_rfl) ?_
  obtain ⟨y1, hx2, hr⟩ := bind_some hr
  refine gl_call (by kernel_rfl) (labels_reader_next_walk (r := y1) (g0 := g0) (T0 := T0) (a0 := a0) hx2 _) ?_
  rintro v I3 L4 hI5 ⟨rfl, rfl⟩
  refine gl_pure 1 [0, 7] (K' := [(0, .pointer (some ⟨g0, 0, none⟩)), (7, .bool (!y1.1))]) (by kernel_rfl) ?_
  refine gl_atE (by kernel_rfl) ?_
  refine ge_seq ?_
  obtain ⟨j6, hj7, hr⟩ := bind_some hr
  refine gk_join (fun t I' L' => I3 ≤ I' ∧ (g0, .cells #[.string j6.1, .int .i64 j6.2.1, .int .i64 j6.2.2] T0) :: L = L' ∧ Knows 14 [] t) ?_ ?_
  · refine gk_cond (b := (!y1.1)) (by kernel_rfl) (by kernel_rfl) (fun hc11 => ?_) (fun hc11 => ?_)
    · have hj7 := cond_t hc11 hj7
      refine gk_region (by kernel_rfl) ?_
      refine gl_pure 4 [8, 11] (K' := [(8, .pointer (some ⟨g0, 0, none⟩)), (11, .pointer (some ⟨g0, 1, none⟩))]) (by kernel_rfl) ?_
      refine gl_loadB (T' := 3) (xp := (.tmp 11)) (v := .int .i64 y1.2.f1) (g := g0) (off := 1) (cs := #[.string y1.2.f0, .int .i64 y1.2.f1, .int .i64 y1.2.f2]) (e := T0) (fz := (0, 0)) (by kernel_rfl) (by kernel_rfl) (by kernel_rfl) List.mem_cons_self (by kernel_rfl) ?_
      obtain ⟨y12, hx13, hj7⟩ := bind_some hj7
      refine gl_call (by kernel_rfl) (labels_reader_fail_walk (r := y12) (g0 := g0) (T0 := T0) (a0 := y1.2) hx13 _) ?_
      rintro v I14 L15 hI16 ⟨rfl, rfl⟩
      refine gl_atE (by kernel_rfl) ?_
      obtain rfl := some_inj hj7
      exact ge_mid fun t ht => ⟨hI16, rfl, ht.pick (l := []) (by kernel_rfl)⟩
    · have hj7 := cond_f hc11 hj7
      refine gk_skip (by kernel_rfl) ?_
      obtain rfl := some_inj hj7
      exact ge_mid fun t ht => ⟨(Imm.refl _), rfl, ht.pick (l := []) (by kernel_rfl)⟩
  · rintro t I10 L' ⟨hI8, rfl, hK9⟩
    refine ge_at hK9 ?_
    obtain rfl := some_inj hr
    exact ge_result trivial ResOk.nil (Imm.trans hI5 hI8) ⟨rfl, rfl⟩
structure S127 where
  f1 : List Int
def strings_Builder_copyCheck (a0 : S127) : S127 := a0
theorem strings_Builder_copyCheck_walk {a0 : S127} {g0 : Nat} {q0_0 : Option Addr} {A0_1 : Option Addr} {c0_1 : Nat} {C0_1 : Own} {I : Imm} {r : S127} (hq0_0 : q0_0 = none ∨ q0_0 = some (⟨g0, 0, none⟩ : Addr)) (hO0_1 : OwnS (Kd.int .u8) 5 I A0_1 c0_1 a0.f1 C0_1) (hr : strings_Builder_copyCheck a0 = r) (L : Own) :
    CallsTo Tryz.prog 132 #[.pointer (some ⟨g0, 0, none⟩)] I ((g0, .cells #[.pointer q0_0, .slice A0_1 a0.f1.length c0_1] 128) :: (C0_1 ++ L)) (fun v I' L' => ∃ q0_0 A0_1 c0_1 C0_1, (q0_0 = none ∨ q0_0 = some (⟨g0, 0, none⟩ : Addr)) ∧ OwnS (Kd.int .u8) 5 I' A0_1 c0_1 r.f1 C0_1 ∧ v = .tuple #[] ∧ (g0, .cells #[.pointer q0_0, .slice A0_1 r.f1.length c0_1] 128) :: (C0_1 ++ L) = L') := by
  subst hr
  exact (bld_copyCheck hq0_0 (C0_1 ++ L)).mono fun v I' L' hI ⟨h1, h2⟩ => ⟨_, A0_1, c0_1, C0_1, .inr rfl, hO0_1.mono hI, h1, h2⟩
noncomputable def strings_Builder_String (a0 : S127) : Option ByteArray := strO a0.f1
theorem strings_Builder_String_walk {a0 : S127} {g0 : Nat} {q0_0 : Option Addr} {A0_1 : Option Addr} {c0_1 : Nat} {C0_1 : Own} {I : Imm} {r : ByteArray} (hq0_0 : q0_0 = none ∨ q0_0 = some (⟨g0, 0, none⟩ : Addr)) (hO0_1 : OwnS (Kd.int .u8) 5 I A0_1 c0_1 a0.f1 C0_1) (hr : strings_Builder_String a0 = some r) (L : Own) :
    CallsTo Tryz.prog 111 #[.pointer (some ⟨g0, 0, none⟩)] I ((g0, .cells #[.pointer q0_0, .slice A0_1 a0.f1.length c0_1] 128) :: (C0_1 ++ L)) (fun v I' L' => v = .string r ∧ L = L') := bld_String hO0_1 hr L

/-! 134 strings_Builder_WriteByte ('obj', 'imm') -/
noncomputable def strings_Builder_WriteByte (a0 : S127) (a1 : Int) : Option (Unit × S127) :=
  Option.bind (app ((strings_Builder_copyCheck (⟨a0.f1⟩ : S127)).f1) [a1]) fun (zs14 : List Int) =>
  some ((), (⟨zs14⟩ : S127))
theorem strings_Builder_WriteByte_walk {a0 : S127} {g0 : Nat} {q0_0 : Option Addr} {A0_1 : Option Addr} {c0_1 : Nat} {C0_1 : Own} {a1 : Int} {I : Imm} {r : Unit × S127}  (hq0_0 : q0_0 = none ∨ q0_0 = some (⟨g0, 0, none⟩ : Addr)) (hO0_1 : OwnS (Kd.int .u8) 5 I A0_1 c0_1 a0.f1 C0_1) (hr : strings_Builder_WriteByte a0 a1 = some r) (L : Own) :
    CallsTo Tryz.prog 134 #[.pointer (some ⟨g0, 0, none⟩), .int .u8 a1] I ((g0, .cells #[.pointer q0_0, .slice A0_1 a0.f1.length c0_1] 128) :: (C0_1 ++ L)) (fun v I' L' => ∃ q1_0 A1_1 c1_1 C1_1, (q1_0 = none ∨ q1_0 = some (⟨g0, 0, none⟩ : Addr)) ∧ OwnS (Kd.int .u8) 5 I' A1_1 c1_1 r.2.f1 C1_1 ∧ v = .nilIface ∧ (g0, .cells #[.pointer q1_0, .slice A1_1 r.2.f1.length c1_1] 128) :: (C1_1 ++ L) = L') := by
  unfold strings_Builder_WriteByte at hr
  refine callsTo_body (N := 17) Tryz.func134 (by kernel_rfl) (by kernel_rfl) (by kernel_rfl) ?_
  refine gk_pick [0, 1] (K' := [(0, .pointer (some ⟨g0, 0, none⟩)), (1, .int .u8 a1)]) (by kernel_rfl) ?_
  refine gk_seq (by kernel_rfl) ?_
  refine gk_region (by kernel_rfl) ?_
  refine gl_pure 1 [0, 1] (K' := [(0, .pointer (some ⟨g0, 0, none⟩)), (1, .int .u8 a1)]) (by kernel_rfl) ?_
  refine gl_atE (by kernel_rfl) ?_
  refine ge_seq ?_
  refine gk_seq (by kernel_rfl) ?_
  refine gk_region (by kernel_rfl) ?_
  refine gl_pure 1 [0, 1, 5] (K' := [(0, .pointer (some ⟨g0, 0, none⟩)), (1, .int .u8 a1), (5, .pointer (some ⟨g0, 0, none⟩))]) (by kernel_rfl) ?_
  refine gl_call (by kernel_rfl) (strings_Builder_copyCheck_walk (r := (strings_Builder_copyCheck (⟨a0.f1⟩ : S127))) (g0 := g0) (q0_0 := q0_0) (A0_1 := A0_1) (c0_1 := c0_1) (C0_1 := C0_1) (a0 := (⟨a0.f1⟩ : S127)) hq0_0 hO0_1 rfl _) ?_
  rintro v I1 L2 hI3 ⟨z4, A5, c6, C7, hO8, hO9, rfl, rfl⟩
  refine gl_atE (by kernel_rfl) ?_
  refine ge_seq ?_
  refine gk_seq (by kernel_rfl) ?_
  refine gk_region (by kernel_rfl) ?_
  refine gl_pure 4 [1, 7, 10] (K' := [(1, .int .u8 a1), (7, .pointer (some ⟨g0, 0, none⟩)), (10, .pointer (some ⟨g0, 1, none⟩))]) (by kernel_rfl) ?_
  refine gl_loadB (T' := 51) (xp := (.tmp 10)) (v := .slice A5 ((strings_Builder_copyCheck (⟨a0.f1⟩ : S127)).f1).length c6) (g := g0) (off := 1) (cs := #[.pointer z4, .slice A5 ((strings_Builder_copyCheck (⟨a0.f1⟩ : S127)).f1).length c6]) (e := 128) (fz := (0, 0)) (by kernel_rfl) (by kernel_rfl) (by kernel_rfl) List.mem_cons_self (by kernel_rfl) ?_
  refine gl_pure 1 [7, 11, 12] (K' := [(7, .pointer (some ⟨g0, 0, none⟩)), (11, .slice A5 ((strings_Builder_copyCheck (⟨a0.f1⟩ : S127)).f1).length c6), (12, .int .u8 a1)]) (by kernel_rfl) ?_
  refine gl_buildSlice (T' := 51) (e := 5) (n := 1) (len := 1) (parts := #[(0, (.tmp 12))]) (l := [(0, .int .u8 a1)]) (cs := #[.int .u8 a1]) (by kernel_rfl) (by kernel_rfl) (by kernel_rfl) (by kernel_rfl) (by kernel_rfl) (fun g10 => ?_)
  have hO11 : OwnS (Kd.int .u8) 5 I1 (some ⟨g10, 0, none⟩) 1 [a1] [(g10, .cells #[.int .u8 a1] 5)] := OwnS.lit (row_cons (l := [.int .u8 a1]) rfl (row_nil _ _)) rfl rfl rfl
  refine gl_reord (D := [(g10, .cells #[.int .u8 a1] 5)] ++ ((g0, .cells #[.pointer z4, .slice A5 ((strings_Builder_copyCheck (⟨a0.f1⟩ : S127)).f1).length c6] 128) :: (C7 ++ L))) (Reord.refl _) ?_
  obtain ⟨zs14, hz15, hr⟩ := bind_some hr
  refine gl_append (xv := .slice (some ⟨g10, 0, none⟩) [a1].length 1) (d := (Kd.int .u8)) (t := 51) (tx := 51) (e := 5) (s := (.tmp 11)) (x := (.tmp 13)) (xs := (strings_Builder_copyCheck (⟨a0.f1⟩ : S127)).f1) (fun X => [(g10, .cells #[.int .u8 a1] 5)] ++ ((g0, .cells #[.pointer z4, .slice A5 ((strings_Builder_copyCheck (⟨a0.f1⟩ : S127)).f1).length c6] 128) :: (X ++ L))) hz15 (by kernel_rfl) (by kernel_rfl) (by kernel_rfl) (by kernel_rfl) (by kernel_rfl) (by kernel_rfl) (fun X => (Upd.app _ (Upd.one _ (Upd.head _ X _)))) hO9 (SrcOk.slice (c := 1) (e := 5) (n := 1) (OwnS.rd hO11 (Upd.selfC _ _)) (by kernel_rfl)) (fun A16 n17 C18 hO19 => ?_)
  refine gl_pure 2 [14, 16] (K' := [(14, .slice A16 zs14.length n17), (16, .pointer (some ⟨g0, 1, none⟩))]) (by kernel_rfl) ?_
  refine gl_storeB (T' := 51) (xp := (.tmp 16)) (xv := (.tmp 14)) (v := .slice A16 zs14.length n17) (g := g0) (off := 1) (cs := #[.pointer z4, .slice A5 ((strings_Builder_copyCheck (⟨a0.f1⟩ : S127)).f1).length c6]) (cs' := #[.pointer z4, .slice A16 zs14.length n17]) (by kernel_rfl) (by kernel_rfl) (by kernel_rfl) (by kernel_rfl) (by kernel_rfl) (Upd.app _ (Upd.set _ _ _ _)) ?_ (by kernel_rfl)
  refine gl_atE (by kernel_rfl) ?_
  refine ge_seq ?_
  refine gk_seq (by kernel_rfl) ?_
  refine gk_region (by kernel_rfl) ?_
  refine gl_pure 1 [4] (K' := [(4, .nilIface)]) (by kernel_rfl) ?_
  refine gl_atE (by kernel_rfl) ?_
  refine ge_seq ?_
  refine gk_reord (D := (g0, .cells #[.pointer z4, .slice A16 zs14.length n17] 128) :: (C18 ++ L)) (Reord.step1 (Upd.app _ (Upd.rm1 _ _)) (Reord.step (Upd.app _ (Upd.rmC _ _)) (Reord.skipC (Reord.refl _)))) ?_
  refine gk_ret (by kernel_rfl) ?_
  obtain rfl := some_inj hr
  exact ge_result trivial (ResOk.tmp (by kernel_rfl) ResOk.nil) hI3 ⟨z4, A16, n17, C18, hO8, hO19, rfl, rfl⟩
end Go.Proofs.YtnlkfajnaelnnaaGreatDoor
