import Derived.Test.YtlhpclfkoblnkaaDoorL50c
set_option linter.unusedVariables false
set_option linter.unusedSimpArgs false
set_option maxRecDepth 100000
namespace Go.Proofs.YtlhpclfkoblnkaaDoor
open Go.GB
/-! 24 lex_alone  -/
noncomputable def lex_alone (a0 : ByteArray) (a1 : Int) : Option Bool :=
  bif (a0.toList == (⟨#[]⟩ : ByteArray).toList) then
  (some false)
  else
  (Option.bind (lex_one a0) fun (y2 : S27 × Int) =>
    some ((y2.2 == (a0.size : Int)) && (y2.1.f0 == a1)))
theorem lex_alone_walk {a0 : ByteArray} {a1 : Int} {I : Imm} {r : Bool} (hG : Gl I) (hr : lex_alone a0 a1 = some r) (L : Own) :
    CallsTo Tryd.prog 24 #[.string a0, .int .i64 a1] I L (fun v I' L' => v = .bool r ∧ L = L') := by
  unfold lex_alone at hr
  refine callsTo_body (N := 24) Tryd.func24 (by kernel_rfl) (by kernel_rfl) (by kernel_rfl) ?_
  refine gk_pick [0, 1] (K' := [(0, .string a0), (1, .int .i64 a1)]) (by kernel_rfl) ?_
  refine gk_seq (by kernel_rfl) ?_
  refine gk_region (by kernel_rfl) ?_
  refine gl_pure 1 [0, 1] (K' := [(0, .string a0), (1, .int .i64 a1)]) (by kernel_rfl) ?_
  refine gl_atE (by kernel_rfl) ?_
  refine ge_seq ?_
  refine gk_seq (by kernel_rfl) ?_
  refine gk_seq (by kernel_rfl) ?_
  refine gk_region (by kernel_rfl) ?_
  refine gl_pure 2 [0, 1, 8] (K' := [(0, .string a0), (1, .int .i64 a1), (8, .bool (a0.toList == (⟨#[]⟩ : ByteArray).toList))]) (by kernel_rfl) ?_
  refine gl_atE (by kernel_rfl) ?_
  refine ge_seq ?_
  refine gk_cond (b := (a0.toList == (⟨#[]⟩ : ByteArray).toList)) (by kernel_rfl) (by kernel_rfl) (fun hc1 => ?_) (fun hc1 => ?_)
  · have hr := cond_t hc1 hr
    refine gk_seq (by kernel_rfl) ?_
    refine gk_region (by kernel_rfl) ?_
    refine gl_pure 1 [4] (K' := [(4, .bool false)]) (by kernel_rfl) ?_
    refine gl_atE (by kernel_rfl) ?_
    refine ge_seq ?_
    refine gk_ret (by kernel_rfl) ?_
    refine ge_seq_ret ?_
    obtain rfl := some_inj hr
    exact ge_result trivial (ResOk.tmp (by kernel_rfl) ResOk.nil) (Imm.refl _) ⟨rfl, rfl⟩
  · have hr := cond_f hc1 hr
    refine gk_skip (by kernel_rfl) ?_
    refine ge_seq ?_
    refine gk_seq (by kernel_rfl) ?_
    refine gk_region (by kernel_rfl) ?_
    refine gl_pure 1 [0, 1, 10] (K' := [(0, .string a0), (1, .int .i64 a1), (10, .string a0)]) (by kernel_rfl) ?_
    obtain ⟨y2, hx3, hr⟩ := bind_some hr
    refine gl_callQ (by kernel_rfl) (lex_one_walk (r := y2) hG hx3 _) ?_
    refine gl_pure 3 [0, 1, 12, 13] (K' := [(0, .string a0), (1, .int .i64 a1), (12, .agg #[.int .i64 y2.1.f0, .string y2.1.f1, .int .i64 y2.1.f2]), (13, .int .i64 y2.2)]) (by kernel_rfl) ?_
    refine gl_alloc (T' := 28) (cs := #[.int .i64 0, .string (⟨#[]⟩ : ByteArray), .int .i64 0]) (by kernel_rfl) (by kernel_rfl) (by kernel_rfl) (fun g4 => ?_)
    refine gl_storeB (T' := 28) (xp := (.tmp 5)) (xv := (.tmp 12)) (v := .agg #[.int .i64 y2.1.f0, .string y2.1.f1, .int .i64 y2.1.f2]) (g := g4) (off := 0) (cs := #[.int .i64 0, .string (⟨#[]⟩ : ByteArray), .int .i64 0]) (cs' := #[.int .i64 y2.1.f0, .string y2.1.f1, .int .i64 y2.1.f2]) (by kernel_rfl) (by kernel_rfl) (by kernel_rfl) (by kernel_rfl) (by kernel_rfl) (Upd.set _ _ _ _) ?_ (by kernel_rfl)
    refine gl_pure 1 [0, 1, 5, 6] (K' := [(0, .string a0), (1, .int .i64 a1), (5, .pointer (some ⟨g4, 0, none⟩)), (6, .int .i64 y2.2)]) (by kernel_rfl) ?_
    refine gl_atE (by kernel_rfl) ?_
    refine ge_seq ?_
    refine gk_seq (by kernel_rfl) ?_
    obtain ⟨b7, hb8⟩ : ∃ z, z = ((y2.2 == (a0.size : Int)) && (y2.1.f0 == a1)) := ⟨_, rfl⟩
    refine gk_join (fun t I' L' => I ≤ I' ∧ (g4, .cells #[.int .i64 y2.1.f0, .string y2.1.f1, .int .i64 y2.1.f2] 28) :: L = L' ∧ Knows 24 [(4, .bool b7)] t) ?_ ?_
    · refine gk_region (by kernel_rfl) ?_
      refine gl_pure 5 [1, 5, 18] (K' := [(1, .int .i64 a1), (5, .pointer (some ⟨g4, 0, none⟩)), (18, .bool (y2.2 == (a0.size : Int)))]) (by kernel_rfl) ?_
      refine gl_case 18 (b := (y2.2 == (a0.size : Int))) (by kernel_rfl) (fun hc10 => ?_) (fun hc10 => ?_)
      · refine gl_pure 1 [1, 18, 19] (K' := [(1, .int .i64 a1), (18, .bool true), (19, .pointer (some ⟨g4, 0, none⟩))]) (by kernel_rfl) ?_
        refine gl_loadB (T' := 3) (xp := (.tmp 19)) (v := .int .i64 y2.1.f0) (g := g4) (off := 0) (cs := #[.int .i64 y2.1.f0, .string y2.1.f1, .int .i64 y2.1.f2]) (e := 28) (fz := (0, 0)) (by kernel_rfl) (by kernel_rfl) (by kernel_rfl) List.mem_cons_self (by kernel_rfl) ?_
        refine gl_pure 4 [4] (K' := [(4, .bool (y2.1.f0 == a1))]) (by kernel_rfl) ?_
        refine gl_atE (by kernel_rfl) ?_
        exact ge_mid fun t ht => ⟨(Imm.refl _), rfl, by rw [(show b7 = (y2.1.f0 == a1) from hb8.trans (by rw [hc10]; try rfl))]; exact ht.pick (l := [4]) (by kernel_rfl)⟩
      · refine gl_pure 6 [4] (K' := [(4, .bool false)]) (by kernel_rfl) ?_
        refine gl_atE (by kernel_rfl) ?_
        exact ge_mid fun t ht => ⟨(Imm.refl _), rfl, by rw [(show b7 = false from hb8.trans (by rw [hc10]; try rfl))]; exact ht.pick (l := [4]) (by kernel_rfl)⟩
    · rintro t I9 L' ⟨hI5, rfl, hK6⟩
      subst hb8
      refine ge_at hK6 ?_
      refine ge_seq ?_
      refine gk_reord (D := L) (Reord.skip (Reord.refl _)) ?_
      refine gk_ret (by kernel_rfl) ?_
      obtain rfl := some_inj hr
      exact ge_result trivial (ResOk.tmp (by kernel_rfl) ResOk.nil) hI5 ⟨rfl, rfl⟩
/-! 19 lex_Span  -/
noncomputable def lex_Span (a0 : ByteArray) : Option (Int × Int) :=
  Option.bind (lex_alone a0 3) fun (y1 : Bool) =>
  bif (!y1) then
  (some (0, 130))
  else
  (Option.bind (lex_span a0) fun (y4 : Int × Int) =>
    bif (decide (y4.2 > 1099511627776)) then
    (some (0, 7))
    else
    (some (y4.2, 0)))
theorem lex_Span_walk {a0 : ByteArray} {I : Imm} {r : Int × Int} (hG : Gl I) (hr : lex_Span a0 = some r) (L : Own) :
    CallsTo Tryd.prog 19 #[.string a0] I L (fun v I' L' => v = .tuple #[.int .i64 r.1, .int .i64 r.2] ∧ L = L') := by
  unfold lex_Span at hr
  refine callsTo_body (N := 17) Tryd.func19 (by kernel_rfl) (by kernel_rfl) (by kernel_rfl) ?_
  refine gk_pick [0] (K' := [(0, .string a0)]) (by kernel_rfl) ?_
  refine gk_seq (by kernel_rfl) ?_
  refine gk_region (by kernel_rfl) ?_
  refine gl_pure 2 [0] (K' := [(0, .string a0)]) (by kernel_rfl) ?_
  refine gl_atE (by kernel_rfl) ?_
  refine ge_seq ?_
  refine gk_seq (by kernel_rfl) ?_
  refine gk_seq (by kernel_rfl) ?_
  refine gk_region (by kernel_rfl) ?_
  refine gl_pure 1 [0, 6] (K' := [(0, .string a0), (6, .string a0)]) (by kernel_rfl) ?_
  obtain ⟨y1, hx2, hr⟩ := bind_some hr
  refine gl_callQ (by kernel_rfl) (lex_alone_walk (r := y1) hG hx2 _) ?_
  refine gl_pure 1 [0, 8] (K' := [(0, .string a0), (8, .bool (!y1))]) (by kernel_rfl) ?_
  refine gl_atE (by kernel_rfl) ?_
  refine ge_seq ?_
  refine gk_cond (b := (!y1)) (by kernel_rfl) (by kernel_rfl) (fun hc3 => ?_) (fun hc3 => ?_)
  · have hr := cond_t hc3 hr
    refine gk_seq (by kernel_rfl) ?_
    refine gk_region (by kernel_rfl) ?_
    refine gl_pure 2 [2, 3] (K' := [(2, .int .i64 0), (3, .int .i64 130)]) (by kernel_rfl) ?_
    refine gl_atE (by kernel_rfl) ?_
    refine ge_seq ?_
    refine gk_ret (by kernel_rfl) ?_
    refine ge_seq_ret ?_
    obtain rfl := some_inj hr
    exact ge_result trivial (ResOk.tmp (by kernel_rfl) (ResOk.tmp (by kernel_rfl) ResOk.nil)) (Imm.refl _) ⟨rfl, rfl⟩
  · have hr := cond_f hc3 hr
    refine gk_skip (by kernel_rfl) ?_
    refine ge_seq ?_
    refine gk_seq (by kernel_rfl) ?_
    refine gk_region (by kernel_rfl) ?_
    refine gl_pure 1 [10] (K' := [(10, .string a0)]) (by kernel_rfl) ?_
    obtain ⟨y4, hx5, hr⟩ := bind_some hr
    refine gl_callQ (by kernel_rfl) (lex_span_walk (r := y4)  hx5 _) ?_
    refine gl_pure 5 [5] (K' := [(5, .int .i64 y4.2)]) (by kernel_rfl) ?_
    refine gl_atE (by kernel_rfl) ?_
    refine ge_seq ?_
    refine gk_seq (by kernel_rfl) ?_
    refine gk_seq (by kernel_rfl) ?_
    refine gk_region (by kernel_rfl) ?_
    refine gl_pure 2 [5, 15] (K' := [(5, .int .i64 y4.2), (15, .bool (decide (y4.2 > 1099511627776)))]) (by kernel_rfl) ?_
    refine gl_atE (by kernel_rfl) ?_
    refine ge_seq ?_
    refine gk_cond (b := (decide (y4.2 > 1099511627776))) (by kernel_rfl) (by kernel_rfl) (fun hc6 => ?_) (fun hc6 => ?_)
    · have hr := cond_t hc6 hr
      refine gk_seq (by kernel_rfl) ?_
      refine gk_region (by kernel_rfl) ?_
      refine gl_pure 2 [2, 3] (K' := [(2, .int .i64 0), (3, .int .i64 7)]) (by kernel_rfl) ?_
      refine gl_atE (by kernel_rfl) ?_
      refine ge_seq ?_
      refine gk_ret (by kernel_rfl) ?_
      refine ge_seq_ret ?_
      obtain rfl := some_inj hr
      exact ge_result trivial (ResOk.tmp (by kernel_rfl) (ResOk.tmp (by kernel_rfl) ResOk.nil)) (Imm.refl _) ⟨rfl, rfl⟩
    · have hr := cond_f hc6 hr
      refine gk_skip (by kernel_rfl) ?_
      refine ge_seq ?_
      refine gk_seq (by kernel_rfl) ?_
      refine gk_region (by kernel_rfl) ?_
      refine gl_pure 3 [2, 3] (K' := [(2, .int .i64 y4.2), (3, .int .i64 0)]) (by kernel_rfl) ?_
      refine gl_atE (by kernel_rfl) ?_
      refine ge_seq ?_
      refine gk_ret (by kernel_rfl) ?_
      obtain rfl := some_inj hr
      exact ge_result trivial (ResOk.tmp (by kernel_rfl) (ResOk.tmp (by kernel_rfl) ResOk.nil)) (Imm.refl _) ⟨rfl, rfl⟩
def lays173_ren : Go.Shelf.Ren := ⟨fun x => if x = 173 then 33 else if x = 246 then 51 else if x = 283 then 66 else if x = 284 then 67 else if x = 285 then 68 else if x = 286 then 69 else if x = 129 then 75 else if x = 317 then 74 else if x = 318 then 76 else if x = 319 then 77 else if x = 320 then 78 else if x = 337 then 86 else if x = 338 then 87 else x, fun x => if x = 171 then 100 else if x = 53 then 89 else if x = 37 then 41 else if x = 173 then 103 else if x = 212 then 109 else if x = 51 then 110 else if x = 213 then 111 else if x = 46 then 82 else if x = 232 then 124 else if x = 233 then 125 else x, fun x => if x = 17 then 2 else if x = 18 then 5 else if x = 19 then 6 else x⟩
theorem lays173 : Go.Proofs.LaysM.n173 Tryd.prog lays173_ren := {
  mixed := by kernel_rfl,
  f129 := Tryd.func75.trans (congrArg some (by kernel_rfl)),
  f173 := Tryd.func33.trans (congrArg some (by kernel_rfl)),
  f246 := Tryd.func51.trans (congrArg some (by kernel_rfl)),
  f283 := Tryd.func66.trans (congrArg some (by kernel_rfl)),
  f284 := Tryd.func67.trans (congrArg some (by kernel_rfl)),
  f285 := Tryd.func68.trans (congrArg some (by kernel_rfl)),
  f286 := Tryd.func69.trans (congrArg some (by kernel_rfl)),
  f317 := Tryd.func74.trans (congrArg some (by kernel_rfl)),
  f318 := Tryd.func76.trans (congrArg some (by kernel_rfl)),
  f319 := Tryd.func77.trans (congrArg some (by kernel_rfl)),
  f320 := Tryd.func78.trans (congrArg some (by kernel_rfl)),
  f337 := Tryd.func86.trans (congrArg some (by kernel_rfl)),
  f338 := Tryd.func87.trans (congrArg some (by kernel_rfl)),
  t0 := Tryd.underlying0,
  a0 := Tryd.isAgg0,
  z0 := Tryd.sizeOf0,
  v0 := Tryd.zeroValue0,
  t2 := Tryd.underlying2,
  a2 := Tryd.isAgg2,
  z2 := Tryd.sizeOf2,
  v2 := Tryd.zeroValue2,
  t3 := Tryd.underlying3,
  a3 := Tryd.isAgg3,
  z3 := Tryd.sizeOf3,
  v3 := Tryd.zeroValue3,
  t4 := Tryd.underlying4,
  a4 := Tryd.isAgg4,
  z4 := Tryd.sizeOf4,
  v4 := Tryd.zeroValue4,
  t5 := Tryd.underlying5,
  a5 := Tryd.isAgg5,
  z5 := Tryd.sizeOf5,
  v5 := Tryd.zeroValue5,
  t9 := Tryd.underlying9,
  a9 := Tryd.isAgg9,
  z9 := Tryd.sizeOf9,
  v9 := Tryd.zeroValue9,
  t20 := Tryd.underlying20,
  a20 := Tryd.isAgg20,
  z20 := Tryd.sizeOf20,
  v20 := Tryd.zeroValue20,
  t37 := Tryd.underlying41,
  a37 := Tryd.isAgg41,
  z37 := Tryd.sizeOf41,
  v37 := Tryd.zeroValue41,
  t46 := Tryd.underlying82,
  a46 := Tryd.isAgg82,
  z46 := Tryd.sizeOf82,
  v46 := Tryd.zeroValue82,
  t51 := Tryd.underlying110,
  a51 := Tryd.isAgg110,
  z51 := Tryd.sizeOf110,
  v51 := Tryd.zeroValue110,
  t53 := Tryd.underlying89,
  a53 := Tryd.isAgg89,
  z53 := Tryd.sizeOf89,
  v53 := Tryd.zeroValue89,
  t171 := Tryd.underlying100,
  a171 := Tryd.isAgg100,
  z171 := Tryd.sizeOf100,
  v171 := Tryd.zeroValue100,
  t173 := Tryd.underlying103,
  a173 := Tryd.isAgg103,
  z173 := Tryd.sizeOf103,
  v173 := Tryd.zeroValue103,
  t212 := Tryd.underlying109,
  a212 := Tryd.isAgg109,
  z212 := Tryd.sizeOf109,
  v212 := Tryd.zeroValue109,
  t213 := Tryd.underlying111,
  a213 := Tryd.isAgg111,
  z213 := Tryd.sizeOf111,
  t232 := Tryd.underlying124,
  a232 := Tryd.isAgg124,
  z232 := Tryd.sizeOf124,
  v232 := Tryd.zeroValue124,
  t233 := Tryd.underlying125,
  a233 := Tryd.isAgg125,
  z233 := Tryd.sizeOf125,
  v233 := Tryd.zeroValue125,
  g17 := by kernel_rfl,
  g18 := by kernel_rfl,
  g19 := by kernel_rfl,
  i0 := by kernel_rfl,
  i2 := by kernel_rfl,
  i3 := by kernel_rfl,
  i4 := by kernel_rfl,
  i5 := by kernel_rfl,
  i9 := by kernel_rfl,
  i20 := by kernel_rfl,
  i37 := by kernel_rfl,
  i46 := by kernel_rfl,
  i51 := by kernel_rfl,
  i53 := by kernel_rfl,
  i171 := by kernel_rfl,
  i173 := by kernel_rfl,
  i212 := by kernel_rfl,
  i232 := by kernel_rfl,
  i233 := by kernel_rfl,
  m17 := by kernel_rfl,
  m18 := by kernel_rfl,
  m19 := by kernel_rfl }

theorem gl_pow10 {I : Imm} {L : Own} {W : World} (hG : Gl I) (hW : Holds I L W) : Go.Lib.TabIs Tryd.prog W "internal/strconv.uint64pow10" .u64 Go.Lib.pow10Tab := by
  obtain ⟨t, fz, hb⟩ := hG.b2
  have h1 := hW.imm _ _ hb
  unfold Go.Lib.TabIs World.var?
  rw [show Tryd.prog.globalNamed "internal/strconv.uint64pow10" = some 2 by kernel_rfl]
  simp only [Option.bind_some, h1]
  rfl
def strconv_FormatInt (a0 a1 : Int) : Option ByteArray := if a1 = 10 ∧ -9223372036854775808 ≤ a0 ∧ a0 ≤ 9223372036854775807 then some ⟨(itoaF a0).toArray⟩ else none
theorem strconv_FormatInt_walk {a0 a1 : Int} {I : Imm} {r : ByteArray} (hG : Gl I) (hr : strconv_FormatInt a0 a1 = some r) (L : Own) :
    CallsTo Tryd.prog 33 #[.int .i64 a0, .int .i64 a1] I L (fun v I' L' => v = .string r ∧ L = L') := by
  unfold strconv_FormatInt at hr
  split at hr <;> cases hr
  rename_i hs
  obtain ⟨rfl, h0, h1⟩ := hs
  intro W hW
  refine (Go.Proofs.Any.strconv_FormatInt_10 lays173 a0 h0 h1 W (gl_pow10 hG hW)).mono ?_
  rintro e W' ⟨he, k, os, rfl⟩
  exact ⟨_, I, L, he, Imm.refl I, Holds.grow (hW.drawn (W.drawn + k)) os, by rw [itoaF_eq h0 h1], rfl⟩

/-! 27 strings_Builder_WriteString ('obj', 'imm') -/
noncomputable def strings_Builder_WriteString (a0 : S50) (a1 : ByteArray) : Option (Int × Unit × S50) :=
  Option.bind (app ((strings_Builder_copyCheck (⟨a0.f1⟩ : S50)).f1) (bytesOf a1)) fun (zs10 : List Int) =>
  some ((a1.size : Int), (), (⟨zs10⟩ : S50))
theorem strings_Builder_WriteString_walk {a0 : S50} {g0 : Nat} {q0_0 : Option Addr} {A0_1 : Option Addr} {c0_1 : Nat} {C0_1 : Own} {a1 : ByteArray} {I : Imm} {r : Int × Unit × S50}  (hq0_0 : q0_0 = none ∨ q0_0 = some (⟨g0, 0, none⟩ : Addr)) (hO0_1 : OwnS (Kd.int .u8) 5 I A0_1 c0_1 a0.f1 C0_1) (hr : strings_Builder_WriteString a0 a1 = some r) (L : Own) :
    CallsTo Tryd.prog 27 #[.pointer (some ⟨g0, 0, none⟩), .string a1] I ((g0, .cells #[.pointer q0_0, .slice A0_1 a0.f1.length c0_1] 51) :: (C0_1 ++ L)) (fun v I' L' => ∃ q2_0 A2_1 c2_1 C2_1, (q2_0 = none ∨ q2_0 = some (⟨g0, 0, none⟩ : Addr)) ∧ OwnS (Kd.int .u8) 5 I' A2_1 c2_1 r.2.2.f1 C2_1 ∧ v = .tuple #[.int .i64 r.1, .nilIface] ∧ (g0, .cells #[.pointer q2_0, .slice A2_1 r.2.2.f1.length c2_1] 51) :: (C2_1 ++ L) = L') := by
  unfold strings_Builder_WriteString at hr
  refine callsTo_body (N := 19) Tryd.func27 (by kernel_rfl) (by kernel_rfl) (by kernel_rfl) ?_
  refine gk_pick [0, 1] (K' := [(0, .pointer (some ⟨g0, 0, none⟩)), (1, .string a1)]) (by kernel_rfl) ?_
  refine gk_seq (by kernel_rfl) ?_
  refine gk_region (by kernel_rfl) ?_
  refine gl_pure 2 [0, 1] (K' := [(0, .pointer (some ⟨g0, 0, none⟩)), (1, .string a1)]) (by kernel_rfl) ?_
  refine gl_atE (by kernel_rfl) ?_
  refine ge_seq ?_
  refine gk_seq (by kernel_rfl) ?_
  refine gk_region (by kernel_rfl) ?_
  refine gl_pure 1 [0, 1, 6] (K' := [(0, .pointer (some ⟨g0, 0, none⟩)), (1, .string a1), (6, .pointer (some ⟨g0, 0, none⟩))]) (by kernel_rfl) ?_
  refine gl_call (by kernel_rfl) (strings_Builder_copyCheck_walk (r := (strings_Builder_copyCheck (⟨a0.f1⟩ : S50))) (g0 := g0) (q0_0 := q0_0) (A0_1 := A0_1) (c0_1 := c0_1) (C0_1 := C0_1) (a0 := (⟨a0.f1⟩ : S50)) hq0_0 hO0_1 rfl _) ?_
  rintro v I1 L2 hI3 ⟨z4, A5, c6, C7, hO8, hO9, rfl, rfl⟩
  refine gl_atE (by kernel_rfl) ?_
  refine ge_seq ?_
  refine gk_seq (by kernel_rfl) ?_
  refine gk_region (by kernel_rfl) ?_
  refine gl_pure 4 [1, 8, 11] (K' := [(1, .string a1), (8, .pointer (some ⟨g0, 0, none⟩)), (11, .pointer (some ⟨g0, 1, none⟩))]) (by kernel_rfl) ?_
  refine gl_loadB (T' := 41) (xp := (.tmp 11)) (v := .slice A5 ((strings_Builder_copyCheck (⟨a0.f1⟩ : S50)).f1).length c6) (g := g0) (off := 1) (cs := #[.pointer z4, .slice A5 ((strings_Builder_copyCheck (⟨a0.f1⟩ : S50)).f1).length c6]) (e := 51) (fz := (0, 0)) (by kernel_rfl) (by kernel_rfl) (by kernel_rfl) List.mem_cons_self (by kernel_rfl) ?_
  refine gl_pure 1 [1, 8, 12, 13] (K' := [(1, .string a1), (8, .pointer (some ⟨g0, 0, none⟩)), (12, .slice A5 ((strings_Builder_copyCheck (⟨a0.f1⟩ : S50)).f1).length c6), (13, .string a1)]) (by kernel_rfl) ?_
  obtain ⟨zs10, hz11, hr⟩ := bind_some hr
  refine gl_append (xv := .string a1) (d := (Kd.int .u8)) (t := 41) (tx := 9) (e := 5) (s := (.tmp 12)) (x := (.tmp 13)) (xs := (strings_Builder_copyCheck (⟨a0.f1⟩ : S50)).f1) (fun X => (g0, .cells #[.pointer z4, .slice A5 ((strings_Builder_copyCheck (⟨a0.f1⟩ : S50)).f1).length c6] 51) :: (X ++ L)) hz11 (by kernel_rfl) (by kernel_rfl) (by kernel_rfl) (by kernel_rfl) (by kernel_rfl) (by kernel_rfl) (fun X => (Upd.one _ (Upd.head _ X _))) hO9 (SrcOk.str (by kernel_rfl)) (fun A12 n13 C14 hO15 => ?_)
  refine gl_pure 2 [1, 14, 16] (K' := [(1, .string a1), (14, .slice A12 zs10.length n13), (16, .pointer (some ⟨g0, 1, none⟩))]) (by kernel_rfl) ?_
  refine gl_storeB (T' := 41) (xp := (.tmp 16)) (xv := (.tmp 14)) (v := .slice A12 zs10.length n13) (g := g0) (off := 1) (cs := #[.pointer z4, .slice A5 ((strings_Builder_copyCheck (⟨a0.f1⟩ : S50)).f1).length c6]) (cs' := #[.pointer z4, .slice A12 zs10.length n13]) (by kernel_rfl) (by kernel_rfl) (by kernel_rfl) (by kernel_rfl) (by kernel_rfl) (Upd.set _ _ _ _) ?_ (by kernel_rfl)
  refine gl_atE (by kernel_rfl) ?_
  refine ge_seq ?_
  refine gk_seq (by kernel_rfl) ?_
  refine gk_region (by kernel_rfl) ?_
  refine gl_pure 4 [4, 5] (K' := [(4, .int .i64 (a1.size : Int)), (5, .nilIface)]) (by kernel_rfl) ?_
  refine gl_atE (by kernel_rfl) ?_
  refine ge_seq ?_
  refine gk_ret (by kernel_rfl) ?_
  obtain rfl := some_inj hr
  exact ge_result trivial (ResOk.tmp (by kernel_rfl) (ResOk.tmp (by kernel_rfl) ResOk.nil)) hI3 ⟨z4, A12, n13, C14, hO8, hO15, rfl, rfl⟩
/-! 18 lex_SpanText  -/
noncomputable def lex_SpanText_l50 : (Unit × (List Int) × Int × Int) → Option ((Unit × (List Int) × Int × Int) ⊕ (Unit × (List Int))) := fun s29 =>
  bif (decide (s29.2.2.2 < (lex_units.length : Int))) then
  (Option.bind (ix lex_units s29.2.2.2) fun (x53 : S62) =>
    Option.bind (quox .i64 s29.2.2.1 x53.f1) fun (q63 : Int) =>
    Option.bind (bif (decide (q63 > 0)) then
      (Option.bind (strconv_FormatInt q63 10) fun (y77 : ByteArray) =>
        Option.bind (sadd y77 x53.f0) fun (s79 : ByteArray) =>
        Option.bind (strings_Builder_WriteString (⟨s29.2.1⟩ : S50) s79) fun (y81 : Int × Unit × S50) =>
        some ((IntKind.wrap .i64 (s29.2.2.1 - (IntKind.wrap .i64 (q63 * x53.f1)))), (), y81.2.2.f1))
      else
      (some (s29.2.2.1, (), s29.2.1))) fun (j65 : Int × Unit × (List Int)) =>
    some (Sum.inl ((), j65.2.2, j65.1, (IntKind.wrap .i64 (s29.2.2.2 + 1)))))
  else
  (some (Sum.inr ((), s29.2.1)))
noncomputable def lex_SpanText (a0 : Int) : Option (ByteArray × Int) :=
  bif ((decide (a0 < 0)) || (decide (a0 > 1099511627776))) then
  (some ((⟨#[]⟩ : ByteArray), 1))
  else
  (bif (a0 == 0) then
    (some ((⟨#[48, 115]⟩ : ByteArray), 0))
    else
    (Option.bind (loopO lex_SpanText_l50 ((), [], a0, 0)) fun (r27 : Unit × (List Int)) =>
      Option.bind (strings_Builder_String (⟨r27.2⟩ : S50)) fun (y92 : ByteArray) =>
      some (y92, 0)))
theorem lex_SpanText_walk {a0 : Int} {I : Imm} {r : ByteArray × Int} (hG : Gl I) (hr : lex_SpanText a0 = some r) (L : Own) :
    CallsTo Tryd.prog 18 #[.int .i64 a0] I L (fun v I' L' => v = .tuple #[.string r.1, .int .i64 r.2] ∧ L = L') := by
  unfold lex_SpanText at hr
  refine callsTo_body (N := 44) Tryd.func18 (by kernel_rfl) (by kernel_rfl) (by kernel_rfl) ?_
  refine gk_pick [0] (K' := [(0, .int .i64 a0)]) (by kernel_rfl) ?_
  refine gk_seq (by kernel_rfl) ?_
  refine gk_region (by kernel_rfl) ?_
  refine gl_pure 2 [0] (K' := [(0, .int .i64 a0)]) (by kernel_rfl) ?_
  refine gl_atE (by kernel_rfl) ?_
  refine ge_seq ?_
  refine gk_seq (by kernel_rfl) ?_
  refine gk_block (by kernel_rfl) ?_
  refine gk_seq (by kernel_rfl) ?_
  obtain ⟨b3, hb4⟩ : ∃ z, z = ((decide (a0 < 0)) || (decide (a0 > 1099511627776))) := ⟨_, rfl⟩
  refine gk_join (fun t I' L' => I ≤ I' ∧ L = L' ∧ Knows 44 [(0, .int .i64 a0), (8, .bool b3)] t) ?_ ?_
  · refine gk_region (by kernel_rfl) ?_
    refine gl_pure 3 [0, 11] (K' := [(0, .int .i64 a0), (11, .bool (decide (a0 < 0)))]) (by kernel_rfl) ?_
    refine gl_case 11 (b := (decide (a0 < 0))) (by kernel_rfl) (fun hc6 => ?_) (fun hc6 => ?_)
    · refine gl_pure 4 [0, 8] (K' := [(0, .int .i64 a0), (8, .bool true)]) (by kernel_rfl) ?_
      refine gl_atE (by kernel_rfl) ?_
      exact ge_mid fun t ht => ⟨(Imm.refl _), rfl, by rw [(show b3 = true from hb4.trans (by rw [hc6]; try rfl))]; exact ht.pick (l := [0, 8]) (by kernel_rfl)⟩
    · refine gl_pure 4 [0, 8] (K' := [(0, .int .i64 a0), (8, .bool (decide (a0 > 1099511627776)))]) (by kernel_rfl) ?_
      refine gl_atE (by kernel_rfl) ?_
      exact ge_mid fun t ht => ⟨(Imm.refl _), rfl, by rw [(show b3 = (decide (a0 > 1099511627776)) from hb4.trans (by rw [hc6]; try rfl))]; exact ht.pick (l := [0, 8]) (by kernel_rfl)⟩
  · rintro t I5 L' ⟨hI1, rfl, hK2⟩
    subst hb4
    refine ge_at hK2 ?_
    refine ge_seq ?_
    refine gk_cond (b := ((decide (a0 < 0)) || (decide (a0 > 1099511627776)))) (by kernel_rfl) (by kernel_rfl) (fun hc7 => ?_) (fun hc7 => ?_)
    · have hr := cond_t hc7 hr
      refine gk_seq (by kernel_rfl) ?_
      refine gk_region (by kernel_rfl) ?_
      refine gl_pure 2 [2, 3] (K' := [(2, .string (⟨#[]⟩ : ByteArray)), (3, .int .i64 1)]) (by kernel_rfl) ?_
      refine gl_atE (by kernel_rfl) ?_
      refine ge_seq ?_
      refine gk_ret (by kernel_rfl) ?_
      refine ge_block_ret ?_
      refine ge_seq_ret ?_
      obtain rfl := some_inj hr
      exact ge_result trivial (ResOk.tmp (by kernel_rfl) (ResOk.tmp (by kernel_rfl) ResOk.nil)) hI1 ⟨rfl, rfl⟩
    · have hr := cond_f hc7 hr
      refine gk_seq (by kernel_rfl) ?_
      refine gk_region (by kernel_rfl) ?_
      refine gl_pure 3 [0, 15] (K' := [(0, .int .i64 a0), (15, .bool (a0 == 0))]) (by kernel_rfl) ?_
      refine gl_atE (by kernel_rfl) ?_
      refine ge_seq ?_
      refine gk_cond (b := (a0 == 0)) (by kernel_rfl) (by kernel_rfl) (fun hc8 => ?_) (fun hc8 => ?_)
      · have hr := cond_t hc8 hr
        refine gk_seq (by kernel_rfl) ?_
        refine gk_region (by kernel_rfl) ?_
        refine gl_pure 2 [2, 3] (K' := [(2, .string (⟨#[48, 115]⟩ : ByteArray)), (3, .int .i64 0)]) (by kernel_rfl) ?_
        refine gl_atE (by kernel_rfl) ?_
        refine ge_seq ?_
        refine gk_ret (by kernel_rfl) ?_
        refine ge_block_ret ?_
        refine ge_seq_ret ?_
        obtain rfl := some_inj hr
        exact ge_result trivial (ResOk.tmp (by kernel_rfl) (ResOk.tmp (by kernel_rfl) ResOk.nil)) hI1 ⟨rfl, rfl⟩
      · have hr := cond_f hc8 hr
        refine gk_skip (by kernel_rfl) ?_
        refine ge_block_normal ?_
        refine ge_seq ?_
        refine gk_seq (by kernel_rfl) ?_
        refine gk_region (by kernel_rfl) ?_
        refine gl_alloc (T' := 51) (cs := #[.pointer none, .slice none 0 0]) (by kernel_rfl) (by kernel_rfl) (by kernel_rfl) (fun g9 => ?_)
        refine gl_atE (by kernel_rfl) ?_
        refine ge_seq ?_
        refine gk_seq (by kernel_rfl) ?_
        refine gk_seq (by kernel_rfl) ?_
        refine gk_region (by kernel_rfl) ?_
        refine gl_call (by kernel_rfl) (lex_units_walk (r := lex_units)  rfl _) ?_
        rintro v I10 L11 hI12 ⟨A13, c14, C15, hO16, rfl, rfl⟩
        refine gl_pure 2 [0, 4, 18, 19, 20] (K' := [(0, .int .i64 a0), (4, .pointer (some ⟨g9, 0, none⟩)), (18, .slice A13 lex_units.length c14), (19, .int .i64 (lex_units.length : Int)), (20, .int .i64 0)]) (by kernel_rfl) ?_
        refine gl_atE (by kernel_rfl) ?_
        refine ge_seq ?_
        obtain ⟨r27, hl28, hr⟩ := bind_some hr
        refine gk_join (fun t I' L' => ∃ q42 A44 n45 C46, (q42 = none ∨ q42 = some (⟨g9, 0, none⟩ : Addr)) ∧ OwnS (Kd.int .u8) 5 I' A44 n45 r27.2 C46 ∧ I10 ≤ I' ∧ C46 ++ ((g9, .cells #[.pointer q42, .slice A44 r27.2.length n45] 51) :: L) = L' ∧ Knows 44 [(4, .pointer (some ⟨g9, 0, none⟩))] t) ?_ ?_
        · refine gk_block (by kernel_rfl) ?_
          refine gk_pick [0, 4, 18, 19, 20] (K' := [(0, .int .i64 a0), (4, .pointer (some ⟨g9, 0, none⟩)), (18, .slice A13 lex_units.length c14), (19, .int .i64 (lex_units.length : Int)), (20, .int .i64 0)]) (by kernel_rfl) ?_
          intro t hK
          refine gc_loop (lex_SpanText_l50) (fun s29 t I' L' => ∃ q33 A35 n36 C37, (q33 = none ∨ q33 = some (⟨g9, 0, none⟩ : Addr)) ∧ OwnS (Kd.int .u8) 5 I' A35 n36 s29.2.1 C37 ∧ I10 ≤ I' ∧ C37 ++ (C15 ++ ((g9, .cells #[.pointer q33, .slice A35 s29.2.1.length n36] 51) :: L)) = L' ∧ Knows 44 [(0, .int .i64 s29.2.2.1), (4, .pointer (some ⟨g9, 0, none⟩)), (18, .slice A13 lex_units.length c14), (19, .int .i64 (lex_units.length : Int)), (20, .int .i64 s29.2.2.2)] t) (by kernel_rfl) ?_ hl28 ⟨none, none, 0, [], (Or.inl rfl), OwnS.nil _ _ _ _, (Imm.refl _), rfl, hK⟩
          rintro s29 o30 t I40 L' hb31 ⟨q33, A35, n36, C37, hq34, hO38, hI32, rfl, hK39⟩
          unfold lex_SpanText_l50 at hb31
          refine gk_at hK39 ?_
          refine gk_seq (by kernel_rfl) ?_
          refine gk_region (by kernel_rfl) ?_
          refine gl_pure 1 [0, 4, 18, 19, 20, 21] (K' := [(0, .int .i64 s29.2.2.1), (4, .pointer (some ⟨g9, 0, none⟩)), (18, .slice A13 lex_units.length c14), (19, .int .i64 (lex_units.length : Int)), (20, .int .i64 s29.2.2.2), (21, .bool (decide (s29.2.2.2 < (lex_units.length : Int))))]) (by kernel_rfl) ?_
          refine gl_atE (by kernel_rfl) ?_
          refine ge_seq ?_
          refine gk_seq (by kernel_rfl) ?_
          refine gk_cond (b := (decide (s29.2.2.2 < (lex_units.length : Int)))) (by kernel_rfl) (by kernel_rfl) (fun hc52 => ?_) (fun hc52 => ?_)
          · have hb31 := cond_t hc52 hb31
            refine gk_skip (by kernel_rfl) ?_
            refine ge_seq ?_
            refine gk_seq (by kernel_rfl) ?_
            refine gk_block (by kernel_rfl) ?_
            refine gk_seq (by kernel_rfl) ?_
            refine gk_region (by kernel_rfl) ?_
            obtain ⟨x53, hx54, hb31⟩ := bind_some hb31
            refine gl_indexAddrW (d := kS62) (c := c14) (T' := 60) (e := 63) (xs := (.tmp 18)) (xi := (.tmp 20)) (kd := .i64) hx54 (hO16.mono hI32) (Upd.app _ (Upd.selfC _ _)) (by kernel_rfl) (by kernel_rfl) (by kernel_rfl) (by kernel_rfl) (by kernel_rfl) (fun p55 cs56 hR57 hA58 hp61 => ?_)
            obtain rfl := kS62_open hR57
            refine gl_loadOA (T' := 63) (xp := (.tmp 22)) (p := p55) (cs := [.string x53.f0, .int .i64 x53.f1]) (by kernel_rfl) (by kernel_rfl) (by kernel_rfl) (by kernel_rfl) (hA58.take 2) ?_
            refine gl_alloc (T' := 63) (cs := #[.string (⟨#[]⟩ : ByteArray), .int .i64 0]) (by kernel_rfl) (by kernel_rfl) (by kernel_rfl) (fun g62 => ?_)
            refine gl_storeB (T' := 63) (xp := (.tmp 6)) (xv := (.tmp 23)) (v := .agg #[.string x53.f0, .int .i64 x53.f1]) (g := g62) (off := 0) (cs := #[.string (⟨#[]⟩ : ByteArray), .int .i64 0]) (cs' := #[.string x53.f0, .int .i64 x53.f1]) (by kernel_rfl) (by kernel_rfl) (by kernel_rfl) (by kernel_rfl) (by kernel_rfl) (Upd.set _ _ _ _) ?_ (by kernel_rfl)
            refine gl_atE (by kernel_rfl) ?_
            refine ge_seq ?_
            refine gk_seq (by kernel_rfl) ?_
            refine gk_region (by kernel_rfl) ?_
            refine gl_pure 2 [0, 4, 6, 18, 19, 20, 24, 25] (K' := [(0, .int .i64 s29.2.2.1), (4, .pointer (some ⟨g9, 0, none⟩)), (6, .pointer (some ⟨g62, 0, none⟩)), (18, .slice A13 lex_units.length c14), (19, .int .i64 (lex_units.length : Int)), (20, .int .i64 s29.2.2.2), (24, .int .i64 s29.2.2.1), (25, .pointer (some ⟨g62, 1, none⟩))]) (by kernel_rfl) ?_
            refine gl_loadB (T' := 2) (xp := (.tmp 25)) (v := .int .i64 x53.f1) (g := g62) (off := 1) (cs := #[.string x53.f0, .int .i64 x53.f1]) (e := 63) (fz := (0, 0)) (by kernel_rfl) (by kernel_rfl) (by kernel_rfl) List.mem_cons_self (by kernel_rfl) ?_
            obtain ⟨q63, hx64, hb31⟩ := bind_some hb31
            refine gl_quo (t := 2) (t' := 2) (x := (.tmp 24)) (y := (.tmp 26)) (kx := .i64) hx64 (by kernel_rfl) (by kernel_rfl) (by kernel_rfl) (by kernel_rfl) ?_
            refine gl_pure 1 [0, 4, 6, 7, 18, 19, 20] (K' := [(0, .int .i64 s29.2.2.1), (4, .pointer (some ⟨g9, 0, none⟩)), (6, .pointer (some ⟨g62, 0, none⟩)), (7, .int .i64 q63), (18, .slice A13 lex_units.length c14), (19, .int .i64 (lex_units.length : Int)), (20, .int .i64 s29.2.2.2)]) (by kernel_rfl) ?_
            refine gl_atE (by kernel_rfl) ?_
            refine ge_seq ?_
            refine gk_seq (by kernel_rfl) ?_
            refine gk_region (by kernel_rfl) ?_
            refine gl_pure 2 [0, 4, 6, 7, 18, 19, 20, 29] (K' := [(0, .int .i64 s29.2.2.1), (4, .pointer (some ⟨g9, 0, none⟩)), (6, .pointer (some ⟨g62, 0, none⟩)), (7, .int .i64 q63), (18, .slice A13 lex_units.length c14), (19, .int .i64 (lex_units.length : Int)), (20, .int .i64 s29.2.2.2), (29, .bool (decide (q63 > 0)))]) (by kernel_rfl) ?_
            refine gl_atE (by kernel_rfl) ?_
            refine ge_seq ?_
            obtain ⟨j65, hj66, hb31⟩ := bind_some hb31
            refine gk_join (fun t I' L' => ∃ q68 A70 n71 C72, (q68 = none ∨ q68 = some (⟨g9, 0, none⟩ : Addr)) ∧ OwnS (Kd.int .u8) 5 I' A70 n71 j65.2.2 C72 ∧ I40 ≤ I' ∧ C72 ++ (C15 ++ ((g9, .cells #[.pointer q68, .slice A70 j65.2.2.length n71] 51) :: L)) = L' ∧ Knows 44 [(0, .int .i64 j65.1), (4, .pointer (some ⟨g9, 0, none⟩)), (18, .slice A13 lex_units.length c14), (19, .int .i64 (lex_units.length : Int)), (20, .int .i64 s29.2.2.2)] t) ?_ ?_
            · refine gk_cond (b := (decide (q63 > 0))) (by kernel_rfl) (by kernel_rfl) (fun hc76 => ?_) (fun hc76 => ?_)
              · have hj66 := cond_t hc76 hj66
                refine gk_seq (by kernel_rfl) ?_
                refine gk_draw 5 [(0, true), (1, true), (2, true), (3, true), (4, true)] [(g62, .cells #[.string x53.f0, .int .i64 x53.f1] 63), (g9, .cells #[.pointer q33, .slice A35 s29.2.1.length n36] 51)] (List.forall_mem_cons.2 ⟨List.mem_cons_self, (List.forall_mem_cons.2 ⟨(List.mem_cons_of_mem _ (List.mem_append_right _ (List.mem_append_right _ List.mem_cons_self))), (fun p hp => by cases hp)⟩)⟩) (by kernel_rfl) (by kernel_rfl) (by kernel_rfl) ?_ (by kernel_rfl)
                refine gd_pure 1 [0, 4, 6, 7, 18, 19, 20, 30] (K' := [(0, .int .i64 s29.2.2.1), (4, .pointer (some ⟨g9, 0, none⟩)), (6, .pointer (some ⟨g62, 0, none⟩)), (7, .int .i64 q63), (18, .slice A13 lex_units.length c14), (19, .int .i64 (lex_units.length : Int)), (20, .int .i64 s29.2.2.2), (30, .int .i64 q63)]) (s' := [(1, true), (2, true), (3, true), (4, true)]) (CC.refl (List.forall_mem_cons.2 ⟨List.mem_cons_self, (List.forall_mem_cons.2 ⟨(List.mem_cons_of_mem _ (List.mem_append_right _ (List.mem_append_right _ List.mem_cons_self))), (fun p hp => by cases hp)⟩)⟩)) (by kernel_rfl) ?_
                obtain ⟨y77, hx78, hj66⟩ := bind_some hj66
                refine gd_q (v := .string y77) (by kernel_rfl) (by kernel_rfl) (CC.refl (List.forall_mem_cons.2 ⟨List.mem_cons_self, (List.forall_mem_cons.2 ⟨(List.mem_cons_of_mem _ (List.mem_append_right _ (List.mem_append_right _ List.mem_cons_self))), (fun p hp => by cases hp)⟩)⟩)) (fun I' L' T hC kk => gl_callQ (by kernel_rfl) (strconv_FormatInt_walk (r := y77) ((hG.mono (Imm.trans (Imm.trans hI1 hI12) hI32)).mono hC.le) hx78 _) kk) ?_
                refine gd_pure 1 [0, 4, 6, 7, 18, 19, 20, 31, 32] (K' := [(0, .int .i64 s29.2.2.1), (4, .pointer (some ⟨g9, 0, none⟩)), (6, .pointer (some ⟨g62, 0, none⟩)), (7, .int .i64 q63), (18, .slice A13 lex_units.length c14), (19, .int .i64 (lex_units.length : Int)), (20, .int .i64 s29.2.2.2), (31, .string y77), (32, .pointer (some ⟨g62, 0, none⟩))]) (s' := [(3, true), (4, true)]) (CC.refl (List.forall_mem_cons.2 ⟨List.mem_cons_self, (List.forall_mem_cons.2 ⟨(List.mem_cons_of_mem _ (List.mem_append_right _ (List.mem_append_right _ List.mem_cons_self))), (fun p hp => by cases hp)⟩)⟩)) (by kernel_rfl) ?_
                refine gd_q (v := .string x53.f0) (by kernel_rfl) (by kernel_rfl) (CC.refl (List.forall_mem_cons.2 ⟨List.mem_cons_self, (List.forall_mem_cons.2 ⟨(List.mem_cons_of_mem _ (List.mem_append_right _ (List.mem_append_right _ List.mem_cons_self))), (fun p hp => by cases hp)⟩)⟩)) (fun I' L' T hC kk => gl_loadB (T' := 9) (xp := (.tmp 32)) (v := .string x53.f0) (g := g62) (off := 0) (cs := #[.string x53.f0, .int .i64 x53.f1]) (e := 63) (fz := (0, 0)) (by kernel_rfl) (by kernel_rfl) (by kernel_rfl) (hC.sub _ List.mem_cons_self) (by kernel_rfl) kk) ?_
                obtain ⟨s79, hx80, hj66⟩ := bind_some hj66
                refine gd_q (v := .string s79) (by kernel_rfl) (by kernel_rfl) (CC.refl (List.forall_mem_cons.2 ⟨List.mem_cons_self, (List.forall_mem_cons.2 ⟨(List.mem_cons_of_mem _ (List.mem_append_right _ (List.mem_append_right _ List.mem_cons_self))), (fun p hp => by cases hp)⟩)⟩)) (fun I' L' T hC kk => gl_sadd (t := 9) (t' := 9) (x := (.tmp 31)) (y := (.tmp 33)) hx80 (by kernel_rfl) (by kernel_rfl) (by kernel_rfl) (by kernel_rfl) kk) ?_
                refine gd_done ?_
                obtain ⟨y81, hx82, hj66⟩ := bind_some hj66
                refine gl_reord (D := (g9, .cells #[.pointer q33, .slice A35 s29.2.1.length n36] 51) :: (C37 ++ ((g62, .cells #[.string x53.f0, .int .i64 x53.f1] 63) :: (C15 ++ L)))) (Reord.step1 (Upd.one _ (Upd.app _ (Upd.app _ (Upd.rm1 _ _)))) (Reord.step (Upd.one _ (Upd.rmC _ _)) (Reord.step1 (Upd.rm1 _ _) (Reord.step (Upd.rmC _ _) (Reord.refl _))))) ?_
                refine gl_call (by kernel_rfl) (strings_Builder_WriteString_walk (r := y81) (g0 := g9) (q0_0 := q33) (A0_1 := A35) (c0_1 := n36) (C0_1 := C37) (a0 := (⟨s29.2.1⟩ : S50)) hq34 hO38 hx82 _) ?_
                rintro v I83 L84 hI85 ⟨z86, A87, c88, C89, hO90, hO91, rfl, rfl⟩
                refine gl_atE (by kernel_rfl) ?_
                refine ge_seq ?_
                refine gk_region (by kernel_rfl) ?_
                refine gl_pure 3 [4, 18, 19, 20, 36, 37, 38] (K' := [(4, .pointer (some ⟨g9, 0, none⟩)), (18, .slice A13 lex_units.length c14), (19, .int .i64 (lex_units.length : Int)), (20, .int .i64 s29.2.2.2), (36, .int .i64 s29.2.2.1), (37, .int .i64 q63), (38, .pointer (some ⟨g62, 1, none⟩))]) (by kernel_rfl) ?_
                refine gl_loadB (T' := 2) (xp := (.tmp 38)) (v := .int .i64 x53.f1) (g := g62) (off := 1) (cs := #[.string x53.f0, .int .i64 x53.f1]) (e := 63) (fz := (0, 0)) (by kernel_rfl) (by kernel_rfl) (by kernel_rfl) (List.mem_cons_of_mem _ (List.mem_append_right _ List.mem_cons_self)) (by kernel_rfl) ?_
                refine gl_pure 3 [0, 4, 18, 19, 20] (K' := [(0, .int .i64 (IntKind.wrap .i64 (s29.2.2.1 - (IntKind.wrap .i64 (q63 * x53.f1))))), (4, .pointer (some ⟨g9, 0, none⟩)), (18, .slice A13 lex_units.length c14), (19, .int .i64 (lex_units.length : Int)), (20, .int .i64 s29.2.2.2)]) (by kernel_rfl) ?_
                refine gl_reord (D := C89 ++ (C15 ++ ((g9, .cells #[.pointer z86, .slice A87 y81.2.2.f1.length c88] 51) :: L))) (Reord.step (Upd.one _ (Upd.rmC _ _)) (Reord.step (Upd.one _ (Upd.one _ (Upd.rmC _ _))) (Reord.step1 (Upd.rm1 _ _) (Reord.skip (Reord.refl _))))) ?_
                refine gl_atE (by kernel_rfl) ?_
                obtain rfl := some_inj hj66
                exact ge_mid fun t ht => ⟨z86, A87, c88, C89, hO90, hO91, hI85, rfl, ht.pick (l := [0, 4, 18, 19, 20]) (by kernel_rfl)⟩
              · have hj66 := cond_f hc76 hj66
                refine gk_reord (D := C37 ++ (C15 ++ ((g9, .cells #[.pointer q33, .slice A35 s29.2.1.length n36] 51) :: L))) (Reord.step (Upd.one _ (Upd.rmC _ _)) (Reord.step (Upd.one _ (Upd.rmC _ _)) (Reord.step1 (Upd.one _ (Upd.rm1 _ _)) (Reord.skip (Reord.refl _))))) ?_
                refine gk_skip (by kernel_rfl) ?_
                obtain rfl := some_inj hj66
                exact ge_mid fun t ht => ⟨q33, A35, n36, C37, hq34, hO38, (Imm.refl _), rfl, ht.pick (l := [0, 4, 18, 19, 20]) (by kernel_rfl)⟩
            · rintro t I75 L' ⟨q68, A70, n71, C72, hq69, hO73, hI67, rfl, hK74⟩
              refine ge_at hK74 ?_
              refine ge_block_normal ?_
              refine ge_seq ?_
              refine gk_region (by kernel_rfl) ?_
              refine gl_pure 2 [0, 4, 18, 19, 20] (K' := [(0, .int .i64 j65.1), (4, .pointer (some ⟨g9, 0, none⟩)), (18, .slice A13 lex_units.length c14), (19, .int .i64 (lex_units.length : Int)), (20, .int .i64 (IntKind.wrap .i64 (s29.2.2.2 + 1)))]) (by kernel_rfl) ?_
              refine gl_atE (by kernel_rfl) ?_
              obtain rfl := some_inj hb31
              exact ge_round fun t ht => ⟨q68, A70, n71, C72, hq69, hO73, (Imm.trans hI32 hI67), rfl, ht.pick (l := [0, 4, 18, 19, 20]) (by kernel_rfl)⟩
          · have hb31 := cond_f hc52 hb31
            refine gk_reord (D := C37 ++ ((g9, .cells #[.pointer q33, .slice A35 s29.2.1.length n36] 51) :: L)) (Reord.step (Upd.rmC _ _) (Reord.step1 (Upd.app _ (Upd.rm1 _ _)) (Reord.skipC (Reord.refl _)))) ?_
            refine gk_exit (by kernel_rfl) ?_
            refine ge_seq_exit ?_
            obtain rfl := some_inj hb31
            refine ge_round_out (fun hrr => ?_) (by intro h; cases h)
            obtain rfl := hrr
            refine ge_block_hit (by kernel_rfl) ?_
            exact ge_mid fun t ht => ⟨q33, A35, n36, C37, hq34, hO38, hI32, rfl, ht.pick (l := [4]) (by kernel_rfl)⟩
        · rintro t I49 L' ⟨q42, A44, n45, C46, hq43, hO47, hI41, rfl, hK48⟩
          refine ge_at hK48 ?_
          refine ge_seq ?_
          refine gk_seq (by kernel_rfl) ?_
          refine gk_region (by kernel_rfl) ?_
          obtain ⟨y92, hx93, hr⟩ := bind_some hr
          refine gl_reord (D := (g9, .cells #[.pointer q42, .slice A44 r27.2.length n45] 51) :: (C46 ++ L)) (Reord.step1 (Upd.app _ (Upd.rm1 _ _)) (Reord.step (Upd.rmC _ _) (Reord.refl _))) ?_
          refine gl_call (by kernel_rfl) (strings_Builder_String_walk (r := y92) (g0 := g9) (q0_0 := q42) (A0_1 := A44) (c0_1 := n45) (C0_1 := C46) (a0 := (⟨r27.2⟩ : S50)) hq43 hO47 hx93 _) ?_
          rintro v I94 L95 hI96 ⟨rfl, rfl⟩
          refine gl_pure 2 [2, 3] (K' := [(2, .string y92), (3, .int .i64 0)]) (by kernel_rfl) ?_
          refine gl_atE (by kernel_rfl) ?_
          refine ge_seq ?_
          refine gk_ret (by kernel_rfl) ?_
          obtain rfl := some_inj hr
          exact ge_result trivial (ResOk.tmp (by kernel_rfl) (ResOk.tmp (by kernel_rfl) ResOk.nil)) (Imm.trans (Imm.trans (Imm.trans hI1 hI12) hI41) hI96) ⟨rfl, rfl⟩
/-! 11 tocsinlaw13_known  -/
noncomputable def tocsinlaw13_known : Option Bool :=
  Option.bind (lex_Tokens (⟨#[97, 58, 98, 123, 120, 61, 126, 34, 99, 46, 42, 34, 125, 91, 53, 109, 93, 32, 62, 32, 49, 46, 53, 101, 51, 32, 35, 32, 101, 110, 100]⟩ : ByteArray)) fun (y1 : (List S27) × Int × Int) =>
  Option.bind (lex_Span (⟨#[49, 104, 51, 48, 109]⟩ : ByteArray)) fun (y10 : Int × Int) =>
  Option.bind (lex_SpanText 1500) fun (y12 : ByteArray × Int) =>
  Option.bind (bif (y1.2.1 == 0) then
    (bif ((y1.1.length : Int) == 12) then
      (Option.bind (ix y1.1 4) fun (x21 : S27) =>
        bif (x21.f1.toList == (⟨#[99, 46, 42]⟩ : ByteArray).toList) then
        (Option.bind (ix y1.1 7) fun (x31 : S27) =>
          bif (x31.f0 == 3) then
          (bif (y10.2 == 0) then
            (bif (y10.1 == 5400000) then
              (bif (y12.2 == 0) then
                (some (y12.1.toList == (⟨#[49, 115, 53, 48, 48, 109, 115]⟩ : ByteArray).toList))
                else
                (some false))
              else
              (some false))
            else
            (some false))
          else
          (some false))
        else
        (some false))
      else
      (some false))
    else
    (some false)) fun (j14 : Bool) =>
  some j14
theorem tocsinlaw13_known_walk  {I : Imm} {r : Bool} (hG : Gl I) (hr : tocsinlaw13_known = some r) (L : Own) :
    CallsTo Tryd.prog 11 #[] I L (fun v I' L' => v = .bool r ∧ L = L') := by
  unfold tocsinlaw13_known at hr
  refine callsTo_body (N := 58) Tryd.func11 (by kernel_rfl) (by kernel_rfl) (by kernel_rfl) ?_
  refine gk_pick [] (K' := []) (by kernel_rfl) ?_
  refine gk_seq (by kernel_rfl) ?_
  refine gk_region (by kernel_rfl) ?_
  refine gl_pure 1 [] (K' := []) (by kernel_rfl) ?_
  refine gl_atE (by kernel_rfl) ?_
  refine ge_seq ?_
  refine gk_seq (by kernel_rfl) ?_
  refine gk_region (by kernel_rfl) ?_
  obtain ⟨y1, hx2, hr⟩ := bind_some hr
  refine gl_call (by kernel_rfl) (lex_Tokens_walk (r := y1) hG hx2 _) ?_
  rintro v I3 L4 hI5 ⟨A6, c7, C8, hO9, rfl, rfl⟩
  refine gl_pure 7 [1, 2] (K' := [(1, .slice A6 y1.1.length c7), (2, .int .i64 y1.2.1)]) (by kernel_rfl) ?_
  refine gl_atE (by kernel_rfl) ?_
  refine ge_seq ?_
  refine gk_seq (by kernel_rfl) ?_
  refine gk_region (by kernel_rfl) ?_
  obtain ⟨y10, hx11, hr⟩ := bind_some hr
  refine gl_callQ (by kernel_rfl) (lex_Span_walk (r := y10) (hG.mono hI5) hx11 _) ?_
  refine gl_pure 5 [1, 2, 4, 5] (K' := [(1, .slice A6 y1.1.length c7), (2, .int .i64 y1.2.1), (4, .int .i64 y10.1), (5, .int .i64 y10.2)]) (by kernel_rfl) ?_
  refine gl_atE (by kernel_rfl) ?_
  refine ge_seq ?_
  refine gk_seq (by kernel_rfl) ?_
  refine gk_region (by kernel_rfl) ?_
  obtain ⟨y12, hx13, hr⟩ := bind_some hr
  refine gl_callQ (by kernel_rfl) (lex_SpanText_walk (r := y12) (hG.mono hI5) hx13 _) ?_
  refine gl_pure 5 [1, 2, 4, 5, 6, 7] (K' := [(1, .slice A6 y1.1.length c7), (2, .int .i64 y1.2.1), (4, .int .i64 y10.1), (5, .int .i64 y10.2), (6, .string y12.1), (7, .int .i64 y12.2)]) (by kernel_rfl) ?_
  refine gl_atE (by kernel_rfl) ?_
  refine ge_seq ?_
  refine gk_seq (by kernel_rfl) ?_
  obtain ⟨j14, hj15, hr⟩ := bind_some hr
  refine gk_join (fun t I' L' => I3 ≤ I' ∧ L = L' ∧ Knows 58 [(0, .bool j14)] t) ?_ ?_
  · refine gk_region (by kernel_rfl) ?_
    refine gl_pure 3 [1, 4, 5, 6, 7, 23] (K' := [(1, .slice A6 y1.1.length c7), (4, .int .i64 y10.1), (5, .int .i64 y10.2), (6, .string y12.1), (7, .int .i64 y12.2), (23, .bool (y1.2.1 == 0))]) (by kernel_rfl) ?_
    refine gl_case 23 (b := (y1.2.1 == 0)) (by kernel_rfl) (fun hc19 => ?_) (fun hc19 => ?_)
    · have hj15 := cond_t hc19 hj15
      refine gl_pure 5 [1, 4, 5, 6, 7, 28] (K' := [(1, .slice A6 y1.1.length c7), (4, .int .i64 y10.1), (5, .int .i64 y10.2), (6, .string y12.1), (7, .int .i64 y12.2), (28, .bool ((y1.1.length : Int) == 12))]) (by kernel_rfl) ?_
      refine gl_case 28 (b := ((y1.1.length : Int) == 12)) (by kernel_rfl) (fun hc20 => ?_) (fun hc20 => ?_)
      · have hj15 := cond_t hc20 hj15
        refine gl_pure 1 [1, 4, 5, 6, 7, 28, 29] (K' := [(1, .slice A6 y1.1.length c7), (4, .int .i64 y10.1), (5, .int .i64 y10.2), (6, .string y12.1), (7, .int .i64 y12.2), (28, .bool true), (29, .slice A6 y1.1.length c7)]) (by kernel_rfl) ?_
        obtain ⟨x21, hx22, hj15⟩ := bind_some hj15
        refine gl_indexAddrW (d := kS27) (c := c7) (T' := 22) (e := 28) (xs := (.tmp 29)) (xi := (.const (.int .i64 4))) (kd := .i64) hx22 hO9 (Upd.selfC _ _) (by kernel_rfl) (by kernel_rfl) (by kernel_rfl) (by kernel_rfl) (by kernel_rfl) (fun p23 cs24 hR25 hA26 hp29 => ?_)
        obtain rfl := kS27_open hR25
        refine gl_pure 1 [1, 4, 5, 6, 7, 28, 31] (K' := [(1, .slice A6 y1.1.length c7), (4, .int .i64 y10.1), (5, .int .i64 y10.2), (6, .string y12.1), (7, .int .i64 y12.2), (28, .bool true), (31, .pointer (some (p23.add 1)))]) (by kernel_rfl) ?_
        refine gl_loadO (T' := 9) (xp := (.tmp 31)) (p := (p23.add 1)) (c := .string x21.f1) (n := 1) (by kernel_rfl) (by kernel_rfl) (by kernel_rfl) (by kernel_rfl) (hA26.drop 1) ?_
        refine gl_pure 3 [1, 4, 5, 6, 7, 35] (K' := [(1, .slice A6 y1.1.length c7), (4, .int .i64 y10.1), (5, .int .i64 y10.2), (6, .string y12.1), (7, .int .i64 y12.2), (35, .bool (x21.f1.toList == (⟨#[99, 46, 42]⟩ : ByteArray).toList))]) (by kernel_rfl) ?_
        refine gl_case 35 (b := (x21.f1.toList == (⟨#[99, 46, 42]⟩ : ByteArray).toList)) (by kernel_rfl) (fun hc30 => ?_) (fun hc30 => ?_)
        · have hj15 := cond_t hc30 hj15
          refine gl_pure 1 [4, 5, 6, 7, 35, 36] (K' := [(4, .int .i64 y10.1), (5, .int .i64 y10.2), (6, .string y12.1), (7, .int .i64 y12.2), (35, .bool true), (36, .slice A6 y1.1.length c7)]) (by kernel_rfl) ?_
          obtain ⟨x31, hx32, hj15⟩ := bind_some hj15
          refine gl_indexAddrW (d := kS27) (c := c7) (T' := 22) (e := 28) (xs := (.tmp 36)) (xi := (.const (.int .i64 7))) (kd := .i64) hx32 hO9 (Upd.selfC _ _) (by kernel_rfl) (by kernel_rfl) (by kernel_rfl) (by kernel_rfl) (by kernel_rfl) (fun p33 cs34 hR35 hA36 hp39 => ?_)
          obtain rfl := kS27_open hR35
          refine gl_pure 1 [4, 5, 6, 7, 35, 38] (K' := [(4, .int .i64 y10.1), (5, .int .i64 y10.2), (6, .string y12.1), (7, .int .i64 y12.2), (35, .bool true), (38, .pointer (some (p33.add 0)))]) (by kernel_rfl) ?_
          refine gl_loadO (T' := 3) (xp := (.tmp 38)) (p := (p33.add 0)) (c := .int .i64 x31.f0) (n := 1) (by kernel_rfl) (by kernel_rfl) (by kernel_rfl) (by kernel_rfl) (hA36.drop 0) ?_
          refine gl_pure 3 [4, 5, 6, 7, 42] (K' := [(4, .int .i64 y10.1), (5, .int .i64 y10.2), (6, .string y12.1), (7, .int .i64 y12.2), (42, .bool (x31.f0 == 3))]) (by kernel_rfl) ?_
          refine gl_case 42 (b := (x31.f0 == 3)) (by kernel_rfl) (fun hc40 => ?_) (fun hc40 => ?_)
          · have hj15 := cond_t hc40 hj15
            refine gl_pure 4 [4, 6, 7, 46] (K' := [(4, .int .i64 y10.1), (6, .string y12.1), (7, .int .i64 y12.2), (46, .bool (y10.2 == 0))]) (by kernel_rfl) ?_
            refine gl_case 46 (b := (y10.2 == 0)) (by kernel_rfl) (fun hc41 => ?_) (fun hc41 => ?_)
            · have hj15 := cond_t hc41 hj15
              refine gl_pure 4 [6, 7, 50] (K' := [(6, .string y12.1), (7, .int .i64 y12.2), (50, .bool (y10.1 == 5400000))]) (by kernel_rfl) ?_
              refine gl_case 50 (b := (y10.1 == 5400000)) (by kernel_rfl) (fun hc42 => ?_) (fun hc42 => ?_)
              · have hj15 := cond_t hc42 hj15
                refine gl_pure 4 [6, 54] (K' := [(6, .string y12.1), (54, .bool (y12.2 == 0))]) (by kernel_rfl) ?_
                refine gl_case 54 (b := (y12.2 == 0)) (by kernel_rfl) (fun hc43 => ?_) (fun hc43 => ?_)
                · have hj15 := cond_t hc43 hj15
                  refine gl_pure 4 [0] (K' := [(0, .bool (y12.1.toList == (⟨#[49, 115, 53, 48, 48, 109, 115]⟩ : ByteArray).toList))]) (by kernel_rfl) ?_
                  refine gl_reord (D := L) (Reord.skipC (Reord.refl _)) ?_
                  refine gl_atE (by kernel_rfl) ?_
                  obtain rfl := some_inj hj15
                  exact ge_mid fun t ht => ⟨(Imm.refl _), rfl, ht.pick (l := [0]) (by kernel_rfl)⟩
                · have hj15 := cond_f hc43 hj15
                  refine gl_pure 4 [0] (K' := [(0, .bool false)]) (by kernel_rfl) ?_
                  refine gl_reord (D := L) (Reord.skipC (Reord.refl _)) ?_
                  refine gl_atE (by kernel_rfl) ?_
                  obtain rfl := some_inj hj15
                  exact ge_mid fun t ht => ⟨(Imm.refl _), rfl, ht.pick (l := [0]) (by kernel_rfl)⟩
              · have hj15 := cond_f hc42 hj15
                refine gl_pure 8 [0] (K' := [(0, .bool false)]) (by kernel_rfl) ?_
                refine gl_reord (D := L) (Reord.skipC (Reord.refl _)) ?_
                refine gl_atE (by kernel_rfl) ?_
                obtain rfl := some_inj hj15
                exact ge_mid fun t ht => ⟨(Imm.refl _), rfl, ht.pick (l := [0]) (by kernel_rfl)⟩
            · have hj15 := cond_f hc41 hj15
              refine gl_pure 12 [0] (K' := [(0, .bool false)]) (by kernel_rfl) ?_
              refine gl_reord (D := L) (Reord.skipC (Reord.refl _)) ?_
              refine gl_atE (by kernel_rfl) ?_
              obtain rfl := some_inj hj15
              exact ge_mid fun t ht => ⟨(Imm.refl _), rfl, ht.pick (l := [0]) (by kernel_rfl)⟩
          · have hj15 := cond_f hc40 hj15
            refine gl_pure 16 [0] (K' := [(0, .bool false)]) (by kernel_rfl) ?_
            refine gl_reord (D := L) (Reord.skipC (Reord.refl _)) ?_
            refine gl_atE (by kernel_rfl) ?_
            obtain rfl := some_inj hj15
            exact ge_mid fun t ht => ⟨(Imm.refl _), rfl, ht.pick (l := [0]) (by kernel_rfl)⟩
        · have hj15 := cond_f hc30 hj15
          refine gl_pure 23 [0] (K' := [(0, .bool false)]) (by kernel_rfl) ?_
          refine gl_reord (D := L) (Reord.skipC (Reord.refl _)) ?_
          refine gl_atE (by kernel_rfl) ?_
          obtain rfl := some_inj hj15
          exact ge_mid fun t ht => ⟨(Imm.refl _), rfl, ht.pick (l := [0]) (by kernel_rfl)⟩
      · have hj15 := cond_f hc20 hj15
        refine gl_pure 30 [0] (K' := [(0, .bool false)]) (by kernel_rfl) ?_
        refine gl_reord (D := L) (Reord.skipC (Reord.refl _)) ?_
        refine gl_atE (by kernel_rfl) ?_
        obtain rfl := some_inj hj15
        exact ge_mid fun t ht => ⟨(Imm.refl _), rfl, ht.pick (l := [0]) (by kernel_rfl)⟩
    · have hj15 := cond_f hc19 hj15
      refine gl_pure 35 [0] (K' := [(0, .bool false)]) (by kernel_rfl) ?_
      refine gl_reord (D := L) (Reord.skipC (Reord.refl _)) ?_
      refine gl_atE (by kernel_rfl) ?_
      obtain rfl := some_inj hj15
      exact ge_mid fun t ht => ⟨(Imm.refl _), rfl, ht.pick (l := [0]) (by kernel_rfl)⟩
  · rintro t I18 L' ⟨hI16, rfl, hK17⟩
    refine ge_at hK17 ?_
    refine ge_seq ?_
    refine gk_ret (by kernel_rfl) ?_
    obtain rfl := some_inj hr
    exact ge_result trivial (ResOk.tmp (by kernel_rfl) ResOk.nil) (Imm.trans hI5 hI16) ⟨rfl, rfl⟩
/-! 3 tocsinlaw13_LexTokens  -/
noncomputable def tocsinlaw13_LexTokens_l57 : ((List S27) × Int) → Option (((List S27) × Int) ⊕ (Unit)) := fun s46 =>
  bif (decide (s46.2 < (s46.1.length : Int))) then
  (Option.bind (ix s46.1 s46.2) fun (x60 : S27) =>
    some (Sum.inl ((lset s46.1 s46.2 (⟨99, (⟨#[]⟩ : ByteArray), 0⟩ : S27)), (IntKind.wrap .i64 (s46.2 + 1)))))
  else
  (some (Sum.inr ()))
noncomputable def tocsinlaw13_LexTokens (a0 : ByteArray) : Option Bool :=
  Option.bind (lex_Tokens a0) fun (y1 : (List S27) × Int × Int) =>
  Option.bind (lex_Tokens a0) fun (y10 : (List S27) × Int × Int) =>
  Option.bind (tocsinref13_Tokens a0) fun (y19 : (List S27) × Int × Int) =>
  Option.bind (Option.bind (tocsinlaw13_whole y1.1 y19.1) fun (y33 : Bool) =>
    bif (!y33) then
    (some true)
    else
    (bif (y1.2.1 != y19.2.1) then
      (some true)
      else
      (some (y1.2.2 != y19.2.2)))) fun (j28 : Bool) =>
  bif j28 then
  (some false)
  else
  (Option.bind (loopO tocsinlaw13_LexTokens_l57 (y1.1, 0)) fun (r44 : Unit) =>
    Option.bind (Option.bind (tocsinlaw13_whole y10.1 y19.1) fun (y77 : Bool) =>
      bif y77 then
      (Option.bind tocsinlaw13_known fun (y80 : Bool) =>
        some y80)
      else
      (some false)) fun (j72 : Bool) =>
    some j72)
theorem tocsinlaw13_LexTokens_walk {a0 : ByteArray} {I : Imm} {r : Bool} (hG : Gl I) (hr : tocsinlaw13_LexTokens a0 = some r) (L : Own) :
    CallsTo Tryd.prog 3 #[.string a0] I L (fun v I' L' => v = .bool r ∧ L = L') := by
  unfold tocsinlaw13_LexTokens at hr
  refine callsTo_body (N := 61) Tryd.func3 (by kernel_rfl) (by kernel_rfl) (by kernel_rfl) ?_
  refine gk_pick [0] (K' := [(0, .string a0)]) (by kernel_rfl) ?_
  refine gk_seq (by kernel_rfl) ?_
  refine gk_region (by kernel_rfl) ?_
  refine gl_pure 1 [0] (K' := [(0, .string a0)]) (by kernel_rfl) ?_
  refine gl_atE (by kernel_rfl) ?_
  refine ge_seq ?_
  refine gk_seq (by kernel_rfl) ?_
  refine gk_region (by kernel_rfl) ?_
  refine gl_pure 1 [0, 14] (K' := [(0, .string a0), (14, .string a0)]) (by kernel_rfl) ?_
  obtain ⟨y1, hx2, hr⟩ := bind_some hr
  refine gl_call (by kernel_rfl) (lex_Tokens_walk (r := y1) hG hx2 _) ?_
  rintro v I3 L4 hI5 ⟨A6, c7, C8, hO9, rfl, rfl⟩
  refine gl_pure 7 [0, 3, 4, 5] (K' := [(0, .string a0), (3, .slice A6 y1.1.length c7), (4, .int .i64 y1.2.1), (5, .int .i64 y1.2.2)]) (by kernel_rfl) ?_
  refine gl_atE (by kernel_rfl) ?_
  refine ge_seq ?_
  refine gk_seq (by kernel_rfl) ?_
  refine gk_region (by kernel_rfl) ?_
  refine gl_pure 1 [0, 3, 4, 5, 20] (K' := [(0, .string a0), (3, .slice A6 y1.1.length c7), (4, .int .i64 y1.2.1), (5, .int .i64 y1.2.2), (20, .string a0)]) (by kernel_rfl) ?_
  obtain ⟨y10, hx11, hr⟩ := bind_some hr
  refine gl_call (by kernel_rfl) (lex_Tokens_walk (r := y10) (hG.mono hI5) hx11 _) ?_
  rintro v I12 L13 hI14 ⟨A15, c16, C17, hO18, rfl, rfl⟩
  refine gl_pure 7 [0, 3, 4, 5, 6] (K' := [(0, .string a0), (3, .slice A6 y1.1.length c7), (4, .int .i64 y1.2.1), (5, .int .i64 y1.2.2), (6, .slice A15 y10.1.length c16)]) (by kernel_rfl) ?_
  refine gl_atE (by kernel_rfl) ?_
  refine ge_seq ?_
  refine gk_seq (by kernel_rfl) ?_
  refine gk_region (by kernel_rfl) ?_
  refine gl_pure 1 [3, 4, 5, 6, 26] (K' := [(3, .slice A6 y1.1.length c7), (4, .int .i64 y1.2.1), (5, .int .i64 y1.2.2), (6, .slice A15 y10.1.length c16), (26, .string a0)]) (by kernel_rfl) ?_
  obtain ⟨y19, hx20, hr⟩ := bind_some hr
  refine gl_call (by kernel_rfl) (tocsinref13_Tokens_walk (r := y19)  hx20 _) ?_
  rintro v I21 L22 hI23 ⟨A24, c25, C26, hO27, rfl, rfl⟩
  refine gl_pure 7 [3, 4, 5, 6, 9, 10, 11] (K' := [(3, .slice A6 y1.1.length c7), (4, .int .i64 y1.2.1), (5, .int .i64 y1.2.2), (6, .slice A15 y10.1.length c16), (9, .slice A24 y19.1.length c25), (10, .int .i64 y19.2.1), (11, .int .i64 y19.2.2)]) (by kernel_rfl) ?_
  refine gl_atE (by kernel_rfl) ?_
  refine ge_seq ?_
  refine gk_seq (by kernel_rfl) ?_
  refine gk_seq (by kernel_rfl) ?_
  obtain ⟨j28, hj29, hr⟩ := bind_some hr
  refine gk_join (fun t I' L' => I21 ≤ I' ∧ C26 ++ (C17 ++ (C8 ++ L)) = L' ∧ Knows 61 [(3, .slice A6 y1.1.length c7), (6, .slice A15 y10.1.length c16), (9, .slice A24 y19.1.length c25), (44, .bool j28)] t) ?_ ?_
  · refine gk_region (by kernel_rfl) ?_
    refine gl_pure 2 [3, 4, 5, 6, 9, 10, 11, 31, 32] (K' := [(3, .slice A6 y1.1.length c7), (4, .int .i64 y1.2.1), (5, .int .i64 y1.2.2), (6, .slice A15 y10.1.length c16), (9, .slice A24 y19.1.length c25), (10, .int .i64 y19.2.1), (11, .int .i64 y19.2.2), (31, .slice A6 y1.1.length c7), (32, .slice A24 y19.1.length c25)]) (by kernel_rfl) ?_
    obtain ⟨y33, hx34, hj29⟩ := bind_some hj29
    refine gl_callB (r := .bool y33) (Tk.step (Upd.rmC _ _) (Tk.step (Upd.app _ (Upd.rmC _ _)) (Tk.nil _))) (by kernel_rfl) (fun J hJ hC => tocsinlaw13_whole_walk (r := y33) (OwnS.rest (hO9.mono (Imm.trans hI14 hI23)) hJ hC.right.left) (OwnS.rest hO27 hJ hC.left) hx34 _) ?_
    refine gl_pure 2 [3, 4, 5, 6, 9, 10, 11, 35] (K' := [(3, .slice A6 y1.1.length c7), (4, .int .i64 y1.2.1), (5, .int .i64 y1.2.2), (6, .slice A15 y10.1.length c16), (9, .slice A24 y19.1.length c25), (10, .int .i64 y19.2.1), (11, .int .i64 y19.2.2), (35, .bool (!y33))]) (by kernel_rfl) ?_
    refine gl_case 35 (b := (!y33)) (by kernel_rfl) (fun hc35 => ?_) (fun hc35 => ?_)
    · have hj29 := cond_t hc35 hj29
      refine gl_pure 9 [3, 6, 9, 44] (K' := [(3, .slice A6 y1.1.length c7), (6, .slice A15 y10.1.length c16), (9, .slice A24 y19.1.length c25), (44, .bool true)]) (by kernel_rfl) ?_
      refine gl_atE (by kernel_rfl) ?_
      obtain rfl := some_inj hj29
      exact ge_mid fun t ht => ⟨(Imm.refl _), rfl, ht.pick (l := [3, 6, 9, 44]) (by kernel_rfl)⟩
    · have hj29 := cond_f hc35 hj29
      refine gl_pure 5 [3, 5, 6, 9, 11, 40] (K' := [(3, .slice A6 y1.1.length c7), (5, .int .i64 y1.2.2), (6, .slice A15 y10.1.length c16), (9, .slice A24 y19.1.length c25), (11, .int .i64 y19.2.2), (40, .bool (y1.2.1 != y19.2.1))]) (by kernel_rfl) ?_
      refine gl_case 40 (b := (y1.2.1 != y19.2.1)) (by kernel_rfl) (fun hc36 => ?_) (fun hc36 => ?_)
      · have hj29 := cond_t hc36 hj29
        refine gl_pure 4 [3, 6, 9, 44] (K' := [(3, .slice A6 y1.1.length c7), (6, .slice A15 y10.1.length c16), (9, .slice A24 y19.1.length c25), (44, .bool true)]) (by kernel_rfl) ?_
        refine gl_atE (by kernel_rfl) ?_
        obtain rfl := some_inj hj29
        exact ge_mid fun t ht => ⟨(Imm.refl _), rfl, ht.pick (l := [3, 6, 9, 44]) (by kernel_rfl)⟩
      · have hj29 := cond_f hc36 hj29
        refine gl_pure 4 [3, 6, 9, 44] (K' := [(3, .slice A6 y1.1.length c7), (6, .slice A15 y10.1.length c16), (9, .slice A24 y19.1.length c25), (44, .bool (y1.2.2 != y19.2.2))]) (by kernel_rfl) ?_
        refine gl_atE (by kernel_rfl) ?_
        obtain rfl := some_inj hj29
        exact ge_mid fun t ht => ⟨(Imm.refl _), rfl, ht.pick (l := [3, 6, 9, 44]) (by kernel_rfl)⟩
  · rintro t I32 L' ⟨hI30, rfl, hK31⟩
    refine ge_at hK31 ?_
    refine ge_seq ?_
    refine gk_cond (b := j28) (by kernel_rfl) (by kernel_rfl) (fun hc37 => ?_) (fun hc37 => ?_)
    · have hr := cond_t hc37 hr
      refine gk_seq (by kernel_rfl) ?_
      refine gk_region (by kernel_rfl) ?_
      refine gl_pure 1 [2] (K' := [(2, .bool false)]) (by kernel_rfl) ?_
      refine gl_atE (by kernel_rfl) ?_
      refine ge_seq ?_
      refine gk_reord (D := L) (Reord.skipC (Reord.skipC (Reord.skipC (Reord.refl _)))) ?_
      refine gk_ret (by kernel_rfl) ?_
      refine ge_seq_ret ?_
      obtain rfl := some_inj hr
      exact ge_result trivial (ResOk.tmp (by kernel_rfl) ResOk.nil) (Imm.trans (Imm.trans (Imm.trans hI5 hI14) hI23) hI30) ⟨rfl, rfl⟩
    · have hr := cond_f hc37 hr
      refine gk_skip (by kernel_rfl) ?_
      refine ge_seq ?_
      refine gk_seq (by kernel_rfl) ?_
      refine gk_seq (by kernel_rfl) ?_
      refine gk_region (by kernel_rfl) ?_
      refine gl_pure 1 [3, 6, 9, 12] (K' := [(3, .slice A6 y1.1.length c7), (6, .slice A15 y10.1.length c16), (9, .slice A24 y19.1.length c25), (12, .int .i64 0)]) (by kernel_rfl) ?_
      refine gl_atE (by kernel_rfl) ?_
      refine ge_seq ?_
      obtain ⟨r44, hl45, hr⟩ := bind_some hr
      refine gk_reord (D := C8 ++ (C26 ++ (C17 ++ L))) (Reord.step (Upd.app _ (Upd.app _ (Upd.rmC _ _))) (Reord.step (Upd.rmC _ _) (Reord.step (Upd.rmC _ _) (Reord.refl _)))) ?_
      refine gk_join (fun t I' L' => I32 ≤ I' ∧ C26 ++ (C17 ++ L) = L' ∧ Knows 61 [(6, .slice A15 y10.1.length c16), (9, .slice A24 y19.1.length c25)] t) ?_ ?_
      · refine gk_block (by kernel_rfl) ?_
        refine gk_pick [3, 6, 9, 12] (K' := [(3, .slice A6 y1.1.length c7), (6, .slice A15 y10.1.length c16), (9, .slice A24 y19.1.length c25), (12, .int .i64 0)]) (by kernel_rfl) ?_
        intro t hK
        refine gc_loop (tocsinlaw13_LexTokens_l57) (fun s46 t I' L' => ∃ C50, OwnS kS27 28 I' A6 c7 s46.1 C50 ∧ I32 ≤ I' ∧ C50 ++ (C26 ++ (C17 ++ L)) = L' ∧ Knows 61 [(3, .slice A6 s46.1.length c7), (6, .slice A15 y10.1.length c16), (9, .slice A24 y19.1.length c25), (12, .int .i64 s46.2)] t) (by kernel_rfl) ?_ hl45 ⟨C8, (hO9.mono (Imm.trans (Imm.trans hI14 hI23) hI30)), (Imm.refl _), rfl, hK⟩
        rintro s46 o47 t I53 L' hb48 ⟨C50, hO51, hI49, rfl, hK52⟩
        unfold tocsinlaw13_LexTokens_l57 at hb48
        refine gk_at hK52 ?_
        refine gk_seq (by kernel_rfl) ?_
        refine gk_seq (by kernel_rfl) ?_
        refine gk_region (by kernel_rfl) ?_
        refine gl_pure 4 [3, 6, 9, 12, 48] (K' := [(3, .slice A6 s46.1.length c7), (6, .slice A15 y10.1.length c16), (9, .slice A24 y19.1.length c25), (12, .int .i64 s46.2), (48, .bool (decide (s46.2 < (s46.1.length : Int))))]) (by kernel_rfl) ?_
        refine gl_atE (by kernel_rfl) ?_
        refine ge_seq ?_
        refine gk_cond (b := (decide (s46.2 < (s46.1.length : Int)))) (by kernel_rfl) (by kernel_rfl) (fun hc59 => ?_) (fun hc59 => ?_)
        · have hb48 := cond_t hc59 hb48
          refine gk_skip (by kernel_rfl) ?_
          refine ge_seq ?_
          refine gk_seq (by kernel_rfl) ?_
          refine gk_block (by kernel_rfl) ?_
          refine gk_region (by kernel_rfl) ?_
          refine gl_pure 3 [3, 6, 9, 12, 51, 52, 53] (K' := [(3, .slice A6 s46.1.length c7), (6, .slice A15 y10.1.length c16), (9, .slice A24 y19.1.length c25), (12, .int .i64 s46.2), (51, .slice A6 s46.1.length c7), (52, .int .i64 s46.2), (53, .agg #[.int .i64 99, .string (⟨#[]⟩ : ByteArray), .int .i64 0])]) (by kernel_rfl) ?_
          obtain ⟨x60, hx61, hb48⟩ := bind_some hb48
          refine gl_indexAddrW (d := kS27) (c := c7) (T' := 22) (e := 28) (xs := (.tmp 51)) (xi := (.tmp 52)) (kd := .i64) hx61 hO51 (Upd.selfC _ _) (by kernel_rfl) (by kernel_rfl) (by kernel_rfl) (by kernel_rfl) (by kernel_rfl) (fun p62 cs63 hR64 hA65 hp68 => ?_)
          obtain rfl := kS27_open hR64
          have hl71 : s46.1.length = (lset s46.1 s46.2 (⟨99, (⟨#[]⟩ : ByteArray), 0⟩ : S27)).length := by simp [lset]
          refine gl_storeE (d := kS27) (T' := 28) (xp := (.tmp 54)) (xv := (.tmp 53)) (v := .agg #[.int .i64 99, .string (⟨#[]⟩ : ByteArray), .int .i64 0]) (off := 0) (y := (⟨99, (⟨#[]⟩ : ByteArray), 0⟩ : S27)) (fun X => X ++ (C26 ++ (C17 ++ L))) hx61 hO51 (fun X => (Upd.head _ X _)) hp68 (by kernel_rfl) (by kernel_rfl) (by kernel_rfl) (by kernel_rfl) (by kernel_rfl) (by kernel_rfl) (fun cs h => by obtain rfl := kS27_open h; exact kS27_mk (x := (⟨99, (⟨#[]⟩ : ByteArray), 0⟩ : S27)) ) (by kernel_rfl) (fun C69 hO70 => ?_)
          try rw [hl71]
          refine gl_atE (by kernel_rfl) ?_
          refine ge_block_normal ?_
          refine ge_seq ?_
          refine gk_region (by kernel_rfl) ?_
          refine gl_pure 3 [3, 6, 9, 12] (K' := [(3, .slice A6 (lset s46.1 s46.2 (⟨99, (⟨#[]⟩ : ByteArray), 0⟩ : S27)).length c7), (6, .slice A15 y10.1.length c16), (9, .slice A24 y19.1.length c25), (12, .int .i64 (IntKind.wrap .i64 (s46.2 + 1)))]) (by kernel_rfl) ?_
          refine gl_atE (by kernel_rfl) ?_
          obtain rfl := some_inj hb48
          exact ge_round fun t ht => ⟨C69, hO70, hI49, rfl, ht.pick (l := [3, 6, 9, 12]) (by kernel_rfl)⟩
        · have hb48 := cond_f hc59 hb48
          refine gk_reord (D := C26 ++ (C17 ++ L)) (Reord.step (Upd.app _ (Upd.rmC _ _)) (Reord.step (Upd.app _ (Upd.rmC _ _)) (Reord.skipC (Reord.refl _)))) ?_
          refine gk_exit (by kernel_rfl) ?_
          refine ge_seq_exit ?_
          obtain rfl := some_inj hb48
          refine ge_round_out (fun hrr => ?_) (by intro h; cases h)
          obtain rfl := hrr
          refine ge_block_hit (by kernel_rfl) ?_
          exact ge_mid fun t ht => ⟨hI49, rfl, ht.pick (l := [6, 9]) (by kernel_rfl)⟩
      · rintro t I56 L' ⟨hI54, rfl, hK55⟩
        refine ge_at hK55 ?_
        refine ge_seq ?_
        refine gk_seq (by kernel_rfl) ?_
        obtain ⟨j72, hj73, hr⟩ := bind_some hr
        refine gk_join (fun t I' L' => I56 ≤ I' ∧ L = L' ∧ Knows 61 [(2, .bool j72)] t) ?_ ?_
        · refine gk_region (by kernel_rfl) ?_
          refine gl_pure 2 [55, 56] (K' := [(55, .slice A15 y10.1.length c16), (56, .slice A24 y19.1.length c25)]) (by kernel_rfl) ?_
          obtain ⟨y77, hx78, hj73⟩ := bind_some hj73
          refine gl_callB (r := .bool y77) (Tk.step (Upd.rmC _ _) (Tk.step (Upd.rmC _ _) (Tk.nil _))) (by kernel_rfl) (fun J hJ hC => tocsinlaw13_whole_walk (r := y77) (OwnS.rest (hO18.mono (Imm.trans (Imm.trans hI23 hI30) hI54)) hJ hC.right.left) (OwnS.rest (hO27.mono (Imm.trans hI30 hI54)) hJ hC.left) hx78 _) ?_
          refine gl_pure 1 [58] (K' := [(58, .bool y77)]) (by kernel_rfl) ?_
          refine gl_case 58 (b := y77) (by kernel_rfl) (fun hc79 => ?_) (fun hc79 => ?_)
          · have hj73 := cond_t hc79 hj73
            obtain ⟨y80, hx81, hj73⟩ := bind_some hj73
            refine gl_callQ (by kernel_rfl) (tocsinlaw13_known_walk (r := y80) (hG.mono (Imm.trans (Imm.trans (Imm.trans (Imm.trans hI5 hI14) hI23) hI30) hI54)) hx81 _) ?_
            refine gl_pure 2 [2] (K' := [(2, .bool y80)]) (by kernel_rfl) ?_
            refine gl_reord (D := L) (Reord.skipC (Reord.skipC (Reord.refl _))) ?_
            refine gl_atE (by kernel_rfl) ?_
            obtain rfl := some_inj hj73
            exact ge_mid fun t ht => ⟨(Imm.refl _), rfl, ht.pick (l := [2]) (by kernel_rfl)⟩
          · have hj73 := cond_f hc79 hj73
            refine gl_pure 3 [2] (K' := [(2, .bool false)]) (by kernel_rfl) ?_
            refine gl_reord (D := L) (Reord.skipC (Reord.skipC (Reord.refl _))) ?_
            refine gl_atE (by kernel_rfl) ?_
            obtain rfl := some_inj hj73
            exact ge_mid fun t ht => ⟨(Imm.refl _), rfl, ht.pick (l := [2]) (by kernel_rfl)⟩
        · rintro t I76 L' ⟨hI74, rfl, hK75⟩
          refine ge_at hK75 ?_
          refine ge_seq ?_
          refine gk_ret (by kernel_rfl) ?_
          obtain rfl := some_inj hr
          exact ge_result trivial (ResOk.tmp (by kernel_rfl) ResOk.nil) (Imm.trans (Imm.trans (Imm.trans (Imm.trans (Imm.trans hI5 hI14) hI23) hI30) hI54) hI74) ⟨rfl, rfl⟩
end Go.Proofs.YtlhpclfkoblnkaaDoor
