/- Parts: N1a. -/
import Derived.Test.YtcnnbaneoehilaaDoorProg
import Derived.Test.YtcnnbaneoehilaaDoorChecked
import Derived.Test.YtcnnbaneoehilaaDoorSpk
import Derived.Lib.LaidU8T
import Derived.Shelf.Unicode.ValidAny
set_option linter.unusedVariables false
set_option linter.unusedSimpArgs false
set_option maxRecDepth 100000
namespace Go.Proofs.YtcnnbaneoehilaaDoor
open Go.GB
structure S80 where
  f0 : Int
  f1 : Int
def kS80 : Kd S80 := Kd.iso (Kd.pair (Kd.int .u8) (Kd.int .u8)) (fun x => (x.f0, x.f1))
theorem kS80_open {I : Imm} {x : S80} {cs : List Value} (h : kS80.R I x cs) : cs = [.int .u8 x.f0, .int .u8 x.f1] := by
  obtain ⟨_, _, rfl, h_0, h_1⟩ := h
  obtain rfl := h_0
  obtain rfl := h_1
  exact rfl
theorem kS80_mk {I : Imm} {x : S80}   : kS80.R I x [.int .u8 x.f0, .int .u8 x.f1] :=
  ⟨[.int .u8 x.f0], [.int .u8 x.f1], rfl, rfl, rfl⟩
def tab0 : List Int := (List.range 256).map fun c => (Go.Lib.firstT c : Int)
def tab1 : List S80 := (List.range 16).map fun i => ⟨(Go.Lib.accLo i : Int), (Go.Lib.accHi i : Int)⟩
structure Gl (I : Imm) : Prop where
  dr : I.dr = 0
  g0 : RepS (Kd.int .u8) I (some ⟨0, 0, none⟩) 256 tab0
  g1 : RepS kS80 I (some ⟨1, 0, none⟩) 16 tab1
theorem Gl.mono {I J : Imm} (h : Gl I) (hI : I ≤ J) : Gl J := ⟨hI.dr.trans h.dr, h.g0.mono hI, h.g1.mono hI⟩
structure S50 where
  f0 : ByteArray
  f1 : ByteArray
def kS50 : Kd S50 := Kd.iso (Kd.pair Kd.str Kd.str) (fun x => (x.f0, x.f1))
def wS50 (x : S50) (n : Nat) : Prop := ∃ n0 n1, n0 + n1 + 1 ≤ n ∧ wStr x.f0 n0 ∧ wStr x.f1 n1
theorem kS50_open {I : Imm} {x : S50} {cs : List Value} (h : kS50.R I x cs) : cs = [.string x.f0, .string x.f1] := by
  obtain ⟨_, _, rfl, h_0, h_1⟩ := h
  obtain rfl := h_0
  obtain rfl := h_1
  exact rfl
theorem kS50_mk {I : Imm} {x : S50}   : kS50.R I x [.string x.f0, .string x.f1] :=
  ⟨[.string x.f0], [.string x.f1], rfl, rfl, rfl⟩
structure S23 where
  f0 : ByteArray
  f1 : ByteArray
  f2 : Int
  f3 : List (List S50)
  f4 : List (List S50)
def kS23 : Kd S23 := Kd.iso (Kd.pair Kd.str (Kd.pair Kd.str (Kd.pair (Kd.int .i64) (Kd.pair (Kd.sl (Kd.sl kS50)) (Kd.sl (Kd.sl kS50)))))) (fun x => (x.f0, x.f1, x.f2, x.f3, x.f4))
def wS23 (x : S23) (n : Nat) : Prop := ∃ n0 n1 n2 n3 n4, n0 + n1 + n2 + n3 + n4 + 1 ≤ n ∧ wStr x.f0 n0 ∧ wStr x.f1 n1 ∧ (wInt .i64) x.f2 n2 ∧ (wSl (wSl wS50)) x.f3 n3 ∧ (wSl (wSl wS50)) x.f4 n4
theorem kS23_open {I : Imm} {x : S23} {cs : List Value} (h : kS23.R I x cs) : ∃ A3 c3 A4 c4, RepS (Kd.sl kS50) I A3 c3 x.f3 ∧ RepS (Kd.sl kS50) I A4 c4 x.f4 ∧ cs = [.string x.f0, .string x.f1, .int .i64 x.f2, .slice A3 x.f3.length c3, .slice A4 x.f4.length c4] := by
  obtain ⟨_, _, rfl, h_0, ⟨_, _, rfl, h_1, ⟨_, _, rfl, h_2, ⟨_, _, rfl, ⟨A_3, c_3, rfl, h_3⟩, ⟨A_4, c_4, rfl, h_4⟩⟩⟩⟩⟩ := h
  obtain rfl := h_0
  obtain rfl := h_1
  obtain rfl := h_2
  exact ⟨A_3, c_3, A_4, c_4, h_3, h_4, rfl⟩
theorem kS23_mk {I : Imm} {x : S23} {A3 : Option Addr} {c3 : Nat} {A4 : Option Addr} {c4 : Nat} (h3 : RepS (Kd.sl kS50) I A3 c3 x.f3) (h4 : RepS (Kd.sl kS50) I A4 c4 x.f4) : kS23.R I x [.string x.f0, .string x.f1, .int .i64 x.f2, .slice A3 x.f3.length c3, .slice A4 x.f4.length c4] :=
  ⟨[.string x.f0], [.string x.f1, .int .i64 x.f2, .slice A3 x.f3.length c3, .slice A4 x.f4.length c4], rfl, rfl, ⟨[.string x.f1], [.int .i64 x.f2, .slice A3 x.f3.length c3, .slice A4 x.f4.length c4], rfl, rfl, ⟨[.int .i64 x.f2], [.slice A3 x.f3.length c3, .slice A4 x.f4.length c4], rfl, rfl, ⟨[.slice A3 x.f3.length c3], [.slice A4 x.f4.length c4], rfl, ⟨_, _, rfl, h3⟩, ⟨_, _, rfl, h4⟩⟩⟩⟩⟩
/-! 5 tocsinlaw26_lent  -/
noncomputable def tocsinlaw26_lent_l28 (a0 : List (List S50)) : ((List (List S50)) × Int) → Option (((List (List S50)) × Int) ⊕ ((List (List S50)))) := fun s11 =>
  bif (decide (s11.2 < (a0.length : Int))) then
  (Option.bind (ix a0 s11.2) fun (x31 : List S50) =>
    Option.bind (app ([] : List S50) x31) fun (zs42 : List S50) =>
    Option.bind (app s11.1 [zs42]) fun (zs56 : List (List S50)) =>
    some (Sum.inl (zs56, (IntKind.wrap .i64 (s11.2 + 1)))))
  else
  (some (Sum.inr s11.1))
noncomputable def tocsinlaw26_lent (a0 : List (List S50)) : Option (List (List S50)) :=
  Option.bind (loopO (tocsinlaw26_lent_l28 a0) ([], 0)) fun (r9 : (List (List S50))) =>
  some r9
theorem tocsinlaw26_lent_walk {a0 : List (List S50)} {A0_0 : Option Addr} {n0_0 : Nat} {I : Imm} {r : (List (List S50))}  (hf0_0 : RepS (Kd.sl kS50) I A0_0 n0_0 a0) (hr : tocsinlaw26_lent a0 = some r) (L : Own) :
    CallsTo Tryd.prog 5 #[.slice A0_0 a0.length n0_0] I L (fun v I' L' => ∃ A0 c0 C0, OwnS (Kd.sl kS50) 39 I' A0 c0 r C0 ∧ v = .slice A0 r.length c0 ∧ C0 ++ L = L') := by
  unfold tocsinlaw26_lent at hr
  refine callsTo_body (N := 21) Tryd.func5 (by kernel_rfl) (by kernel_rfl) (by kernel_rfl) ?_
  refine gk_pick [0] (K' := [(0, .slice A0_0 a0.length n0_0)]) (by kernel_rfl) ?_
  refine gk_seq (by kernel_rfl) ?_
  refine gk_region (by kernel_rfl) ?_
  refine gl_pure 1 [0] (K' := [(0, .slice A0_0 a0.length n0_0)]) (by kernel_rfl) ?_
  refine gl_atE (by kernel_rfl) ?_
  refine ge_seq ?_
  refine gk_seq (by kernel_rfl) ?_
  refine gk_region (by kernel_rfl) ?_
  refine gl_pure 1 [0, 3] (K' := [(0, .slice A0_0 a0.length n0_0), (3, .slice none 0 0)]) (by kernel_rfl) ?_
  refine gl_atE (by kernel_rfl) ?_
  refine ge_seq ?_
  refine gk_seq (by kernel_rfl) ?_
  refine gk_seq (by kernel_rfl) ?_
  refine gk_region (by kernel_rfl) ?_
  refine gl_pure 3 [3, 7, 8, 9] (K' := [(3, .slice none 0 0), (7, .slice A0_0 a0.length n0_0), (8, .int .i64 (a0.length : Int)), (9, .int .i64 0)]) (by kernel_rfl) ?_
  refine gl_atE (by kernel_rfl) ?_
  refine ge_seq ?_
  obtain ⟨r9, hl10, hr⟩ := bind_some hr
  refine gk_join (fun t I' L' => ∃ A22 n23 C24, OwnS (Kd.sl kS50) 39 I' A22 n23 r9 C24 ∧ I ≤ I' ∧ C24 ++ L = L' ∧ Knows 21 [(3, .slice A22 r9.length n23)] t) ?_ ?_
  · refine gk_block (by kernel_rfl) ?_
    refine gk_pick [3, 7, 8, 9] (K' := [(3, .slice none 0 0), (7, .slice A0_0 a0.length n0_0), (8, .int .i64 (a0.length : Int)), (9, .int .i64 0)]) (by kernel_rfl) ?_
    intro t hK
    refine gc_loop (tocsinlaw26_lent_l28 a0) (fun s11 t I' L' => ∃ A15 n16 C17, OwnS (Kd.sl kS50) 39 I' A15 n16 s11.1 C17 ∧ I ≤ I' ∧ C17 ++ L = L' ∧ Knows 21 [(3, .slice A15 s11.1.length n16), (7, .slice A0_0 a0.length n0_0), (8, .int .i64 (a0.length : Int)), (9, .int .i64 s11.2)] t) (by kernel_rfl) ?_ hl10 ⟨none, 0, [], OwnS.nil _ _ _ _, (Imm.refl _), rfl, hK⟩
    rintro s11 o12 t I20 L' hb13 ⟨A15, n16, C17, hO18, hI14, rfl, hK19⟩
    unfold tocsinlaw26_lent_l28 at hb13
    refine gk_at hK19 ?_
    refine gk_seq (by kernel_rfl) ?_
    refine gk_region (by kernel_rfl) ?_
    refine gl_pure 1 [3, 7, 8, 9, 10] (K' := [(3, .slice A15 s11.1.length n16), (7, .slice A0_0 a0.length n0_0), (8, .int .i64 (a0.length : Int)), (9, .int .i64 s11.2), (10, .bool (decide (s11.2 < (a0.length : Int))))]) (by kernel_rfl) ?_
    refine gl_atE (by kernel_rfl) ?_
    refine ge_seq ?_
    refine gk_seq (by kernel_rfl) ?_
    refine gk_cond (b := (decide (s11.2 < (a0.length : Int)))) (by kernel_rfl) (by kernel_rfl) (fun hc30 => ?_) (fun hc30 => ?_)
    · have hb13 := cond_t hc30 hb13
      refine gk_skip (by kernel_rfl) ?_
      refine ge_seq ?_
      refine gk_seq (by kernel_rfl) ?_
      refine gk_block (by kernel_rfl) ?_
      refine gk_seq (by kernel_rfl) ?_
      refine gk_region (by kernel_rfl) ?_
      obtain ⟨x31, hx32, hb13⟩ := bind_some hb13
      obtain ⟨p33, cs34, hR35, hA36, ha37⟩ := RepS.ixAt hx32 (hf0_0.mono hI14)
      have hi38 := ix_some hx32
      obtain ⟨A39, n40, rfl, hf41⟩ := sl_open hR35
      refine gl_indexAddrF (c := n0_0) (T' := 22) (e := 39) (xs := (.tmp 7)) (xi := (.tmp 9)) (kd := .i64) ha37 hi38.1 hi38.2.1 (by kernel_rfl) (by kernel_rfl) (by kernel_rfl) (by kernel_rfl) (by kernel_rfl) ?_
      refine gl_load (T' := 39) (xp := (.tmp 11)) (p := p33) (c := .slice A39 x31.length n40) (n := 1) (by kernel_rfl) (by kernel_rfl) (by kernel_rfl) (by kernel_rfl) hA36 ?_
      refine gl_pure 1 [3, 5, 7, 8, 9] (K' := [(3, .slice A15 s11.1.length n16), (5, .slice A39 x31.length n40), (7, .slice A0_0 a0.length n0_0), (8, .int .i64 (a0.length : Int)), (9, .int .i64 s11.2)]) (by kernel_rfl) ?_
      refine gl_atE (by kernel_rfl) ?_
      refine ge_seq ?_
      refine gk_seq (by kernel_rfl) ?_
      refine gk_region (by kernel_rfl) ?_
      refine gl_pure 1 [3, 5, 6, 7, 8, 9] (K' := [(3, .slice A15 s11.1.length n16), (5, .slice A39 x31.length n40), (6, .slice none 0 0), (7, .slice A0_0 a0.length n0_0), (8, .int .i64 (a0.length : Int)), (9, .int .i64 s11.2)]) (by kernel_rfl) ?_
      refine gl_atE (by kernel_rfl) ?_
      refine ge_seq ?_
      refine gk_region (by kernel_rfl) ?_
      refine gl_pure 3 [7, 8, 9, 13, 14, 15] (K' := [(7, .slice A0_0 a0.length n0_0), (8, .int .i64 (a0.length : Int)), (9, .int .i64 s11.2), (13, .slice A15 s11.1.length n16), (14, .slice none 0 0), (15, .slice A39 x31.length n40)]) (by kernel_rfl) ?_
      obtain ⟨zs42, hz43, hb13⟩ := bind_some hb13
      refine gl_append (xv := .slice A39 x31.length n40) (d := kS50) (t := 39) (tx := 39) (e := 51) (s := (.tmp 14)) (x := (.tmp 15)) (xs := []) (A := none) (c := 0) (C := []) (fun X => X ++ (C17 ++ L)) hz43 (by kernel_rfl) (by kernel_rfl) (by kernel_rfl) (by kernel_rfl) (by kernel_rfl) (by kernel_rfl) (fun X => Upd.new X _) (OwnS.nil _ _ _ none) (SrcOk.slice (c := n40) (e := 51) (n := 2) (RepS.rd hf41 _) (by kernel_rfl)) (fun A44 n45 C46 hO47 => ?_)
      refine gl_rest (Tk.step (Upd.rmC _ _) (Tk.nil _)) (fun J48 hJ49 hC50 => ?_)
      have hf51 := (OwnS.rest hO47 hJ49 hC50.left)
      refine gl_buildSlice (T' := 22) (e := 39) (n := 1) (len := 1) (parts := #[(0, (.tmp 16))]) (l := [(0, .slice A44 zs42.length n45)]) (cs := #[.slice A44 zs42.length n45]) (by kernel_rfl) (by kernel_rfl) (by kernel_rfl) (by kernel_rfl) (by kernel_rfl) (fun g52 => ?_)
      have hO53 : OwnS (Kd.sl kS50) 39 J48 (some ⟨g52, 0, none⟩) 1 [zs42] [(g52, .cells #[.slice A44 zs42.length n45] 39)] := OwnS.lit (row_cons (l := [.slice A44 zs42.length n45]) ⟨_, _, rfl, hf51⟩ (row_nil _ _)) rfl rfl rfl
      refine gl_reord (D := [(g52, .cells #[.slice A44 zs42.length n45] 39)] ++ (C17 ++ L)) (Reord.refl _) ?_
      obtain ⟨zs56, hz57, hb13⟩ := bind_some hb13
      refine gl_append (xv := .slice (some ⟨g52, 0, none⟩) [zs42].length 1) (d := (Kd.sl kS50)) (t := 22) (tx := 22) (e := 39) (s := (.tmp 13)) (x := (.tmp 17)) (xs := s11.1) (fun X => [(g52, .cells #[.slice A44 zs42.length n45] 39)] ++ (X ++ L)) hz57 (by kernel_rfl) (by kernel_rfl) (by kernel_rfl) (by kernel_rfl) (by kernel_rfl) (by kernel_rfl) (fun X => (Upd.app _ (Upd.head _ X _))) (hO18.mono hJ49) (SrcOk.slice (c := 1) (e := 39) (n := 1) (OwnS.rd hO53 (Upd.selfC _ _)) (by kernel_rfl)) (fun A58 n59 C60 hO61 => ?_)
      refine gl_pure 1 [3, 7, 8, 9] (K' := [(3, .slice A58 zs56.length n59), (7, .slice A0_0 a0.length n0_0), (8, .int .i64 (a0.length : Int)), (9, .int .i64 s11.2)]) (by kernel_rfl) ?_
      refine gl_atE (by kernel_rfl) ?_
      refine ge_block_normal ?_
      refine ge_seq ?_
      refine gk_region (by kernel_rfl) ?_
      refine gl_pure 2 [3, 7, 8, 9] (K' := [(3, .slice A58 zs56.length n59), (7, .slice A0_0 a0.length n0_0), (8, .int .i64 (a0.length : Int)), (9, .int .i64 (IntKind.wrap .i64 (s11.2 + 1)))]) (by kernel_rfl) ?_
      refine gl_reord (D := C60 ++ L) (Reord.step (Upd.app _ (Upd.rmC _ _)) (Reord.skipC (Reord.refl _))) ?_
      refine gl_atE (by kernel_rfl) ?_
      obtain rfl := some_inj hb13
      exact ge_round fun t ht => ⟨A58, n59, C60, hO61, (Imm.trans hI14 hJ49), rfl, ht.pick (l := [3, 7, 8, 9]) (by kernel_rfl)⟩
    · have hb13 := cond_f hc30 hb13
      refine gk_exit (by kernel_rfl) ?_
      refine ge_seq_exit ?_
      obtain rfl := some_inj hb13
      refine ge_round_out (fun hrr => ?_) (by intro h; cases h)
      obtain rfl := hrr
      refine ge_block_hit (by kernel_rfl) ?_
      exact ge_mid fun t ht => ⟨A15, n16, C17, hO18, hI14, rfl, ht.pick (l := [3]) (by kernel_rfl)⟩
  · rintro t I27 L' ⟨A22, n23, C24, hO25, hI21, rfl, hK26⟩
    refine ge_at hK26 ?_
    refine ge_seq ?_
    refine gk_seq (by kernel_rfl) ?_
    refine gk_region (by kernel_rfl) ?_
    refine gl_pure 2 [2] (K' := [(2, .slice A22 r9.length n23)]) (by kernel_rfl) ?_
    refine gl_atE (by kernel_rfl) ?_
    refine ge_seq ?_
    refine gk_ret (by kernel_rfl) ?_
    obtain rfl := some_inj hr
    exact ge_result trivial (ResOk.tmp (by kernel_rfl) ResOk.nil) hI21 ⟨A22, n23, C24, hO25, rfl, rfl⟩
/-! 4 tocsinlaw26_mark  -/
noncomputable def tocsinlaw26_mark (a0 : S23) : Option S23 :=
  Option.bind (tocsinlaw26_lent a0.f3) fun (y3 : (List (List S50))) =>
  Option.bind (tocsinlaw26_lent a0.f4) fun (y12 : (List (List S50))) =>
  some (⟨a0.f0, a0.f1, a0.f2, y3, y12⟩ : S23)
theorem tocsinlaw26_mark_walk {a0 : S23} {A0_3 : Option Addr} {n0_3 : Nat} {A0_4 : Option Addr} {n0_4 : Nat} {I : Imm} {r : S23}  (hf0_3 : RepS (Kd.sl kS50) I A0_3 n0_3 a0.f3) (hf0_4 : RepS (Kd.sl kS50) I A0_4 n0_4 a0.f4) (hr : tocsinlaw26_mark a0 = some r) (L : Own) :
    CallsTo Tryd.prog 4 #[.agg #[.string a0.f0, .string a0.f1, .int .i64 a0.f2, .slice A0_3 a0.f3.length n0_3, .slice A0_4 a0.f4.length n0_4]] I L (fun v I' L' => ∃ A0_3 c0_3 A0_4 c0_4, RepS (Kd.sl kS50) I' A0_3 c0_3 r.f3 ∧ RepS (Kd.sl kS50) I' A0_4 c0_4 r.f4 ∧ v = .agg #[.string r.f0, .string r.f1, .int .i64 r.f2, .slice A0_3 r.f3.length c0_3, .slice A0_4 r.f4.length c0_4] ∧ L = L') := by
  unfold tocsinlaw26_mark at hr
  refine callsTo_body (N := 12) Tryd.func4 (by kernel_rfl) (by kernel_rfl) (by kernel_rfl) ?_
  refine gk_pick [0] (K' := [(0, .agg #[.string a0.f0, .string a0.f1, .int .i64 a0.f2, .slice A0_3 a0.f3.length n0_3, .slice A0_4 a0.f4.length n0_4])]) (by kernel_rfl) ?_
  refine gk_seq (by kernel_rfl) ?_
  refine gk_region (by kernel_rfl) ?_
  refine gl_box (T' := 24) (x := (.tmp 0)) (v := .agg #[.string a0.f0, .string a0.f1, .int .i64 a0.f2, .slice A0_3 a0.f3.length n0_3, .slice A0_4 a0.f4.length n0_4]) (cs := #[.string a0.f0, .string a0.f1, .int .i64 a0.f2, .slice A0_3 a0.f3.length n0_3, .slice A0_4 a0.f4.length n0_4]) (by kernel_rfl) (by kernel_rfl) (by kernel_rfl) (by kernel_rfl) (fun g1 => ?_)
  refine gl_alloc (T' := 24) (cs := #[.string (⟨#[]⟩ : ByteArray), .string (⟨#[]⟩ : ByteArray), .int .i64 0, .slice none 0 0, .slice none 0 0]) (by kernel_rfl) (by kernel_rfl) (by kernel_rfl) (fun g2 => ?_)
  refine gl_atE (by kernel_rfl) ?_
  refine ge_seq ?_
  refine gk_seq (by kernel_rfl) ?_
  refine gk_region (by kernel_rfl) ?_
  refine gl_pure 1 [1, 2, 3] (K' := [(1, .pointer (some ⟨g1, 0, none⟩)), (2, .pointer (some ⟨g2, 0, none⟩)), (3, .pointer (some ⟨g1, 3, none⟩))]) (by kernel_rfl) ?_
  refine gl_loadB (T' := 22) (xp := (.tmp 3)) (v := .slice A0_3 a0.f3.length n0_3) (g := g1) (off := 3) (cs := #[.string a0.f0, .string a0.f1, .int .i64 a0.f2, .slice A0_3 a0.f3.length n0_3, .slice A0_4 a0.f4.length n0_4]) (e := 24) (fz := (0, 0)) (by kernel_rfl) (by kernel_rfl) (by kernel_rfl) (List.mem_cons_of_mem _ List.mem_cons_self) (by kernel_rfl) ?_
  obtain ⟨y3, hx4, hr⟩ := bind_some hr
  refine gl_call (by kernel_rfl) (tocsinlaw26_lent_walk (r := y3) hf0_3 hx4 _) ?_
  rintro v I5 L6 hI7 ⟨A8, c9, C10, hO11, rfl, rfl⟩
  refine gl_pure 1 [1, 2, 5, 6] (K' := [(1, .pointer (some ⟨g1, 0, none⟩)), (2, .pointer (some ⟨g2, 0, none⟩)), (5, .slice A8 y3.length c9), (6, .pointer (some ⟨g1, 3, none⟩))]) (by kernel_rfl) ?_
  refine gl_storeB (T' := 22) (xp := (.tmp 6)) (xv := (.tmp 5)) (v := .slice A8 y3.length c9) (g := g1) (off := 3) (cs := #[.string a0.f0, .string a0.f1, .int .i64 a0.f2, .slice A0_3 a0.f3.length n0_3, .slice A0_4 a0.f4.length n0_4]) (cs' := #[.string a0.f0, .string a0.f1, .int .i64 a0.f2, .slice A8 y3.length c9, .slice A0_4 a0.f4.length n0_4]) (by kernel_rfl) (by kernel_rfl) (by kernel_rfl) (by kernel_rfl) (by kernel_rfl) (Upd.app _ (Upd.one _ (Upd.set _ _ _ _))) ?_ (by kernel_rfl)
  refine gl_atE (by kernel_rfl) ?_
  refine ge_seq ?_
  refine gk_seq (by kernel_rfl) ?_
  refine gk_region (by kernel_rfl) ?_
  refine gl_pure 1 [1, 2, 7] (K' := [(1, .pointer (some ⟨g1, 0, none⟩)), (2, .pointer (some ⟨g2, 0, none⟩)), (7, .pointer (some ⟨g1, 4, none⟩))]) (by kernel_rfl) ?_
  refine gl_loadB (T' := 22) (xp := (.tmp 7)) (v := .slice A0_4 a0.f4.length n0_4) (g := g1) (off := 4) (cs := #[.string a0.f0, .string a0.f1, .int .i64 a0.f2, .slice A8 y3.length c9, .slice A0_4 a0.f4.length n0_4]) (e := 24) (fz := (0, 0)) (by kernel_rfl) (by kernel_rfl) (by kernel_rfl) (List.mem_append_right _ (List.mem_cons_of_mem _ List.mem_cons_self)) (by kernel_rfl) ?_
  obtain ⟨y12, hx13, hr⟩ := bind_some hr
  refine gl_call (by kernel_rfl) (tocsinlaw26_lent_walk (r := y12) (hf0_4.mono hI7) hx13 _) ?_
  rintro v I14 L15 hI16 ⟨A17, c18, C19, hO20, rfl, rfl⟩
  refine gl_pure 1 [1, 2, 9, 10] (K' := [(1, .pointer (some ⟨g1, 0, none⟩)), (2, .pointer (some ⟨g2, 0, none⟩)), (9, .slice A17 y12.length c18), (10, .pointer (some ⟨g1, 4, none⟩))]) (by kernel_rfl) ?_
  refine gl_storeB (T' := 22) (xp := (.tmp 10)) (xv := (.tmp 9)) (v := .slice A17 y12.length c18) (g := g1) (off := 4) (cs := #[.string a0.f0, .string a0.f1, .int .i64 a0.f2, .slice A8 y3.length c9, .slice A0_4 a0.f4.length n0_4]) (cs' := #[.string a0.f0, .string a0.f1, .int .i64 a0.f2, .slice A8 y3.length c9, .slice A17 y12.length c18]) (by kernel_rfl) (by kernel_rfl) (by kernel_rfl) (by kernel_rfl) (by kernel_rfl) (Upd.app _ (Upd.app _ (Upd.one _ (Upd.set _ _ _ _)))) ?_ (by kernel_rfl)
  refine gl_atE (by kernel_rfl) ?_
  refine ge_seq ?_
  refine gk_seq (by kernel_rfl) ?_
  refine gk_region (by kernel_rfl) ?_
  refine gl_loadB (T' := 24) (xp := (.tmp 1)) (v := .agg #[.string a0.f0, .string a0.f1, .int .i64 a0.f2, .slice A8 y3.length c9, .slice A17 y12.length c18]) (g := g1) (off := 0) (cs := #[.string a0.f0, .string a0.f1, .int .i64 a0.f2, .slice A8 y3.length c9, .slice A17 y12.length c18]) (e := 24) (fz := (0, 0)) (by kernel_rfl) (by kernel_rfl) (by kernel_rfl) (List.mem_append_right _ (List.mem_append_right _ (List.mem_cons_of_mem _ List.mem_cons_self))) (by kernel_rfl) ?_
  refine gl_storeB (T' := 24) (xp := (.tmp 2)) (xv := (.tmp 11)) (v := .agg #[.string a0.f0, .string a0.f1, .int .i64 a0.f2, .slice A8 y3.length c9, .slice A17 y12.length c18]) (g := g2) (off := 0) (cs := #[.string (⟨#[]⟩ : ByteArray), .string (⟨#[]⟩ : ByteArray), .int .i64 0, .slice none 0 0, .slice none 0 0]) (cs' := #[.string a0.f0, .string a0.f1, .int .i64 a0.f2, .slice A8 y3.length c9, .slice A17 y12.length c18]) (by kernel_rfl) (by kernel_rfl) (by kernel_rfl) (by kernel_rfl) (by kernel_rfl) (Upd.app _ (Upd.app _ (Upd.set _ _ _ _))) ?_ (by kernel_rfl)
  refine gl_atE (by kernel_rfl) ?_
  refine ge_seq ?_
  refine gk_rest (Tk.step (Upd.rmC _ _) (Tk.step (Upd.rmC _ _) (Tk.step (Upd.rm1 _ _) (Tk.nil _)))) (fun J21 hJ22 hC23 => ?_)
  have hf24 := (OwnS.rest hO20 hJ22 hC23.left)
  have hf25 := (OwnS.rest (hO11.mono hI16) hJ22 hC23.right.left)
  have hf26 := hC23.right.right.left.blk
  refine gk_reord (D := L) (Reord.skip (Reord.refl _)) ?_
  refine gk_ret (by kernel_rfl) ?_
  obtain rfl := some_inj hr
  exact ge_result trivial (ResOk.cell (v := .agg #[.string a0.f0, .string a0.f1, .int .i64 a0.f2, .slice A8 y3.length c9, .slice A17 y12.length c18]) (by kernel_rfl) (loadR_agg (cs := [.string a0.f0, .string a0.f1, .int .i64 a0.f2, .slice A8 y3.length c9, .slice A17 y12.length c18]) (by kernel_rfl) (RunAt.take hf26 5)) ResOk.nil) (Imm.trans (Imm.trans hI7 hI16) hJ22) ⟨A8, c9, A17, c18, hf25, hf24, rfl, rfl⟩
structure Fn46 (I : Imm) (fv : Value) (f : (List S50) → Option Bool) : Prop where
  out : ∀ I', I ≤ I' → ∀ (x0 : List S50) (r : Bool), f x0 = some r → ∀ A0_0 c0_0, RepS kS50 I' A0_0 c0_0 x0 → ∀ L, CallsV Tryd.prog fv [.slice A0_0 x0.length c0_0] I' L (fun v I' L' => v = .bool r ∧ L = L')
theorem Fn46.mono {I J : Imm} {fv : Value} {f : (List S50) → Option Bool} (h : Fn46 I fv f) (hI : I ≤ J) : Fn46 J fv f := ⟨fun I' hI' => h.out I' (Imm.trans hI hI')⟩
/-! 41 slices_IndexFunc  -/
noncomputable def slices_IndexFunc_l17 (a0 : List (List S50)) (a1 : (List S50) → Option Bool) : Int → Option ((Int) ⊕ ((Unit) ⊕ (Int))) := fun s7 =>
  bif (decide (s7 < (a0.length : Int))) then
  (Option.bind (ix a0 s7) fun (x20 : List S50) =>
    Option.bind (a1 x20) fun (y32 : Bool) =>
    bif y32 then
    (some (Sum.inr (Sum.inr s7)))
    else
    (some (Sum.inl (IntKind.wrap .i64 (s7 + 1)))))
  else
  (some (Sum.inr (Sum.inl ())))
noncomputable def slices_IndexFunc (a0 : List (List S50)) (a1 : (List S50) → Option Bool) : Option Int :=
  Option.bind (loopO (slices_IndexFunc_l17 a0 a1) 0) fun (r5 : (Unit) ⊕ (Int)) =>
  match r5 with
  | Sum.inl r13 => some (-1)
  | Sum.inr v34 => some v34
theorem slices_IndexFunc_walk {a0 : List (List S50)} {A0_0 : Option Addr} {n0_0 : Nat} {a1 : (List S50) → Option Bool} {fv1 : Value} {I : Imm} {r : Int}  (hf0_0 : RepS (Kd.sl kS50) I A0_0 n0_0 a0) (hf1 : Fn46 I fv1 a1) (hr : slices_IndexFunc a0 a1 = some r) (L : Own) :
    CallsTo Tryd.prog 41 #[.slice A0_0 a0.length n0_0, fv1] I L (fun v I' L' => v = .int .i64 r ∧ L = L') := by
  unfold slices_IndexFunc at hr
  refine callsTo_body (N := 19) Tryd.func41 (by kernel_rfl) (by kernel_rfl) (by kernel_rfl) ?_
  refine gk_pick [0, 1] (K' := [(0, .slice A0_0 a0.length n0_0), (1, fv1)]) (by kernel_rfl) ?_
  refine gk_seq (by kernel_rfl) ?_
  refine gk_region (by kernel_rfl) ?_
  refine gl_pure 1 [0, 1] (K' := [(0, .slice A0_0 a0.length n0_0), (1, fv1)]) (by kernel_rfl) ?_
  refine gl_atE (by kernel_rfl) ?_
  refine ge_seq ?_
  refine gk_seq (by kernel_rfl) ?_
  refine gk_seq (by kernel_rfl) ?_
  refine gk_region (by kernel_rfl) ?_
  refine gl_pure 3 [0, 1, 7, 8] (K' := [(0, .slice A0_0 a0.length n0_0), (1, fv1), (7, .int .i64 (a0.length : Int)), (8, .int .i64 0)]) (by kernel_rfl) ?_
  refine gl_atE (by kernel_rfl) ?_
  refine ge_seq ?_
  obtain ⟨r5, hl6, hr⟩ := bind_some hr
  refine gk_join (fun t I' L' => ∃ r13, r5 = Sum.inl r13 ∧ I ≤ I' ∧ L = L' ∧ Knows 19 [] t) ?_ ?_
  · refine gk_block (by kernel_rfl) ?_
    refine gk_pick [0, 1, 7, 8] (K' := [(0, .slice A0_0 a0.length n0_0), (1, fv1), (7, .int .i64 (a0.length : Int)), (8, .int .i64 0)]) (by kernel_rfl) ?_
    intro t hK
    refine gc_loop (slices_IndexFunc_l17 a0 a1) (fun s7 t I' L' => I ≤ I' ∧ L = L' ∧ Knows 19 [(0, .slice A0_0 a0.length n0_0), (1, fv1), (7, .int .i64 (a0.length : Int)), (8, .int .i64 s7)] t) (by kernel_rfl) ?_ hl6 ⟨(Imm.refl _), rfl, hK⟩
    rintro s7 o8 t I12 L' hb9 ⟨hI10, rfl, hK11⟩
    unfold slices_IndexFunc_l17 at hb9
    refine gk_at hK11 ?_
    refine gk_seq (by kernel_rfl) ?_
    refine gk_region (by kernel_rfl) ?_
    refine gl_pure 1 [0, 1, 7, 8, 9] (K' := [(0, .slice A0_0 a0.length n0_0), (1, fv1), (7, .int .i64 (a0.length : Int)), (8, .int .i64 s7), (9, .bool (decide (s7 < (a0.length : Int))))]) (by kernel_rfl) ?_
    refine gl_atE (by kernel_rfl) ?_
    refine ge_seq ?_
    refine gk_seq (by kernel_rfl) ?_
    refine gk_cond (b := (decide (s7 < (a0.length : Int)))) (by kernel_rfl) (by kernel_rfl) (fun hc19 => ?_) (fun hc19 => ?_)
    · have hb9 := cond_t hc19 hb9
      refine gk_skip (by kernel_rfl) ?_
      refine ge_seq ?_
      refine gk_seq (by kernel_rfl) ?_
      refine gk_block (by kernel_rfl) ?_
      refine gk_seq (by kernel_rfl) ?_
      refine gk_region (by kernel_rfl) ?_
      refine gl_pure 2 [0, 1, 5, 7, 8] (K' := [(0, .slice A0_0 a0.length n0_0), (1, fv1), (5, .int .i64 s7), (7, .int .i64 (a0.length : Int)), (8, .int .i64 s7)]) (by kernel_rfl) ?_
      refine gl_atE (by kernel_rfl) ?_
      refine ge_seq ?_
      refine gk_seq (by kernel_rfl) ?_
      refine gk_region (by kernel_rfl) ?_
      refine gl_pure 3 [0, 1, 5, 7, 8, 11, 12, 13] (K' := [(0, .slice A0_0 a0.length n0_0), (1, fv1), (5, .int .i64 s7), (7, .int .i64 (a0.length : Int)), (8, .int .i64 s7), (11, fv1), (12, .slice A0_0 a0.length n0_0), (13, .int .i64 s7)]) (by kernel_rfl) ?_
      obtain ⟨x20, hx21, hb9⟩ := bind_some hb9
      obtain ⟨p22, cs23, hR24, hA25, ha26⟩ := RepS.ixAt hx21 (hf0_0.mono hI10)
      have hi27 := ix_some hx21
      obtain ⟨A28, n29, rfl, hf30⟩ := sl_open hR24
      refine gl_indexAddrF (c := n0_0) (T' := 22) (e := 39) (xs := (.tmp 12)) (xi := (.tmp 13)) (kd := .i64) ha26 hi27.1 hi27.2.1 (by kernel_rfl) (by kernel_rfl) (by kernel_rfl) (by kernel_rfl) (by kernel_rfl) ?_
      refine gl_load (T' := 39) (xp := (.tmp 14)) (p := p22) (c := .slice A28 x20.length n29) (n := 1) (by kernel_rfl) (by kernel_rfl) (by kernel_rfl) (by kernel_rfl) hA25 ?_
      obtain ⟨y32, hx31, hb9⟩ := bind_some hb9
      refine gl_callvQ (by kernel_rfl) ((hf1.mono hI10).out _ (Imm.refl _) _ _ hx31 _ _ hf30 _) ?_
      refine gl_atE (by kernel_rfl) ?_
      refine ge_seq ?_
      refine gk_cond (b := y32) (by kernel_rfl) (by kernel_rfl) (fun hc33 => ?_) (fun hc33 => ?_)
      · have hb9 := cond_t hc33 hb9
        refine gk_seq (by kernel_rfl) ?_
        refine gk_region (by kernel_rfl) ?_
        refine gl_pure 2 [4] (K' := [(4, .int .i64 s7)]) (by kernel_rfl) ?_
        refine gl_atE (by kernel_rfl) ?_
        refine ge_seq ?_
        refine gk_ret (by kernel_rfl) ?_
        refine ge_block_ret ?_
        refine ge_seq_ret ?_
        obtain rfl := some_inj hb9
        refine ge_round_out (fun hrr => ?_) (by intro h; cases h)
        obtain rfl := hrr
        refine ge_block_ret ?_
        refine ge_seq_ret ?_
        refine ge_seq_ret ?_
        obtain rfl := some_inj hr
        exact ge_result trivial (ResOk.tmp (by kernel_rfl) ResOk.nil) hI10 ⟨rfl, rfl⟩
      · have hb9 := cond_f hc33 hb9
        refine gk_skip (by kernel_rfl) ?_
        refine ge_block_normal ?_
        refine ge_seq ?_
        refine gk_region (by kernel_rfl) ?_
        refine gl_pure 2 [0, 1, 7, 8] (K' := [(0, .slice A0_0 a0.length n0_0), (1, fv1), (7, .int .i64 (a0.length : Int)), (8, .int .i64 (IntKind.wrap .i64 (s7 + 1)))]) (by kernel_rfl) ?_
        refine gl_atE (by kernel_rfl) ?_
        obtain rfl := some_inj hb9
        exact ge_round fun t ht => ⟨hI10, rfl, ht.pick (l := [0, 1, 7, 8]) (by kernel_rfl)⟩
    · have hb9 := cond_f hc19 hb9
      refine gk_exit (by kernel_rfl) ?_
      refine ge_seq_exit ?_
      obtain rfl := some_inj hb9
      refine ge_round_out (fun hrr => ?_) (by intro h; cases h)
      obtain rfl := hrr
      refine ge_block_hit (by kernel_rfl) ?_
      exact ge_mid fun t ht => ⟨_, rfl, hI10, rfl, ht.pick (l := []) (by kernel_rfl)⟩
  · rintro t I16 L' ⟨r13, rfl, hI14, rfl, hK15⟩
    refine ge_at hK15 ?_
    refine ge_seq ?_
    refine gk_seq (by kernel_rfl) ?_
    refine gk_region (by kernel_rfl) ?_
    refine gl_pure 1 [4] (K' := [(4, .int .i64 (-1))]) (by kernel_rfl) ?_
    refine gl_atE (by kernel_rfl) ?_
    refine ge_seq ?_
    refine gk_ret (by kernel_rfl) ?_
    obtain rfl := some_inj hr
    exact ge_result trivial (ResOk.tmp (by kernel_rfl) ResOk.nil) hI14 ⟨rfl, rfl⟩
/-! 25 slices_ContainsFunc  -/
noncomputable def slices_ContainsFunc (a0 : List (List S50)) (a1 : (List S50) → Option Bool) : Option Bool :=
  Option.bind (slices_IndexFunc a0 a1) fun (y1 : Int) =>
  some (decide (y1 ≥ 0))
theorem slices_ContainsFunc_walk {a0 : List (List S50)} {A0_0 : Option Addr} {n0_0 : Nat} {a1 : (List S50) → Option Bool} {fv1 : Value} {I : Imm} {r : Bool}  (hf0_0 : RepS (Kd.sl kS50) I A0_0 n0_0 a0) (hf1 : Fn46 I fv1 a1) (hr : slices_ContainsFunc a0 a1 = some r) (L : Own) :
    CallsTo Tryd.prog 25 #[.slice A0_0 a0.length n0_0, fv1] I L (fun v I' L' => v = .bool r ∧ L = L') := by
  unfold slices_ContainsFunc at hr
  refine callsTo_body (N := 9) Tryd.func25 (by kernel_rfl) (by kernel_rfl) (by kernel_rfl) ?_
  refine gk_pick [0, 1] (K' := [(0, .slice A0_0 a0.length n0_0), (1, fv1)]) (by kernel_rfl) ?_
  refine gk_seq (by kernel_rfl) ?_
  refine gk_region (by kernel_rfl) ?_
  refine gl_pure 1 [0, 1] (K' := [(0, .slice A0_0 a0.length n0_0), (1, fv1)]) (by kernel_rfl) ?_
  refine gl_atE (by kernel_rfl) ?_
  refine ge_seq ?_
  refine gk_seq (by kernel_rfl) ?_
  refine gk_region (by kernel_rfl) ?_
  refine gl_pure 2 [5, 6] (K' := [(5, .slice A0_0 a0.length n0_0), (6, fv1)]) (by kernel_rfl) ?_
  obtain ⟨y1, hx2, hr⟩ := bind_some hr
  refine gl_callQ (by kernel_rfl) (slices_IndexFunc_walk (r := y1) hf0_0 hf1 hx2 _) ?_
  refine gl_pure 2 [4] (K' := [(4, .bool (decide (y1 ≥ 0)))]) (by kernel_rfl) ?_
  refine gl_atE (by kernel_rfl) ?_
  refine ge_seq ?_
  refine gk_ret (by kernel_rfl) ?_
  obtain rfl := some_inj hr
  exact ge_result trivial (ResOk.tmp (by kernel_rfl) ResOk.nil) (Imm.refl _) ⟨rfl, rfl⟩
/-! 83 labels_digit  -/
noncomputable def labels_digit (a0 : Int) : Bool :=
  ((decide (a0 ≥ 48)) && (decide (a0 ≤ 57)))
theorem labels_digit_walk {a0 : Int} {I : Imm} {r : Bool}  (hr : labels_digit a0 = r) (L : Own) :
    CallsTo Tryd.prog 83 #[.int .u8 a0] I L (fun v I' L' => v = .bool r ∧ L = L') := by
  replace hr : some (labels_digit a0) = some r := congrArg some hr
  unfold labels_digit at hr
  refine callsTo_body (N := 9) Tryd.func83 (by kernel_rfl) (by kernel_rfl) (by kernel_rfl) ?_
  refine gk_pick [0] (K' := [(0, .int .u8 a0)]) (by kernel_rfl) ?_
  refine gk_seq (by kernel_rfl) ?_
  refine gk_region (by kernel_rfl) ?_
  refine gl_pure 1 [0] (K' := [(0, .int .u8 a0)]) (by kernel_rfl) ?_
  refine gl_atE (by kernel_rfl) ?_
  refine ge_seq ?_
  refine gk_seq (by kernel_rfl) ?_
  obtain ⟨b3, hb4⟩ : ∃ z, z = ((decide (a0 ≥ 48)) && (decide (a0 ≤ 57))) := ⟨_, rfl⟩
  refine gk_join (fun t I' L' => I ≤ I' ∧ L = L' ∧ Knows 9 [(2, .bool b3)] t) ?_ ?_
  · refine gk_region (by kernel_rfl) ?_
    refine gl_pure 3 [0, 5] (K' := [(0, .int .u8 a0), (5, .bool (decide (a0 ≥ 48)))]) (by kernel_rfl) ?_
    refine gl_case 5 (b := (decide (a0 ≥ 48))) (by kernel_rfl) (fun hc6 => ?_) (fun hc6 => ?_)
    · refine gl_pure 4 [2] (K' := [(2, .bool (decide (a0 ≤ 57)))]) (by kernel_rfl) ?_
      refine gl_atE (by kernel_rfl) ?_
      exact ge_mid fun t ht => ⟨(Imm.refl _), rfl, by rw [(show b3 = (decide (a0 ≤ 57)) from hb4.trans (by first | (rw [hc6]; done) | (rw [hc6]; rfl) | (simp [hc6]; done) | (simp only [hc6]; rfl) | (simp at *; omega)))]; exact ht.pick (l := [2]) (by kernel_rfl)⟩
    · refine gl_pure 4 [2] (K' := [(2, .bool false)]) (by kernel_rfl) ?_
      refine gl_atE (by kernel_rfl) ?_
      exact ge_mid fun t ht => ⟨(Imm.refl _), rfl, by rw [(show b3 = false from hb4.trans (by first | (rw [hc6]; done) | (rw [hc6]; rfl) | (simp [hc6]; done) | (simp only [hc6]; rfl) | (simp at *; omega)))]; exact ht.pick (l := [2]) (by kernel_rfl)⟩
  · rintro t I5 L' ⟨hI1, rfl, hK2⟩
    subst hb4
    refine ge_at hK2 ?_
    refine ge_seq ?_
    refine gk_ret (by kernel_rfl) ?_
    obtain rfl := some_inj hr
    exact ge_result trivial (ResOk.tmp (by kernel_rfl) ResOk.nil) hI1 ⟨rfl, rfl⟩
/-! 84 labels_letter  -/
noncomputable def labels_letter (a0 : Int) : Bool :=
  ((((decide (a0 ≥ 97)) && (decide (a0 ≤ 122))) || ((decide (a0 ≥ 65)) && (decide (a0 ≤ 90)))) || (a0 == 95))
theorem labels_letter_walk {a0 : Int} {I : Imm} {r : Bool}  (hr : labels_letter a0 = r) (L : Own) :
    CallsTo Tryd.prog 84 #[.int .u8 a0] I L (fun v I' L' => v = .bool r ∧ L = L') := by
  replace hr : some (labels_letter a0) = some r := congrArg some hr
  unfold labels_letter at hr
  refine callsTo_body (N := 21) Tryd.func84 (by kernel_rfl) (by kernel_rfl) (by kernel_rfl) ?_
  refine gk_pick [0] (K' := [(0, .int .u8 a0)]) (by kernel_rfl) ?_
  refine gk_seq (by kernel_rfl) ?_
  refine gk_region (by kernel_rfl) ?_
  refine gl_pure 1 [0] (K' := [(0, .int .u8 a0)]) (by kernel_rfl) ?_
  refine gl_atE (by kernel_rfl) ?_
  refine ge_seq ?_
  refine gk_seq (by kernel_rfl) ?_
  obtain ⟨b3, hb4⟩ : ∃ z, z = ((((decide (a0 ≥ 97)) && (decide (a0 ≤ 122))) || ((decide (a0 ≥ 65)) && (decide (a0 ≤ 90)))) || (a0 == 95)) := ⟨_, rfl⟩
  refine gk_join (fun t I' L' => I ≤ I' ∧ L = L' ∧ Knows 21 [(2, .bool b3)] t) ?_ ?_
  · refine gk_region (by kernel_rfl) ?_
    refine gl_pure 3 [0, 5] (K' := [(0, .int .u8 a0), (5, .bool (decide (a0 ≥ 97)))]) (by kernel_rfl) ?_
    refine gl_case 5 (b := (decide (a0 ≥ 97))) (by kernel_rfl) (fun hc6 => ?_) (fun hc6 => ?_)
    · refine gl_pure 4 [0, 9] (K' := [(0, .int .u8 a0), (9, .bool (decide (a0 ≤ 122)))]) (by kernel_rfl) ?_
      refine gl_case 9 (b := (decide (a0 ≤ 122))) (by kernel_rfl) (fun hc7 => ?_) (fun hc7 => ?_)
      · refine gl_pure 12 [2] (K' := [(2, .bool true)]) (by kernel_rfl) ?_
        refine gl_atE (by kernel_rfl) ?_
        exact ge_mid fun t ht => ⟨(Imm.refl _), rfl, by rw [(show b3 = true from hb4.trans (by first | (rw [hc6, hc7]; done) | (rw [hc6, hc7]; rfl) | (simp [hc6, hc7]; done) | (simp only [hc6, hc7]; rfl) | (simp at *; omega)))]; exact ht.pick (l := [2]) (by kernel_rfl)⟩
      · refine gl_pure 3 [0, 9, 12] (K' := [(0, .int .u8 a0), (9, .bool false), (12, .bool (decide (a0 ≥ 65)))]) (by kernel_rfl) ?_
        refine gl_case 12 (b := (decide (a0 ≥ 65))) (by kernel_rfl) (fun hc8 => ?_) (fun hc8 => ?_)
        · refine gl_pure 5 [0, 17] (K' := [(0, .int .u8 a0), (17, .bool (decide (a0 ≤ 90)))]) (by kernel_rfl) ?_
          refine gl_case 17 (b := (decide (a0 ≤ 90))) (by kernel_rfl) (fun hc9 => ?_) (fun hc9 => ?_)
          · refine gl_pure 4 [2] (K' := [(2, .bool true)]) (by kernel_rfl) ?_
            refine gl_atE (by kernel_rfl) ?_
            exact ge_mid fun t ht => ⟨(Imm.refl _), rfl, by rw [(show b3 = true from hb4.trans (by first | (rw [hc6, hc7, hc8, hc9]; done) | (rw [hc6, hc7, hc8, hc9]; rfl) | (simp [hc6, hc7, hc8, hc9]; done) | (simp only [hc6, hc7, hc8, hc9]; rfl) | (simp at *; omega)))]; exact ht.pick (l := [2]) (by kernel_rfl)⟩
          · refine gl_pure 4 [2] (K' := [(2, .bool (a0 == 95))]) (by kernel_rfl) ?_
            refine gl_atE (by kernel_rfl) ?_
            exact ge_mid fun t ht => ⟨(Imm.refl _), rfl, by rw [(show b3 = (a0 == 95) from hb4.trans (by first | (rw [hc6, hc7, hc8, hc9]; done) | (rw [hc6, hc7, hc8, hc9]; rfl) | (simp [hc6, hc7, hc8, hc9]; done) | (simp only [hc6, hc7, hc8, hc9]; rfl) | (simp at *; omega)))]; exact ht.pick (l := [2]) (by kernel_rfl)⟩
        · refine gl_pure 9 [2] (K' := [(2, .bool (a0 == 95))]) (by kernel_rfl) ?_
          refine gl_atE (by kernel_rfl) ?_
          exact ge_mid fun t ht => ⟨(Imm.refl _), rfl, by rw [(show b3 = (a0 == 95) from hb4.trans (by first | (rw [hc6, hc7, hc8]; done) | (rw [hc6, hc7, hc8]; rfl) | (simp [hc6, hc7, hc8]; done) | (simp only [hc6, hc7, hc8]; rfl) | (simp at *; omega)))]; exact ht.pick (l := [2]) (by kernel_rfl)⟩
    · refine gl_pure 7 [0, 9, 12] (K' := [(0, .int .u8 a0), (9, .bool false), (12, .bool (decide (a0 ≥ 65)))]) (by kernel_rfl) ?_
      refine gl_case 12 (b := (decide (a0 ≥ 65))) (by kernel_rfl) (fun hc10 => ?_) (fun hc10 => ?_)
      · refine gl_pure 5 [0, 17] (K' := [(0, .int .u8 a0), (17, .bool (decide (a0 ≤ 90)))]) (by kernel_rfl) ?_
        refine gl_case 17 (b := (decide (a0 ≤ 90))) (by kernel_rfl) (fun hc11 => ?_) (fun hc11 => ?_)
        · refine gl_pure 4 [2] (K' := [(2, .bool true)]) (by kernel_rfl) ?_
          refine gl_atE (by kernel_rfl) ?_
          exact ge_mid fun t ht => ⟨(Imm.refl _), rfl, by rw [(show b3 = true from hb4.trans (by first | (rw [hc6, hc10, hc11]; done) | (rw [hc6, hc10, hc11]; rfl) | (simp [hc6, hc10, hc11]; done) | (simp only [hc6, hc10, hc11]; rfl) | (simp at *; omega)))]; exact ht.pick (l := [2]) (by kernel_rfl)⟩
        · refine gl_pure 4 [2] (K' := [(2, .bool (a0 == 95))]) (by kernel_rfl) ?_
          refine gl_atE (by kernel_rfl) ?_
          exact ge_mid fun t ht => ⟨(Imm.refl _), rfl, by rw [(show b3 = (a0 == 95) from hb4.trans (by first | (rw [hc6, hc10, hc11]; done) | (rw [hc6, hc10, hc11]; rfl) | (simp [hc6, hc10, hc11]; done) | (simp only [hc6, hc10, hc11]; rfl) | (simp at *; omega)))]; exact ht.pick (l := [2]) (by kernel_rfl)⟩
      · refine gl_pure 9 [2] (K' := [(2, .bool (a0 == 95))]) (by kernel_rfl) ?_
        refine gl_atE (by kernel_rfl) ?_
        exact ge_mid fun t ht => ⟨(Imm.refl _), rfl, by rw [(show b3 = (a0 == 95) from hb4.trans (by first | (rw [hc6, hc10]; done) | (rw [hc6, hc10]; rfl) | (simp [hc6, hc10]; done) | (simp only [hc6, hc10]; rfl) | (simp at *; omega)))]; exact ht.pick (l := [2]) (by kernel_rfl)⟩
  · rintro t I5 L' ⟨hI1, rfl, hK2⟩
    subst hb4
    refine ge_at hK2 ?_
    refine ge_seq ?_
    refine gk_ret (by kernel_rfl) ?_
    obtain rfl := some_inj hr
    exact ge_result trivial (ResOk.tmp (by kernel_rfl) ResOk.nil) hI1 ⟨rfl, rfl⟩
/-! 70 labels_named  -/
noncomputable def labels_named_l33 (a2 : Bool) (l11 : List Int) : Int → Option ((Int) ⊕ ((Unit) ⊕ (Bool))) := fun s23 =>
  bif (decide (s23 < (l11.length : Int))) then
  (Option.bind (ix l11 s23) fun (x36 : Int) =>
    bif (((!(labels_letter x36)) && (!(labels_digit x36))) && (!(a2 && (x36 == 58)))) then
    (some (Sum.inr (Sum.inr false)))
    else
    (some (Sum.inl (IntKind.wrap .i64 (s23 + 1)))))
  else
  (some (Sum.inr (Sum.inl ())))
noncomputable def labels_named (a0 : ByteArray) (a1 : Int) (a2 : Bool) : Option Bool :=
  Option.bind (bif (a0.toList == (⟨#[]⟩ : ByteArray).toList) then
    (some true)
    else
    (bif (decide ((a0.size : Int) > a1)) then
      (some true)
      else
      (Option.bind (bx a0 0) fun (c8 : Int) =>
        some (labels_digit c8)))) fun (j1 : Bool) =>
  bif j1 then
  (some false)
  else
  (Option.bind (sb a0) fun (l11 : List Int) =>
    Option.bind (loopO (labels_named_l33 a2 l11) 0) fun (r21 : (Unit) ⊕ (Bool)) =>
    match r21 with
    | Sum.inl r29 => some true
    | Sum.inr v54 => some v54)
theorem labels_named_walk {a0 : ByteArray} {a1 : Int} {a2 : Bool} {I : Imm} {r : Bool}  (hr : labels_named a0 a1 a2 = some r) (L : Own) :
    CallsTo Tryd.prog 70 #[.string a0, .int .i64 a1, .bool a2] I L (fun v I' L' => v = .bool r ∧ L = L') := by
  unfold labels_named at hr
  refine callsTo_body (N := 46) Tryd.func70 (by kernel_rfl) (by kernel_rfl) (by kernel_rfl) ?_
  refine gk_pick [0, 1, 2] (K' := [(0, .string a0), (1, .int .i64 a1), (2, .bool a2)]) (by kernel_rfl) ?_
  refine gk_seq (by kernel_rfl) ?_
  refine gk_region (by kernel_rfl) ?_
  refine gl_pure 1 [0, 1, 2] (K' := [(0, .string a0), (1, .int .i64 a1), (2, .bool a2)]) (by kernel_rfl) ?_
  refine gl_atE (by kernel_rfl) ?_
  refine ge_seq ?_
  refine gk_seq (by kernel_rfl) ?_
  refine gk_seq (by kernel_rfl) ?_
  obtain ⟨j1, hj2, hr⟩ := bind_some hr
  refine gk_join (fun t I' L' => I ≤ I' ∧ L = L' ∧ Knows 46 [(0, .string a0), (2, .bool a2), (21, .bool j1)] t) ?_ ?_
  · refine gk_region (by kernel_rfl) ?_
    refine gl_pure 3 [0, 1, 2, 11] (K' := [(0, .string a0), (1, .int .i64 a1), (2, .bool a2), (11, .bool (a0.toList == (⟨#[]⟩ : ByteArray).toList))]) (by kernel_rfl) ?_
    refine gl_case 11 (b := (a0.toList == (⟨#[]⟩ : ByteArray).toList)) (by kernel_rfl) (fun hc6 => ?_) (fun hc6 => ?_)
    · have hj2 := cond_t hc6 hj2
      refine gl_pure 10 [0, 2, 21] (K' := [(0, .string a0), (2, .bool a2), (21, .bool true)]) (by kernel_rfl) ?_
      refine gl_atE (by kernel_rfl) ?_
      obtain rfl := some_inj hj2
      exact ge_mid fun t ht => ⟨(Imm.refl _), rfl, ht.pick (l := [0, 2, 21]) (by kernel_rfl)⟩
    · have hj2 := cond_f hc6 hj2
      refine gl_pure 6 [0, 2, 17] (K' := [(0, .string a0), (2, .bool a2), (17, .bool (decide ((a0.size : Int) > a1)))]) (by kernel_rfl) ?_
      refine gl_case 17 (b := (decide ((a0.size : Int) > a1))) (by kernel_rfl) (fun hc7 => ?_) (fun hc7 => ?_)
      · have hj2 := cond_t hc7 hj2
        refine gl_pure 4 [0, 2, 21] (K' := [(0, .string a0), (2, .bool a2), (21, .bool true)]) (by kernel_rfl) ?_
        refine gl_atE (by kernel_rfl) ?_
        obtain rfl := some_inj hj2
        exact ge_mid fun t ht => ⟨(Imm.refl _), rfl, ht.pick (l := [0, 2, 21]) (by kernel_rfl)⟩
      · have hj2 := cond_f hc7 hj2
        refine gl_pure 1 [0, 2, 17, 18] (K' := [(0, .string a0), (2, .bool a2), (17, .bool false), (18, .string a0)]) (by kernel_rfl) ?_
        obtain ⟨c8, hx9, hj2⟩ := bind_some hj2
        refine gl_index' (T' := 9) (xs := (.tmp 18)) (xi := (.const (.int .i64 0))) (kd := .i64) hx9 (by kernel_rfl) (by kernel_rfl) (by kernel_rfl) (by kernel_rfl) (by kernel_rfl) ?_
        refine gl_callQ (by kernel_rfl) (labels_digit_walk (r := (labels_digit c8))  rfl _) ?_
        refine gl_pure 1 [0, 2, 21] (K' := [(0, .string a0), (2, .bool a2), (21, .bool (labels_digit c8))]) (by kernel_rfl) ?_
        refine gl_atE (by kernel_rfl) ?_
        obtain rfl := some_inj hj2
        exact ge_mid fun t ht => ⟨(Imm.refl _), rfl, ht.pick (l := [0, 2, 21]) (by kernel_rfl)⟩
  · rintro t I5 L' ⟨hI3, rfl, hK4⟩
    refine ge_at hK4 ?_
    refine ge_seq ?_
    refine gk_cond (b := j1) (by kernel_rfl) (by kernel_rfl) (fun hc10 => ?_) (fun hc10 => ?_)
    · have hr := cond_t hc10 hr
      refine gk_seq (by kernel_rfl) ?_
      refine gk_region (by kernel_rfl) ?_
      refine gl_pure 1 [6] (K' := [(6, .bool false)]) (by kernel_rfl) ?_
      refine gl_atE (by kernel_rfl) ?_
      refine ge_seq ?_
      refine gk_ret (by kernel_rfl) ?_
      refine ge_seq_ret ?_
      obtain rfl := some_inj hr
      exact ge_result trivial (ResOk.tmp (by kernel_rfl) ResOk.nil) hI3 ⟨rfl, rfl⟩
    · have hr := cond_f hc10 hr
      refine gk_skip (by kernel_rfl) ?_
      refine ge_seq ?_
      refine gk_seq (by kernel_rfl) ?_
      refine gk_seq (by kernel_rfl) ?_
      refine gk_region (by kernel_rfl) ?_
      refine gl_pure 1 [2, 22] (K' := [(2, .bool a2), (22, .string a0)]) (by kernel_rfl) ?_
      obtain ⟨l11, hx12, hr⟩ := bind_some hr
      refine gl_strBytes (src := 9) (dst := 113) (e := 5) (n := 1) (x := (.tmp 22)) hx12 (by kernel_rfl) (by kernel_rfl) (by kernel_rfl) (by kernel_rfl) (by kernel_rfl) (by kernel_rfl) (fun A13 n14 C15 hO16 => ?_)
      refine gl_pure 2 [2, 23, 24, 25] (K' := [(2, .bool a2), (23, .slice A13 l11.length n14), (24, .int .i64 (l11.length : Int)), (25, .int .i64 0)]) (by kernel_rfl) ?_
      refine gl_atE (by kernel_rfl) ?_
      refine ge_seq ?_
      obtain ⟨r21, hl22, hr⟩ := bind_some hr
      refine gk_join (fun t I' L' => ∃ r29, r21 = Sum.inl r29 ∧ I5 ≤ I' ∧ L = L' ∧ Knows 46 [] t) ?_ ?_
      · refine gk_block (by kernel_rfl) ?_
        refine gk_pick [2, 23, 24, 25] (K' := [(2, .bool a2), (23, .slice A13 l11.length n14), (24, .int .i64 (l11.length : Int)), (25, .int .i64 0)]) (by kernel_rfl) ?_
        intro t hK
        refine gc_loop (labels_named_l33 a2 l11) (fun s23 t I' L' => I5 ≤ I' ∧ C15 ++ L = L' ∧ Knows 46 [(2, .bool a2), (23, .slice A13 l11.length n14), (24, .int .i64 (l11.length : Int)), (25, .int .i64 s23)] t) (by kernel_rfl) ?_ hl22 ⟨(Imm.refl _), rfl, hK⟩
        rintro s23 o24 t I28 L' hb25 ⟨hI26, rfl, hK27⟩
        unfold labels_named_l33 at hb25
        refine gk_at hK27 ?_
        refine gk_seq (by kernel_rfl) ?_
        refine gk_region (by kernel_rfl) ?_
        refine gl_pure 1 [2, 23, 24, 25, 26] (K' := [(2, .bool a2), (23, .slice A13 l11.length n14), (24, .int .i64 (l11.length : Int)), (25, .int .i64 s23), (26, .bool (decide (s23 < (l11.length : Int))))]) (by kernel_rfl) ?_
        refine gl_atE (by kernel_rfl) ?_
        refine ge_seq ?_
        refine gk_seq (by kernel_rfl) ?_
        refine gk_cond (b := (decide (s23 < (l11.length : Int)))) (by kernel_rfl) (by kernel_rfl) (fun hc35 => ?_) (fun hc35 => ?_)
        · have hb25 := cond_t hc35 hb25
          refine gk_skip (by kernel_rfl) ?_
          refine ge_seq ?_
          refine gk_seq (by kernel_rfl) ?_
          refine gk_block (by kernel_rfl) ?_
          refine gk_seq (by kernel_rfl) ?_
          refine gk_region (by kernel_rfl) ?_
          obtain ⟨x36, hx37, hb25⟩ := bind_some hb25
          refine gl_indexAddrW (d := (Kd.int .u8)) (c := n14) (T' := 113) (e := 5) (xs := (.tmp 23)) (xi := (.tmp 25)) (kd := .i64) hx37 (hO16.mono hI26) (Upd.selfC _ _) (by kernel_rfl) (by kernel_rfl) (by kernel_rfl) (by kernel_rfl) (by kernel_rfl) (fun p38 cs39 hR40 hA41 hp44 => ?_)
          obtain rfl := hR40
          refine gl_loadO (T' := 5) (xp := (.tmp 27)) (p := p38) (c := .int .u8 x36) (n := 1) (by kernel_rfl) (by kernel_rfl) (by kernel_rfl) (by kernel_rfl) hA41 ?_
          refine gl_pure 1 [2, 8, 23, 24, 25] (K' := [(2, .bool a2), (8, .int .u8 x36), (23, .slice A13 l11.length n14), (24, .int .i64 (l11.length : Int)), (25, .int .i64 s23)]) (by kernel_rfl) ?_
          refine gl_atE (by kernel_rfl) ?_
          refine ge_seq ?_
          refine gk_seq (by kernel_rfl) ?_
          obtain ⟨b47, hb48⟩ : ∃ z, z = (((!(labels_letter x36)) && (!(labels_digit x36))) && (!(a2 && (x36 == 58)))) := ⟨_, rfl⟩
          refine gk_join (fun t I' L' => I28 ≤ I' ∧ C15 ++ L = L' ∧ Knows 46 [(2, .bool a2), (23, .slice A13 l11.length n14), (24, .int .i64 (l11.length : Int)), (25, .int .i64 s23), (44, .bool b47)] t) ?_ ?_
          · refine gk_region (by kernel_rfl) ?_
            refine gl_pure 1 [2, 8, 23, 24, 25, 29] (K' := [(2, .bool a2), (8, .int .u8 x36), (23, .slice A13 l11.length n14), (24, .int .i64 (l11.length : Int)), (25, .int .i64 s23), (29, .int .u8 x36)]) (by kernel_rfl) ?_
            refine gl_callQ (by kernel_rfl) (labels_letter_walk (r := (labels_letter x36))  rfl _) ?_
            refine gl_pure 2 [2, 8, 23, 24, 25, 32] (K' := [(2, .bool a2), (8, .int .u8 x36), (23, .slice A13 l11.length n14), (24, .int .i64 (l11.length : Int)), (25, .int .i64 s23), (32, .bool (!(labels_letter x36)))]) (by kernel_rfl) ?_
            refine gl_case 32 (b := (!(labels_letter x36))) (by kernel_rfl) (fun hc50 => ?_) (fun hc50 => ?_)
            · refine gl_pure 1 [2, 8, 23, 24, 25, 32, 33] (K' := [(2, .bool a2), (8, .int .u8 x36), (23, .slice A13 l11.length n14), (24, .int .i64 (l11.length : Int)), (25, .int .i64 s23), (32, .bool true), (33, .int .u8 x36)]) (by kernel_rfl) ?_
              refine gl_callQ (by kernel_rfl) (labels_digit_walk (r := (labels_digit x36))  rfl _) ?_
              refine gl_pure 3 [2, 8, 23, 24, 25, 37] (K' := [(2, .bool a2), (8, .int .u8 x36), (23, .slice A13 l11.length n14), (24, .int .i64 (l11.length : Int)), (25, .int .i64 s23), (37, .bool (!(labels_digit x36)))]) (by kernel_rfl) ?_
              refine gl_case 37 (b := (!(labels_digit x36))) (by kernel_rfl) (fun hc51 => ?_) (fun hc51 => ?_)
              · refine gl_pure 2 [2, 8, 23, 24, 25, 37, 39] (K' := [(2, .bool a2), (8, .int .u8 x36), (23, .slice A13 l11.length n14), (24, .int .i64 (l11.length : Int)), (25, .int .i64 s23), (37, .bool true), (39, .bool a2)]) (by kernel_rfl) ?_
                refine gl_case 39 (b := a2) (by kernel_rfl) (fun hc52 => ?_) (fun hc52 => ?_)
                · refine gl_pure 5 [2, 23, 24, 25, 44] (K' := [(2, .bool a2), (23, .slice A13 l11.length n14), (24, .int .i64 (l11.length : Int)), (25, .int .i64 s23), (44, .bool (!(x36 == 58)))]) (by kernel_rfl) ?_
                  refine gl_atE (by kernel_rfl) ?_
                  exact ge_mid fun t ht => ⟨(Imm.refl _), rfl, by rw [(show b47 = (!(x36 == 58)) from hb48.trans (by first | (rw [hc50, hc51, hc52]; done) | (rw [hc50, hc51, hc52]; rfl) | (simp [hc50, hc51, hc52]; done) | (simp only [hc50, hc51, hc52]; rfl) | (simp at *; omega)))]; exact ht.pick (l := [2, 23, 24, 25, 44]) (by kernel_rfl)⟩
                · refine gl_pure 5 [2, 23, 24, 25, 44] (K' := [(2, .bool a2), (23, .slice A13 l11.length n14), (24, .int .i64 (l11.length : Int)), (25, .int .i64 s23), (44, .bool true)]) (by kernel_rfl) ?_
                  refine gl_atE (by kernel_rfl) ?_
                  exact ge_mid fun t ht => ⟨(Imm.refl _), rfl, by rw [(show b47 = true from hb48.trans (by first | (rw [hc50, hc51, hc52]; done) | (rw [hc50, hc51, hc52]; rfl) | (simp [hc50, hc51, hc52]; done) | (simp only [hc50, hc51, hc52]; rfl) | (simp at *; omega)))]; exact ht.pick (l := [2, 23, 24, 25, 44]) (by kernel_rfl)⟩
              · refine gl_pure 7 [2, 23, 24, 25, 44] (K' := [(2, .bool a2), (23, .slice A13 l11.length n14), (24, .int .i64 (l11.length : Int)), (25, .int .i64 s23), (44, .bool false)]) (by kernel_rfl) ?_
                refine gl_atE (by kernel_rfl) ?_
                exact ge_mid fun t ht => ⟨(Imm.refl _), rfl, by rw [(show b47 = false from hb48.trans (by first | (rw [hc50, hc51]; done) | (rw [hc50, hc51]; rfl) | (simp [hc50, hc51]; done) | (simp only [hc50, hc51]; rfl) | (simp at *; omega)))]; exact ht.pick (l := [2, 23, 24, 25, 44]) (by kernel_rfl)⟩
            · refine gl_pure 12 [2, 23, 24, 25, 44] (K' := [(2, .bool a2), (23, .slice A13 l11.length n14), (24, .int .i64 (l11.length : Int)), (25, .int .i64 s23), (44, .bool false)]) (by kernel_rfl) ?_
              refine gl_atE (by kernel_rfl) ?_
              exact ge_mid fun t ht => ⟨(Imm.refl _), rfl, by rw [(show b47 = false from hb48.trans (by first | (rw [hc50]; done) | (rw [hc50]; rfl) | (simp [hc50]; done) | (simp only [hc50]; rfl) | (simp at *; omega)))]; exact ht.pick (l := [2, 23, 24, 25, 44]) (by kernel_rfl)⟩
          · rintro t I49 L' ⟨hI45, rfl, hK46⟩
            subst hb48
            refine ge_at hK46 ?_
            refine ge_seq ?_
            refine gk_cond (b := (((!(labels_letter x36)) && (!(labels_digit x36))) && (!(a2 && (x36 == 58))))) (by kernel_rfl) (by kernel_rfl) (fun hc53 => ?_) (fun hc53 => ?_)
            · have hb25 := cond_t hc53 hb25
              refine gk_seq (by kernel_rfl) ?_
              refine gk_region (by kernel_rfl) ?_
              refine gl_pure 1 [6] (K' := [(6, .bool false)]) (by kernel_rfl) ?_
              refine gl_atE (by kernel_rfl) ?_
              refine ge_seq ?_
              refine gk_reord (D := L) (Reord.skipC (Reord.refl _)) ?_
              refine gk_ret (by kernel_rfl) ?_
              refine ge_block_ret ?_
              refine ge_seq_ret ?_
              obtain rfl := some_inj hb25
              refine ge_round_out (fun hrr => ?_) (by intro h; cases h)
              obtain rfl := hrr
              refine ge_block_ret ?_
              refine ge_seq_ret ?_
              refine ge_seq_ret ?_
              obtain rfl := some_inj hr
              exact ge_result trivial (ResOk.tmp (by kernel_rfl) ResOk.nil) (Imm.trans (Imm.trans hI3 hI26) hI45) ⟨rfl, rfl⟩
            · have hb25 := cond_f hc53 hb25
              refine gk_skip (by kernel_rfl) ?_
              refine ge_block_normal ?_
              refine ge_seq ?_
              refine gk_region (by kernel_rfl) ?_
              refine gl_pure 2 [2, 23, 24, 25] (K' := [(2, .bool a2), (23, .slice A13 l11.length n14), (24, .int .i64 (l11.length : Int)), (25, .int .i64 (IntKind.wrap .i64 (s23 + 1)))]) (by kernel_rfl) ?_
              refine gl_atE (by kernel_rfl) ?_
              obtain rfl := some_inj hb25
              exact ge_round fun t ht => ⟨(Imm.trans hI26 hI45), rfl, ht.pick (l := [2, 23, 24, 25]) (by kernel_rfl)⟩
        · have hb25 := cond_f hc35 hb25
          refine gk_reord (D := L) (Reord.skipC (Reord.refl _)) ?_
          refine gk_exit (by kernel_rfl) ?_
          refine ge_seq_exit ?_
          obtain rfl := some_inj hb25
          refine ge_round_out (fun hrr => ?_) (by intro h; cases h)
          obtain rfl := hrr
          refine ge_block_hit (by kernel_rfl) ?_
          exact ge_mid fun t ht => ⟨_, rfl, hI26, rfl, ht.pick (l := []) (by kernel_rfl)⟩
      · rintro t I32 L' ⟨r29, rfl, hI30, rfl, hK31⟩
        refine ge_at hK31 ?_
        refine ge_seq ?_
        refine gk_seq (by kernel_rfl) ?_
        refine gk_region (by kernel_rfl) ?_
        refine gl_pure 1 [6] (K' := [(6, .bool true)]) (by kernel_rfl) ?_
        refine gl_atE (by kernel_rfl) ?_
        refine ge_seq ?_
        refine gk_ret (by kernel_rfl) ?_
        obtain rfl := some_inj hr
        exact ge_result trivial (ResOk.tmp (by kernel_rfl) ResOk.nil) (Imm.trans hI3 hI30) ⟨rfl, rfl⟩
/-! 53 labels_Name  -/
noncomputable def labels_Name (a0 : ByteArray) : Option Bool :=
  Option.bind (labels_named a0 64 false) fun (y1 : Bool) =>
  some y1
theorem labels_Name_walk {a0 : ByteArray} {I : Imm} {r : Bool}  (hr : labels_Name a0 = some r) (L : Own) :
    CallsTo Tryd.prog 53 #[.string a0] I L (fun v I' L' => v = .bool r ∧ L = L') := by
  unfold labels_Name at hr
  refine callsTo_body (N := 5) Tryd.func53 (by kernel_rfl) (by kernel_rfl) (by kernel_rfl) ?_
  refine gk_pick [0] (K' := [(0, .string a0)]) (by kernel_rfl) ?_
  refine gk_seq (by kernel_rfl) ?_
  refine gk_region (by kernel_rfl) ?_
  refine gl_pure 1 [0] (K' := [(0, .string a0)]) (by kernel_rfl) ?_
  refine gl_atE (by kernel_rfl) ?_
  refine ge_seq ?_
  refine gk_seq (by kernel_rfl) ?_
  refine gk_region (by kernel_rfl) ?_
  refine gl_pure 1 [3] (K' := [(3, .string a0)]) (by kernel_rfl) ?_
  obtain ⟨y1, hx2, hr⟩ := bind_some hr
  refine gl_callQ (by kernel_rfl) (labels_named_walk (r := y1)  hx2 _) ?_
  refine gl_pure 1 [2] (K' := [(2, .bool y1)]) (by kernel_rfl) ?_
  refine gl_atE (by kernel_rfl) ?_
  refine ge_seq ?_
  refine gk_ret (by kernel_rfl) ?_
  obtain rfl := some_inj hr
  exact ge_result trivial (ResOk.tmp (by kernel_rfl) ResOk.nil) (Imm.refl _) ⟨rfl, rfl⟩
theorem gl_tabs {I : Imm} {L : Own} {W : World} (hG : Gl I) (hW : Holds I L W) : Go.Lib.Utf8Tabs 0 1 W := by
  refine ⟨fun c hc => ?_, fun i hi => ?_⟩
  · obtain ⟨a, cs, ha, hR, hr⟩ := hG.g0.at_ c (Go.Lib.firstT c : Int) (by simp [tab0, List.getElem?_range hc])
    cases ha
    obtain rfl : cs = [.int .u8 (Go.Lib.firstT c : Int)] := hR
    have := hW.cell (hr 0 _ rfl)
    rw [addr_add, show c * (Kd.int .u8).n + 0 = c from by show c * 1 + 0 = c; omega] at this
    exact this
  · obtain ⟨a, cs, ha, hR, hr⟩ := hG.g1.at_ i ⟨(Go.Lib.accLo i : Int), (Go.Lib.accHi i : Int)⟩ (by simp [tab1, List.getElem?_range hi])
    cases ha
    obtain rfl := kS80_open hR
    have h0 := hW.cell (hr 0 _ rfl)
    have h1 := hW.cell (hr 1 _ rfl)
    rw [addr_add] at h0 h1
    rw [show i * kS80.n + 0 = 2 * i from by show i * 2 + 0 = 2 * i; omega] at h0
    rw [show i * kS80.n + 1 = 2 * i + 1 from by show i * 2 + 1 = 2 * i + 1; omega] at h1
    exact ⟨h0, h1⟩

def lays196_ren : Go.Shelf.Ren := ⟨fun x => if x = 196 then 40 else if x = 259 then 56 else x, fun x => if x = 119 then 79 else if x = 46 then 64 else if x = 139 then 82 else if x = 138 then 81 else if x = 53 then 94 else x, fun x => if x = 3 then 0 else if x = 4 then 1 else x⟩
theorem lays196 : Go.Proofs.Lays.n196 Tryd.prog lays196_ren := {
  mixed := by kernel_rfl,
  f196 := Tryd.func40.trans (congrArg some (by kernel_rfl)),
  f259 := Tryd.func56.trans (congrArg some (by kernel_rfl)),
  t0 := Tryd.underlying0,
  a0 := Tryd.isAgg0,
  z0 := Tryd.sizeOf0,
  v0 := Tryd.zeroValue0,
  t3 := Tryd.underlying3,
  a3 := Tryd.isAgg3,
  z3 := Tryd.sizeOf3,
  v3 := Tryd.zeroValue3,
  t4 := Tryd.underlying4,
  a4 := Tryd.isAgg4,
  z4 := Tryd.sizeOf4,
  v4 := Tryd.zeroValue4,
  t5 := Tryd.underlying5,
  a5 := Tryd.isAgg5,
  z5 := Tryd.sizeOf5,
  v5 := Tryd.zeroValue5,
  t9 := Tryd.underlying9,
  a9 := Tryd.isAgg9,
  z9 := Tryd.sizeOf9,
  v9 := Tryd.zeroValue9,
  t12 := Tryd.underlying12,
  a12 := Tryd.isAgg12,
  z12 := Tryd.sizeOf12,
  v12 := Tryd.zeroValue12,
  t46 := Tryd.underlying64,
  a46 := Tryd.isAgg64,
  z46 := Tryd.sizeOf64,
  v46 := Tryd.zeroValue64,
  t53 := Tryd.underlying94,
  a53 := Tryd.isAgg94,
  z53 := Tryd.sizeOf94,
  v53 := Tryd.zeroValue94,
  t119 := Tryd.underlying79,
  a119 := Tryd.isAgg79,
  z119 := Tryd.sizeOf79,
  t138 := Tryd.underlying81,
  a138 := Tryd.isAgg81,
  z138 := Tryd.sizeOf81,
  v138 := Tryd.zeroValue81,
  t139 := Tryd.underlying82,
  a139 := Tryd.isAgg82,
  z139 := Tryd.sizeOf82,
  v139 := Tryd.zeroValue82,
  g3 := by kernel_rfl,
  g4 := by kernel_rfl }

def utf8_ValidString (a0 : ByteArray) : Option Bool := if a0.size ≤ 9223372036854775807 then some (Go.Lib.validD a0.data.toList) else none
theorem utf8_ValidString_walk {a0 : ByteArray} {I : Imm} {r : Bool} (hG : Gl I) (hr : utf8_ValidString a0 = some r) (L : Own) :
    CallsTo Tryd.prog 40 #[.string a0] I L (fun v I' L' => v = .bool r ∧ L = L') := by
  unfold utf8_ValidString at hr
  split at hr <;> cases hr
  rename_i hs
  exact callsTo_below hG.dr (fun W hW => Go.Proofs.Any.utf8_ValidString lays196 a0 W hs (gl_tabs hG hW))

/-! 54 labels_value  -/
noncomputable def labels_value (a0 : ByteArray) : Option Int :=
  bif (a0.toList == (⟨#[]⟩ : ByteArray).toList) then
  (some 41)
  else
  (bif (decide ((a0.size : Int) > 256)) then
    (some 4)
    else
    (Option.bind (utf8_ValidString a0) fun (y3 : Bool) =>
      bif (!y3) then
      (some 12)
      else
      (some 0)))
theorem labels_value_walk {a0 : ByteArray} {I : Imm} {r : Int} (hG : Gl I) (hr : labels_value a0 = some r) (L : Own) :
    CallsTo Tryd.prog 54 #[.string a0] I L (fun v I' L' => v = .int .i64 r ∧ L = L') := by
  unfold labels_value at hr
  refine callsTo_body (N := 14) Tryd.func54 (by kernel_rfl) (by kernel_rfl) (by kernel_rfl) ?_
  refine gk_pick [0] (K' := [(0, .string a0)]) (by kernel_rfl) ?_
  refine gk_seq (by kernel_rfl) ?_
  refine gk_region (by kernel_rfl) ?_
  refine gl_pure 1 [0] (K' := [(0, .string a0)]) (by kernel_rfl) ?_
  refine gl_atE (by kernel_rfl) ?_
  refine ge_seq ?_
  refine gk_seq (by kernel_rfl) ?_
  refine gk_block (by kernel_rfl) ?_
  refine gk_seq (by kernel_rfl) ?_
  refine gk_region (by kernel_rfl) ?_
  refine gl_pure 3 [0, 3] (K' := [(0, .string a0), (3, .bool (a0.toList == (⟨#[]⟩ : ByteArray).toList))]) (by kernel_rfl) ?_
  refine gl_atE (by kernel_rfl) ?_
  refine ge_seq ?_
  refine gk_cond (b := (a0.toList == (⟨#[]⟩ : ByteArray).toList)) (by kernel_rfl) (by kernel_rfl) (fun hc1 => ?_) (fun hc1 => ?_)
  · have hr := cond_t hc1 hr
    refine gk_seq (by kernel_rfl) ?_
    refine gk_region (by kernel_rfl) ?_
    refine gl_pure 1 [2] (K' := [(2, .int .i64 41)]) (by kernel_rfl) ?_
    refine gl_atE (by kernel_rfl) ?_
    refine ge_seq ?_
    refine gk_ret (by kernel_rfl) ?_
    refine ge_block_ret ?_
    refine ge_seq_ret ?_
    obtain rfl := some_inj hr
    exact ge_result trivial (ResOk.tmp (by kernel_rfl) ResOk.nil) (Imm.refl _) ⟨rfl, rfl⟩
  · have hr := cond_f hc1 hr
    refine gk_seq (by kernel_rfl) ?_
    refine gk_region (by kernel_rfl) ?_
    refine gl_pure 4 [0, 6] (K' := [(0, .string a0), (6, .bool (decide ((a0.size : Int) > 256)))]) (by kernel_rfl) ?_
    refine gl_atE (by kernel_rfl) ?_
    refine ge_seq ?_
    refine gk_cond (b := (decide ((a0.size : Int) > 256))) (by kernel_rfl) (by kernel_rfl) (fun hc2 => ?_) (fun hc2 => ?_)
    · have hr := cond_t hc2 hr
      refine gk_seq (by kernel_rfl) ?_
      refine gk_region (by kernel_rfl) ?_
      refine gl_pure 1 [2] (K' := [(2, .int .i64 4)]) (by kernel_rfl) ?_
      refine gl_atE (by kernel_rfl) ?_
      refine ge_seq ?_
      refine gk_ret (by kernel_rfl) ?_
      refine ge_block_ret ?_
      refine ge_seq_ret ?_
      obtain rfl := some_inj hr
      exact ge_result trivial (ResOk.tmp (by kernel_rfl) ResOk.nil) (Imm.refl _) ⟨rfl, rfl⟩
    · have hr := cond_f hc2 hr
      refine gk_seq (by kernel_rfl) ?_
      refine gk_region (by kernel_rfl) ?_
      refine gl_pure 1 [11] (K' := [(11, .string a0)]) (by kernel_rfl) ?_
      obtain ⟨y3, hx4, hr⟩ := bind_some hr
      refine gl_callQ (by kernel_rfl) (utf8_ValidString_walk (r := y3) hG hx4 _) ?_
      refine gl_pure 2 [10] (K' := [(10, .bool (!y3))]) (by kernel_rfl) ?_
      refine gl_atE (by kernel_rfl) ?_
      refine ge_seq ?_
      refine gk_cond (b := (!y3)) (by kernel_rfl) (by kernel_rfl) (fun hc5 => ?_) (fun hc5 => ?_)
      · have hr := cond_t hc5 hr
        refine gk_seq (by kernel_rfl) ?_
        refine gk_region (by kernel_rfl) ?_
        refine gl_pure 1 [2] (K' := [(2, .int .i64 12)]) (by kernel_rfl) ?_
        refine gl_atE (by kernel_rfl) ?_
        refine ge_seq ?_
        refine gk_ret (by kernel_rfl) ?_
        refine ge_block_ret ?_
        refine ge_seq_ret ?_
        obtain rfl := some_inj hr
        exact ge_result trivial (ResOk.tmp (by kernel_rfl) ResOk.nil) (Imm.refl _) ⟨rfl, rfl⟩
      · have hr := cond_f hc5 hr
        refine gk_skip (by kernel_rfl) ?_
        refine ge_block_normal ?_
        refine ge_seq ?_
        refine gk_seq (by kernel_rfl) ?_
        refine gk_region (by kernel_rfl) ?_
        refine gl_pure 1 [2] (K' := [(2, .int .i64 0)]) (by kernel_rfl) ?_
        refine gl_atE (by kernel_rfl) ?_
        refine ge_seq ?_
        refine gk_ret (by kernel_rfl) ?_
        obtain rfl := some_inj hr
        exact ge_result trivial (ResOk.tmp (by kernel_rfl) ResOk.nil) (Imm.refl _) ⟨rfl, rfl⟩
/-! 38 labels_Right  -/
noncomputable def labels_Right_l18 (a0 : List S50) : Int → Option ((Int) ⊕ ((Unit) ⊕ (Int × Int))) := fun s8 =>
  bif (decide (s8 < (a0.length : Int))) then
  (Option.bind (ix a0 s8) fun (x21 : S50) =>
    Option.bind (labels_Name x21.f0) fun (y30 : Bool) =>
    bif (!y30) then
    (some (Sum.inr (Sum.inr (40, s8))))
    else
    (Option.bind (labels_value x21.f1) fun (y33 : Int) =>
      bif (y33 != 0) then
      (some (Sum.inr (Sum.inr (y33, s8))))
      else
      (Option.bind (bif (decide (s8 > 0)) then
          (Option.bind (ix a0 (IntKind.wrap .i64 (s8 - 1))) fun (x42 : S50) =>
            some ((Op.bytesLess x21.f0.toList x42.f0.toList) || (x21.f0.toList == x42.f0.toList)))
          else
          (some false)) fun (j36 : Bool) =>
        bif j36 then
        (some (Sum.inr (Sum.inr (3, s8))))
        else
        (some (Sum.inl (IntKind.wrap .i64 (s8 + 1)))))))
  else
  (some (Sum.inr (Sum.inl ())))
noncomputable def labels_Right (a0 : List S50) : Option (Int × Int) :=
  bif (decide ((a0.length : Int) > 16)) then
  (some (8, 0))
  else
  (Option.bind (loopO (labels_Right_l18 a0) 0) fun (r6 : (Unit) ⊕ (Int × Int)) =>
    match r6 with
    | Sum.inl r14 => some (0, 0)
    | Sum.inr v51 => some v51)
theorem labels_Right_walk {a0 : List S50} {A0_0 : Option Addr} {n0_0 : Nat} {I : Imm} {r : Int × Int} (hG : Gl I)  (hf0_0 : RepS kS50 I A0_0 n0_0 a0) (hr : labels_Right a0 = some r) (L : Own) :
    CallsTo Tryd.prog 38 #[.slice A0_0 a0.length n0_0] I L (fun v I' L' => v = .tuple #[.int .i64 r.1, .int .i64 r.2] ∧ L = L') := by
  unfold labels_Right at hr
  refine callsTo_body (N := 44) Tryd.func38 (by kernel_rfl) (by kernel_rfl) (by kernel_rfl) ?_
  refine gk_pick [0] (K' := [(0, .slice A0_0 a0.length n0_0)]) (by kernel_rfl) ?_
  refine gk_seq (by kernel_rfl) ?_
  refine gk_region (by kernel_rfl) ?_
  refine gl_pure 2 [0] (K' := [(0, .slice A0_0 a0.length n0_0)]) (by kernel_rfl) ?_
  refine gl_atE (by kernel_rfl) ?_
  refine ge_seq ?_
  refine gk_seq (by kernel_rfl) ?_
  refine gk_seq (by kernel_rfl) ?_
  refine gk_region (by kernel_rfl) ?_
  refine gl_pure 3 [0, 9] (K' := [(0, .slice A0_0 a0.length n0_0), (9, .bool (decide ((a0.length : Int) > 16)))]) (by kernel_rfl) ?_
  refine gl_atE (by kernel_rfl) ?_
  refine ge_seq ?_
  refine gk_cond (b := (decide ((a0.length : Int) > 16))) (by kernel_rfl) (by kernel_rfl) (fun hc1 => ?_) (fun hc1 => ?_)
  · have hr := cond_t hc1 hr
    refine gk_seq (by kernel_rfl) ?_
    refine gk_region (by kernel_rfl) ?_
    refine gl_pure 2 [2, 3] (K' := [(2, .int .i64 8), (3, .int .i64 0)]) (by kernel_rfl) ?_
    refine gl_atE (by kernel_rfl) ?_
    refine ge_seq ?_
    refine gk_ret (by kernel_rfl) ?_
    refine ge_seq_ret ?_
    obtain rfl := some_inj hr
    exact ge_result trivial (ResOk.tmp (by kernel_rfl) (ResOk.tmp (by kernel_rfl) ResOk.nil)) (Imm.refl _) ⟨rfl, rfl⟩
  · have hr := cond_f hc1 hr
    refine gk_skip (by kernel_rfl) ?_
    refine ge_seq ?_
    refine gk_seq (by kernel_rfl) ?_
    refine gk_seq (by kernel_rfl) ?_
    refine gk_region (by kernel_rfl) ?_
    refine gl_pure 3 [0, 10, 11, 12] (K' := [(0, .slice A0_0 a0.length n0_0), (10, .slice A0_0 a0.length n0_0), (11, .int .i64 (a0.length : Int)), (12, .int .i64 0)]) (by kernel_rfl) ?_
    refine gl_atE (by kernel_rfl) ?_
    refine ge_seq ?_
    obtain ⟨r6, hl7, hr⟩ := bind_some hr
    refine gk_join (fun t I' L' => ∃ r14, r6 = Sum.inl r14 ∧ I ≤ I' ∧ L = L' ∧ Knows 44 [] t) ?_ ?_
    · refine gk_block (by kernel_rfl) ?_
      refine gk_pick [0, 10, 11, 12] (K' := [(0, .slice A0_0 a0.length n0_0), (10, .slice A0_0 a0.length n0_0), (11, .int .i64 (a0.length : Int)), (12, .int .i64 0)]) (by kernel_rfl) ?_
      intro t hK
      refine gc_loop (labels_Right_l18 a0) (fun s8 t I' L' => I ≤ I' ∧ L = L' ∧ Knows 44 [(0, .slice A0_0 a0.length n0_0), (10, .slice A0_0 a0.length n0_0), (11, .int .i64 (a0.length : Int)), (12, .int .i64 s8)] t) (by kernel_rfl) ?_ hl7 ⟨(Imm.refl _), rfl, hK⟩
      rintro s8 o9 t I13 L' hb10 ⟨hI11, rfl, hK12⟩
      unfold labels_Right_l18 at hb10
      refine gk_at hK12 ?_
      refine gk_seq (by kernel_rfl) ?_
      refine gk_region (by kernel_rfl) ?_
      refine gl_pure 1 [0, 10, 11, 12, 13] (K' := [(0, .slice A0_0 a0.length n0_0), (10, .slice A0_0 a0.length n0_0), (11, .int .i64 (a0.length : Int)), (12, .int .i64 s8), (13, .bool (decide (s8 < (a0.length : Int))))]) (by kernel_rfl) ?_
      refine gl_atE (by kernel_rfl) ?_
      refine ge_seq ?_
      refine gk_seq (by kernel_rfl) ?_
      refine gk_cond (b := (decide (s8 < (a0.length : Int)))) (by kernel_rfl) (by kernel_rfl) (fun hc20 => ?_) (fun hc20 => ?_)
      · have hb10 := cond_t hc20 hb10
        refine gk_skip (by kernel_rfl) ?_
        refine ge_seq ?_
        refine gk_seq (by kernel_rfl) ?_
        refine gk_block (by kernel_rfl) ?_
        refine gk_seq (by kernel_rfl) ?_
        refine gk_region (by kernel_rfl) ?_
        refine gl_pure 1 [0, 10, 11, 12, 14] (K' := [(0, .slice A0_0 a0.length n0_0), (10, .slice A0_0 a0.length n0_0), (11, .int .i64 (a0.length : Int)), (12, .int .i64 s8), (14, .int .i64 s8)]) (by kernel_rfl) ?_
        obtain ⟨x21, hx22, hb10⟩ := bind_some hb10
        obtain ⟨p23, cs24, hR25, hA26, ha27⟩ := RepS.ixAt hx22 (hf0_0.mono hI11)
        have hi28 := ix_some hx22
        obtain rfl := kS50_open hR25
        refine gl_indexAddrF (c := n0_0) (T' := 39) (e := 51) (xs := (.tmp 10)) (xi := (.tmp 12)) (kd := .i64) ha27 hi28.1 hi28.2.1 (by kernel_rfl) (by kernel_rfl) (by kernel_rfl) (by kernel_rfl) (by kernel_rfl) ?_
        refine gl_loadA (T' := 51) (xp := (.tmp 15)) (p := p23) (cs := [.string x21.f0, .string x21.f1]) (by kernel_rfl) (by kernel_rfl) (by kernel_rfl) (by kernel_rfl) (hA26.take 2) ?_
        refine gl_alloc (T' := 51) (cs := #[.string (⟨#[]⟩ : ByteArray), .string (⟨#[]⟩ : ByteArray)]) (by kernel_rfl) (by kernel_rfl) (by kernel_rfl) (fun g29 => ?_)
        refine gl_pure 1 [0, 4, 5, 10, 11, 12, 16] (K' := [(0, .slice A0_0 a0.length n0_0), (4, .int .i64 s8), (5, .pointer (some ⟨g29, 0, none⟩)), (10, .slice A0_0 a0.length n0_0), (11, .int .i64 (a0.length : Int)), (12, .int .i64 s8), (16, .agg #[.string x21.f0, .string x21.f1])]) (by kernel_rfl) ?_
        refine gl_storeB (T' := 51) (xp := (.tmp 5)) (xv := (.tmp 16)) (v := .agg #[.string x21.f0, .string x21.f1]) (g := g29) (off := 0) (cs := #[.string (⟨#[]⟩ : ByteArray), .string (⟨#[]⟩ : ByteArray)]) (cs' := #[.string x21.f0, .string x21.f1]) (by kernel_rfl) (by kernel_rfl) (by kernel_rfl) (by kernel_rfl) (by kernel_rfl) (Upd.set _ _ _ _) ?_ (by kernel_rfl)
        refine gl_atE (by kernel_rfl) ?_
        refine ge_seq ?_
        refine gk_seq (by kernel_rfl) ?_
        refine gk_seq (by kernel_rfl) ?_
        refine gk_region (by kernel_rfl) ?_
        refine gl_pure 1 [0, 4, 5, 10, 11, 12, 17] (K' := [(0, .slice A0_0 a0.length n0_0), (4, .int .i64 s8), (5, .pointer (some ⟨g29, 0, none⟩)), (10, .slice A0_0 a0.length n0_0), (11, .int .i64 (a0.length : Int)), (12, .int .i64 s8), (17, .pointer (some ⟨g29, 0, none⟩))]) (by kernel_rfl) ?_
        refine gl_loadB (T' := 9) (xp := (.tmp 17)) (v := .string x21.f0) (g := g29) (off := 0) (cs := #[.string x21.f0, .string x21.f1]) (e := 51) (fz := (0, 0)) (by kernel_rfl) (by kernel_rfl) (by kernel_rfl) List.mem_cons_self (by kernel_rfl) ?_
        obtain ⟨y30, hx31, hb10⟩ := bind_some hb10
        refine gl_callQ (by kernel_rfl) (labels_Name_walk (r := y30)  hx31 _) ?_
        refine gl_pure 1 [0, 4, 5, 10, 11, 12, 20] (K' := [(0, .slice A0_0 a0.length n0_0), (4, .int .i64 s8), (5, .pointer (some ⟨g29, 0, none⟩)), (10, .slice A0_0 a0.length n0_0), (11, .int .i64 (a0.length : Int)), (12, .int .i64 s8), (20, .bool (!y30))]) (by kernel_rfl) ?_
        refine gl_atE (by kernel_rfl) ?_
        refine ge_seq ?_
        refine gk_cond (b := (!y30)) (by kernel_rfl) (by kernel_rfl) (fun hc32 => ?_) (fun hc32 => ?_)
        · have hb10 := cond_t hc32 hb10
          refine gk_seq (by kernel_rfl) ?_
          refine gk_region (by kernel_rfl) ?_
          refine gl_pure 3 [2, 3] (K' := [(2, .int .i64 40), (3, .int .i64 s8)]) (by kernel_rfl) ?_
          refine gl_atE (by kernel_rfl) ?_
          refine ge_seq ?_
          refine gk_reord (D := L) (Reord.skip (Reord.refl _)) ?_
          refine gk_ret (by kernel_rfl) ?_
          refine ge_seq_ret ?_
          refine ge_block_ret ?_
          refine ge_seq_ret ?_
          obtain rfl := some_inj hb10
          refine ge_round_out (fun hrr => ?_) (by intro h; cases h)
          obtain rfl := hrr
          refine ge_block_ret ?_
          refine ge_seq_ret ?_
          refine ge_seq_ret ?_
          obtain rfl := some_inj hr
          exact ge_result trivial (ResOk.tmp (by kernel_rfl) (ResOk.tmp (by kernel_rfl) ResOk.nil)) hI11 ⟨rfl, rfl⟩
        · have hb10 := cond_f hc32 hb10
          refine gk_skip (by kernel_rfl) ?_
          refine ge_seq ?_
          refine gk_seq (by kernel_rfl) ?_
          refine gk_seq (by kernel_rfl) ?_
          refine gk_region (by kernel_rfl) ?_
          refine gl_pure 1 [0, 4, 5, 10, 11, 12, 22] (K' := [(0, .slice A0_0 a0.length n0_0), (4, .int .i64 s8), (5, .pointer (some ⟨g29, 0, none⟩)), (10, .slice A0_0 a0.length n0_0), (11, .int .i64 (a0.length : Int)), (12, .int .i64 s8), (22, .pointer (some ⟨g29, 1, none⟩))]) (by kernel_rfl) ?_
          refine gl_loadB (T' := 9) (xp := (.tmp 22)) (v := .string x21.f1) (g := g29) (off := 1) (cs := #[.string x21.f0, .string x21.f1]) (e := 51) (fz := (0, 0)) (by kernel_rfl) (by kernel_rfl) (by kernel_rfl) List.mem_cons_self (by kernel_rfl) ?_
          obtain ⟨y33, hx34, hb10⟩ := bind_some hb10
          refine gl_callQ (by kernel_rfl) (labels_value_walk (r := y33) (hG.mono hI11) hx34 _) ?_
          refine gl_pure 1 [0, 4, 5, 6, 10, 11, 12] (K' := [(0, .slice A0_0 a0.length n0_0), (4, .int .i64 s8), (5, .pointer (some ⟨g29, 0, none⟩)), (6, .int .i64 y33), (10, .slice A0_0 a0.length n0_0), (11, .int .i64 (a0.length : Int)), (12, .int .i64 s8)]) (by kernel_rfl) ?_
          refine gl_atE (by kernel_rfl) ?_
          refine ge_seq ?_
          refine gk_seq (by kernel_rfl) ?_
          refine gk_region (by kernel_rfl) ?_
          refine gl_pure 2 [0, 4, 5, 6, 10, 11, 12, 26] (K' := [(0, .slice A0_0 a0.length n0_0), (4, .int .i64 s8), (5, .pointer (some ⟨g29, 0, none⟩)), (6, .int .i64 y33), (10, .slice A0_0 a0.length n0_0), (11, .int .i64 (a0.length : Int)), (12, .int .i64 s8), (26, .bool (y33 != 0))]) (by kernel_rfl) ?_
          refine gl_atE (by kernel_rfl) ?_
          refine ge_seq ?_
          refine gk_cond (b := (y33 != 0)) (by kernel_rfl) (by kernel_rfl) (fun hc35 => ?_) (fun hc35 => ?_)
          · have hb10 := cond_t hc35 hb10
            refine gk_seq (by kernel_rfl) ?_
            refine gk_region (by kernel_rfl) ?_
            refine gl_pure 4 [2, 3] (K' := [(2, .int .i64 y33), (3, .int .i64 s8)]) (by kernel_rfl) ?_
            refine gl_atE (by kernel_rfl) ?_
            refine ge_seq ?_
            refine gk_reord (D := L) (Reord.skip (Reord.refl _)) ?_
            refine gk_ret (by kernel_rfl) ?_
            refine ge_seq_ret ?_
            refine ge_block_ret ?_
            refine ge_seq_ret ?_
            obtain rfl := some_inj hb10
            refine ge_round_out (fun hrr => ?_) (by intro h; cases h)
            obtain rfl := hrr
            refine ge_block_ret ?_
            refine ge_seq_ret ?_
            refine ge_seq_ret ?_
            obtain rfl := some_inj hr
            exact ge_result trivial (ResOk.tmp (by kernel_rfl) (ResOk.tmp (by kernel_rfl) ResOk.nil)) hI11 ⟨rfl, rfl⟩
          · have hb10 := cond_f hc35 hb10
            refine gk_skip (by kernel_rfl) ?_
            refine ge_seq ?_
            refine gk_seq (by kernel_rfl) ?_
            obtain ⟨j36, hj37, hb10⟩ := bind_some hb10
            refine gk_join (fun t I' L' => I13 ≤ I' ∧ L = L' ∧ Knows 44 [(0, .slice A0_0 a0.length n0_0), (4, .int .i64 s8), (10, .slice A0_0 a0.length n0_0), (11, .int .i64 (a0.length : Int)), (12, .int .i64 s8), (41, .bool j36)] t) ?_ ?_
            · refine gk_draw 13 [(0, true), (1, true), (2, true), (3, true), (4, true), (5, true), (6, true), (7, true), (8, true), (9, true), (10, true), (11, true), (12, true)] [(g29, .cells #[.string x21.f0, .string x21.f1] 51)] (List.forall_mem_cons.2 ⟨List.mem_cons_self, (fun p hp => by cases hp)⟩) (by kernel_rfl) (by kernel_rfl) (by kernel_rfl) ?_ (by kernel_rfl)
              refine gd_pure 3 [0, 4, 5, 10, 11, 12, 31] (K' := [(0, .slice A0_0 a0.length n0_0), (4, .int .i64 s8), (5, .pointer (some ⟨g29, 0, none⟩)), (10, .slice A0_0 a0.length n0_0), (11, .int .i64 (a0.length : Int)), (12, .int .i64 s8), (31, .bool (decide (s8 > 0)))]) (s' := [(3, true), (4, true), (5, true), (6, true), (7, true), (8, true), (9, true), (10, true), (11, true), (12, true)]) (CC.refl (List.forall_mem_cons.2 ⟨List.mem_cons_self, (fun p hp => by cases hp)⟩)) (by kernel_rfl) ?_
              refine gd_case 31 (b := (decide (s8 > 0))) (by kernel_rfl) (fun hc41 => ?_) (fun hc41 => ?_)
              · have hj37 := cond_t hc41 hj37
                refine gd_pure 1 [0, 4, 10, 11, 12, 31, 32] (K' := [(0, .slice A0_0 a0.length n0_0), (4, .int .i64 s8), (10, .slice A0_0 a0.length n0_0), (11, .int .i64 (a0.length : Int)), (12, .int .i64 s8), (31, .bool true), (32, .pointer (some ⟨g29, 0, none⟩))]) (s' := [(4, true), (5, true), (6, true), (7, true), (8, true), (9, true), (10, true), (11, true), (12, true)]) (CC.refl (List.forall_mem_cons.2 ⟨List.mem_cons_self, (fun p hp => by cases hp)⟩)) (by kernel_rfl) ?_
                refine gd_q (v := .string x21.f0) (by kernel_rfl) (by kernel_rfl) (CC.refl (List.forall_mem_cons.2 ⟨List.mem_cons_self, (fun p hp => by cases hp)⟩)) (fun I' L' T hC kk => gl_loadB (T' := 9) (xp := (.tmp 32)) (v := .string x21.f0) (g := g29) (off := 0) (cs := #[.string x21.f0, .string x21.f1]) (e := 51) (fz := (0, 0)) (by kernel_rfl) (by kernel_rfl) (by kernel_rfl) (hC.sub _ List.mem_cons_self) (by kernel_rfl) kk) ?_
                refine gd_pure 3 [0, 4, 10, 11, 12, 31, 33, 34, 36] (K' := [(0, .slice A0_0 a0.length n0_0), (4, .int .i64 s8), (10, .slice A0_0 a0.length n0_0), (11, .int .i64 (a0.length : Int)), (12, .int .i64 s8), (31, .bool true), (33, .string x21.f0), (34, .slice A0_0 a0.length n0_0), (36, .int .i64 (IntKind.wrap .i64 (s8 - 1)))]) (s' := [(8, true), (9, true), (10, true), (11, true), (12, true)]) (CC.refl (List.forall_mem_cons.2 ⟨List.mem_cons_self, (fun p hp => by cases hp)⟩)) (by kernel_rfl) ?_
                obtain ⟨x42, hx43, hj37⟩ := bind_some hj37
                obtain ⟨p44, cs45, hR46, hA47, ha48⟩ := RepS.ixAt hx43 (hf0_0.mono hI11)
                have hi49 := ix_some hx43
                obtain rfl := kS50_open hR46
                refine gd_q (v := .pointer (some p44)) (by kernel_rfl) (by kernel_rfl) (CC.refl (List.forall_mem_cons.2 ⟨List.mem_cons_self, (fun p hp => by cases hp)⟩)) (fun I' L' T hC kk => gl_indexAddrF (c := n0_0) (T' := 39) (e := 51) (xs := (.tmp 34)) (xi := (.tmp 36)) (kd := .i64) ha48 hi49.1 hi49.2.1 (by kernel_rfl) (by kernel_rfl) (by kernel_rfl) (by kernel_rfl) (by kernel_rfl) kk) ?_
                refine gd_pure 1 [0, 4, 10, 11, 12, 31, 33, 38] (K' := [(0, .slice A0_0 a0.length n0_0), (4, .int .i64 s8), (10, .slice A0_0 a0.length n0_0), (11, .int .i64 (a0.length : Int)), (12, .int .i64 s8), (31, .bool true), (33, .string x21.f0), (38, .pointer (some (p44.add 0)))]) (s' := [(10, true), (11, true), (12, true)]) (CC.refl (List.forall_mem_cons.2 ⟨List.mem_cons_self, (fun p hp => by cases hp)⟩)) (by kernel_rfl) ?_
                refine gd_q (v := .string x42.f0) (by kernel_rfl) (by kernel_rfl) (CC.refl (List.forall_mem_cons.2 ⟨List.mem_cons_self, (fun p hp => by cases hp)⟩)) (fun I' L' T hC kk => gl_load (T' := 9) (xp := (.tmp 38)) (p := (p44.add 0)) (c := .string x42.f0) (n := 1) (by kernel_rfl) (by kernel_rfl) (by kernel_rfl) (by kernel_rfl) ((hA47.drop 0).mono hC.le) kk) ?_
                refine gd_pure 2 [0, 4, 10, 11, 12, 41] (K' := [(0, .slice A0_0 a0.length n0_0), (4, .int .i64 s8), (10, .slice A0_0 a0.length n0_0), (11, .int .i64 (a0.length : Int)), (12, .int .i64 s8), (41, .bool ((Op.bytesLess x21.f0.toList x42.f0.toList) || (x21.f0.toList == x42.f0.toList)))]) (s' := []) (CC.refl (List.forall_mem_cons.2 ⟨List.mem_cons_self, (fun p hp => by cases hp)⟩)) (by kernel_rfl) ?_
                refine gd_done ?_
                refine gl_reord (D := L) (Reord.skip (Reord.refl _)) ?_
                refine gl_atE (by kernel_rfl) ?_
                obtain rfl := some_inj hj37
                exact ge_mid fun t ht => ⟨(Imm.refl _), rfl, ht.pick (l := [0, 4, 10, 11, 12, 41]) (by kernel_rfl)⟩
              · have hj37 := cond_f hc41 hj37
                refine gd_pure 10 [0, 4, 10, 11, 12, 41] (K' := [(0, .slice A0_0 a0.length n0_0), (4, .int .i64 s8), (10, .slice A0_0 a0.length n0_0), (11, .int .i64 (a0.length : Int)), (12, .int .i64 s8), (41, .bool false)]) (s' := []) (CC.refl (List.forall_mem_cons.2 ⟨List.mem_cons_self, (fun p hp => by cases hp)⟩)) (by kernel_rfl) ?_
                refine gd_done ?_
                refine gl_reord (D := L) (Reord.skip (Reord.refl _)) ?_
                refine gl_atE (by kernel_rfl) ?_
                obtain rfl := some_inj hj37
                exact ge_mid fun t ht => ⟨(Imm.refl _), rfl, ht.pick (l := [0, 4, 10, 11, 12, 41]) (by kernel_rfl)⟩
            · rintro t I40 L' ⟨hI38, rfl, hK39⟩
              refine ge_at hK39 ?_
              refine ge_seq ?_
              refine gk_cond (b := j36) (by kernel_rfl) (by kernel_rfl) (fun hc50 => ?_) (fun hc50 => ?_)
              · have hb10 := cond_t hc50 hb10
                refine gk_seq (by kernel_rfl) ?_
                refine gk_region (by kernel_rfl) ?_
                refine gl_pure 3 [2, 3] (K' := [(2, .int .i64 3), (3, .int .i64 s8)]) (by kernel_rfl) ?_
                refine gl_atE (by kernel_rfl) ?_
                refine ge_seq ?_
                refine gk_ret (by kernel_rfl) ?_
                refine ge_block_ret ?_
                refine ge_seq_ret ?_
                obtain rfl := some_inj hb10
                refine ge_round_out (fun hrr => ?_) (by intro h; cases h)
                obtain rfl := hrr
                refine ge_block_ret ?_
                refine ge_seq_ret ?_
                refine ge_seq_ret ?_
                obtain rfl := some_inj hr
                exact ge_result trivial (ResOk.tmp (by kernel_rfl) (ResOk.tmp (by kernel_rfl) ResOk.nil)) (Imm.trans hI11 hI38) ⟨rfl, rfl⟩
              · have hb10 := cond_f hc50 hb10
                refine gk_skip (by kernel_rfl) ?_
                refine ge_block_normal ?_
                refine ge_seq ?_
                refine gk_region (by kernel_rfl) ?_
                refine gl_pure 2 [0, 10, 11, 12] (K' := [(0, .slice A0_0 a0.length n0_0), (10, .slice A0_0 a0.length n0_0), (11, .int .i64 (a0.length : Int)), (12, .int .i64 (IntKind.wrap .i64 (s8 + 1)))]) (by kernel_rfl) ?_
                refine gl_atE (by kernel_rfl) ?_
                obtain rfl := some_inj hb10
                exact ge_round fun t ht => ⟨(Imm.trans hI11 hI38), rfl, ht.pick (l := [0, 10, 11, 12]) (by kernel_rfl)⟩
      · have hb10 := cond_f hc20 hb10
        refine gk_exit (by kernel_rfl) ?_
        refine ge_seq_exit ?_
        obtain rfl := some_inj hb10
        refine ge_round_out (fun hrr => ?_) (by intro h; cases h)
        obtain rfl := hrr
        refine ge_block_hit (by kernel_rfl) ?_
        exact ge_mid fun t ht => ⟨_, rfl, hI11, rfl, ht.pick (l := []) (by kernel_rfl)⟩
    · rintro t I17 L' ⟨r14, rfl, hI15, rfl, hK16⟩
      refine ge_at hK16 ?_
      refine ge_seq ?_
      refine gk_seq (by kernel_rfl) ?_
      refine gk_region (by kernel_rfl) ?_
      refine gl_pure 2 [2, 3] (K' := [(2, .int .i64 0), (3, .int .i64 0)]) (by kernel_rfl) ?_
      refine gl_atE (by kernel_rfl) ?_
      refine ge_seq ?_
      refine gk_ret (by kernel_rfl) ?_
      obtain rfl := some_inj hr
      exact ge_result trivial (ResOk.tmp (by kernel_rfl) (ResOk.tmp (by kernel_rfl) ResOk.nil)) hI15 ⟨rfl, rfl⟩
/-! 37 nflog_right_1  -/
noncomputable def nflog_right_1 (a0 : List S50) : Option Bool :=
  Option.bind (labels_Right a0) fun (y1 : Int × Int) =>
  some (y1.1 != 0)
theorem nflog_right_1_walk {a0 : List S50} {A0_0 : Option Addr} {n0_0 : Nat} {I : Imm} {r : Bool} (hG : Gl I)  (hf0_0 : RepS kS50 I A0_0 n0_0 a0) (hr : nflog_right_1 a0 = some r) (L : Own) :
    CallsTo Tryd.prog 37 #[.slice A0_0 a0.length n0_0] I L (fun v I' L' => v = .bool r ∧ L = L') := by
  unfold nflog_right_1 at hr
  refine callsTo_body (N := 12) Tryd.func37 (by kernel_rfl) (by kernel_rfl) (by kernel_rfl) ?_
  refine gk_pick [0] (K' := [(0, .slice A0_0 a0.length n0_0)]) (by kernel_rfl) ?_
  refine gk_seq (by kernel_rfl) ?_
  refine gk_region (by kernel_rfl) ?_
  refine gl_pure 1 [0] (K' := [(0, .slice A0_0 a0.length n0_0)]) (by kernel_rfl) ?_
  refine gl_atE (by kernel_rfl) ?_
  refine ge_seq ?_
  refine gk_seq (by kernel_rfl) ?_
  refine gk_region (by kernel_rfl) ?_
  refine gl_pure 1 [6] (K' := [(6, .slice A0_0 a0.length n0_0)]) (by kernel_rfl) ?_
  obtain ⟨y1, hx2, hr⟩ := bind_some hr
  refine gl_callQ (by kernel_rfl) (labels_Right_walk (r := y1) hG hf0_0 hx2 _) ?_
  refine gl_pure 5 [3] (K' := [(3, .int .i64 y1.1)]) (by kernel_rfl) ?_
  refine gl_atE (by kernel_rfl) ?_
  refine ge_seq ?_
  refine gk_seq (by kernel_rfl) ?_
  refine gk_region (by kernel_rfl) ?_
  refine gl_pure 3 [2] (K' := [(2, .bool (y1.1 != 0))]) (by kernel_rfl) ?_
  refine gl_atE (by kernel_rfl) ?_
  refine ge_seq ?_
  refine gk_ret (by kernel_rfl) ?_
  obtain rfl := some_inj hr
  exact ge_result trivial (ResOk.tmp (by kernel_rfl) ResOk.nil) (Imm.refl _) ⟨rfl, rfl⟩
theorem nflog_right_1_impl46  {I : Imm} (hG : Gl I)  : Fn46 I (.func (.func 37) #[] #[]) nflog_right_1 := ⟨fun I' hI x0 r hr A0_0 c0_0 h0_0 L => ⟨37, #[], #[], rfl, ⟨_, Tryd.func37, by kernel_rfl, by kernel_rfl⟩, by
  simp only [List.append_toArray, List.nil_append, List.append_nil, Array.append_empty, Array.empty_append, List.push_append_toArray, List.cons_append]
  exact nflog_right_1_walk (hG.mono hI) h0_0  hr L⟩⟩
/-! 18 nflog_right  -/
noncomputable def nflog_right (a0 : List (List S50)) : Option Bool :=
  Option.bind (slices_ContainsFunc a0 nflog_right_1) fun (y1 : Bool) =>
  some (!y1)
theorem nflog_right_walk {a0 : List (List S50)} {A0_0 : Option Addr} {n0_0 : Nat} {I : Imm} {r : Bool} (hG : Gl I)  (hf0_0 : RepS (Kd.sl kS50) I A0_0 n0_0 a0) (hr : nflog_right a0 = some r) (L : Own) :
    CallsTo Tryd.prog 18 #[.slice A0_0 a0.length n0_0] I L (fun v I' L' => v = .bool r ∧ L = L') := by
  unfold nflog_right at hr
  refine callsTo_body (N := 6) Tryd.func18 (by kernel_rfl) (by kernel_rfl) (by kernel_rfl) ?_
  refine gk_pick [0] (K' := [(0, .slice A0_0 a0.length n0_0)]) (by kernel_rfl) ?_
  refine gk_seq (by kernel_rfl) ?_
  refine gk_region (by kernel_rfl) ?_
  refine gl_pure 1 [0] (K' := [(0, .slice A0_0 a0.length n0_0)]) (by kernel_rfl) ?_
  refine gl_atE (by kernel_rfl) ?_
  refine ge_seq ?_
  refine gk_seq (by kernel_rfl) ?_
  refine gk_region (by kernel_rfl) ?_
  refine gl_pure 1 [3] (K' := [(3, .slice A0_0 a0.length n0_0)]) (by kernel_rfl) ?_
  obtain ⟨y1, hx2, hr⟩ := bind_some hr
  refine gl_callQ (by kernel_rfl) (slices_ContainsFunc_walk (r := y1) hf0_0 (nflog_right_1_impl46 hG) hx2 _) ?_
  refine gl_pure 2 [2] (K' := [(2, .bool (!y1))]) (by kernel_rfl) ?_
  refine gl_atE (by kernel_rfl) ?_
  refine ge_seq ?_
  refine gk_ret (by kernel_rfl) ?_
  obtain rfl := some_inj hr
  exact ge_result trivial (ResOk.tmp (by kernel_rfl) ResOk.nil) (Imm.refl _) ⟨rfl, rfl⟩
/-! 21 nflog_text  -/
noncomputable def nflog_text (a0 : ByteArray) (a1 : Int) : Option Bool :=
  Option.bind (bif (decide ((a0.size : Int) ≥ 1)) then
    (bif (decide ((a0.size : Int) ≤ a1)) then
      (Option.bind (utf8_ValidString a0) fun (y8 : Bool) =>
        some y8)
      else
      (some false))
    else
    (some false)) fun (j1 : Bool) =>
  some j1
theorem nflog_text_walk {a0 : ByteArray} {a1 : Int} {I : Imm} {r : Bool} (hG : Gl I) (hr : nflog_text a0 a1 = some r) (L : Own) :
    CallsTo Tryd.prog 21 #[.string a0, .int .i64 a1] I L (fun v I' L' => v = .bool r ∧ L = L') := by
  unfold nflog_text at hr
  refine callsTo_body (N := 18) Tryd.func21 (by kernel_rfl) (by kernel_rfl) (by kernel_rfl) ?_
  refine gk_pick [0, 1] (K' := [(0, .string a0), (1, .int .i64 a1)]) (by kernel_rfl) ?_
  refine gk_seq (by kernel_rfl) ?_
  refine gk_region (by kernel_rfl) ?_
  refine gl_pure 1 [0, 1] (K' := [(0, .string a0), (1, .int .i64 a1)]) (by kernel_rfl) ?_
  refine gl_atE (by kernel_rfl) ?_
  refine ge_seq ?_
  refine gk_seq (by kernel_rfl) ?_
  obtain ⟨j1, hj2, hr⟩ := bind_some hr
  refine gk_join (fun t I' L' => I ≤ I' ∧ L = L' ∧ Knows 18 [(4, .bool j1)] t) ?_ ?_
  · refine gk_region (by kernel_rfl) ?_
    refine gl_pure 4 [0, 1, 8] (K' := [(0, .string a0), (1, .int .i64 a1), (8, .bool (decide ((a0.size : Int) ≥ 1)))]) (by kernel_rfl) ?_
    refine gl_case 8 (b := (decide ((a0.size : Int) ≥ 1))) (by kernel_rfl) (fun hc6 => ?_) (fun hc6 => ?_)
    · have hj2 := cond_t hc6 hj2
      refine gl_pure 6 [0, 14] (K' := [(0, .string a0), (14, .bool (decide ((a0.size : Int) ≤ a1)))]) (by kernel_rfl) ?_
      refine gl_case 14 (b := (decide ((a0.size : Int) ≤ a1))) (by kernel_rfl) (fun hc7 => ?_) (fun hc7 => ?_)
      · have hj2 := cond_t hc7 hj2
        refine gl_pure 1 [14, 15] (K' := [(14, .bool true), (15, .string a0)]) (by kernel_rfl) ?_
        obtain ⟨y8, hx9, hj2⟩ := bind_some hj2
        refine gl_callQ (by kernel_rfl) (utf8_ValidString_walk (r := y8) hG hx9 _) ?_
        refine gl_pure 2 [4] (K' := [(4, .bool y8)]) (by kernel_rfl) ?_
        refine gl_atE (by kernel_rfl) ?_
        obtain rfl := some_inj hj2
        exact ge_mid fun t ht => ⟨(Imm.refl _), rfl, ht.pick (l := [4]) (by kernel_rfl)⟩
      · have hj2 := cond_f hc7 hj2
        refine gl_pure 4 [4] (K' := [(4, .bool false)]) (by kernel_rfl) ?_
        refine gl_atE (by kernel_rfl) ?_
        obtain rfl := some_inj hj2
        exact ge_mid fun t ht => ⟨(Imm.refl _), rfl, ht.pick (l := [4]) (by kernel_rfl)⟩
    · have hj2 := cond_f hc6 hj2
      refine gl_pure 10 [4] (K' := [(4, .bool false)]) (by kernel_rfl) ?_
      refine gl_atE (by kernel_rfl) ?_
      obtain rfl := some_inj hj2
      exact ge_mid fun t ht => ⟨(Imm.refl _), rfl, ht.pick (l := [4]) (by kernel_rfl)⟩
  · rintro t I5 L' ⟨hI3, rfl, hK4⟩
    refine ge_at hK4 ?_
    refine ge_seq ?_
    refine gk_ret (by kernel_rfl) ?_
    obtain rfl := some_inj hr
    exact ge_result trivial (ResOk.tmp (by kernel_rfl) ResOk.nil) hI3 ⟨rfl, rfl⟩
structure Fn60 (I : Imm) (fv : Value) (f : S50 → S50 → Option Int) : Prop where
  out : ∀ I', I ≤ I' → ∀ (x0 : S50) (x1 : S50) (r : Int), f x0 x1 = some r → ∀ L, CallsV Tryd.prog fv [.agg #[.string x0.f0, .string x0.f1], .agg #[.string x1.f0, .string x1.f1]] I' L (fun v I' L' => v = .int .i64 r ∧ L = L')
theorem Fn60.mono {I J : Imm} {fv : Value} {f : S50 → S50 → Option Int} (h : Fn60 I fv f) (hI : I ≤ J) : Fn60 J fv f := ⟨fun I' hI' => h.out I' (Imm.trans hI hI')⟩
/-! 42 slices_CompareFunc  -/
noncomputable def slices_CompareFunc_l17 (a0 : List S50) (a1 : List S50) (a2 : S50 → S50 → Option Int) : Int → Option ((Int) ⊕ ((Unit) ⊕ (Int))) := fun s7 =>
  bif (decide (s7 < (a0.length : Int))) then
  (Option.bind (ix a0 s7) fun (x20 : S50) =>
    bif (decide (s7 ≥ (a1.length : Int))) then
    (some (Sum.inr (Sum.inr 1)))
    else
    (Option.bind (ix a1 s7) fun (x30 : S50) =>
      Option.bind (a2 x20 x30) fun (y40 : Int) =>
      bif (y40 != 0) then
      (some (Sum.inr (Sum.inr y40)))
      else
      (some (Sum.inl (IntKind.wrap .i64 (s7 + 1))))))
  else
  (some (Sum.inr (Sum.inl ())))
noncomputable def slices_CompareFunc (a0 : List S50) (a1 : List S50) (a2 : S50 → S50 → Option Int) : Option Int :=
  Option.bind (loopO (slices_CompareFunc_l17 a0 a1 a2) 0) fun (r5 : (Unit) ⊕ (Int)) =>
  match r5 with
  | Sum.inl r13 => bif (decide ((a0.length : Int) < (a1.length : Int))) then
    (some (-1))
    else
    (some 0)
  | Sum.inr v43 => some v43
theorem slices_CompareFunc_walk {a0 : List S50} {A0_0 : Option Addr} {n0_0 : Nat} {a1 : List S50} {A1_0 : Option Addr} {n1_0 : Nat} {a2 : S50 → S50 → Option Int} {fv2 : Value} {I : Imm} {r : Int}  (hf0_0 : RepS kS50 I A0_0 n0_0 a0)  (hf1_0 : RepS kS50 I A1_0 n1_0 a1) (hf2 : Fn60 I fv2 a2) (hr : slices_CompareFunc a0 a1 a2 = some r) (L : Own) :
    CallsTo Tryd.prog 42 #[.slice A0_0 a0.length n0_0, .slice A1_0 a1.length n1_0, fv2] I L (fun v I' L' => v = .int .i64 r ∧ L = L') := by
  unfold slices_CompareFunc at hr
  refine callsTo_body (N := 39) Tryd.func42 (by kernel_rfl) (by kernel_rfl) (by kernel_rfl) ?_
  refine gk_pick [0, 1, 2] (K' := [(0, .slice A0_0 a0.length n0_0), (1, .slice A1_0 a1.length n1_0), (2, fv2)]) (by kernel_rfl) ?_
  refine gk_seq (by kernel_rfl) ?_
  refine gk_region (by kernel_rfl) ?_
  refine gl_pure 1 [0, 1, 2] (K' := [(0, .slice A0_0 a0.length n0_0), (1, .slice A1_0 a1.length n1_0), (2, fv2)]) (by kernel_rfl) ?_
  refine gl_atE (by kernel_rfl) ?_
  refine ge_seq ?_
  refine gk_seq (by kernel_rfl) ?_
  refine gk_seq (by kernel_rfl) ?_
  refine gk_region (by kernel_rfl) ?_
  refine gl_pure 3 [0, 1, 2, 11, 12, 13] (K' := [(0, .slice A0_0 a0.length n0_0), (1, .slice A1_0 a1.length n1_0), (2, fv2), (11, .slice A0_0 a0.length n0_0), (12, .int .i64 (a0.length : Int)), (13, .int .i64 0)]) (by kernel_rfl) ?_
  refine gl_atE (by kernel_rfl) ?_
  refine ge_seq ?_
  obtain ⟨r5, hl6, hr⟩ := bind_some hr
  refine gk_join (fun t I' L' => ∃ r13, r5 = Sum.inl r13 ∧ I ≤ I' ∧ L = L' ∧ Knows 39 [(0, .slice A0_0 a0.length n0_0), (1, .slice A1_0 a1.length n1_0)] t) ?_ ?_
  · refine gk_block (by kernel_rfl) ?_
    refine gk_pick [0, 1, 2, 11, 12, 13] (K' := [(0, .slice A0_0 a0.length n0_0), (1, .slice A1_0 a1.length n1_0), (2, fv2), (11, .slice A0_0 a0.length n0_0), (12, .int .i64 (a0.length : Int)), (13, .int .i64 0)]) (by kernel_rfl) ?_
    intro t hK
    refine gc_loop (slices_CompareFunc_l17 a0 a1 a2) (fun s7 t I' L' => I ≤ I' ∧ L = L' ∧ Knows 39 [(0, .slice A0_0 a0.length n0_0), (1, .slice A1_0 a1.length n1_0), (2, fv2), (11, .slice A0_0 a0.length n0_0), (12, .int .i64 (a0.length : Int)), (13, .int .i64 s7)] t) (by kernel_rfl) ?_ hl6 ⟨(Imm.refl _), rfl, hK⟩
    rintro s7 o8 t I12 L' hb9 ⟨hI10, rfl, hK11⟩
    unfold slices_CompareFunc_l17 at hb9
    refine gk_at hK11 ?_
    refine gk_seq (by kernel_rfl) ?_
    refine gk_region (by kernel_rfl) ?_
    refine gl_pure 1 [0, 1, 2, 11, 12, 13, 14] (K' := [(0, .slice A0_0 a0.length n0_0), (1, .slice A1_0 a1.length n1_0), (2, fv2), (11, .slice A0_0 a0.length n0_0), (12, .int .i64 (a0.length : Int)), (13, .int .i64 s7), (14, .bool (decide (s7 < (a0.length : Int))))]) (by kernel_rfl) ?_
    refine gl_atE (by kernel_rfl) ?_
    refine ge_seq ?_
    refine gk_seq (by kernel_rfl) ?_
    refine gk_cond (b := (decide (s7 < (a0.length : Int)))) (by kernel_rfl) (by kernel_rfl) (fun hc19 => ?_) (fun hc19 => ?_)
    · have hb9 := cond_t hc19 hb9
      refine gk_skip (by kernel_rfl) ?_
      refine ge_seq ?_
      refine gk_seq (by kernel_rfl) ?_
      refine gk_block (by kernel_rfl) ?_
      refine gk_seq (by kernel_rfl) ?_
      refine gk_region (by kernel_rfl) ?_
      refine gl_pure 1 [0, 1, 2, 11, 12, 13, 15] (K' := [(0, .slice A0_0 a0.length n0_0), (1, .slice A1_0 a1.length n1_0), (2, fv2), (11, .slice A0_0 a0.length n0_0), (12, .int .i64 (a0.length : Int)), (13, .int .i64 s7), (15, .int .i64 s7)]) (by kernel_rfl) ?_
      obtain ⟨x20, hx21, hb9⟩ := bind_some hb9
      obtain ⟨p22, cs23, hR24, hA25, ha26⟩ := RepS.ixAt hx21 (hf0_0.mono hI10)
      have hi27 := ix_some hx21
      obtain rfl := kS50_open hR24
      refine gl_indexAddrF (c := n0_0) (T' := 39) (e := 51) (xs := (.tmp 11)) (xi := (.tmp 13)) (kd := .i64) ha26 hi27.1 hi27.2.1 (by kernel_rfl) (by kernel_rfl) (by kernel_rfl) (by kernel_rfl) (by kernel_rfl) ?_
      refine gl_loadA (T' := 51) (xp := (.tmp 16)) (p := p22) (cs := [.string x20.f0, .string x20.f1]) (by kernel_rfl) (by kernel_rfl) (by kernel_rfl) (by kernel_rfl) (hA25.take 2) ?_
      refine gl_alloc (T' := 51) (cs := #[.string (⟨#[]⟩ : ByteArray), .string (⟨#[]⟩ : ByteArray)]) (by kernel_rfl) (by kernel_rfl) (by kernel_rfl) (fun g28 => ?_)
      refine gl_pure 1 [0, 1, 2, 7, 8, 11, 12, 13, 17] (K' := [(0, .slice A0_0 a0.length n0_0), (1, .slice A1_0 a1.length n1_0), (2, fv2), (7, .int .i64 s7), (8, .pointer (some ⟨g28, 0, none⟩)), (11, .slice A0_0 a0.length n0_0), (12, .int .i64 (a0.length : Int)), (13, .int .i64 s7), (17, .agg #[.string x20.f0, .string x20.f1])]) (by kernel_rfl) ?_
      refine gl_storeB (T' := 51) (xp := (.tmp 8)) (xv := (.tmp 17)) (v := .agg #[.string x20.f0, .string x20.f1]) (g := g28) (off := 0) (cs := #[.string (⟨#[]⟩ : ByteArray), .string (⟨#[]⟩ : ByteArray)]) (cs' := #[.string x20.f0, .string x20.f1]) (by kernel_rfl) (by kernel_rfl) (by kernel_rfl) (by kernel_rfl) (by kernel_rfl) (Upd.set _ _ _ _) ?_ (by kernel_rfl)
      refine gl_atE (by kernel_rfl) ?_
      refine ge_seq ?_
      refine gk_seq (by kernel_rfl) ?_
      refine gk_seq (by kernel_rfl) ?_
      refine gk_region (by kernel_rfl) ?_
      refine gl_pure 4 [0, 1, 2, 7, 8, 11, 12, 13, 21] (K' := [(0, .slice A0_0 a0.length n0_0), (1, .slice A1_0 a1.length n1_0), (2, fv2), (7, .int .i64 s7), (8, .pointer (some ⟨g28, 0, none⟩)), (11, .slice A0_0 a0.length n0_0), (12, .int .i64 (a0.length : Int)), (13, .int .i64 s7), (21, .bool (decide (s7 ≥ (a1.length : Int))))]) (by kernel_rfl) ?_
      refine gl_atE (by kernel_rfl) ?_
      refine ge_seq ?_
      refine gk_cond (b := (decide (s7 ≥ (a1.length : Int)))) (by kernel_rfl) (by kernel_rfl) (fun hc29 => ?_) (fun hc29 => ?_)
      · have hb9 := cond_t hc29 hb9
        refine gk_seq (by kernel_rfl) ?_
        refine gk_region (by kernel_rfl) ?_
        refine gl_pure 1 [6] (K' := [(6, .int .i64 1)]) (by kernel_rfl) ?_
        refine gl_atE (by kernel_rfl) ?_
        refine ge_seq ?_
        refine gk_reord (D := L) (Reord.skip (Reord.refl _)) ?_
        refine gk_ret (by kernel_rfl) ?_
        refine ge_seq_ret ?_
        refine ge_block_ret ?_
        refine ge_seq_ret ?_
        obtain rfl := some_inj hb9
        refine ge_round_out (fun hrr => ?_) (by intro h; cases h)
        obtain rfl := hrr
        refine ge_block_ret ?_
        refine ge_seq_ret ?_
        refine ge_seq_ret ?_
        obtain rfl := some_inj hr
        exact ge_result trivial (ResOk.tmp (by kernel_rfl) ResOk.nil) hI10 ⟨rfl, rfl⟩
      · have hb9 := cond_f hc29 hb9
        refine gk_skip (by kernel_rfl) ?_
        refine ge_seq ?_
        refine gk_seq (by kernel_rfl) ?_
        refine gk_region (by kernel_rfl) ?_
        refine gl_pure 2 [0, 1, 2, 8, 11, 12, 13, 22, 23] (K' := [(0, .slice A0_0 a0.length n0_0), (1, .slice A1_0 a1.length n1_0), (2, fv2), (8, .pointer (some ⟨g28, 0, none⟩)), (11, .slice A0_0 a0.length n0_0), (12, .int .i64 (a0.length : Int)), (13, .int .i64 s7), (22, .slice A1_0 a1.length n1_0), (23, .int .i64 s7)]) (by kernel_rfl) ?_
        obtain ⟨x30, hx31, hb9⟩ := bind_some hb9
        obtain ⟨p32, cs33, hR34, hA35, ha36⟩ := RepS.ixAt hx31 (hf1_0.mono hI10)
        have hi37 := ix_some hx31
        obtain rfl := kS50_open hR34
        refine gl_indexAddrF (c := n1_0) (T' := 39) (e := 51) (xs := (.tmp 22)) (xi := (.tmp 23)) (kd := .i64) ha36 hi37.1 hi37.2.1 (by kernel_rfl) (by kernel_rfl) (by kernel_rfl) (by kernel_rfl) (by kernel_rfl) ?_
        refine gl_loadA (T' := 51) (xp := (.tmp 24)) (p := p32) (cs := [.string x30.f0, .string x30.f1]) (by kernel_rfl) (by kernel_rfl) (by kernel_rfl) (by kernel_rfl) (hA35.take 2) ?_
        refine gl_alloc (T' := 51) (cs := #[.string (⟨#[]⟩ : ByteArray), .string (⟨#[]⟩ : ByteArray)]) (by kernel_rfl) (by kernel_rfl) (by kernel_rfl) (fun g38 => ?_)
        refine gl_storeB (T' := 51) (xp := (.tmp 9)) (xv := (.tmp 25)) (v := .agg #[.string x30.f0, .string x30.f1]) (g := g38) (off := 0) (cs := #[.string (⟨#[]⟩ : ByteArray), .string (⟨#[]⟩ : ByteArray)]) (cs' := #[.string x30.f0, .string x30.f1]) (by kernel_rfl) (by kernel_rfl) (by kernel_rfl) (by kernel_rfl) (by kernel_rfl) (Upd.set _ _ _ _) ?_ (by kernel_rfl)
        refine gl_atE (by kernel_rfl) ?_
        refine ge_seq ?_
        refine gk_seq (by kernel_rfl) ?_
        refine gk_region (by kernel_rfl) ?_
        refine gl_pure 1 [0, 1, 2, 8, 9, 11, 12, 13, 26] (K' := [(0, .slice A0_0 a0.length n0_0), (1, .slice A1_0 a1.length n1_0), (2, fv2), (8, .pointer (some ⟨g28, 0, none⟩)), (9, .pointer (some ⟨g38, 0, none⟩)), (11, .slice A0_0 a0.length n0_0), (12, .int .i64 (a0.length : Int)), (13, .int .i64 s7), (26, fv2)]) (by kernel_rfl) ?_
        refine gl_loadB (T' := 51) (xp := (.tmp 8)) (v := .agg #[.string x20.f0, .string x20.f1]) (g := g28) (off := 0) (cs := #[.string x20.f0, .string x20.f1]) (e := 51) (fz := (0, 0)) (by kernel_rfl) (by kernel_rfl) (by kernel_rfl) (List.mem_cons_of_mem _ List.mem_cons_self) (by kernel_rfl) ?_
        refine gl_loadB (T' := 51) (xp := (.tmp 9)) (v := .agg #[.string x30.f0, .string x30.f1]) (g := g38) (off := 0) (cs := #[.string x30.f0, .string x30.f1]) (e := 51) (fz := (0, 0)) (by kernel_rfl) (by kernel_rfl) (by kernel_rfl) List.mem_cons_self (by kernel_rfl) ?_
        obtain ⟨y40, hx39, hb9⟩ := bind_some hb9
        refine gl_callvQ (by kernel_rfl) ((hf2.mono hI10).out _ (Imm.refl _) _ _ _ hx39   _) ?_
        refine gl_pure 1 [0, 1, 2, 10, 11, 12, 13] (K' := [(0, .slice A0_0 a0.length n0_0), (1, .slice A1_0 a1.length n1_0), (2, fv2), (10, .int .i64 y40), (11, .slice A0_0 a0.length n0_0), (12, .int .i64 (a0.length : Int)), (13, .int .i64 s7)]) (by kernel_rfl) ?_
        refine gl_atE (by kernel_rfl) ?_
        refine ge_seq ?_
        refine gk_seq (by kernel_rfl) ?_
        refine gk_region (by kernel_rfl) ?_
        refine gl_pure 2 [0, 1, 2, 10, 11, 12, 13, 31] (K' := [(0, .slice A0_0 a0.length n0_0), (1, .slice A1_0 a1.length n1_0), (2, fv2), (10, .int .i64 y40), (11, .slice A0_0 a0.length n0_0), (12, .int .i64 (a0.length : Int)), (13, .int .i64 s7), (31, .bool (y40 != 0))]) (by kernel_rfl) ?_
        refine gl_atE (by kernel_rfl) ?_
        refine ge_seq ?_
        refine gk_cond (b := (y40 != 0)) (by kernel_rfl) (by kernel_rfl) (fun hc41 => ?_) (fun hc41 => ?_)
        · have hb9 := cond_t hc41 hb9
          refine gk_seq (by kernel_rfl) ?_
          refine gk_region (by kernel_rfl) ?_
          refine gl_pure 2 [6] (K' := [(6, .int .i64 y40)]) (by kernel_rfl) ?_
          refine gl_atE (by kernel_rfl) ?_
          refine ge_seq ?_
          refine gk_reord (D := L) (Reord.skip (Reord.skip (Reord.refl _))) ?_
          refine gk_ret (by kernel_rfl) ?_
          refine ge_block_ret ?_
          refine ge_seq_ret ?_
          obtain rfl := some_inj hb9
          refine ge_round_out (fun hrr => ?_) (by intro h; cases h)
          obtain rfl := hrr
          refine ge_block_ret ?_
          refine ge_seq_ret ?_
          refine ge_seq_ret ?_
          obtain rfl := some_inj hr
          exact ge_result trivial (ResOk.tmp (by kernel_rfl) ResOk.nil) hI10 ⟨rfl, rfl⟩
        · have hb9 := cond_f hc41 hb9
          refine gk_skip (by kernel_rfl) ?_
          refine ge_block_normal ?_
          refine ge_seq ?_
          refine gk_region (by kernel_rfl) ?_
          refine gl_pure 2 [0, 1, 2, 11, 12, 13] (K' := [(0, .slice A0_0 a0.length n0_0), (1, .slice A1_0 a1.length n1_0), (2, fv2), (11, .slice A0_0 a0.length n0_0), (12, .int .i64 (a0.length : Int)), (13, .int .i64 (IntKind.wrap .i64 (s7 + 1)))]) (by kernel_rfl) ?_
          refine gl_reord (D := L) (Reord.skip (Reord.skip (Reord.refl _))) ?_
          refine gl_atE (by kernel_rfl) ?_
          obtain rfl := some_inj hb9
          exact ge_round fun t ht => ⟨hI10, rfl, ht.pick (l := [0, 1, 2, 11, 12, 13]) (by kernel_rfl)⟩
    · have hb9 := cond_f hc19 hb9
      refine gk_exit (by kernel_rfl) ?_
      refine ge_seq_exit ?_
      obtain rfl := some_inj hb9
      refine ge_round_out (fun hrr => ?_) (by intro h; cases h)
      obtain rfl := hrr
      refine ge_block_hit (by kernel_rfl) ?_
      exact ge_mid fun t ht => ⟨_, rfl, hI10, rfl, ht.pick (l := [0, 1]) (by kernel_rfl)⟩
  · rintro t I16 L' ⟨r13, rfl, hI14, rfl, hK15⟩
    refine ge_at hK15 ?_
    refine ge_seq ?_
    refine gk_seq (by kernel_rfl) ?_
    refine gk_seq (by kernel_rfl) ?_
    refine gk_region (by kernel_rfl) ?_
    refine gl_pure 5 [38] (K' := [(38, .bool (decide ((a0.length : Int) < (a1.length : Int))))]) (by kernel_rfl) ?_
    refine gl_atE (by kernel_rfl) ?_
    refine ge_seq ?_
    refine gk_cond (b := (decide ((a0.length : Int) < (a1.length : Int)))) (by kernel_rfl) (by kernel_rfl) (fun hc42 => ?_) (fun hc42 => ?_)
    · have hr := cond_t hc42 hr
      refine gk_seq (by kernel_rfl) ?_
      refine gk_region (by kernel_rfl) ?_
      refine gl_pure 1 [6] (K' := [(6, .int .i64 (-1))]) (by kernel_rfl) ?_
      refine gl_atE (by kernel_rfl) ?_
      refine ge_seq ?_
      refine gk_ret (by kernel_rfl) ?_
      refine ge_seq_ret ?_
      obtain rfl := some_inj hr
      exact ge_result trivial (ResOk.tmp (by kernel_rfl) ResOk.nil) hI14 ⟨rfl, rfl⟩
    · have hr := cond_f hc42 hr
      refine gk_skip (by kernel_rfl) ?_
      refine ge_seq ?_
      refine gk_seq (by kernel_rfl) ?_
      refine gk_region (by kernel_rfl) ?_
      refine gl_pure 1 [6] (K' := [(6, .int .i64 0)]) (by kernel_rfl) ?_
      refine gl_atE (by kernel_rfl) ?_
      refine ge_seq ?_
      refine gk_ret (by kernel_rfl) ?_
      obtain rfl := some_inj hr
      exact ge_result trivial (ResOk.tmp (by kernel_rfl) ResOk.nil) hI14 ⟨rfl, rfl⟩
/-! 57 bytealg_CompareString  -/
noncomputable def bytealg_CompareString (a0 : ByteArray) (a1 : ByteArray) : Int :=
  (Lib.compareBytes a0.data.toList a1.data.toList)
theorem bytealg_CompareString_walk {a0 : ByteArray} {a1 : ByteArray} {I : Imm} {r : Int}  (hr : bytealg_CompareString a0 a1 = r) (L : Own) :
    CallsTo Tryd.prog 57 #[.string a0, .string a1] I L (fun v I' L' => v = .int .i64 r ∧ L = L') := by
  replace hr : some (bytealg_CompareString a0 a1) = some r := congrArg some hr
  unfold bytealg_CompareString at hr
  refine callsTo_body (N := 8) Tryd.func57 (by kernel_rfl) (by kernel_rfl) (by kernel_rfl) ?_
  refine gk_pick [0, 1] (K' := [(0, .string a0), (1, .string a1)]) (by kernel_rfl) ?_
  refine gk_seq (by kernel_rfl) ?_
  refine gk_region (by kernel_rfl) ?_
  refine gl_pure 1 [0, 1] (K' := [(0, .string a0), (1, .string a1)]) (by kernel_rfl) ?_
  refine gl_atE (by kernel_rfl) ?_
  refine ge_seq ?_
  refine gk_seq (by kernel_rfl) ?_
  refine gk_region (by kernel_rfl) ?_
  refine gl_pure 2 [5, 6] (K' := [(5, .string a0), (6, .string a1)]) (by kernel_rfl) ?_
  refine gl_cmpstring (a := a0) (b := a1) Tryd.func72 (by kernel_rfl) (by kernel_rfl) (by kernel_rfl) (by kernel_rfl) (by kernel_rfl) (by kernel_rfl) ?_
  refine gl_pure 1 [4] (K' := [(4, .int .i64 (Lib.compareBytes a0.data.toList a1.data.toList))]) (by kernel_rfl) ?_
  refine gl_atE (by kernel_rfl) ?_
  refine ge_seq ?_
  refine gk_ret (by kernel_rfl) ?_
  obtain rfl := some_inj hr
  exact ge_result trivial (ResOk.tmp (by kernel_rfl) ResOk.nil) (Imm.refl _) ⟨rfl, rfl⟩
/-! 44 strings_Compare  -/
noncomputable def strings_Compare (a0 : ByteArray) (a1 : ByteArray) : Int :=
  (bytealg_CompareString a0 a1)
theorem strings_Compare_walk {a0 : ByteArray} {a1 : ByteArray} {I : Imm} {r : Int}  (hr : strings_Compare a0 a1 = r) (L : Own) :
    CallsTo Tryd.prog 44 #[.string a0, .string a1] I L (fun v I' L' => v = .int .i64 r ∧ L = L') := by
  replace hr : some (strings_Compare a0 a1) = some r := congrArg some hr
  unfold strings_Compare at hr
  refine callsTo_body (N := 8) Tryd.func44 (by kernel_rfl) (by kernel_rfl) (by kernel_rfl) ?_
  refine gk_pick [0, 1] (K' := [(0, .string a0), (1, .string a1)]) (by kernel_rfl) ?_
  refine gk_seq (by kernel_rfl) ?_
  refine gk_region (by kernel_rfl) ?_
  refine gl_pure 1 [0, 1] (K' := [(0, .string a0), (1, .string a1)]) (by kernel_rfl) ?_
  refine gl_atE (by kernel_rfl) ?_
  refine ge_seq ?_
  refine gk_seq (by kernel_rfl) ?_
  refine gk_region (by kernel_rfl) ?_
  refine gl_pure 2 [5, 6] (K' := [(5, .string a0), (6, .string a1)]) (by kernel_rfl) ?_
  refine gl_callQ (by kernel_rfl) (bytealg_CompareString_walk (r := (bytealg_CompareString a0 a1))  rfl _) ?_
  refine gl_pure 1 [4] (K' := [(4, .int .i64 (bytealg_CompareString a0 a1))]) (by kernel_rfl) ?_
  refine gl_atE (by kernel_rfl) ?_
  refine ge_seq ?_
  refine gk_ret (by kernel_rfl) ?_
  obtain rfl := some_inj hr
  exact ge_result trivial (ResOk.tmp (by kernel_rfl) ResOk.nil) (Imm.refl _) ⟨rfl, rfl⟩
/-! 43 labels_Compare_1  -/
noncomputable def labels_Compare_1 (a0 : S50) (a1 : S50) : Int :=
  bif ((strings_Compare a0.f0 a1.f0) != 0) then
  ((strings_Compare a0.f0 a1.f0))
  else
  ((strings_Compare a0.f1 a1.f1))
theorem labels_Compare_1_walk {a0 : S50} {a1 : S50} {I : Imm} {r : Int}  (hr : labels_Compare_1 a0 a1 = r) (L : Own) :
    CallsTo Tryd.prog 43 #[.agg #[.string a0.f0, .string a0.f1], .agg #[.string a1.f0, .string a1.f1]] I L (fun v I' L' => v = .int .i64 r ∧ L = L') := by
  replace hr : some (labels_Compare_1 a0 a1) = some r := congrArg some hr
  unfold labels_Compare_1 at hr
  refine callsTo_body (N := 19) Tryd.func43 (by kernel_rfl) (by kernel_rfl) (by kernel_rfl) ?_
  refine gk_pick [0, 1] (K' := [(0, .agg #[.string a0.f0, .string a0.f1]), (1, .agg #[.string a1.f0, .string a1.f1])]) (by kernel_rfl) ?_
  refine gk_seq (by kernel_rfl) ?_
  refine gk_region (by kernel_rfl) ?_
  refine gl_box (T' := 51) (x := (.tmp 0)) (v := .agg #[.string a0.f0, .string a0.f1]) (cs := #[.string a0.f0, .string a0.f1]) (by kernel_rfl) (by kernel_rfl) (by kernel_rfl) (by kernel_rfl) (fun g1 => ?_)
  refine gl_box (T' := 51) (x := (.tmp 1)) (v := .agg #[.string a1.f0, .string a1.f1]) (cs := #[.string a1.f0, .string a1.f1]) (by kernel_rfl) (by kernel_rfl) (by kernel_rfl) (by kernel_rfl) (fun g2 => ?_)
  refine gl_pure 1 [2, 3] (K' := [(2, .pointer (some ⟨g1, 0, none⟩)), (3, .pointer (some ⟨g2, 0, none⟩))]) (by kernel_rfl) ?_
  refine gl_atE (by kernel_rfl) ?_
  refine ge_seq ?_
  refine gk_seq (by kernel_rfl) ?_
  refine gk_seq (by kernel_rfl) ?_
  refine gk_region (by kernel_rfl) ?_
  refine gl_pure 1 [2, 3, 6] (K' := [(2, .pointer (some ⟨g1, 0, none⟩)), (3, .pointer (some ⟨g2, 0, none⟩)), (6, .pointer (some ⟨g1, 0, none⟩))]) (by kernel_rfl) ?_
  refine gl_loadB (T' := 9) (xp := (.tmp 6)) (v := .string a0.f0) (g := g1) (off := 0) (cs := #[.string a0.f0, .string a0.f1]) (e := 51) (fz := (0, 0)) (by kernel_rfl) (by kernel_rfl) (by kernel_rfl) (List.mem_cons_of_mem _ List.mem_cons_self) (by kernel_rfl) ?_
  refine gl_pure 1 [2, 3, 7, 8] (K' := [(2, .pointer (some ⟨g1, 0, none⟩)), (3, .pointer (some ⟨g2, 0, none⟩)), (7, .string a0.f0), (8, .pointer (some ⟨g2, 0, none⟩))]) (by kernel_rfl) ?_
  refine gl_loadB (T' := 9) (xp := (.tmp 8)) (v := .string a1.f0) (g := g2) (off := 0) (cs := #[.string a1.f0, .string a1.f1]) (e := 51) (fz := (0, 0)) (by kernel_rfl) (by kernel_rfl) (by kernel_rfl) List.mem_cons_self (by kernel_rfl) ?_
  refine gl_callQ (by kernel_rfl) (strings_Compare_walk (r := (strings_Compare a0.f0 a1.f0))  rfl _) ?_
  refine gl_pure 1 [2, 3, 5] (K' := [(2, .pointer (some ⟨g1, 0, none⟩)), (3, .pointer (some ⟨g2, 0, none⟩)), (5, .int .i64 (strings_Compare a0.f0 a1.f0))]) (by kernel_rfl) ?_
  refine gl_atE (by kernel_rfl) ?_
  refine ge_seq ?_
  refine gk_seq (by kernel_rfl) ?_
  refine gk_region (by kernel_rfl) ?_
  refine gl_pure 2 [2, 3, 5, 12] (K' := [(2, .pointer (some ⟨g1, 0, none⟩)), (3, .pointer (some ⟨g2, 0, none⟩)), (5, .int .i64 (strings_Compare a0.f0 a1.f0)), (12, .bool ((strings_Compare a0.f0 a1.f0) != 0))]) (by kernel_rfl) ?_
  refine gl_atE (by kernel_rfl) ?_
  refine ge_seq ?_
  refine gk_cond (b := ((strings_Compare a0.f0 a1.f0) != 0)) (by kernel_rfl) (by kernel_rfl) (fun hc3 => ?_) (fun hc3 => ?_)
  · have hr := scond_t hc3 hr
    refine gk_seq (by kernel_rfl) ?_
    refine gk_region (by kernel_rfl) ?_
    refine gl_pure 2 [4] (K' := [(4, .int .i64 (strings_Compare a0.f0 a1.f0))]) (by kernel_rfl) ?_
    refine gl_atE (by kernel_rfl) ?_
    refine ge_seq ?_
    refine gk_reord (D := L) (Reord.skip (Reord.skip (Reord.refl _))) ?_
    refine gk_ret (by kernel_rfl) ?_
    refine ge_seq_ret ?_
    obtain rfl := some_inj hr
    exact ge_result trivial (ResOk.tmp (by kernel_rfl) ResOk.nil) (Imm.refl _) ⟨rfl, rfl⟩
  · have hr := scond_f hc3 hr
    refine gk_skip (by kernel_rfl) ?_
    refine ge_seq ?_
    refine gk_seq (by kernel_rfl) ?_
    refine gk_region (by kernel_rfl) ?_
    refine gl_pure 1 [3, 14] (K' := [(3, .pointer (some ⟨g2, 0, none⟩)), (14, .pointer (some ⟨g1, 1, none⟩))]) (by kernel_rfl) ?_
    refine gl_loadB (T' := 9) (xp := (.tmp 14)) (v := .string a0.f1) (g := g1) (off := 1) (cs := #[.string a0.f0, .string a0.f1]) (e := 51) (fz := (0, 0)) (by kernel_rfl) (by kernel_rfl) (by kernel_rfl) (List.mem_cons_of_mem _ List.mem_cons_self) (by kernel_rfl) ?_
    refine gl_pure 1 [15, 16] (K' := [(15, .string a0.f1), (16, .pointer (some ⟨g2, 1, none⟩))]) (by kernel_rfl) ?_
    refine gl_loadB (T' := 9) (xp := (.tmp 16)) (v := .string a1.f1) (g := g2) (off := 1) (cs := #[.string a1.f0, .string a1.f1]) (e := 51) (fz := (0, 0)) (by kernel_rfl) (by kernel_rfl) (by kernel_rfl) List.mem_cons_self (by kernel_rfl) ?_
    refine gl_callQ (by kernel_rfl) (strings_Compare_walk (r := (strings_Compare a0.f1 a1.f1))  rfl _) ?_
    refine gl_pure 1 [4] (K' := [(4, .int .i64 (strings_Compare a0.f1 a1.f1))]) (by kernel_rfl) ?_
    refine gl_atE (by kernel_rfl) ?_
    refine ge_seq ?_
    refine gk_reord (D := L) (Reord.skip (Reord.skip (Reord.refl _))) ?_
    refine gk_ret (by kernel_rfl) ?_
    obtain rfl := some_inj hr
    exact ge_result trivial (ResOk.tmp (by kernel_rfl) ResOk.nil) (Imm.refl _) ⟨rfl, rfl⟩
theorem labels_Compare_1_impl60  {I : Imm}  : Fn60 I (.func (.func 43) #[] #[]) (fun x0 x1 => some (labels_Compare_1 x0 x1)) := ⟨fun I' hI x0 x1 r hr  L => ⟨43, #[], #[], rfl, ⟨_, Tryd.func43, by kernel_rfl, by kernel_rfl⟩, by
  simp only [List.append_toArray, List.nil_append, List.append_nil, Array.append_empty, Array.empty_append, List.push_append_toArray, List.cons_append]
  exact labels_Compare_1_walk    (some_inj hr) L⟩⟩
/-! 27 labels_Compare  -/
noncomputable def labels_Compare (a0 : List S50) (a1 : List S50) : Option Int :=
  Option.bind (slices_CompareFunc a0 a1 (fun x0 x1 => some (labels_Compare_1 x0 x1))) fun (y1 : Int) =>
  some y1
theorem labels_Compare_walk {a0 : List S50} {A0_0 : Option Addr} {n0_0 : Nat} {a1 : List S50} {A1_0 : Option Addr} {n1_0 : Nat} {I : Imm} {r : Int}  (hf0_0 : RepS kS50 I A0_0 n0_0 a0)  (hf1_0 : RepS kS50 I A1_0 n1_0 a1) (hr : labels_Compare a0 a1 = some r) (L : Own) :
    CallsTo Tryd.prog 27 #[.slice A0_0 a0.length n0_0, .slice A1_0 a1.length n1_0] I L (fun v I' L' => v = .int .i64 r ∧ L = L') := by
  unfold labels_Compare at hr
  refine callsTo_body (N := 8) Tryd.func27 (by kernel_rfl) (by kernel_rfl) (by kernel_rfl) ?_
  refine gk_pick [0, 1] (K' := [(0, .slice A0_0 a0.length n0_0), (1, .slice A1_0 a1.length n1_0)]) (by kernel_rfl) ?_
  refine gk_seq (by kernel_rfl) ?_
  refine gk_region (by kernel_rfl) ?_
  refine gl_pure 1 [0, 1] (K' := [(0, .slice A0_0 a0.length n0_0), (1, .slice A1_0 a1.length n1_0)]) (by kernel_rfl) ?_
  refine gl_atE (by kernel_rfl) ?_
  refine ge_seq ?_
  refine gk_seq (by kernel_rfl) ?_
  refine gk_region (by kernel_rfl) ?_
  refine gl_pure 2 [5, 6] (K' := [(5, .slice A0_0 a0.length n0_0), (6, .slice A1_0 a1.length n1_0)]) (by kernel_rfl) ?_
  obtain ⟨y1, hx2, hr⟩ := bind_some hr
  refine gl_callQ (by kernel_rfl) (slices_CompareFunc_walk (r := y1) hf0_0 hf1_0 labels_Compare_1_impl60 hx2 _) ?_
  refine gl_pure 1 [4] (K' := [(4, .int .i64 y1)]) (by kernel_rfl) ?_
  refine gl_atE (by kernel_rfl) ?_
  refine ge_seq ?_
  refine gk_ret (by kernel_rfl) ?_
  obtain rfl := some_inj hr
  exact ge_result trivial (ResOk.tmp (by kernel_rfl) ResOk.nil) (Imm.refl _) ⟨rfl, rfl⟩
/-! 22 nflog_rising  -/
noncomputable def nflog_rising_l17 (a0 : List (List S50)) : Int → Option ((Int) ⊕ ((Unit) ⊕ (Bool))) := fun s7 =>
  bif (decide (s7 < (a0.length : Int))) then
  (Option.bind (ix a0 s7) fun (x20 : List S50) =>
    Option.bind (labels_Right x20) fun (y31 : Int × Int) =>
    Option.bind (bif (y31.1 != 0) then
      (some true)
      else
      (bif (decide (s7 > 0)) then
        (Option.bind (ix a0 (IntKind.wrap .i64 (s7 - 1))) fun (x40 : List S50) =>
          Option.bind (labels_Compare x40 x20) fun (y51 : Int) =>
          some (decide (y51 ≥ 0)))
        else
        (some false))) fun (j33 : Bool) =>
    bif j33 then
    (some (Sum.inr (Sum.inr false)))
    else
    (some (Sum.inl (IntKind.wrap .i64 (s7 + 1)))))
  else
  (some (Sum.inr (Sum.inl ())))
noncomputable def nflog_rising (a0 : List (List S50)) : Option Bool :=
  Option.bind (loopO (nflog_rising_l17 a0) 0) fun (r5 : (Unit) ⊕ (Bool)) =>
  match r5 with
  | Sum.inl r13 => some true
  | Sum.inr v54 => some v54
theorem nflog_rising_walk {a0 : List (List S50)} {A0_0 : Option Addr} {n0_0 : Nat} {I : Imm} {r : Bool} (hG : Gl I)  (hf0_0 : RepS (Kd.sl kS50) I A0_0 n0_0 a0) (hr : nflog_rising a0 = some r) (L : Own) :
    CallsTo Tryd.prog 22 #[.slice A0_0 a0.length n0_0] I L (fun v I' L' => v = .bool r ∧ L = L') := by
  unfold nflog_rising at hr
  refine callsTo_body (N := 36) Tryd.func22 (by kernel_rfl) (by kernel_rfl) (by kernel_rfl) ?_
  refine gk_pick [0] (K' := [(0, .slice A0_0 a0.length n0_0)]) (by kernel_rfl) ?_
  refine gk_seq (by kernel_rfl) ?_
  refine gk_region (by kernel_rfl) ?_
  refine gl_pure 1 [0] (K' := [(0, .slice A0_0 a0.length n0_0)]) (by kernel_rfl) ?_
  refine gl_atE (by kernel_rfl) ?_
  refine ge_seq ?_
  refine gk_seq (by kernel_rfl) ?_
  refine gk_seq (by kernel_rfl) ?_
  refine gk_region (by kernel_rfl) ?_
  refine gl_pure 3 [0, 7, 8, 9] (K' := [(0, .slice A0_0 a0.length n0_0), (7, .slice A0_0 a0.length n0_0), (8, .int .i64 (a0.length : Int)), (9, .int .i64 0)]) (by kernel_rfl) ?_
  refine gl_atE (by kernel_rfl) ?_
  refine ge_seq ?_
  obtain ⟨r5, hl6, hr⟩ := bind_some hr
  refine gk_join (fun t I' L' => ∃ r13, r5 = Sum.inl r13 ∧ I ≤ I' ∧ L = L' ∧ Knows 36 [] t) ?_ ?_
  · refine gk_block (by kernel_rfl) ?_
    refine gk_pick [0, 7, 8, 9] (K' := [(0, .slice A0_0 a0.length n0_0), (7, .slice A0_0 a0.length n0_0), (8, .int .i64 (a0.length : Int)), (9, .int .i64 0)]) (by kernel_rfl) ?_
    intro t hK
    refine gc_loop (nflog_rising_l17 a0) (fun s7 t I' L' => I ≤ I' ∧ L = L' ∧ Knows 36 [(0, .slice A0_0 a0.length n0_0), (7, .slice A0_0 a0.length n0_0), (8, .int .i64 (a0.length : Int)), (9, .int .i64 s7)] t) (by kernel_rfl) ?_ hl6 ⟨(Imm.refl _), rfl, hK⟩
    rintro s7 o8 t I12 L' hb9 ⟨hI10, rfl, hK11⟩
    unfold nflog_rising_l17 at hb9
    refine gk_at hK11 ?_
    refine gk_seq (by kernel_rfl) ?_
    refine gk_region (by kernel_rfl) ?_
    refine gl_pure 1 [0, 7, 8, 9, 10] (K' := [(0, .slice A0_0 a0.length n0_0), (7, .slice A0_0 a0.length n0_0), (8, .int .i64 (a0.length : Int)), (9, .int .i64 s7), (10, .bool (decide (s7 < (a0.length : Int))))]) (by kernel_rfl) ?_
    refine gl_atE (by kernel_rfl) ?_
    refine ge_seq ?_
    refine gk_seq (by kernel_rfl) ?_
    refine gk_cond (b := (decide (s7 < (a0.length : Int)))) (by kernel_rfl) (by kernel_rfl) (fun hc19 => ?_) (fun hc19 => ?_)
    · have hb9 := cond_t hc19 hb9
      refine gk_skip (by kernel_rfl) ?_
      refine ge_seq ?_
      refine gk_seq (by kernel_rfl) ?_
      refine gk_block (by kernel_rfl) ?_
      refine gk_seq (by kernel_rfl) ?_
      refine gk_region (by kernel_rfl) ?_
      refine gl_pure 1 [0, 7, 8, 9, 11] (K' := [(0, .slice A0_0 a0.length n0_0), (7, .slice A0_0 a0.length n0_0), (8, .int .i64 (a0.length : Int)), (9, .int .i64 s7), (11, .int .i64 s7)]) (by kernel_rfl) ?_
      obtain ⟨x20, hx21, hb9⟩ := bind_some hb9
      obtain ⟨p22, cs23, hR24, hA25, ha26⟩ := RepS.ixAt hx21 (hf0_0.mono hI10)
      have hi27 := ix_some hx21
      obtain ⟨A28, n29, rfl, hf30⟩ := sl_open hR24
      refine gl_indexAddrF (c := n0_0) (T' := 22) (e := 39) (xs := (.tmp 7)) (xi := (.tmp 9)) (kd := .i64) ha26 hi27.1 hi27.2.1 (by kernel_rfl) (by kernel_rfl) (by kernel_rfl) (by kernel_rfl) (by kernel_rfl) ?_
      refine gl_load (T' := 39) (xp := (.tmp 12)) (p := p22) (c := .slice A28 x20.length n29) (n := 1) (by kernel_rfl) (by kernel_rfl) (by kernel_rfl) (by kernel_rfl) hA25 ?_
      refine gl_pure 2 [0, 3, 4, 7, 8, 9] (K' := [(0, .slice A0_0 a0.length n0_0), (3, .int .i64 s7), (4, .slice A28 x20.length n29), (7, .slice A0_0 a0.length n0_0), (8, .int .i64 (a0.length : Int)), (9, .int .i64 s7)]) (by kernel_rfl) ?_
      refine gl_atE (by kernel_rfl) ?_
      refine ge_seq ?_
      refine gk_seq (by kernel_rfl) ?_
      refine gk_region (by kernel_rfl) ?_
      refine gl_pure 1 [0, 3, 4, 7, 8, 9, 15] (K' := [(0, .slice A0_0 a0.length n0_0), (3, .int .i64 s7), (4, .slice A28 x20.length n29), (7, .slice A0_0 a0.length n0_0), (8, .int .i64 (a0.length : Int)), (9, .int .i64 s7), (15, .slice A28 x20.length n29)]) (by kernel_rfl) ?_
      obtain ⟨y31, hx32, hb9⟩ := bind_some hb9
      refine gl_callQ (by kernel_rfl) (labels_Right_walk (r := y31) (hG.mono hI10) hf30 hx32 _) ?_
      refine gl_pure 5 [0, 3, 4, 5, 7, 8, 9] (K' := [(0, .slice A0_0 a0.length n0_0), (3, .int .i64 s7), (4, .slice A28 x20.length n29), (5, .int .i64 y31.1), (7, .slice A0_0 a0.length n0_0), (8, .int .i64 (a0.length : Int)), (9, .int .i64 s7)]) (by kernel_rfl) ?_
      refine gl_atE (by kernel_rfl) ?_
      refine ge_seq ?_
      refine gk_seq (by kernel_rfl) ?_
      obtain ⟨j33, hj34, hb9⟩ := bind_some hb9
      refine gk_join (fun t I' L' => I12 ≤ I' ∧ L = L' ∧ Knows 36 [(0, .slice A0_0 a0.length n0_0), (7, .slice A0_0 a0.length n0_0), (8, .int .i64 (a0.length : Int)), (9, .int .i64 s7), (34, .bool j33)] t) ?_ ?_
      · refine gk_region (by kernel_rfl) ?_
        refine gl_pure 3 [0, 3, 4, 7, 8, 9, 21] (K' := [(0, .slice A0_0 a0.length n0_0), (3, .int .i64 s7), (4, .slice A28 x20.length n29), (7, .slice A0_0 a0.length n0_0), (8, .int .i64 (a0.length : Int)), (9, .int .i64 s7), (21, .bool (y31.1 != 0))]) (by kernel_rfl) ?_
        refine gl_case 21 (b := (y31.1 != 0)) (by kernel_rfl) (fun hc38 => ?_) (fun hc38 => ?_)
        · have hj34 := cond_t hc38 hj34
          refine gl_pure 13 [0, 7, 8, 9, 34] (K' := [(0, .slice A0_0 a0.length n0_0), (7, .slice A0_0 a0.length n0_0), (8, .int .i64 (a0.length : Int)), (9, .int .i64 s7), (34, .bool true)]) (by kernel_rfl) ?_
          refine gl_atE (by kernel_rfl) ?_
          obtain rfl := some_inj hj34
          exact ge_mid fun t ht => ⟨(Imm.refl _), rfl, ht.pick (l := [0, 7, 8, 9, 34]) (by kernel_rfl)⟩
        · have hj34 := cond_f hc38 hj34
          refine gl_pure 3 [0, 3, 4, 7, 8, 9, 21, 24] (K' := [(0, .slice A0_0 a0.length n0_0), (3, .int .i64 s7), (4, .slice A28 x20.length n29), (7, .slice A0_0 a0.length n0_0), (8, .int .i64 (a0.length : Int)), (9, .int .i64 s7), (21, .bool false), (24, .bool (decide (s7 > 0)))]) (by kernel_rfl) ?_
          refine gl_case 24 (b := (decide (s7 > 0))) (by kernel_rfl) (fun hc39 => ?_) (fun hc39 => ?_)
          · have hj34 := cond_t hc39 hj34
            refine gl_pure 3 [0, 4, 7, 8, 9, 21, 24, 25, 27] (K' := [(0, .slice A0_0 a0.length n0_0), (4, .slice A28 x20.length n29), (7, .slice A0_0 a0.length n0_0), (8, .int .i64 (a0.length : Int)), (9, .int .i64 s7), (21, .bool false), (24, .bool true), (25, .slice A0_0 a0.length n0_0), (27, .int .i64 (IntKind.wrap .i64 (s7 - 1)))]) (by kernel_rfl) ?_
            obtain ⟨x40, hx41, hj34⟩ := bind_some hj34
            obtain ⟨p42, cs43, hR44, hA45, ha46⟩ := RepS.ixAt hx41 (hf0_0.mono hI10)
            have hi47 := ix_some hx41
            obtain ⟨A48, n49, rfl, hf50⟩ := sl_open hR44
            refine gl_indexAddrF (c := n0_0) (T' := 22) (e := 39) (xs := (.tmp 25)) (xi := (.tmp 27)) (kd := .i64) ha46 hi47.1 hi47.2.1 (by kernel_rfl) (by kernel_rfl) (by kernel_rfl) (by kernel_rfl) (by kernel_rfl) ?_
            refine gl_load (T' := 39) (xp := (.tmp 28)) (p := p42) (c := .slice A48 x40.length n49) (n := 1) (by kernel_rfl) (by kernel_rfl) (by kernel_rfl) (by kernel_rfl) hA45 ?_
            refine gl_pure 1 [0, 7, 8, 9, 21, 24, 29, 30] (K' := [(0, .slice A0_0 a0.length n0_0), (7, .slice A0_0 a0.length n0_0), (8, .int .i64 (a0.length : Int)), (9, .int .i64 s7), (21, .bool false), (24, .bool true), (29, .slice A48 x40.length n49), (30, .slice A28 x20.length n29)]) (by kernel_rfl) ?_
            obtain ⟨y51, hx52, hj34⟩ := bind_some hj34
            refine gl_callQ (by kernel_rfl) (labels_Compare_walk (r := y51) hf50 hf30 hx52 _) ?_
            refine gl_pure 3 [0, 7, 8, 9, 34] (K' := [(0, .slice A0_0 a0.length n0_0), (7, .slice A0_0 a0.length n0_0), (8, .int .i64 (a0.length : Int)), (9, .int .i64 s7), (34, .bool (decide (y51 ≥ 0)))]) (by kernel_rfl) ?_
            refine gl_atE (by kernel_rfl) ?_
            obtain rfl := some_inj hj34
            exact ge_mid fun t ht => ⟨(Imm.refl _), rfl, ht.pick (l := [0, 7, 8, 9, 34]) (by kernel_rfl)⟩
          · have hj34 := cond_f hc39 hj34
            refine gl_pure 10 [0, 7, 8, 9, 34] (K' := [(0, .slice A0_0 a0.length n0_0), (7, .slice A0_0 a0.length n0_0), (8, .int .i64 (a0.length : Int)), (9, .int .i64 s7), (34, .bool false)]) (by kernel_rfl) ?_
            refine gl_atE (by kernel_rfl) ?_
            obtain rfl := some_inj hj34
            exact ge_mid fun t ht => ⟨(Imm.refl _), rfl, ht.pick (l := [0, 7, 8, 9, 34]) (by kernel_rfl)⟩
      · rintro t I37 L' ⟨hI35, rfl, hK36⟩
        refine ge_at hK36 ?_
        refine ge_seq ?_
        refine gk_cond (b := j33) (by kernel_rfl) (by kernel_rfl) (fun hc53 => ?_) (fun hc53 => ?_)
        · have hb9 := cond_t hc53 hb9
          refine gk_seq (by kernel_rfl) ?_
          refine gk_region (by kernel_rfl) ?_
          refine gl_pure 1 [2] (K' := [(2, .bool false)]) (by kernel_rfl) ?_
          refine gl_atE (by kernel_rfl) ?_
          refine ge_seq ?_
          refine gk_ret (by kernel_rfl) ?_
          refine ge_block_ret ?_
          refine ge_seq_ret ?_
          obtain rfl := some_inj hb9
          refine ge_round_out (fun hrr => ?_) (by intro h; cases h)
          obtain rfl := hrr
          refine ge_block_ret ?_
          refine ge_seq_ret ?_
          refine ge_seq_ret ?_
          obtain rfl := some_inj hr
          exact ge_result trivial (ResOk.tmp (by kernel_rfl) ResOk.nil) (Imm.trans hI10 hI35) ⟨rfl, rfl⟩
        · have hb9 := cond_f hc53 hb9
          refine gk_skip (by kernel_rfl) ?_
          refine ge_block_normal ?_
          refine ge_seq ?_
          refine gk_region (by kernel_rfl) ?_
          refine gl_pure 2 [0, 7, 8, 9] (K' := [(0, .slice A0_0 a0.length n0_0), (7, .slice A0_0 a0.length n0_0), (8, .int .i64 (a0.length : Int)), (9, .int .i64 (IntKind.wrap .i64 (s7 + 1)))]) (by kernel_rfl) ?_
          refine gl_atE (by kernel_rfl) ?_
          obtain rfl := some_inj hb9
          exact ge_round fun t ht => ⟨(Imm.trans hI10 hI35), rfl, ht.pick (l := [0, 7, 8, 9]) (by kernel_rfl)⟩
    · have hb9 := cond_f hc19 hb9
      refine gk_exit (by kernel_rfl) ?_
      refine ge_seq_exit ?_
      obtain rfl := some_inj hb9
      refine ge_round_out (fun hrr => ?_) (by intro h; cases h)
      obtain rfl := hrr
      refine ge_block_hit (by kernel_rfl) ?_
      exact ge_mid fun t ht => ⟨_, rfl, hI10, rfl, ht.pick (l := []) (by kernel_rfl)⟩
  · rintro t I16 L' ⟨r13, rfl, hI14, rfl, hK15⟩
    refine ge_at hK15 ?_
    refine ge_seq ?_
    refine gk_seq (by kernel_rfl) ?_
    refine gk_region (by kernel_rfl) ?_
    refine gl_pure 1 [2] (K' := [(2, .bool true)]) (by kernel_rfl) ?_
    refine gl_atE (by kernel_rfl) ?_
    refine ge_seq ?_
    refine gk_ret (by kernel_rfl) ?_
    obtain rfl := some_inj hr
    exact ge_result trivial (ResOk.tmp (by kernel_rfl) ResOk.nil) hI14 ⟨rfl, rfl⟩
/-! 8 nflog_Right  -/
noncomputable def nflog_Right (a0 : S23) : Option Int :=
  Option.bind (nflog_text a0.f0 64) fun (y2 : Bool) =>
  bif (!y2) then
  (some 204)
  else
  (Option.bind (nflog_text a0.f1 65536) fun (y5 : Bool) =>
    bif (!y5) then
    (some 40)
    else
    (bif ((decide (a0.f2 < 0)) || (decide (a0.f2 > 1125899906842624))) then
      (some 1)
      else
      (bif ((decide ((a0.f3.length : Int) > 500)) || (decide ((a0.f4.length : Int) > 500))) then
        (some 8)
        else
        (Option.bind (Option.bind (nflog_rising a0.f3) fun (y27 : Bool) =>
            bif (!y27) then
            (some true)
            else
            (Option.bind (nflog_rising a0.f4) fun (y30 : Bool) =>
              some (!y30))) fun (j22 : Bool) =>
          bif j22 then
          (some 41)
          else
          (some 0)))))
theorem nflog_Right_walk {a0 : S23} {A0_3 : Option Addr} {n0_3 : Nat} {A0_4 : Option Addr} {n0_4 : Nat} {I : Imm} {r : Int} (hG : Gl I)  (hf0_3 : RepS (Kd.sl kS50) I A0_3 n0_3 a0.f3) (hf0_4 : RepS (Kd.sl kS50) I A0_4 n0_4 a0.f4) (hr : nflog_Right a0 = some r) (L : Own) :
    CallsTo Tryd.prog 8 #[.agg #[.string a0.f0, .string a0.f1, .int .i64 a0.f2, .slice A0_3 a0.f3.length n0_3, .slice A0_4 a0.f4.length n0_4]] I L (fun v I' L' => v = .int .i64 r ∧ L = L') := by
  unfold nflog_Right at hr
  refine callsTo_body (N := 44) Tryd.func8 (by kernel_rfl) (by kernel_rfl) (by kernel_rfl) ?_
  refine gk_pick [0] (K' := [(0, .agg #[.string a0.f0, .string a0.f1, .int .i64 a0.f2, .slice A0_3 a0.f3.length n0_3, .slice A0_4 a0.f4.length n0_4])]) (by kernel_rfl) ?_
  refine gk_seq (by kernel_rfl) ?_
  refine gk_region (by kernel_rfl) ?_
  refine gl_box (T' := 24) (x := (.tmp 0)) (v := .agg #[.string a0.f0, .string a0.f1, .int .i64 a0.f2, .slice A0_3 a0.f3.length n0_3, .slice A0_4 a0.f4.length n0_4]) (cs := #[.string a0.f0, .string a0.f1, .int .i64 a0.f2, .slice A0_3 a0.f3.length n0_3, .slice A0_4 a0.f4.length n0_4]) (by kernel_rfl) (by kernel_rfl) (by kernel_rfl) (by kernel_rfl) (fun g1 => ?_)
  refine gl_pure 1 [1] (K' := [(1, .pointer (some ⟨g1, 0, none⟩))]) (by kernel_rfl) ?_
  refine gl_atE (by kernel_rfl) ?_
  refine ge_seq ?_
  refine gk_seq (by kernel_rfl) ?_
  refine gk_block (by kernel_rfl) ?_
  refine gk_seq (by kernel_rfl) ?_
  refine gk_region (by kernel_rfl) ?_
  refine gl_pure 1 [1, 4] (K' := [(1, .pointer (some ⟨g1, 0, none⟩)), (4, .pointer (some ⟨g1, 0, none⟩))]) (by kernel_rfl) ?_
  refine gl_loadB (T' := 9) (xp := (.tmp 4)) (v := .string a0.f0) (g := g1) (off := 0) (cs := #[.string a0.f0, .string a0.f1, .int .i64 a0.f2, .slice A0_3 a0.f3.length n0_3, .slice A0_4 a0.f4.length n0_4]) (e := 24) (fz := (0, 0)) (by kernel_rfl) (by kernel_rfl) (by kernel_rfl) List.mem_cons_self (by kernel_rfl) ?_
  obtain ⟨y2, hx3, hr⟩ := bind_some hr
  refine gl_callQ (by kernel_rfl) (nflog_text_walk (r := y2) hG hx3 _) ?_
  refine gl_pure 2 [1, 3] (K' := [(1, .pointer (some ⟨g1, 0, none⟩)), (3, .bool (!y2))]) (by kernel_rfl) ?_
  refine gl_atE (by kernel_rfl) ?_
  refine ge_seq ?_
  refine gk_cond (b := (!y2)) (by kernel_rfl) (by kernel_rfl) (fun hc4 => ?_) (fun hc4 => ?_)
  · have hr := cond_t hc4 hr
    refine gk_seq (by kernel_rfl) ?_
    refine gk_region (by kernel_rfl) ?_
    refine gl_pure 1 [2] (K' := [(2, .int .i64 204)]) (by kernel_rfl) ?_
    refine gl_atE (by kernel_rfl) ?_
    refine ge_seq ?_
    refine gk_reord (D := L) (Reord.skip (Reord.refl _)) ?_
    refine gk_ret (by kernel_rfl) ?_
    refine ge_block_ret ?_
    refine ge_seq_ret ?_
    obtain rfl := some_inj hr
    exact ge_result trivial (ResOk.tmp (by kernel_rfl) ResOk.nil) (Imm.refl _) ⟨rfl, rfl⟩
  · have hr := cond_f hc4 hr
    refine gk_seq (by kernel_rfl) ?_
    refine gk_region (by kernel_rfl) ?_
    refine gl_pure 1 [1, 9] (K' := [(1, .pointer (some ⟨g1, 0, none⟩)), (9, .pointer (some ⟨g1, 1, none⟩))]) (by kernel_rfl) ?_
    refine gl_loadB (T' := 9) (xp := (.tmp 9)) (v := .string a0.f1) (g := g1) (off := 1) (cs := #[.string a0.f0, .string a0.f1, .int .i64 a0.f2, .slice A0_3 a0.f3.length n0_3, .slice A0_4 a0.f4.length n0_4]) (e := 24) (fz := (0, 0)) (by kernel_rfl) (by kernel_rfl) (by kernel_rfl) List.mem_cons_self (by kernel_rfl) ?_
    obtain ⟨y5, hx6, hr⟩ := bind_some hr
    refine gl_callQ (by kernel_rfl) (nflog_text_walk (r := y5) hG hx6 _) ?_
    refine gl_pure 2 [1, 8] (K' := [(1, .pointer (some ⟨g1, 0, none⟩)), (8, .bool (!y5))]) (by kernel_rfl) ?_
    refine gl_atE (by kernel_rfl) ?_
    refine ge_seq ?_
    refine gk_cond (b := (!y5)) (by kernel_rfl) (by kernel_rfl) (fun hc7 => ?_) (fun hc7 => ?_)
    · have hr := cond_t hc7 hr
      refine gk_seq (by kernel_rfl) ?_
      refine gk_region (by kernel_rfl) ?_
      refine gl_pure 1 [2] (K' := [(2, .int .i64 40)]) (by kernel_rfl) ?_
      refine gl_atE (by kernel_rfl) ?_
      refine ge_seq ?_
      refine gk_reord (D := L) (Reord.skip (Reord.refl _)) ?_
      refine gk_ret (by kernel_rfl) ?_
      refine ge_block_ret ?_
      refine ge_seq_ret ?_
      obtain rfl := some_inj hr
      exact ge_result trivial (ResOk.tmp (by kernel_rfl) ResOk.nil) (Imm.refl _) ⟨rfl, rfl⟩
    · have hr := cond_f hc7 hr
      refine gk_seq (by kernel_rfl) ?_
      obtain ⟨b10, hb11⟩ : ∃ z, z = ((decide (a0.f2 < 0)) || (decide (a0.f2 > 1125899906842624))) := ⟨_, rfl⟩
      refine gk_join (fun t I' L' => I ≤ I' ∧ (g1, .cells #[.string a0.f0, .string a0.f1, .int .i64 a0.f2, .slice A0_3 a0.f3.length n0_3, .slice A0_4 a0.f4.length n0_4] 24) :: L = L' ∧ Knows 44 [(1, .pointer (some ⟨g1, 0, none⟩)), (13, .bool b10)] t) ?_ ?_
      · refine gk_region (by kernel_rfl) ?_
        refine gl_pure 1 [1, 14] (K' := [(1, .pointer (some ⟨g1, 0, none⟩)), (14, .pointer (some ⟨g1, 2, none⟩))]) (by kernel_rfl) ?_
        refine gl_loadB (T' := 2) (xp := (.tmp 14)) (v := .int .i64 a0.f2) (g := g1) (off := 2) (cs := #[.string a0.f0, .string a0.f1, .int .i64 a0.f2, .slice A0_3 a0.f3.length n0_3, .slice A0_4 a0.f4.length n0_4]) (e := 24) (fz := (0, 0)) (by kernel_rfl) (by kernel_rfl) (by kernel_rfl) List.mem_cons_self (by kernel_rfl) ?_
        refine gl_pure 2 [1, 17] (K' := [(1, .pointer (some ⟨g1, 0, none⟩)), (17, .bool (decide (a0.f2 < 0)))]) (by kernel_rfl) ?_
        refine gl_case 17 (b := (decide (a0.f2 < 0))) (by kernel_rfl) (fun hc13 => ?_) (fun hc13 => ?_)
        · refine gl_pure 5 [1, 13] (K' := [(1, .pointer (some ⟨g1, 0, none⟩)), (13, .bool true)]) (by kernel_rfl) ?_
          refine gl_atE (by kernel_rfl) ?_
          exact ge_mid fun t ht => ⟨(Imm.refl _), rfl, by rw [(show b10 = true from hb11.trans (by first | (rw [hc13]; done) | (rw [hc13]; rfl) | (simp [hc13]; done) | (simp only [hc13]; rfl) | (simp at *; omega)))]; exact ht.pick (l := [1, 13]) (by kernel_rfl)⟩
        · refine gl_pure 1 [1, 17, 18] (K' := [(1, .pointer (some ⟨g1, 0, none⟩)), (17, .bool false), (18, .pointer (some ⟨g1, 2, none⟩))]) (by kernel_rfl) ?_
          refine gl_loadB (T' := 2) (xp := (.tmp 18)) (v := .int .i64 a0.f2) (g := g1) (off := 2) (cs := #[.string a0.f0, .string a0.f1, .int .i64 a0.f2, .slice A0_3 a0.f3.length n0_3, .slice A0_4 a0.f4.length n0_4]) (e := 24) (fz := (0, 0)) (by kernel_rfl) (by kernel_rfl) (by kernel_rfl) List.mem_cons_self (by kernel_rfl) ?_
          refine gl_pure 3 [1, 13] (K' := [(1, .pointer (some ⟨g1, 0, none⟩)), (13, .bool (decide (a0.f2 > 1125899906842624)))]) (by kernel_rfl) ?_
          refine gl_atE (by kernel_rfl) ?_
          exact ge_mid fun t ht => ⟨(Imm.refl _), rfl, by rw [(show b10 = (decide (a0.f2 > 1125899906842624)) from hb11.trans (by first | (rw [hc13]; done) | (rw [hc13]; rfl) | (simp [hc13]; done) | (simp only [hc13]; rfl) | (simp at *; omega)))]; exact ht.pick (l := [1, 13]) (by kernel_rfl)⟩
      · rintro t I12 L' ⟨hI8, rfl, hK9⟩
        subst hb11
        refine ge_at hK9 ?_
        refine ge_seq ?_
        refine gk_cond (b := ((decide (a0.f2 < 0)) || (decide (a0.f2 > 1125899906842624)))) (by kernel_rfl) (by kernel_rfl) (fun hc14 => ?_) (fun hc14 => ?_)
        · have hr := cond_t hc14 hr
          refine gk_seq (by kernel_rfl) ?_
          refine gk_region (by kernel_rfl) ?_
          refine gl_pure 1 [2] (K' := [(2, .int .i64 1)]) (by kernel_rfl) ?_
          refine gl_atE (by kernel_rfl) ?_
          refine ge_seq ?_
          refine gk_reord (D := L) (Reord.skip (Reord.refl _)) ?_
          refine gk_ret (by kernel_rfl) ?_
          refine ge_block_ret ?_
          refine ge_seq_ret ?_
          obtain rfl := some_inj hr
          exact ge_result trivial (ResOk.tmp (by kernel_rfl) ResOk.nil) hI8 ⟨rfl, rfl⟩
        · have hr := cond_f hc14 hr
          refine gk_seq (by kernel_rfl) ?_
          obtain ⟨b17, hb18⟩ : ∃ z, z = ((decide ((a0.f3.length : Int) > 500)) || (decide ((a0.f4.length : Int) > 500))) := ⟨_, rfl⟩
          refine gk_join (fun t I' L' => I12 ≤ I' ∧ (g1, .cells #[.string a0.f0, .string a0.f1, .int .i64 a0.f2, .slice A0_3 a0.f3.length n0_3, .slice A0_4 a0.f4.length n0_4] 24) :: L = L' ∧ Knows 44 [(1, .pointer (some ⟨g1, 0, none⟩)), (22, .bool b17)] t) ?_ ?_
          · refine gk_region (by kernel_rfl) ?_
            refine gl_pure 1 [1, 23] (K' := [(1, .pointer (some ⟨g1, 0, none⟩)), (23, .pointer (some ⟨g1, 3, none⟩))]) (by kernel_rfl) ?_
            refine gl_loadB (T' := 22) (xp := (.tmp 23)) (v := .slice A0_3 a0.f3.length n0_3) (g := g1) (off := 3) (cs := #[.string a0.f0, .string a0.f1, .int .i64 a0.f2, .slice A0_3 a0.f3.length n0_3, .slice A0_4 a0.f4.length n0_4]) (e := 24) (fz := (0, 0)) (by kernel_rfl) (by kernel_rfl) (by kernel_rfl) List.mem_cons_self (by kernel_rfl) ?_
            refine gl_pure 3 [1, 27] (K' := [(1, .pointer (some ⟨g1, 0, none⟩)), (27, .bool (decide ((a0.f3.length : Int) > 500)))]) (by kernel_rfl) ?_
            refine gl_case 27 (b := (decide ((a0.f3.length : Int) > 500))) (by kernel_rfl) (fun hc20 => ?_) (fun hc20 => ?_)
            · refine gl_pure 6 [1, 22] (K' := [(1, .pointer (some ⟨g1, 0, none⟩)), (22, .bool true)]) (by kernel_rfl) ?_
              refine gl_atE (by kernel_rfl) ?_
              exact ge_mid fun t ht => ⟨(Imm.refl _), rfl, by rw [(show b17 = true from hb18.trans (by first | (rw [hc20]; done) | (rw [hc20]; rfl) | (simp [hc20]; done) | (simp only [hc20]; rfl) | (simp at *; omega)))]; exact ht.pick (l := [1, 22]) (by kernel_rfl)⟩
            · refine gl_pure 1 [1, 27, 28] (K' := [(1, .pointer (some ⟨g1, 0, none⟩)), (27, .bool false), (28, .pointer (some ⟨g1, 4, none⟩))]) (by kernel_rfl) ?_
              refine gl_loadB (T' := 22) (xp := (.tmp 28)) (v := .slice A0_4 a0.f4.length n0_4) (g := g1) (off := 4) (cs := #[.string a0.f0, .string a0.f1, .int .i64 a0.f2, .slice A0_3 a0.f3.length n0_3, .slice A0_4 a0.f4.length n0_4]) (e := 24) (fz := (0, 0)) (by kernel_rfl) (by kernel_rfl) (by kernel_rfl) List.mem_cons_self (by kernel_rfl) ?_
              refine gl_pure 4 [1, 22] (K' := [(1, .pointer (some ⟨g1, 0, none⟩)), (22, .bool (decide ((a0.f4.length : Int) > 500)))]) (by kernel_rfl) ?_
              refine gl_atE (by kernel_rfl) ?_
              exact ge_mid fun t ht => ⟨(Imm.refl _), rfl, by rw [(show b17 = (decide ((a0.f4.length : Int) > 500)) from hb18.trans (by first | (rw [hc20]; done) | (rw [hc20]; rfl) | (simp [hc20]; done) | (simp only [hc20]; rfl) | (simp at *; omega)))]; exact ht.pick (l := [1, 22]) (by kernel_rfl)⟩
          · rintro t I19 L' ⟨hI15, rfl, hK16⟩
            subst hb18
            refine ge_at hK16 ?_
            refine ge_seq ?_
            refine gk_cond (b := ((decide ((a0.f3.length : Int) > 500)) || (decide ((a0.f4.length : Int) > 500)))) (by kernel_rfl) (by kernel_rfl) (fun hc21 => ?_) (fun hc21 => ?_)
            · have hr := cond_t hc21 hr
              refine gk_seq (by kernel_rfl) ?_
              refine gk_region (by kernel_rfl) ?_
              refine gl_pure 1 [2] (K' := [(2, .int .i64 8)]) (by kernel_rfl) ?_
              refine gl_atE (by kernel_rfl) ?_
              refine ge_seq ?_
              refine gk_reord (D := L) (Reord.skip (Reord.refl _)) ?_
              refine gk_ret (by kernel_rfl) ?_
              refine ge_block_ret ?_
              refine ge_seq_ret ?_
              obtain rfl := some_inj hr
              exact ge_result trivial (ResOk.tmp (by kernel_rfl) ResOk.nil) (Imm.trans hI8 hI15) ⟨rfl, rfl⟩
            · have hr := cond_f hc21 hr
              refine gk_seq (by kernel_rfl) ?_
              obtain ⟨j22, hj23, hr⟩ := bind_some hr
              refine gk_join (fun t I' L' => I19 ≤ I' ∧ L = L' ∧ Knows 44 [(33, .bool j22)] t) ?_ ?_
              · refine gk_region (by kernel_rfl) ?_
                refine gl_pure 1 [1, 34] (K' := [(1, .pointer (some ⟨g1, 0, none⟩)), (34, .pointer (some ⟨g1, 3, none⟩))]) (by kernel_rfl) ?_
                refine gl_loadB (T' := 22) (xp := (.tmp 34)) (v := .slice A0_3 a0.f3.length n0_3) (g := g1) (off := 3) (cs := #[.string a0.f0, .string a0.f1, .int .i64 a0.f2, .slice A0_3 a0.f3.length n0_3, .slice A0_4 a0.f4.length n0_4]) (e := 24) (fz := (0, 0)) (by kernel_rfl) (by kernel_rfl) (by kernel_rfl) List.mem_cons_self (by kernel_rfl) ?_
                obtain ⟨y27, hx28, hj23⟩ := bind_some hj23
                refine gl_callQ (by kernel_rfl) (nflog_rising_walk (r := y27) (hG.mono (Imm.trans hI8 hI15)) (hf0_3.mono (Imm.trans hI8 hI15)) hx28 _) ?_
                refine gl_pure 2 [1, 38] (K' := [(1, .pointer (some ⟨g1, 0, none⟩)), (38, .bool (!y27))]) (by kernel_rfl) ?_
                refine gl_case 38 (b := (!y27)) (by kernel_rfl) (fun hc29 => ?_) (fun hc29 => ?_)
                · have hj23 := cond_t hc29 hj23
                  refine gl_pure 6 [33] (K' := [(33, .bool true)]) (by kernel_rfl) ?_
                  refine gl_reord (D := L) (Reord.skip (Reord.refl _)) ?_
                  refine gl_atE (by kernel_rfl) ?_
                  obtain rfl := some_inj hj23
                  exact ge_mid fun t ht => ⟨(Imm.refl _), rfl, ht.pick (l := [33]) (by kernel_rfl)⟩
                · have hj23 := cond_f hc29 hj23
                  refine gl_pure 1 [38, 39] (K' := [(38, .bool false), (39, .pointer (some ⟨g1, 4, none⟩))]) (by kernel_rfl) ?_
                  refine gl_loadB (T' := 22) (xp := (.tmp 39)) (v := .slice A0_4 a0.f4.length n0_4) (g := g1) (off := 4) (cs := #[.string a0.f0, .string a0.f1, .int .i64 a0.f2, .slice A0_3 a0.f3.length n0_3, .slice A0_4 a0.f4.length n0_4]) (e := 24) (fz := (0, 0)) (by kernel_rfl) (by kernel_rfl) (by kernel_rfl) List.mem_cons_self (by kernel_rfl) ?_
                  obtain ⟨y30, hx31, hj23⟩ := bind_some hj23
                  refine gl_callQ (by kernel_rfl) (nflog_rising_walk (r := y30) (hG.mono (Imm.trans hI8 hI15)) (hf0_4.mono (Imm.trans hI8 hI15)) hx31 _) ?_
                  refine gl_pure 3 [33] (K' := [(33, .bool (!y30))]) (by kernel_rfl) ?_
                  refine gl_reord (D := L) (Reord.skip (Reord.refl _)) ?_
                  refine gl_atE (by kernel_rfl) ?_
                  obtain rfl := some_inj hj23
                  exact ge_mid fun t ht => ⟨(Imm.refl _), rfl, ht.pick (l := [33]) (by kernel_rfl)⟩
              · rintro t I26 L' ⟨hI24, rfl, hK25⟩
                refine ge_at hK25 ?_
                refine ge_seq ?_
                refine gk_cond (b := j22) (by kernel_rfl) (by kernel_rfl) (fun hc32 => ?_) (fun hc32 => ?_)
                · have hr := cond_t hc32 hr
                  refine gk_seq (by kernel_rfl) ?_
                  refine gk_region (by kernel_rfl) ?_
                  refine gl_pure 1 [2] (K' := [(2, .int .i64 41)]) (by kernel_rfl) ?_
                  refine gl_atE (by kernel_rfl) ?_
                  refine ge_seq ?_
                  refine gk_ret (by kernel_rfl) ?_
                  refine ge_block_ret ?_
                  refine ge_seq_ret ?_
                  obtain rfl := some_inj hr
                  exact ge_result trivial (ResOk.tmp (by kernel_rfl) ResOk.nil) (Imm.trans (Imm.trans hI8 hI15) hI24) ⟨rfl, rfl⟩
                · have hr := cond_f hc32 hr
                  refine gk_skip (by kernel_rfl) ?_
                  refine ge_block_normal ?_
                  refine ge_seq ?_
                  refine gk_seq (by kernel_rfl) ?_
                  refine gk_region (by kernel_rfl) ?_
                  refine gl_pure 1 [2] (K' := [(2, .int .i64 0)]) (by kernel_rfl) ?_
                  refine gl_atE (by kernel_rfl) ?_
                  refine ge_seq ?_
                  refine gk_ret (by kernel_rfl) ?_
                  obtain rfl := some_inj hr
                  exact ge_result trivial (ResOk.tmp (by kernel_rfl) ResOk.nil) (Imm.trans (Imm.trans hI8 hI15) hI24) ⟨rfl, rfl⟩
/-! 26 nflog_Within_1 ('imm', ('ptrR', 39)) -/
noncomputable def nflog_Within_1 (a0 : List S50) (a1 : List S50) : Option Bool :=
  Option.bind (labels_Compare a1 a0) fun (y1 : Int) =>
  some (y1 == 0)
theorem nflog_Within_1_walk {a0 : List S50} {A0_0 : Option Addr} {n0_0 : Nat} {a1 : List S50} {p1 : Addr} {A1_0 : Option Addr} {n1_0 : Nat} {I : Imm} {r : Bool}  (hf0_0 : RepS kS50 I A0_0 n0_0 a0) (hp1 : RunAt I p1 [.slice A1_0 a1.length n1_0]) (hf1_0 : RepS kS50 I A1_0 n1_0 a1) (hr : nflog_Within_1 a0 a1 = some r) (L : Own) :
    CallsTo Tryd.prog 26 #[.slice A0_0 a0.length n0_0, .pointer (some p1)] I L (fun v I' L' => v = .bool r ∧ L = L') := by
  unfold nflog_Within_1 at hr
  refine callsTo_body (N := 8) Tryd.func26 (by kernel_rfl) (by kernel_rfl) (by kernel_rfl) ?_
  refine gk_pick [0, 1] (K' := [(0, .slice A0_0 a0.length n0_0), (1, .pointer (some p1))]) (by kernel_rfl) ?_
  refine gk_seq (by kernel_rfl) ?_
  refine gk_region (by kernel_rfl) ?_
  refine gl_pure 1 [0, 1] (K' := [(0, .slice A0_0 a0.length n0_0), (1, .pointer (some p1))]) (by kernel_rfl) ?_
  refine gl_atE (by kernel_rfl) ?_
  refine ge_seq ?_
  refine gk_seq (by kernel_rfl) ?_
  refine gk_region (by kernel_rfl) ?_
  refine gl_load (T' := 39) (xp := (.tmp 1)) (p := p1) (c := .slice A1_0 a1.length n1_0) (n := 1) (by kernel_rfl) (by kernel_rfl) (by kernel_rfl) (by kernel_rfl) hp1 ?_
  refine gl_pure 1 [4, 5] (K' := [(4, .slice A1_0 a1.length n1_0), (5, .slice A0_0 a0.length n0_0)]) (by kernel_rfl) ?_
  obtain ⟨y1, hx2, hr⟩ := bind_some hr
  refine gl_callQ (by kernel_rfl) (labels_Compare_walk (r := y1) hf1_0 hf0_0 hx2 _) ?_
  refine gl_pure 2 [3] (K' := [(3, .bool (y1 == 0))]) (by kernel_rfl) ?_
  refine gl_atE (by kernel_rfl) ?_
  refine ge_seq ?_
  refine gk_ret (by kernel_rfl) ?_
  obtain rfl := some_inj hr
  exact ge_result trivial (ResOk.tmp (by kernel_rfl) ResOk.nil) (Imm.refl _) ⟨rfl, rfl⟩
theorem nflog_Within_1_impl46 {a1 : List S50} {p1 : Addr} {A1_0 : Option Addr} {n1_0 : Nat} {I : Imm} (hp1 : RunAt I p1 [.slice A1_0 a1.length n1_0]) (hf1_0 : RepS kS50 I A1_0 n1_0 a1) : Fn46 I (.func (.func 26) #[] #[.pointer (some p1)]) (fun x0 => nflog_Within_1 x0 a1) := ⟨fun I' hI x0 r hr A0_0 c0_0 h0_0 L => ⟨26, #[], #[.pointer (some p1)], rfl, ⟨_, Tryd.func26, by kernel_rfl, by kernel_rfl⟩, by
  simp only [List.append_toArray, List.nil_append, List.append_nil, Array.append_empty, Array.empty_append, List.push_append_toArray, List.cons_append]
  exact nflog_Within_1_walk  h0_0 (hp1.mono hI) (hf1_0.mono hI) hr L⟩⟩
/-! 10 nflog_Within  -/
noncomputable def nflog_Within_l17 (a0 : List (List S50)) (a1 : List (List S50)) : Int → Option ((Int) ⊕ ((Unit) ⊕ (Bool))) := fun s7 =>
  bif (decide (s7 < (a0.length : Int))) then
  (Option.bind (ix a0 s7) fun (x20 : List S50) =>
    Option.bind (slices_ContainsFunc a1 (fun x0 => nflog_Within_1 x0 x20)) fun (y32 : Bool) =>
    bif (!y32) then
    (some (Sum.inr (Sum.inr false)))
    else
    (some (Sum.inl (IntKind.wrap .i64 (s7 + 1)))))
  else
  (some (Sum.inr (Sum.inl ())))
noncomputable def nflog_Within (a0 : List (List S50)) (a1 : List (List S50)) : Option Bool :=
  Option.bind (loopO (nflog_Within_l17 a0 a1) 0) fun (r5 : (Unit) ⊕ (Bool)) =>
  match r5 with
  | Sum.inl r13 => some true
  | Sum.inr v35 => some v35
theorem nflog_Within_walk {a0 : List (List S50)} {A0_0 : Option Addr} {n0_0 : Nat} {a1 : List (List S50)} {A1_0 : Option Addr} {n1_0 : Nat} {I : Imm} {r : Bool}  (hf0_0 : RepS (Kd.sl kS50) I A0_0 n0_0 a0)  (hf1_0 : RepS (Kd.sl kS50) I A1_0 n1_0 a1) (hr : nflog_Within a0 a1 = some r) (L : Own) :
    CallsTo Tryd.prog 10 #[.slice A0_0 a0.length n0_0, .slice A1_0 a1.length n1_0] I L (fun v I' L' => v = .bool r ∧ L = L') := by
  unfold nflog_Within at hr
  refine callsTo_body (N := 18) Tryd.func10 (by kernel_rfl) (by kernel_rfl) (by kernel_rfl) ?_
  refine gk_pick [0, 1] (K' := [(0, .slice A0_0 a0.length n0_0), (1, .slice A1_0 a1.length n1_0)]) (by kernel_rfl) ?_
  refine gk_seq (by kernel_rfl) ?_
  refine gk_region (by kernel_rfl) ?_
  refine gl_pure 1 [0, 1] (K' := [(0, .slice A0_0 a0.length n0_0), (1, .slice A1_0 a1.length n1_0)]) (by kernel_rfl) ?_
  refine gl_atE (by kernel_rfl) ?_
  refine ge_seq ?_
  refine gk_seq (by kernel_rfl) ?_
  refine gk_seq (by kernel_rfl) ?_
  refine gk_region (by kernel_rfl) ?_
  refine gl_pure 3 [1, 7, 8, 9] (K' := [(1, .slice A1_0 a1.length n1_0), (7, .slice A0_0 a0.length n0_0), (8, .int .i64 (a0.length : Int)), (9, .int .i64 0)]) (by kernel_rfl) ?_
  refine gl_atE (by kernel_rfl) ?_
  refine ge_seq ?_
  obtain ⟨r5, hl6, hr⟩ := bind_some hr
  refine gk_join (fun t I' L' => ∃ r13, r5 = Sum.inl r13 ∧ I ≤ I' ∧ L = L' ∧ Knows 18 [] t) ?_ ?_
  · refine gk_block (by kernel_rfl) ?_
    refine gk_pick [1, 7, 8, 9] (K' := [(1, .slice A1_0 a1.length n1_0), (7, .slice A0_0 a0.length n0_0), (8, .int .i64 (a0.length : Int)), (9, .int .i64 0)]) (by kernel_rfl) ?_
    intro t hK
    refine gc_loop (nflog_Within_l17 a0 a1) (fun s7 t I' L' => I ≤ I' ∧ L = L' ∧ Knows 18 [(1, .slice A1_0 a1.length n1_0), (7, .slice A0_0 a0.length n0_0), (8, .int .i64 (a0.length : Int)), (9, .int .i64 s7)] t) (by kernel_rfl) ?_ hl6 ⟨(Imm.refl _), rfl, hK⟩
    rintro s7 o8 t I12 L' hb9 ⟨hI10, rfl, hK11⟩
    unfold nflog_Within_l17 at hb9
    refine gk_at hK11 ?_
    refine gk_seq (by kernel_rfl) ?_
    refine gk_region (by kernel_rfl) ?_
    refine gl_pure 1 [1, 7, 8, 9, 10] (K' := [(1, .slice A1_0 a1.length n1_0), (7, .slice A0_0 a0.length n0_0), (8, .int .i64 (a0.length : Int)), (9, .int .i64 s7), (10, .bool (decide (s7 < (a0.length : Int))))]) (by kernel_rfl) ?_
    refine gl_atE (by kernel_rfl) ?_
    refine ge_seq ?_
    refine gk_seq (by kernel_rfl) ?_
    refine gk_cond (b := (decide (s7 < (a0.length : Int)))) (by kernel_rfl) (by kernel_rfl) (fun hc19 => ?_) (fun hc19 => ?_)
    · have hb9 := cond_t hc19 hb9
      refine gk_skip (by kernel_rfl) ?_
      refine ge_seq ?_
      refine gk_seq (by kernel_rfl) ?_
      refine gk_block (by kernel_rfl) ?_
      refine gk_seq (by kernel_rfl) ?_
      refine gk_region (by kernel_rfl) ?_
      obtain ⟨x20, hx21, hb9⟩ := bind_some hb9
      obtain ⟨p22, cs23, hR24, hA25, ha26⟩ := RepS.ixAt hx21 (hf0_0.mono hI10)
      have hi27 := ix_some hx21
      obtain ⟨A28, n29, rfl, hf30⟩ := sl_open hR24
      refine gl_indexAddrF (c := n0_0) (T' := 22) (e := 39) (xs := (.tmp 7)) (xi := (.tmp 9)) (kd := .i64) ha26 hi27.1 hi27.2.1 (by kernel_rfl) (by kernel_rfl) (by kernel_rfl) (by kernel_rfl) (by kernel_rfl) ?_
      refine gl_load (T' := 39) (xp := (.tmp 11)) (p := p22) (c := .slice A28 x20.length n29) (n := 1) (by kernel_rfl) (by kernel_rfl) (by kernel_rfl) (by kernel_rfl) hA25 ?_
      refine gl_alloc (T' := 39) (cs := #[.slice none 0 0]) (by kernel_rfl) (by kernel_rfl) (by kernel_rfl) (fun g31 => ?_)
      refine gl_storeB (T' := 39) (xp := (.tmp 6)) (xv := (.tmp 12)) (v := .slice A28 x20.length n29) (g := g31) (off := 0) (cs := #[.slice none 0 0]) (cs' := #[.slice A28 x20.length n29]) (by kernel_rfl) (by kernel_rfl) (by kernel_rfl) (by kernel_rfl) (by kernel_rfl) (Upd.set _ _ _ _) ?_ (by kernel_rfl)
      refine gl_atE (by kernel_rfl) ?_
      refine ge_seq ?_
      refine gk_seq (by kernel_rfl) ?_
      refine gk_region (by kernel_rfl) ?_
      refine gl_pure 2 [1, 7, 8, 9, 13, 14] (K' := [(1, .slice A1_0 a1.length n1_0), (7, .slice A0_0 a0.length n0_0), (8, .int .i64 (a0.length : Int)), (9, .int .i64 s7), (13, .slice A1_0 a1.length n1_0), (14, .func (.func 26) #[] #[.pointer (some ⟨g31, 0, none⟩)])]) (by kernel_rfl) ?_
      obtain ⟨y32, hx33, hb9⟩ := bind_some hb9
      refine gl_callB (r := .bool y32) (Tk.step (Upd.rm1 _ _) (Tk.nil _)) (by kernel_rfl) (fun J hJ hC => slices_ContainsFunc_walk (r := y32) (hf1_0.mono (Imm.trans hI10 hJ)) (nflog_Within_1_impl46 hC.left.blk (hf30.mono hJ)) hx33 _) ?_
      refine gl_pure 1 [1, 7, 8, 9, 16] (K' := [(1, .slice A1_0 a1.length n1_0), (7, .slice A0_0 a0.length n0_0), (8, .int .i64 (a0.length : Int)), (9, .int .i64 s7), (16, .bool (!y32))]) (by kernel_rfl) ?_
      refine gl_atE (by kernel_rfl) ?_
      refine ge_seq ?_
      refine gk_cond (b := (!y32)) (by kernel_rfl) (by kernel_rfl) (fun hc34 => ?_) (fun hc34 => ?_)
      · have hb9 := cond_t hc34 hb9
        refine gk_seq (by kernel_rfl) ?_
        refine gk_region (by kernel_rfl) ?_
        refine gl_pure 1 [4] (K' := [(4, .bool false)]) (by kernel_rfl) ?_
        refine gl_atE (by kernel_rfl) ?_
        refine ge_seq ?_
        refine gk_reord (D := L) (Reord.skip (Reord.refl _)) ?_
        refine gk_ret (by kernel_rfl) ?_
        refine ge_block_ret ?_
        refine ge_seq_ret ?_
        obtain rfl := some_inj hb9
        refine ge_round_out (fun hrr => ?_) (by intro h; cases h)
        obtain rfl := hrr
        refine ge_block_ret ?_
        refine ge_seq_ret ?_
        refine ge_seq_ret ?_
        obtain rfl := some_inj hr
        exact ge_result trivial (ResOk.tmp (by kernel_rfl) ResOk.nil) hI10 ⟨rfl, rfl⟩
      · have hb9 := cond_f hc34 hb9
        refine gk_skip (by kernel_rfl) ?_
        refine ge_block_normal ?_
        refine ge_seq ?_
        refine gk_region (by kernel_rfl) ?_
        refine gl_pure 2 [1, 7, 8, 9] (K' := [(1, .slice A1_0 a1.length n1_0), (7, .slice A0_0 a0.length n0_0), (8, .int .i64 (a0.length : Int)), (9, .int .i64 (IntKind.wrap .i64 (s7 + 1)))]) (by kernel_rfl) ?_
        refine gl_reord (D := L) (Reord.skip (Reord.refl _)) ?_
        refine gl_atE (by kernel_rfl) ?_
        obtain rfl := some_inj hb9
        exact ge_round fun t ht => ⟨hI10, rfl, ht.pick (l := [1, 7, 8, 9]) (by kernel_rfl)⟩
    · have hb9 := cond_f hc19 hb9
      refine gk_exit (by kernel_rfl) ?_
      refine ge_seq_exit ?_
      obtain rfl := some_inj hb9
      refine ge_round_out (fun hrr => ?_) (by intro h; cases h)
      obtain rfl := hrr
      refine ge_block_hit (by kernel_rfl) ?_
      exact ge_mid fun t ht => ⟨_, rfl, hI10, rfl, ht.pick (l := []) (by kernel_rfl)⟩
  · rintro t I16 L' ⟨r13, rfl, hI14, rfl, hK15⟩
    refine ge_at hK15 ?_
    refine ge_seq ?_
    refine gk_seq (by kernel_rfl) ?_
    refine gk_region (by kernel_rfl) ?_
    refine gl_pure 1 [4] (K' := [(4, .bool true)]) (by kernel_rfl) ?_
    refine gl_atE (by kernel_rfl) ?_
    refine ge_seq ?_
    refine gk_ret (by kernel_rfl) ?_
    obtain rfl := some_inj hr
    exact ge_result trivial (ResOk.tmp (by kernel_rfl) ResOk.nil) hI14 ⟨rfl, rfl⟩
/-! 6 nflog_Needs  -/
noncomputable def nflog_Needs (a0 : S23) (a1 : Bool) (a2 : Int) (a3 : Int) (a4 : List (List S50)) (a5 : List (List S50)) : Option (Bool × Int) :=
  bif ((((decide (a2 < 0)) || (decide (a2 > 1125899906842624))) || (decide (a3 < 1))) || (decide (a3 > 1099511627776))) then
  (some (false, 1))
  else
  (Option.bind (Option.bind (nflog_right a4) fun (y16 : Bool) =>
      bif (!y16) then
      (some true)
      else
      (Option.bind (nflog_right a5) fun (y19 : Bool) =>
        some (!y19))) fun (j11 : Bool) =>
    bif j11 then
    (some (false, 41))
    else
    (bif (!a1) then
      (some ((decide ((a4.length : Int) > 0)), 0))
      else
      (Option.bind (nflog_Right a0) fun (y23 : Int) =>
        bif (y23 != 0) then
        (some (false, y23))
        else
        (Option.bind (nflog_Within a4 a0.f3) fun (y26 : Bool) =>
          bif (!y26) then
          (some (true, 0))
          else
          (bif ((a4.length : Int) == 0) then
            (some ((decide ((a0.f3.length : Int) > 0)), 0))
            else
            (Option.bind (nflog_Within a5 a0.f4) fun (y30 : Bool) =>
              bif (!y30) then
              (some (true, 0))
              else
              (some ((decide (a0.f2 ≤ (IntKind.wrap .i64 (a2 - a3)))), 0))))))))
theorem nflog_Needs_walk {a0 : S23} {A0_3 : Option Addr} {n0_3 : Nat} {A0_4 : Option Addr} {n0_4 : Nat} {a1 : Bool} {a2 : Int} {a3 : Int} {a4 : List (List S50)} {A4_0 : Option Addr} {n4_0 : Nat} {a5 : List (List S50)} {A5_0 : Option Addr} {n5_0 : Nat} {I : Imm} {r : Bool × Int} (hG : Gl I)  (hf0_3 : RepS (Kd.sl kS50) I A0_3 n0_3 a0.f3) (hf0_4 : RepS (Kd.sl kS50) I A0_4 n0_4 a0.f4)  (hf4_0 : RepS (Kd.sl kS50) I A4_0 n4_0 a4)  (hf5_0 : RepS (Kd.sl kS50) I A5_0 n5_0 a5) (hr : nflog_Needs a0 a1 a2 a3 a4 a5 = some r) (L : Own) :
    CallsTo Tryd.prog 6 #[.agg #[.string a0.f0, .string a0.f1, .int .i64 a0.f2, .slice A0_3 a0.f3.length n0_3, .slice A0_4 a0.f4.length n0_4], .bool a1, .int .i64 a2, .int .i64 a3, .slice A4_0 a4.length n4_0, .slice A5_0 a5.length n5_0] I L (fun v I' L' => v = .tuple #[.bool r.1, .int .i64 r.2] ∧ L = L') := by
  unfold nflog_Needs at hr
  refine callsTo_body (N := 76) Tryd.func6 (by kernel_rfl) (by kernel_rfl) (by kernel_rfl) ?_
  refine gk_pick [0, 1, 2, 3, 4, 5] (K' := [(0, .agg #[.string a0.f0, .string a0.f1, .int .i64 a0.f2, .slice A0_3 a0.f3.length n0_3, .slice A0_4 a0.f4.length n0_4]), (1, .bool a1), (2, .int .i64 a2), (3, .int .i64 a3), (4, .slice A4_0 a4.length n4_0), (5, .slice A5_0 a5.length n5_0)]) (by kernel_rfl) ?_
  refine gk_seq (by kernel_rfl) ?_
  refine gk_region (by kernel_rfl) ?_
  refine gl_box (T' := 24) (x := (.tmp 0)) (v := .agg #[.string a0.f0, .string a0.f1, .int .i64 a0.f2, .slice A0_3 a0.f3.length n0_3, .slice A0_4 a0.f4.length n0_4]) (cs := #[.string a0.f0, .string a0.f1, .int .i64 a0.f2, .slice A0_3 a0.f3.length n0_3, .slice A0_4 a0.f4.length n0_4]) (by kernel_rfl) (by kernel_rfl) (by kernel_rfl) (by kernel_rfl) (fun g1 => ?_)
  refine gl_pure 2 [1, 2, 3, 4, 5, 6] (K' := [(1, .bool a1), (2, .int .i64 a2), (3, .int .i64 a3), (4, .slice A4_0 a4.length n4_0), (5, .slice A5_0 a5.length n5_0), (6, .pointer (some ⟨g1, 0, none⟩))]) (by kernel_rfl) ?_
  refine gl_atE (by kernel_rfl) ?_
  refine ge_seq ?_
  refine gk_seq (by kernel_rfl) ?_
  refine gk_block (by kernel_rfl) ?_
  refine gk_seq (by kernel_rfl) ?_
  obtain ⟨b4, hb5⟩ : ∃ z, z = ((((decide (a2 < 0)) || (decide (a2 > 1125899906842624))) || (decide (a3 < 1))) || (decide (a3 > 1099511627776))) := ⟨_, rfl⟩
  refine gk_join (fun t I' L' => I ≤ I' ∧ (g1, .cells #[.string a0.f0, .string a0.f1, .int .i64 a0.f2, .slice A0_3 a0.f3.length n0_3, .slice A0_4 a0.f4.length n0_4] 24) :: L = L' ∧ Knows 76 [(1, .bool a1), (2, .int .i64 a2), (3, .int .i64 a3), (4, .slice A4_0 a4.length n4_0), (5, .slice A5_0 a5.length n5_0), (6, .pointer (some ⟨g1, 0, none⟩)), (15, .bool b4)] t) ?_ ?_
  · refine gk_region (by kernel_rfl) ?_
    refine gl_pure 3 [1, 2, 3, 4, 5, 6, 18] (K' := [(1, .bool a1), (2, .int .i64 a2), (3, .int .i64 a3), (4, .slice A4_0 a4.length n4_0), (5, .slice A5_0 a5.length n5_0), (6, .pointer (some ⟨g1, 0, none⟩)), (18, .bool (decide (a2 < 0)))]) (by kernel_rfl) ?_
    refine gl_case 18 (b := (decide (a2 < 0))) (by kernel_rfl) (fun hc7 => ?_) (fun hc7 => ?_)
    · refine gl_pure 12 [1, 2, 3, 4, 5, 6, 15] (K' := [(1, .bool a1), (2, .int .i64 a2), (3, .int .i64 a3), (4, .slice A4_0 a4.length n4_0), (5, .slice A5_0 a5.length n5_0), (6, .pointer (some ⟨g1, 0, none⟩)), (15, .bool true)]) (by kernel_rfl) ?_
      refine gl_atE (by kernel_rfl) ?_
      exact ge_mid fun t ht => ⟨(Imm.refl _), rfl, by rw [(show b4 = true from hb5.trans (by first | (rw [hc7]; done) | (rw [hc7]; rfl) | (simp [hc7]; done) | (simp only [hc7]; rfl) | (simp at *; omega)))]; exact ht.pick (l := [1, 2, 3, 4, 5, 6, 15]) (by kernel_rfl)⟩
    · refine gl_pure 4 [1, 2, 3, 4, 5, 6, 22] (K' := [(1, .bool a1), (2, .int .i64 a2), (3, .int .i64 a3), (4, .slice A4_0 a4.length n4_0), (5, .slice A5_0 a5.length n5_0), (6, .pointer (some ⟨g1, 0, none⟩)), (22, .bool (decide (a2 > 1125899906842624)))]) (by kernel_rfl) ?_
      refine gl_case 22 (b := (decide (a2 > 1125899906842624))) (by kernel_rfl) (fun hc8 => ?_) (fun hc8 => ?_)
      · refine gl_pure 8 [1, 2, 3, 4, 5, 6, 15] (K' := [(1, .bool a1), (2, .int .i64 a2), (3, .int .i64 a3), (4, .slice A4_0 a4.length n4_0), (5, .slice A5_0 a5.length n5_0), (6, .pointer (some ⟨g1, 0, none⟩)), (15, .bool true)]) (by kernel_rfl) ?_
        refine gl_atE (by kernel_rfl) ?_
        exact ge_mid fun t ht => ⟨(Imm.refl _), rfl, by rw [(show b4 = true from hb5.trans (by first | (rw [hc7, hc8]; done) | (rw [hc7, hc8]; rfl) | (simp [hc7, hc8]; done) | (simp only [hc7, hc8]; rfl) | (simp at *; omega)))]; exact ht.pick (l := [1, 2, 3, 4, 5, 6, 15]) (by kernel_rfl)⟩
      · refine gl_pure 4 [1, 2, 3, 4, 5, 6, 26] (K' := [(1, .bool a1), (2, .int .i64 a2), (3, .int .i64 a3), (4, .slice A4_0 a4.length n4_0), (5, .slice A5_0 a5.length n5_0), (6, .pointer (some ⟨g1, 0, none⟩)), (26, .bool (decide (a3 < 1)))]) (by kernel_rfl) ?_
        refine gl_case 26 (b := (decide (a3 < 1))) (by kernel_rfl) (fun hc9 => ?_) (fun hc9 => ?_)
        · refine gl_pure 4 [1, 2, 3, 4, 5, 6, 15] (K' := [(1, .bool a1), (2, .int .i64 a2), (3, .int .i64 a3), (4, .slice A4_0 a4.length n4_0), (5, .slice A5_0 a5.length n5_0), (6, .pointer (some ⟨g1, 0, none⟩)), (15, .bool true)]) (by kernel_rfl) ?_
          refine gl_atE (by kernel_rfl) ?_
          exact ge_mid fun t ht => ⟨(Imm.refl _), rfl, by rw [(show b4 = true from hb5.trans (by first | (rw [hc7, hc8, hc9]; done) | (rw [hc7, hc8, hc9]; rfl) | (simp [hc7, hc8, hc9]; done) | (simp only [hc7, hc8, hc9]; rfl) | (simp at *; omega)))]; exact ht.pick (l := [1, 2, 3, 4, 5, 6, 15]) (by kernel_rfl)⟩
        · refine gl_pure 4 [1, 2, 3, 4, 5, 6, 15] (K' := [(1, .bool a1), (2, .int .i64 a2), (3, .int .i64 a3), (4, .slice A4_0 a4.length n4_0), (5, .slice A5_0 a5.length n5_0), (6, .pointer (some ⟨g1, 0, none⟩)), (15, .bool (decide (a3 > 1099511627776)))]) (by kernel_rfl) ?_
          refine gl_atE (by kernel_rfl) ?_
          exact ge_mid fun t ht => ⟨(Imm.refl _), rfl, by rw [(show b4 = (decide (a3 > 1099511627776)) from hb5.trans (by first | (rw [hc7, hc8, hc9]; done) | (rw [hc7, hc8, hc9]; rfl) | (simp [hc7, hc8, hc9]; done) | (simp only [hc7, hc8, hc9]; rfl) | (simp at *; omega)))]; exact ht.pick (l := [1, 2, 3, 4, 5, 6, 15]) (by kernel_rfl)⟩
  · rintro t I6 L' ⟨hI2, rfl, hK3⟩
    subst hb5
    refine ge_at hK3 ?_
    refine ge_seq ?_
    refine gk_cond (b := ((((decide (a2 < 0)) || (decide (a2 > 1125899906842624))) || (decide (a3 < 1))) || (decide (a3 > 1099511627776)))) (by kernel_rfl) (by kernel_rfl) (fun hc10 => ?_) (fun hc10 => ?_)
    · have hr := cond_t hc10 hr
      refine gk_seq (by kernel_rfl) ?_
      refine gk_region (by kernel_rfl) ?_
      refine gl_pure 2 [12, 13] (K' := [(12, .bool false), (13, .int .i64 1)]) (by kernel_rfl) ?_
      refine gl_atE (by kernel_rfl) ?_
      refine ge_seq ?_
      refine gk_reord (D := L) (Reord.skip (Reord.refl _)) ?_
      refine gk_ret (by kernel_rfl) ?_
      refine ge_block_ret ?_
      refine ge_seq_ret ?_
      obtain rfl := some_inj hr
      exact ge_result trivial (ResOk.tmp (by kernel_rfl) (ResOk.tmp (by kernel_rfl) ResOk.nil)) hI2 ⟨rfl, rfl⟩
    · have hr := cond_f hc10 hr
      refine gk_seq (by kernel_rfl) ?_
      obtain ⟨j11, hj12, hr⟩ := bind_some hr
      refine gk_join (fun t I' L' => I6 ≤ I' ∧ (g1, .cells #[.string a0.f0, .string a0.f1, .int .i64 a0.f2, .slice A0_3 a0.f3.length n0_3, .slice A0_4 a0.f4.length n0_4] 24) :: L = L' ∧ Knows 76 [(1, .bool a1), (2, .int .i64 a2), (3, .int .i64 a3), (4, .slice A4_0 a4.length n4_0), (5, .slice A5_0 a5.length n5_0), (6, .pointer (some ⟨g1, 0, none⟩)), (30, .bool j11)] t) ?_ ?_
      · refine gk_region (by kernel_rfl) ?_
        refine gl_pure 1 [1, 2, 3, 4, 5, 6, 31] (K' := [(1, .bool a1), (2, .int .i64 a2), (3, .int .i64 a3), (4, .slice A4_0 a4.length n4_0), (5, .slice A5_0 a5.length n5_0), (6, .pointer (some ⟨g1, 0, none⟩)), (31, .slice A4_0 a4.length n4_0)]) (by kernel_rfl) ?_
        obtain ⟨y16, hx17, hj12⟩ := bind_some hj12
        refine gl_callQ (by kernel_rfl) (nflog_right_walk (r := y16) (hG.mono hI2) (hf4_0.mono hI2) hx17 _) ?_
        refine gl_pure 2 [1, 2, 3, 4, 5, 6, 34] (K' := [(1, .bool a1), (2, .int .i64 a2), (3, .int .i64 a3), (4, .slice A4_0 a4.length n4_0), (5, .slice A5_0 a5.length n5_0), (6, .pointer (some ⟨g1, 0, none⟩)), (34, .bool (!y16))]) (by kernel_rfl) ?_
        refine gl_case 34 (b := (!y16)) (by kernel_rfl) (fun hc18 => ?_) (fun hc18 => ?_)
        · have hj12 := cond_t hc18 hj12
          refine gl_pure 5 [1, 2, 3, 4, 5, 6, 30] (K' := [(1, .bool a1), (2, .int .i64 a2), (3, .int .i64 a3), (4, .slice A4_0 a4.length n4_0), (5, .slice A5_0 a5.length n5_0), (6, .pointer (some ⟨g1, 0, none⟩)), (30, .bool true)]) (by kernel_rfl) ?_
          refine gl_atE (by kernel_rfl) ?_
          obtain rfl := some_inj hj12
          exact ge_mid fun t ht => ⟨(Imm.refl _), rfl, ht.pick (l := [1, 2, 3, 4, 5, 6, 30]) (by kernel_rfl)⟩
        · have hj12 := cond_f hc18 hj12
          refine gl_pure 1 [1, 2, 3, 4, 5, 6, 34, 35] (K' := [(1, .bool a1), (2, .int .i64 a2), (3, .int .i64 a3), (4, .slice A4_0 a4.length n4_0), (5, .slice A5_0 a5.length n5_0), (6, .pointer (some ⟨g1, 0, none⟩)), (34, .bool false), (35, .slice A5_0 a5.length n5_0)]) (by kernel_rfl) ?_
          obtain ⟨y19, hx20, hj12⟩ := bind_some hj12
          refine gl_callQ (by kernel_rfl) (nflog_right_walk (r := y19) (hG.mono hI2) (hf5_0.mono hI2) hx20 _) ?_
          refine gl_pure 3 [1, 2, 3, 4, 5, 6, 30] (K' := [(1, .bool a1), (2, .int .i64 a2), (3, .int .i64 a3), (4, .slice A4_0 a4.length n4_0), (5, .slice A5_0 a5.length n5_0), (6, .pointer (some ⟨g1, 0, none⟩)), (30, .bool (!y19))]) (by kernel_rfl) ?_
          refine gl_atE (by kernel_rfl) ?_
          obtain rfl := some_inj hj12
          exact ge_mid fun t ht => ⟨(Imm.refl _), rfl, ht.pick (l := [1, 2, 3, 4, 5, 6, 30]) (by kernel_rfl)⟩
      · rintro t I15 L' ⟨hI13, rfl, hK14⟩
        refine ge_at hK14 ?_
        refine ge_seq ?_
        refine gk_cond (b := j11) (by kernel_rfl) (by kernel_rfl) (fun hc21 => ?_) (fun hc21 => ?_)
        · have hr := cond_t hc21 hr
          refine gk_seq (by kernel_rfl) ?_
          refine gk_region (by kernel_rfl) ?_
          refine gl_pure 2 [12, 13] (K' := [(12, .bool false), (13, .int .i64 41)]) (by kernel_rfl) ?_
          refine gl_atE (by kernel_rfl) ?_
          refine ge_seq ?_
          refine gk_reord (D := L) (Reord.skip (Reord.refl _)) ?_
          refine gk_ret (by kernel_rfl) ?_
          refine ge_block_ret ?_
          refine ge_seq_ret ?_
          obtain rfl := some_inj hr
          exact ge_result trivial (ResOk.tmp (by kernel_rfl) (ResOk.tmp (by kernel_rfl) ResOk.nil)) (Imm.trans hI2 hI13) ⟨rfl, rfl⟩
        · have hr := cond_f hc21 hr
          refine gk_seq (by kernel_rfl) ?_
          refine gk_region (by kernel_rfl) ?_
          refine gl_pure 3 [2, 3, 4, 5, 6, 39] (K' := [(2, .int .i64 a2), (3, .int .i64 a3), (4, .slice A4_0 a4.length n4_0), (5, .slice A5_0 a5.length n5_0), (6, .pointer (some ⟨g1, 0, none⟩)), (39, .bool (!a1))]) (by kernel_rfl) ?_
          refine gl_atE (by kernel_rfl) ?_
          refine ge_seq ?_
          refine gk_cond (b := (!a1)) (by kernel_rfl) (by kernel_rfl) (fun hc22 => ?_) (fun hc22 => ?_)
          · have hr := cond_t hc22 hr
            refine gk_seq (by kernel_rfl) ?_
            refine gk_region (by kernel_rfl) ?_
            refine gl_pure 5 [12, 13] (K' := [(12, .bool (decide ((a4.length : Int) > 0))), (13, .int .i64 0)]) (by kernel_rfl) ?_
            refine gl_atE (by kernel_rfl) ?_
            refine ge_seq ?_
            refine gk_reord (D := L) (Reord.skip (Reord.refl _)) ?_
            refine gk_ret (by kernel_rfl) ?_
            refine ge_block_ret ?_
            refine ge_seq_ret ?_
            obtain rfl := some_inj hr
            exact ge_result trivial (ResOk.tmp (by kernel_rfl) (ResOk.tmp (by kernel_rfl) ResOk.nil)) (Imm.trans hI2 hI13) ⟨rfl, rfl⟩
          · have hr := cond_f hc22 hr
            refine gk_skip (by kernel_rfl) ?_
            refine ge_block_normal ?_
            refine ge_seq ?_
            refine gk_seq (by kernel_rfl) ?_
            refine gk_seq (by kernel_rfl) ?_
            refine gk_region (by kernel_rfl) ?_
            refine gl_loadB (T' := 24) (xp := (.tmp 6)) (v := .agg #[.string a0.f0, .string a0.f1, .int .i64 a0.f2, .slice A0_3 a0.f3.length n0_3, .slice A0_4 a0.f4.length n0_4]) (g := g1) (off := 0) (cs := #[.string a0.f0, .string a0.f1, .int .i64 a0.f2, .slice A0_3 a0.f3.length n0_3, .slice A0_4 a0.f4.length n0_4]) (e := 24) (fz := (0, 0)) (by kernel_rfl) (by kernel_rfl) (by kernel_rfl) List.mem_cons_self (by kernel_rfl) ?_
            obtain ⟨y23, hx24, hr⟩ := bind_some hr
            refine gl_callQ (by kernel_rfl) (nflog_Right_walk (r := y23) (hG.mono (Imm.trans hI2 hI13)) (hf0_3.mono (Imm.trans hI2 hI13)) (hf0_4.mono (Imm.trans hI2 hI13)) hx24 _) ?_
            refine gl_pure 1 [2, 3, 4, 5, 6, 14] (K' := [(2, .int .i64 a2), (3, .int .i64 a3), (4, .slice A4_0 a4.length n4_0), (5, .slice A5_0 a5.length n5_0), (6, .pointer (some ⟨g1, 0, none⟩)), (14, .int .i64 y23)]) (by kernel_rfl) ?_
            refine gl_atE (by kernel_rfl) ?_
            refine ge_seq ?_
            refine gk_seq (by kernel_rfl) ?_
            refine gk_region (by kernel_rfl) ?_
            refine gl_pure 2 [2, 3, 4, 5, 6, 14, 48] (K' := [(2, .int .i64 a2), (3, .int .i64 a3), (4, .slice A4_0 a4.length n4_0), (5, .slice A5_0 a5.length n5_0), (6, .pointer (some ⟨g1, 0, none⟩)), (14, .int .i64 y23), (48, .bool (y23 != 0))]) (by kernel_rfl) ?_
            refine gl_atE (by kernel_rfl) ?_
            refine ge_seq ?_
            refine gk_cond (b := (y23 != 0)) (by kernel_rfl) (by kernel_rfl) (fun hc25 => ?_) (fun hc25 => ?_)
            · have hr := cond_t hc25 hr
              refine gk_seq (by kernel_rfl) ?_
              refine gk_region (by kernel_rfl) ?_
              refine gl_pure 3 [12, 13] (K' := [(12, .bool false), (13, .int .i64 y23)]) (by kernel_rfl) ?_
              refine gl_atE (by kernel_rfl) ?_
              refine ge_seq ?_
              refine gk_reord (D := L) (Reord.skip (Reord.refl _)) ?_
              refine gk_ret (by kernel_rfl) ?_
              refine ge_seq_ret ?_
              obtain rfl := some_inj hr
              exact ge_result trivial (ResOk.tmp (by kernel_rfl) (ResOk.tmp (by kernel_rfl) ResOk.nil)) (Imm.trans hI2 hI13) ⟨rfl, rfl⟩
            · have hr := cond_f hc25 hr
              refine gk_skip (by kernel_rfl) ?_
              refine ge_seq ?_
              refine gk_seq (by kernel_rfl) ?_
              refine gk_block (by kernel_rfl) ?_
              refine gk_seq (by kernel_rfl) ?_
              refine gk_region (by kernel_rfl) ?_
              refine gl_pure 2 [2, 3, 4, 5, 6, 51, 52] (K' := [(2, .int .i64 a2), (3, .int .i64 a3), (4, .slice A4_0 a4.length n4_0), (5, .slice A5_0 a5.length n5_0), (6, .pointer (some ⟨g1, 0, none⟩)), (51, .slice A4_0 a4.length n4_0), (52, .pointer (some ⟨g1, 3, none⟩))]) (by kernel_rfl) ?_
              refine gl_loadB (T' := 22) (xp := (.tmp 52)) (v := .slice A0_3 a0.f3.length n0_3) (g := g1) (off := 3) (cs := #[.string a0.f0, .string a0.f1, .int .i64 a0.f2, .slice A0_3 a0.f3.length n0_3, .slice A0_4 a0.f4.length n0_4]) (e := 24) (fz := (0, 0)) (by kernel_rfl) (by kernel_rfl) (by kernel_rfl) List.mem_cons_self (by kernel_rfl) ?_
              obtain ⟨y26, hx27, hr⟩ := bind_some hr
              refine gl_callQ (by kernel_rfl) (nflog_Within_walk (r := y26) (hf4_0.mono (Imm.trans hI2 hI13)) (hf0_3.mono (Imm.trans hI2 hI13)) hx27 _) ?_
              refine gl_pure 2 [2, 3, 4, 5, 6, 50] (K' := [(2, .int .i64 a2), (3, .int .i64 a3), (4, .slice A4_0 a4.length n4_0), (5, .slice A5_0 a5.length n5_0), (6, .pointer (some ⟨g1, 0, none⟩)), (50, .bool (!y26))]) (by kernel_rfl) ?_
              refine gl_atE (by kernel_rfl) ?_
              refine ge_seq ?_
              refine gk_cond (b := (!y26)) (by kernel_rfl) (by kernel_rfl) (fun hc28 => ?_) (fun hc28 => ?_)
              · have hr := cond_t hc28 hr
                refine gk_seq (by kernel_rfl) ?_
                refine gk_region (by kernel_rfl) ?_
                refine gl_pure 2 [12, 13] (K' := [(12, .bool true), (13, .int .i64 0)]) (by kernel_rfl) ?_
                refine gl_atE (by kernel_rfl) ?_
                refine ge_seq ?_
                refine gk_reord (D := L) (Reord.skip (Reord.refl _)) ?_
                refine gk_ret (by kernel_rfl) ?_
                refine ge_block_ret ?_
                refine ge_seq_ret ?_
                obtain rfl := some_inj hr
                exact ge_result trivial (ResOk.tmp (by kernel_rfl) (ResOk.tmp (by kernel_rfl) ResOk.nil)) (Imm.trans hI2 hI13) ⟨rfl, rfl⟩
              · have hr := cond_f hc28 hr
                refine gk_seq (by kernel_rfl) ?_
                refine gk_region (by kernel_rfl) ?_
                refine gl_pure 4 [2, 3, 5, 6, 56] (K' := [(2, .int .i64 a2), (3, .int .i64 a3), (5, .slice A5_0 a5.length n5_0), (6, .pointer (some ⟨g1, 0, none⟩)), (56, .bool ((a4.length : Int) == 0))]) (by kernel_rfl) ?_
                refine gl_atE (by kernel_rfl) ?_
                refine ge_seq ?_
                refine gk_cond (b := ((a4.length : Int) == 0)) (by kernel_rfl) (by kernel_rfl) (fun hc29 => ?_) (fun hc29 => ?_)
                · have hr := cond_t hc29 hr
                  refine gk_seq (by kernel_rfl) ?_
                  refine gk_region (by kernel_rfl) ?_
                  refine gl_pure 1 [60] (K' := [(60, .pointer (some ⟨g1, 3, none⟩))]) (by kernel_rfl) ?_
                  refine gl_loadB (T' := 22) (xp := (.tmp 60)) (v := .slice A0_3 a0.f3.length n0_3) (g := g1) (off := 3) (cs := #[.string a0.f0, .string a0.f1, .int .i64 a0.f2, .slice A0_3 a0.f3.length n0_3, .slice A0_4 a0.f4.length n0_4]) (e := 24) (fz := (0, 0)) (by kernel_rfl) (by kernel_rfl) (by kernel_rfl) List.mem_cons_self (by kernel_rfl) ?_
                  refine gl_pure 4 [12, 13] (K' := [(12, .bool (decide ((a0.f3.length : Int) > 0))), (13, .int .i64 0)]) (by kernel_rfl) ?_
                  refine gl_atE (by kernel_rfl) ?_
                  refine ge_seq ?_
                  refine gk_reord (D := L) (Reord.skip (Reord.refl _)) ?_
                  refine gk_ret (by kernel_rfl) ?_
                  refine ge_block_ret ?_
                  refine ge_seq_ret ?_
                  obtain rfl := some_inj hr
                  exact ge_result trivial (ResOk.tmp (by kernel_rfl) (ResOk.tmp (by kernel_rfl) ResOk.nil)) (Imm.trans hI2 hI13) ⟨rfl, rfl⟩
                · have hr := cond_f hc29 hr
                  refine gk_seq (by kernel_rfl) ?_
                  refine gk_region (by kernel_rfl) ?_
                  refine gl_pure 2 [2, 3, 6, 65, 66] (K' := [(2, .int .i64 a2), (3, .int .i64 a3), (6, .pointer (some ⟨g1, 0, none⟩)), (65, .slice A5_0 a5.length n5_0), (66, .pointer (some ⟨g1, 4, none⟩))]) (by kernel_rfl) ?_
                  refine gl_loadB (T' := 22) (xp := (.tmp 66)) (v := .slice A0_4 a0.f4.length n0_4) (g := g1) (off := 4) (cs := #[.string a0.f0, .string a0.f1, .int .i64 a0.f2, .slice A0_3 a0.f3.length n0_3, .slice A0_4 a0.f4.length n0_4]) (e := 24) (fz := (0, 0)) (by kernel_rfl) (by kernel_rfl) (by kernel_rfl) List.mem_cons_self (by kernel_rfl) ?_
                  obtain ⟨y30, hx31, hr⟩ := bind_some hr
                  refine gl_callQ (by kernel_rfl) (nflog_Within_walk (r := y30) (hf5_0.mono (Imm.trans hI2 hI13)) (hf0_4.mono (Imm.trans hI2 hI13)) hx31 _) ?_
                  refine gl_pure 2 [2, 3, 6, 64] (K' := [(2, .int .i64 a2), (3, .int .i64 a3), (6, .pointer (some ⟨g1, 0, none⟩)), (64, .bool (!y30))]) (by kernel_rfl) ?_
                  refine gl_atE (by kernel_rfl) ?_
                  refine ge_seq ?_
                  refine gk_cond (b := (!y30)) (by kernel_rfl) (by kernel_rfl) (fun hc32 => ?_) (fun hc32 => ?_)
                  · have hr := cond_t hc32 hr
                    refine gk_seq (by kernel_rfl) ?_
                    refine gk_region (by kernel_rfl) ?_
                    refine gl_pure 2 [12, 13] (K' := [(12, .bool true), (13, .int .i64 0)]) (by kernel_rfl) ?_
                    refine gl_atE (by kernel_rfl) ?_
                    refine ge_seq ?_
                    refine gk_reord (D := L) (Reord.skip (Reord.refl _)) ?_
                    refine gk_ret (by kernel_rfl) ?_
                    refine ge_block_ret ?_
                    refine ge_seq_ret ?_
                    obtain rfl := some_inj hr
                    exact ge_result trivial (ResOk.tmp (by kernel_rfl) (ResOk.tmp (by kernel_rfl) ResOk.nil)) (Imm.trans hI2 hI13) ⟨rfl, rfl⟩
                  · have hr := cond_f hc32 hr
                    refine gk_skip (by kernel_rfl) ?_
                    refine ge_block_normal ?_
                    refine ge_seq ?_
                    refine gk_seq (by kernel_rfl) ?_
                    refine gk_region (by kernel_rfl) ?_
                    refine gl_pure 1 [2, 3, 70] (K' := [(2, .int .i64 a2), (3, .int .i64 a3), (70, .pointer (some ⟨g1, 2, none⟩))]) (by kernel_rfl) ?_
                    refine gl_loadB (T' := 2) (xp := (.tmp 70)) (v := .int .i64 a0.f2) (g := g1) (off := 2) (cs := #[.string a0.f0, .string a0.f1, .int .i64 a0.f2, .slice A0_3 a0.f3.length n0_3, .slice A0_4 a0.f4.length n0_4]) (e := 24) (fz := (0, 0)) (by kernel_rfl) (by kernel_rfl) (by kernel_rfl) List.mem_cons_self (by kernel_rfl) ?_
                    refine gl_pure 6 [12, 13] (K' := [(12, .bool (decide (a0.f2 ≤ (IntKind.wrap .i64 (a2 - a3))))), (13, .int .i64 0)]) (by kernel_rfl) ?_
                    refine gl_atE (by kernel_rfl) ?_
                    refine ge_seq ?_
                    refine gk_reord (D := L) (Reord.skip (Reord.refl _)) ?_
                    refine gk_ret (by kernel_rfl) ?_
                    obtain rfl := some_inj hr
                    exact ge_result trivial (ResOk.tmp (by kernel_rfl) (ResOk.tmp (by kernel_rfl) ResOk.nil)) (Imm.trans hI2 hI13) ⟨rfl, rfl⟩
/-! 19 tocsinref26_time  -/
noncomputable def tocsinref26_time (a0 : Int) : Bool :=
  ((decide (a0 ≥ 0)) && (decide (a0 ≤ 1125899906842624)))
theorem tocsinref26_time_walk {a0 : Int} {I : Imm} {r : Bool}  (hr : tocsinref26_time a0 = r) (L : Own) :
    CallsTo Tryd.prog 19 #[.int .i64 a0] I L (fun v I' L' => v = .bool r ∧ L = L') := by
  replace hr : some (tocsinref26_time a0) = some r := congrArg some hr
  unfold tocsinref26_time at hr
  refine callsTo_body (N := 9) Tryd.func19 (by kernel_rfl) (by kernel_rfl) (by kernel_rfl) ?_
  refine gk_pick [0] (K' := [(0, .int .i64 a0)]) (by kernel_rfl) ?_
  refine gk_seq (by kernel_rfl) ?_
  refine gk_region (by kernel_rfl) ?_
  refine gl_pure 1 [0] (K' := [(0, .int .i64 a0)]) (by kernel_rfl) ?_
  refine gl_atE (by kernel_rfl) ?_
  refine ge_seq ?_
  refine gk_seq (by kernel_rfl) ?_
  obtain ⟨b3, hb4⟩ : ∃ z, z = ((decide (a0 ≥ 0)) && (decide (a0 ≤ 1125899906842624))) := ⟨_, rfl⟩
  refine gk_join (fun t I' L' => I ≤ I' ∧ L = L' ∧ Knows 9 [(2, .bool b3)] t) ?_ ?_
  · refine gk_region (by kernel_rfl) ?_
    refine gl_pure 3 [0, 5] (K' := [(0, .int .i64 a0), (5, .bool (decide (a0 ≥ 0)))]) (by kernel_rfl) ?_
    refine gl_case 5 (b := (decide (a0 ≥ 0))) (by kernel_rfl) (fun hc6 => ?_) (fun hc6 => ?_)
    · refine gl_pure 4 [2] (K' := [(2, .bool (decide (a0 ≤ 1125899906842624)))]) (by kernel_rfl) ?_
      refine gl_atE (by kernel_rfl) ?_
      exact ge_mid fun t ht => ⟨(Imm.refl _), rfl, by rw [(show b3 = (decide (a0 ≤ 1125899906842624)) from hb4.trans (by first | (rw [hc6]; done) | (rw [hc6]; rfl) | (simp [hc6]; done) | (simp only [hc6]; rfl) | (simp at *; omega)))]; exact ht.pick (l := [2]) (by kernel_rfl)⟩
    · refine gl_pure 4 [2] (K' := [(2, .bool false)]) (by kernel_rfl) ?_
      refine gl_atE (by kernel_rfl) ?_
      exact ge_mid fun t ht => ⟨(Imm.refl _), rfl, by rw [(show b3 = false from hb4.trans (by first | (rw [hc6]; done) | (rw [hc6]; rfl) | (simp [hc6]; done) | (simp only [hc6]; rfl) | (simp at *; omega)))]; exact ht.pick (l := [2]) (by kernel_rfl)⟩
  · rintro t I5 L' ⟨hI1, rfl, hK2⟩
    subst hb4
    refine ge_at hK2 ?_
    refine ge_seq ?_
    refine gk_ret (by kernel_rfl) ?_
    obtain rfl := some_inj hr
    exact ge_result trivial (ResOk.tmp (by kernel_rfl) ResOk.nil) hI1 ⟨rfl, rfl⟩
/-! 85 tocsinref04_letter  -/
noncomputable def tocsinref04_letter (a0 : Int) : Bool :=
  ((((decide (a0 ≥ 97)) && (decide (a0 ≤ 122))) || ((decide (a0 ≥ 65)) && (decide (a0 ≤ 90)))) || (a0 == 95))
theorem tocsinref04_letter_walk {a0 : Int} {I : Imm} {r : Bool}  (hr : tocsinref04_letter a0 = r) (L : Own) :
    CallsTo Tryd.prog 85 #[.int .u8 a0] I L (fun v I' L' => v = .bool r ∧ L = L') := by
  replace hr : some (tocsinref04_letter a0) = some r := congrArg some hr
  unfold tocsinref04_letter at hr
  refine callsTo_body (N := 21) Tryd.func85 (by kernel_rfl) (by kernel_rfl) (by kernel_rfl) ?_
  refine gk_pick [0] (K' := [(0, .int .u8 a0)]) (by kernel_rfl) ?_
  refine gk_seq (by kernel_rfl) ?_
  refine gk_region (by kernel_rfl) ?_
  refine gl_pure 1 [0] (K' := [(0, .int .u8 a0)]) (by kernel_rfl) ?_
  refine gl_atE (by kernel_rfl) ?_
  refine ge_seq ?_
  refine gk_seq (by kernel_rfl) ?_
  obtain ⟨b3, hb4⟩ : ∃ z, z = ((((decide (a0 ≥ 97)) && (decide (a0 ≤ 122))) || ((decide (a0 ≥ 65)) && (decide (a0 ≤ 90)))) || (a0 == 95)) := ⟨_, rfl⟩
  refine gk_join (fun t I' L' => I ≤ I' ∧ L = L' ∧ Knows 21 [(2, .bool b3)] t) ?_ ?_
  · refine gk_region (by kernel_rfl) ?_
    refine gl_pure 3 [0, 5] (K' := [(0, .int .u8 a0), (5, .bool (decide (a0 ≥ 97)))]) (by kernel_rfl) ?_
    refine gl_case 5 (b := (decide (a0 ≥ 97))) (by kernel_rfl) (fun hc6 => ?_) (fun hc6 => ?_)
    · refine gl_pure 4 [0, 9] (K' := [(0, .int .u8 a0), (9, .bool (decide (a0 ≤ 122)))]) (by kernel_rfl) ?_
      refine gl_case 9 (b := (decide (a0 ≤ 122))) (by kernel_rfl) (fun hc7 => ?_) (fun hc7 => ?_)
      · refine gl_pure 12 [2] (K' := [(2, .bool true)]) (by kernel_rfl) ?_
        refine gl_atE (by kernel_rfl) ?_
        exact ge_mid fun t ht => ⟨(Imm.refl _), rfl, by rw [(show b3 = true from hb4.trans (by first | (rw [hc6, hc7]; done) | (rw [hc6, hc7]; rfl) | (simp [hc6, hc7]; done) | (simp only [hc6, hc7]; rfl) | (simp at *; omega)))]; exact ht.pick (l := [2]) (by kernel_rfl)⟩
      · refine gl_pure 3 [0, 9, 12] (K' := [(0, .int .u8 a0), (9, .bool false), (12, .bool (decide (a0 ≥ 65)))]) (by kernel_rfl) ?_
        refine gl_case 12 (b := (decide (a0 ≥ 65))) (by kernel_rfl) (fun hc8 => ?_) (fun hc8 => ?_)
        · refine gl_pure 5 [0, 17] (K' := [(0, .int .u8 a0), (17, .bool (decide (a0 ≤ 90)))]) (by kernel_rfl) ?_
          refine gl_case 17 (b := (decide (a0 ≤ 90))) (by kernel_rfl) (fun hc9 => ?_) (fun hc9 => ?_)
          · refine gl_pure 4 [2] (K' := [(2, .bool true)]) (by kernel_rfl) ?_
            refine gl_atE (by kernel_rfl) ?_
            exact ge_mid fun t ht => ⟨(Imm.refl _), rfl, by rw [(show b3 = true from hb4.trans (by first | (rw [hc6, hc7, hc8, hc9]; done) | (rw [hc6, hc7, hc8, hc9]; rfl) | (simp [hc6, hc7, hc8, hc9]; done) | (simp only [hc6, hc7, hc8, hc9]; rfl) | (simp at *; omega)))]; exact ht.pick (l := [2]) (by kernel_rfl)⟩
          · refine gl_pure 4 [2] (K' := [(2, .bool (a0 == 95))]) (by kernel_rfl) ?_
            refine gl_atE (by kernel_rfl) ?_
            exact ge_mid fun t ht => ⟨(Imm.refl _), rfl, by rw [(show b3 = (a0 == 95) from hb4.trans (by first | (rw [hc6, hc7, hc8, hc9]; done) | (rw [hc6, hc7, hc8, hc9]; rfl) | (simp [hc6, hc7, hc8, hc9]; done) | (simp only [hc6, hc7, hc8, hc9]; rfl) | (simp at *; omega)))]; exact ht.pick (l := [2]) (by kernel_rfl)⟩
        · refine gl_pure 9 [2] (K' := [(2, .bool (a0 == 95))]) (by kernel_rfl) ?_
          refine gl_atE (by kernel_rfl) ?_
          exact ge_mid fun t ht => ⟨(Imm.refl _), rfl, by rw [(show b3 = (a0 == 95) from hb4.trans (by first | (rw [hc6, hc7, hc8]; done) | (rw [hc6, hc7, hc8]; rfl) | (simp [hc6, hc7, hc8]; done) | (simp only [hc6, hc7, hc8]; rfl) | (simp at *; omega)))]; exact ht.pick (l := [2]) (by kernel_rfl)⟩
    · refine gl_pure 7 [0, 9, 12] (K' := [(0, .int .u8 a0), (9, .bool false), (12, .bool (decide (a0 ≥ 65)))]) (by kernel_rfl) ?_
      refine gl_case 12 (b := (decide (a0 ≥ 65))) (by kernel_rfl) (fun hc10 => ?_) (fun hc10 => ?_)
      · refine gl_pure 5 [0, 17] (K' := [(0, .int .u8 a0), (17, .bool (decide (a0 ≤ 90)))]) (by kernel_rfl) ?_
        refine gl_case 17 (b := (decide (a0 ≤ 90))) (by kernel_rfl) (fun hc11 => ?_) (fun hc11 => ?_)
        · refine gl_pure 4 [2] (K' := [(2, .bool true)]) (by kernel_rfl) ?_
          refine gl_atE (by kernel_rfl) ?_
          exact ge_mid fun t ht => ⟨(Imm.refl _), rfl, by rw [(show b3 = true from hb4.trans (by first | (rw [hc6, hc10, hc11]; done) | (rw [hc6, hc10, hc11]; rfl) | (simp [hc6, hc10, hc11]; done) | (simp only [hc6, hc10, hc11]; rfl) | (simp at *; omega)))]; exact ht.pick (l := [2]) (by kernel_rfl)⟩
        · refine gl_pure 4 [2] (K' := [(2, .bool (a0 == 95))]) (by kernel_rfl) ?_
          refine gl_atE (by kernel_rfl) ?_
          exact ge_mid fun t ht => ⟨(Imm.refl _), rfl, by rw [(show b3 = (a0 == 95) from hb4.trans (by first | (rw [hc6, hc10, hc11]; done) | (rw [hc6, hc10, hc11]; rfl) | (simp [hc6, hc10, hc11]; done) | (simp only [hc6, hc10, hc11]; rfl) | (simp at *; omega)))]; exact ht.pick (l := [2]) (by kernel_rfl)⟩
      · refine gl_pure 9 [2] (K' := [(2, .bool (a0 == 95))]) (by kernel_rfl) ?_
        refine gl_atE (by kernel_rfl) ?_
        exact ge_mid fun t ht => ⟨(Imm.refl _), rfl, by rw [(show b3 = (a0 == 95) from hb4.trans (by first | (rw [hc6, hc10]; done) | (rw [hc6, hc10]; rfl) | (simp [hc6, hc10]; done) | (simp only [hc6, hc10]; rfl) | (simp at *; omega)))]; exact ht.pick (l := [2]) (by kernel_rfl)⟩
  · rintro t I5 L' ⟨hI1, rfl, hK2⟩
    subst hb4
    refine ge_at hK2 ?_
    refine ge_seq ?_
    refine gk_ret (by kernel_rfl) ?_
    obtain rfl := some_inj hr
    exact ge_result trivial (ResOk.tmp (by kernel_rfl) ResOk.nil) hI1 ⟨rfl, rfl⟩
/-! 86 tocsinref04_digit  -/
noncomputable def tocsinref04_digit (a0 : Int) : Bool :=
  ((decide (a0 ≥ 48)) && (decide (a0 ≤ 57)))
theorem tocsinref04_digit_walk {a0 : Int} {I : Imm} {r : Bool}  (hr : tocsinref04_digit a0 = r) (L : Own) :
    CallsTo Tryd.prog 86 #[.int .u8 a0] I L (fun v I' L' => v = .bool r ∧ L = L') := by
  replace hr : some (tocsinref04_digit a0) = some r := congrArg some hr
  unfold tocsinref04_digit at hr
  refine callsTo_body (N := 9) Tryd.func86 (by kernel_rfl) (by kernel_rfl) (by kernel_rfl) ?_
  refine gk_pick [0] (K' := [(0, .int .u8 a0)]) (by kernel_rfl) ?_
  refine gk_seq (by kernel_rfl) ?_
  refine gk_region (by kernel_rfl) ?_
  refine gl_pure 1 [0] (K' := [(0, .int .u8 a0)]) (by kernel_rfl) ?_
  refine gl_atE (by kernel_rfl) ?_
  refine ge_seq ?_
  refine gk_seq (by kernel_rfl) ?_
  obtain ⟨b3, hb4⟩ : ∃ z, z = ((decide (a0 ≥ 48)) && (decide (a0 ≤ 57))) := ⟨_, rfl⟩
  refine gk_join (fun t I' L' => I ≤ I' ∧ L = L' ∧ Knows 9 [(2, .bool b3)] t) ?_ ?_
  · refine gk_region (by kernel_rfl) ?_
    refine gl_pure 3 [0, 5] (K' := [(0, .int .u8 a0), (5, .bool (decide (a0 ≥ 48)))]) (by kernel_rfl) ?_
    refine gl_case 5 (b := (decide (a0 ≥ 48))) (by kernel_rfl) (fun hc6 => ?_) (fun hc6 => ?_)
    · refine gl_pure 4 [2] (K' := [(2, .bool (decide (a0 ≤ 57)))]) (by kernel_rfl) ?_
      refine gl_atE (by kernel_rfl) ?_
      exact ge_mid fun t ht => ⟨(Imm.refl _), rfl, by rw [(show b3 = (decide (a0 ≤ 57)) from hb4.trans (by first | (rw [hc6]; done) | (rw [hc6]; rfl) | (simp [hc6]; done) | (simp only [hc6]; rfl) | (simp at *; omega)))]; exact ht.pick (l := [2]) (by kernel_rfl)⟩
    · refine gl_pure 4 [2] (K' := [(2, .bool false)]) (by kernel_rfl) ?_
      refine gl_atE (by kernel_rfl) ?_
      exact ge_mid fun t ht => ⟨(Imm.refl _), rfl, by rw [(show b3 = false from hb4.trans (by first | (rw [hc6]; done) | (rw [hc6]; rfl) | (simp [hc6]; done) | (simp only [hc6]; rfl) | (simp at *; omega)))]; exact ht.pick (l := [2]) (by kernel_rfl)⟩
  · rintro t I5 L' ⟨hI1, rfl, hK2⟩
    subst hb4
    refine ge_at hK2 ?_
    refine ge_seq ?_
    refine gk_ret (by kernel_rfl) ?_
    obtain rfl := some_inj hr
    exact ge_result trivial (ResOk.tmp (by kernel_rfl) ResOk.nil) hI1 ⟨rfl, rfl⟩
/-! 71 tocsinref04_Name  -/
noncomputable def tocsinref04_Name_l24 (a0 : ByteArray) : Int → Option ((Int) ⊕ ((Unit) ⊕ (Bool))) := fun s14 =>
  bif (decide (s14 < (a0.size : Int))) then
  (Option.bind (Option.bind (bx a0 s14) fun (c32 : Int) =>
      bif (!(tocsinref04_letter c32)) then
      (bif (s14 == 0) then
        (some true)
        else
        (Option.bind (bx a0 s14) fun (c36 : Int) =>
          some (!(tocsinref04_digit c36))))
      else
      (some false)) fun (j27 : Bool) =>
    bif j27 then
    (some (Sum.inr (Sum.inr false)))
    else
    (some (Sum.inl (IntKind.wrap .i64 (s14 + 1)))))
  else
  (some (Sum.inr (Sum.inl ())))
noncomputable def tocsinref04_Name (a0 : ByteArray) : Option Bool :=
  bif ((a0.toList == (⟨#[]⟩ : ByteArray).toList) || (decide ((a0.size : Int) > 64))) then
  (some false)
  else
  (Option.bind (loopO (tocsinref04_Name_l24 a0) 0) fun (r12 : (Unit) ⊕ (Bool)) =>
    match r12 with
    | Sum.inl r20 => some true
    | Sum.inr v39 => some v39)
theorem tocsinref04_Name_walk {a0 : ByteArray} {I : Imm} {r : Bool}  (hr : tocsinref04_Name a0 = some r) (L : Own) :
    CallsTo Tryd.prog 71 #[.string a0] I L (fun v I' L' => v = .bool r ∧ L = L') := by
  unfold tocsinref04_Name at hr
  refine callsTo_body (N := 33) Tryd.func71 (by kernel_rfl) (by kernel_rfl) (by kernel_rfl) ?_
  refine gk_pick [0] (K' := [(0, .string a0)]) (by kernel_rfl) ?_
  refine gk_seq (by kernel_rfl) ?_
  refine gk_region (by kernel_rfl) ?_
  refine gl_pure 1 [0] (K' := [(0, .string a0)]) (by kernel_rfl) ?_
  refine gl_atE (by kernel_rfl) ?_
  refine ge_seq ?_
  refine gk_seq (by kernel_rfl) ?_
  refine gk_seq (by kernel_rfl) ?_
  obtain ⟨b3, hb4⟩ : ∃ z, z = ((a0.toList == (⟨#[]⟩ : ByteArray).toList) || (decide ((a0.size : Int) > 64))) := ⟨_, rfl⟩
  refine gk_join (fun t I' L' => I ≤ I' ∧ L = L' ∧ Knows 33 [(0, .string a0), (10, .bool b3)] t) ?_ ?_
  · refine gk_region (by kernel_rfl) ?_
    refine gl_pure 3 [0, 6] (K' := [(0, .string a0), (6, .bool (a0.toList == (⟨#[]⟩ : ByteArray).toList))]) (by kernel_rfl) ?_
    refine gl_case 6 (b := (a0.toList == (⟨#[]⟩ : ByteArray).toList)) (by kernel_rfl) (fun hc6 => ?_) (fun hc6 => ?_)
    · refine gl_pure 4 [0, 10] (K' := [(0, .string a0), (10, .bool true)]) (by kernel_rfl) ?_
      refine gl_atE (by kernel_rfl) ?_
      exact ge_mid fun t ht => ⟨(Imm.refl _), rfl, by rw [(show b3 = true from hb4.trans (by first | (rw [hc6]; done) | (rw [hc6]; rfl) | (simp [hc6]; done) | (simp only [hc6]; rfl) | (simp at *; omega)))]; exact ht.pick (l := [0, 10]) (by kernel_rfl)⟩
    · refine gl_pure 4 [0, 10] (K' := [(0, .string a0), (10, .bool (decide ((a0.size : Int) > 64)))]) (by kernel_rfl) ?_
      refine gl_atE (by kernel_rfl) ?_
      exact ge_mid fun t ht => ⟨(Imm.refl _), rfl, by rw [(show b3 = (decide ((a0.size : Int) > 64)) from hb4.trans (by first | (rw [hc6]; done) | (rw [hc6]; rfl) | (simp [hc6]; done) | (simp only [hc6]; rfl) | (simp at *; omega)))]; exact ht.pick (l := [0, 10]) (by kernel_rfl)⟩
  · rintro t I5 L' ⟨hI1, rfl, hK2⟩
    subst hb4
    refine ge_at hK2 ?_
    refine ge_seq ?_
    refine gk_cond (b := ((a0.toList == (⟨#[]⟩ : ByteArray).toList) || (decide ((a0.size : Int) > 64)))) (by kernel_rfl) (by kernel_rfl) (fun hc7 => ?_) (fun hc7 => ?_)
    · have hr := cond_t hc7 hr
      refine gk_seq (by kernel_rfl) ?_
      refine gk_region (by kernel_rfl) ?_
      refine gl_pure 1 [2] (K' := [(2, .bool false)]) (by kernel_rfl) ?_
      refine gl_atE (by kernel_rfl) ?_
      refine ge_seq ?_
      refine gk_ret (by kernel_rfl) ?_
      refine ge_seq_ret ?_
      obtain rfl := some_inj hr
      exact ge_result trivial (ResOk.tmp (by kernel_rfl) ResOk.nil) hI1 ⟨rfl, rfl⟩
    · have hr := cond_f hc7 hr
      refine gk_skip (by kernel_rfl) ?_
      refine ge_seq ?_
      refine gk_seq (by kernel_rfl) ?_
      refine gk_seq (by kernel_rfl) ?_
      refine gk_region (by kernel_rfl) ?_
      refine gl_pure 3 [0, 12, 13] (K' := [(0, .string a0), (12, .int .i64 (a0.size : Int)), (13, .int .i64 0)]) (by kernel_rfl) ?_
      refine gl_atE (by kernel_rfl) ?_
      refine ge_seq ?_
      obtain ⟨r12, hl13, hr⟩ := bind_some hr
      refine gk_join (fun t I' L' => ∃ r20, r12 = Sum.inl r20 ∧ I5 ≤ I' ∧ L = L' ∧ Knows 33 [] t) ?_ ?_
      · refine gk_block (by kernel_rfl) ?_
        refine gk_pick [0, 12, 13] (K' := [(0, .string a0), (12, .int .i64 (a0.size : Int)), (13, .int .i64 0)]) (by kernel_rfl) ?_
        intro t hK
        refine gc_loop (tocsinref04_Name_l24 a0) (fun s14 t I' L' => I5 ≤ I' ∧ L = L' ∧ Knows 33 [(0, .string a0), (12, .int .i64 (a0.size : Int)), (13, .int .i64 s14)] t) (by kernel_rfl) ?_ hl13 ⟨(Imm.refl _), rfl, hK⟩
        rintro s14 o15 t I19 L' hb16 ⟨hI17, rfl, hK18⟩
        unfold tocsinref04_Name_l24 at hb16
        refine gk_at hK18 ?_
        refine gk_seq (by kernel_rfl) ?_
        refine gk_region (by kernel_rfl) ?_
        refine gl_pure 1 [0, 12, 13, 14] (K' := [(0, .string a0), (12, .int .i64 (a0.size : Int)), (13, .int .i64 s14), (14, .bool (decide (s14 < (a0.size : Int))))]) (by kernel_rfl) ?_
        refine gl_atE (by kernel_rfl) ?_
        refine ge_seq ?_
        refine gk_seq (by kernel_rfl) ?_
        refine gk_cond (b := (decide (s14 < (a0.size : Int)))) (by kernel_rfl) (by kernel_rfl) (fun hc26 => ?_) (fun hc26 => ?_)
        · have hb16 := cond_t hc26 hb16
          refine gk_skip (by kernel_rfl) ?_
          refine ge_seq ?_
          refine gk_seq (by kernel_rfl) ?_
          refine gk_block (by kernel_rfl) ?_
          refine gk_seq (by kernel_rfl) ?_
          refine gk_region (by kernel_rfl) ?_
          refine gl_pure 2 [0, 3, 12, 13] (K' := [(0, .string a0), (3, .int .i64 s14), (12, .int .i64 (a0.size : Int)), (13, .int .i64 s14)]) (by kernel_rfl) ?_
          refine gl_atE (by kernel_rfl) ?_
          refine ge_seq ?_
          refine gk_seq (by kernel_rfl) ?_
          obtain ⟨j27, hj28, hb16⟩ := bind_some hb16
          refine gk_join (fun t I' L' => I19 ≤ I' ∧ L = L' ∧ Knows 33 [(0, .string a0), (12, .int .i64 (a0.size : Int)), (13, .int .i64 s14), (31, .bool j27)] t) ?_ ?_
          · refine gk_region (by kernel_rfl) ?_
            refine gl_pure 2 [0, 3, 12, 13, 16, 17] (K' := [(0, .string a0), (3, .int .i64 s14), (12, .int .i64 (a0.size : Int)), (13, .int .i64 s14), (16, .string a0), (17, .int .i64 s14)]) (by kernel_rfl) ?_
            obtain ⟨c32, hx33, hj28⟩ := bind_some hj28
            refine gl_index' (T' := 9) (xs := (.tmp 16)) (xi := (.tmp 17)) (kd := .i64) hx33 (by kernel_rfl) (by kernel_rfl) (by kernel_rfl) (by kernel_rfl) (by kernel_rfl) ?_
            refine gl_callQ (by kernel_rfl) (tocsinref04_letter_walk (r := (tocsinref04_letter c32))  rfl _) ?_
            refine gl_pure 2 [0, 3, 12, 13, 21] (K' := [(0, .string a0), (3, .int .i64 s14), (12, .int .i64 (a0.size : Int)), (13, .int .i64 s14), (21, .bool (!(tocsinref04_letter c32)))]) (by kernel_rfl) ?_
            refine gl_case 21 (b := (!(tocsinref04_letter c32))) (by kernel_rfl) (fun hc34 => ?_) (fun hc34 => ?_)
            · have hj28 := cond_t hc34 hj28
              refine gl_pure 3 [0, 3, 12, 13, 21, 24] (K' := [(0, .string a0), (3, .int .i64 s14), (12, .int .i64 (a0.size : Int)), (13, .int .i64 s14), (21, .bool true), (24, .bool (s14 == 0))]) (by kernel_rfl) ?_
              refine gl_case 24 (b := (s14 == 0)) (by kernel_rfl) (fun hc35 => ?_) (fun hc35 => ?_)
              · have hj28 := cond_t hc35 hj28
                refine gl_pure 7 [0, 12, 13, 31] (K' := [(0, .string a0), (12, .int .i64 (a0.size : Int)), (13, .int .i64 s14), (31, .bool true)]) (by kernel_rfl) ?_
                refine gl_atE (by kernel_rfl) ?_
                obtain rfl := some_inj hj28
                exact ge_mid fun t ht => ⟨(Imm.refl _), rfl, ht.pick (l := [0, 12, 13, 31]) (by kernel_rfl)⟩
              · have hj28 := cond_f hc35 hj28
                refine gl_pure 2 [0, 12, 13, 21, 24, 25, 26] (K' := [(0, .string a0), (12, .int .i64 (a0.size : Int)), (13, .int .i64 s14), (21, .bool true), (24, .bool false), (25, .string a0), (26, .int .i64 s14)]) (by kernel_rfl) ?_
                obtain ⟨c36, hx37, hj28⟩ := bind_some hj28
                refine gl_index' (T' := 9) (xs := (.tmp 25)) (xi := (.tmp 26)) (kd := .i64) hx37 (by kernel_rfl) (by kernel_rfl) (by kernel_rfl) (by kernel_rfl) (by kernel_rfl) ?_
                refine gl_callQ (by kernel_rfl) (tocsinref04_digit_walk (r := (tocsinref04_digit c36))  rfl _) ?_
                refine gl_pure 3 [0, 12, 13, 31] (K' := [(0, .string a0), (12, .int .i64 (a0.size : Int)), (13, .int .i64 s14), (31, .bool (!(tocsinref04_digit c36)))]) (by kernel_rfl) ?_
                refine gl_atE (by kernel_rfl) ?_
                obtain rfl := some_inj hj28
                exact ge_mid fun t ht => ⟨(Imm.refl _), rfl, ht.pick (l := [0, 12, 13, 31]) (by kernel_rfl)⟩
            · have hj28 := cond_f hc34 hj28
              refine gl_pure 10 [0, 12, 13, 31] (K' := [(0, .string a0), (12, .int .i64 (a0.size : Int)), (13, .int .i64 s14), (31, .bool false)]) (by kernel_rfl) ?_
              refine gl_atE (by kernel_rfl) ?_
              obtain rfl := some_inj hj28
              exact ge_mid fun t ht => ⟨(Imm.refl _), rfl, ht.pick (l := [0, 12, 13, 31]) (by kernel_rfl)⟩
          · rintro t I31 L' ⟨hI29, rfl, hK30⟩
            refine ge_at hK30 ?_
            refine ge_seq ?_
            refine gk_cond (b := j27) (by kernel_rfl) (by kernel_rfl) (fun hc38 => ?_) (fun hc38 => ?_)
            · have hb16 := cond_t hc38 hb16
              refine gk_seq (by kernel_rfl) ?_
              refine gk_region (by kernel_rfl) ?_
              refine gl_pure 1 [2] (K' := [(2, .bool false)]) (by kernel_rfl) ?_
              refine gl_atE (by kernel_rfl) ?_
              refine ge_seq ?_
              refine gk_ret (by kernel_rfl) ?_
              refine ge_block_ret ?_
              refine ge_seq_ret ?_
              obtain rfl := some_inj hb16
              refine ge_round_out (fun hrr => ?_) (by intro h; cases h)
              obtain rfl := hrr
              refine ge_block_ret ?_
              refine ge_seq_ret ?_
              refine ge_seq_ret ?_
              obtain rfl := some_inj hr
              exact ge_result trivial (ResOk.tmp (by kernel_rfl) ResOk.nil) (Imm.trans (Imm.trans hI1 hI17) hI29) ⟨rfl, rfl⟩
            · have hb16 := cond_f hc38 hb16
              refine gk_skip (by kernel_rfl) ?_
              refine ge_block_normal ?_
              refine ge_seq ?_
              refine gk_region (by kernel_rfl) ?_
              refine gl_pure 2 [0, 12, 13] (K' := [(0, .string a0), (12, .int .i64 (a0.size : Int)), (13, .int .i64 (IntKind.wrap .i64 (s14 + 1)))]) (by kernel_rfl) ?_
              refine gl_atE (by kernel_rfl) ?_
              obtain rfl := some_inj hb16
              exact ge_round fun t ht => ⟨(Imm.trans hI17 hI29), rfl, ht.pick (l := [0, 12, 13]) (by kernel_rfl)⟩
        · have hb16 := cond_f hc26 hb16
          refine gk_exit (by kernel_rfl) ?_
          refine ge_seq_exit ?_
          obtain rfl := some_inj hb16
          refine ge_round_out (fun hrr => ?_) (by intro h; cases h)
          obtain rfl := hrr
          refine ge_block_hit (by kernel_rfl) ?_
          exact ge_mid fun t ht => ⟨_, rfl, hI17, rfl, ht.pick (l := []) (by kernel_rfl)⟩
      · rintro t I23 L' ⟨r20, rfl, hI21, rfl, hK22⟩
        refine ge_at hK22 ?_
        refine ge_seq ?_
        refine gk_seq (by kernel_rfl) ?_
        refine gk_region (by kernel_rfl) ?_
        refine gl_pure 1 [2] (K' := [(2, .bool true)]) (by kernel_rfl) ?_
        refine gl_atE (by kernel_rfl) ?_
        refine ge_seq ?_
        refine gk_ret (by kernel_rfl) ?_
        obtain rfl := some_inj hr
        exact ge_result trivial (ResOk.tmp (by kernel_rfl) ResOk.nil) (Imm.trans hI1 hI21) ⟨rfl, rfl⟩
/-! 23 tocsinref01_Utf8  -/
noncomputable def tocsinref01_Utf8_l79 (a0 : ByteArray) (s7 : Int) (j37 : Int × Int × Int) : (Int × Int) → Option ((Int × Int) ⊕ ((Int) ⊕ ((Int) ⊕ ((Int) ⊕ ((Unit) ⊕ (Bool)))))) := fun s69 =>
  bif (decide (s69.2 ≤ j37.1)) then
  (Option.bind (bif (decide ((IntKind.wrap .i64 (s7 + s69.2)) ≥ (a0.size : Int))) then
      (some true)
      else
      (Option.bind (bx a0 (IntKind.wrap .i64 (s7 + s69.2))) fun (c88 : Int) =>
        some ((bitAnd .u8 c88 192) != 128))) fun (j82 : Bool) =>
    bif j82 then
    (some (Sum.inr (Sum.inr (Sum.inr (Sum.inr (Sum.inr false))))))
    else
    (Option.bind (bx a0 (IntKind.wrap .i64 (s7 + s69.2))) fun (c91 : Int) =>
      some (Sum.inl ((IntKind.wrap .i64 ((IntKind.wrap .i64 (s69.1 * 64)) + (IntKind.wrap .i64 (bitAnd .u8 c91 63)))), (IntKind.wrap .i64 (s69.2 + 1))))))
  else
  (some (Sum.inr (Sum.inl s69.1)))
noncomputable def tocsinref01_Utf8_l17 (a0 : ByteArray) : Int → Option ((Int) ⊕ ((Unit) ⊕ (Bool))) := fun s7 =>
  bif (decide (s7 < (a0.size : Int))) then
  (Option.bind ((Option.bind (bx a0 s7) fun (c26 : Int) =>
      bif (decide ((IntKind.wrap .i64 c26) < 128)) then
      (some (Sum.inl (IntKind.wrap .i64 (s7 + 1))))
      else
      (Option.bind ((bif ((decide ((IntKind.wrap .i64 c26) ≥ 194)) && (decide ((IntKind.wrap .i64 c26) < 224))) then
          (some (Sum.inl (1, 128, (bitAnd .i64 (IntKind.wrap .i64 c26) 31))))
          else
          (Option.bind ((bif ((decide ((IntKind.wrap .i64 c26) ≥ 224)) && (decide ((IntKind.wrap .i64 c26) < 240))) then
              (some (Sum.inl (2, 2048, (bitAnd .i64 (IntKind.wrap .i64 c26) 15))))
              else
              (bif ((decide ((IntKind.wrap .i64 c26) ≥ 240)) && (decide ((IntKind.wrap .i64 c26) < 245))) then
                (some (Sum.inl (3, 65536, (bitAnd .i64 (IntKind.wrap .i64 c26) 7))))
                else
                (some (Sum.inr (Sum.inr (Sum.inr (Sum.inr (Sum.inr false))))))) : Option ((Int × Int × Int) ⊕ ((Int × Int × Int) ⊕ ((Int) ⊕ ((Int) ⊕ ((Unit) ⊕ (Bool)))))))) fun (j48 : (Int × Int × Int) ⊕ ((Int × Int × Int) ⊕ ((Int) ⊕ ((Int) ⊕ ((Unit) ⊕ (Bool)))))) =>
            match j48 with
            | Sum.inl j50 => some (Sum.inl (j50.1, j50.2.1, j50.2.2))
            | Sum.inr v62 => some v62) : Option ((Int × Int × Int) ⊕ ((Int) ⊕ ((Int) ⊕ ((Unit) ⊕ (Bool))))))) fun (j35 : (Int × Int × Int) ⊕ ((Int) ⊕ ((Int) ⊕ ((Unit) ⊕ (Bool))))) =>
        match j35 with
        | Sum.inl j37 => Option.bind (loopO (tocsinref01_Utf8_l79 a0 s7 j37) (j37.2.2, 1)) fun (r67 : (Int) ⊕ ((Int) ⊕ ((Int) ⊕ ((Unit) ⊕ (Bool))))) =>
          match r67 with
          | Sum.inl r75 => bif (((decide (r75 < j37.2.1)) || (decide (r75 > 1114111))) || ((decide (r75 ≥ 55296)) && (decide (r75 < 57344)))) then
            (some (Sum.inr (Sum.inr (Sum.inr false))))
            else
            (some (Sum.inl (IntKind.wrap .i64 ((IntKind.wrap .i64 (s7 + j37.1)) + 1))))
          | Sum.inr v102 => some v102
        | Sum.inr v103 => some v103) : Option ((Int) ⊕ ((Int) ⊕ ((Unit) ⊕ (Bool)))))) fun (j20 : (Int) ⊕ ((Int) ⊕ ((Unit) ⊕ (Bool)))) =>
    match j20 with
    | Sum.inl j22 => some (Sum.inl j22)
    | Sum.inr v104 => some v104)
  else
  (some (Sum.inr (Sum.inl ())))
noncomputable def tocsinref01_Utf8 (a0 : ByteArray) : Option Bool :=
  Option.bind (loopO (tocsinref01_Utf8_l17 a0) 0) fun (r5 : (Unit) ⊕ (Bool)) =>
  match r5 with
  | Sum.inl r13 => some true
  | Sum.inr v105 => some v105
theorem tocsinref01_Utf8_walk {a0 : ByteArray} {I : Imm} {r : Bool}  (hr : tocsinref01_Utf8 a0 = some r) (L : Own) :
    CallsTo Tryd.prog 23 #[.string a0] I L (fun v I' L' => v = .bool r ∧ L = L') := by
  unfold tocsinref01_Utf8 at hr
  refine callsTo_body (N := 98) Tryd.func23 (by kernel_rfl) (by kernel_rfl) (by kernel_rfl) ?_
  refine gk_pick [0] (K' := [(0, .string a0)]) (by kernel_rfl) ?_
  refine gk_seq (by kernel_rfl) ?_
  refine gk_region (by kernel_rfl) ?_
  refine gl_pure 1 [0] (K' := [(0, .string a0)]) (by kernel_rfl) ?_
  refine gl_atE (by kernel_rfl) ?_
  refine ge_seq ?_
  refine gk_seq (by kernel_rfl) ?_
  refine gk_seq (by kernel_rfl) ?_
  refine gk_region (by kernel_rfl) ?_
  refine gl_pure 1 [0, 3] (K' := [(0, .string a0), (3, .int .i64 0)]) (by kernel_rfl) ?_
  refine gl_atE (by kernel_rfl) ?_
  refine ge_seq ?_
  obtain ⟨r5, hl6, hr⟩ := bind_some hr
  refine gk_join (fun t I' L' => ∃ r13, r5 = Sum.inl r13 ∧ I ≤ I' ∧ L = L' ∧ Knows 98 [] t) ?_ ?_
  · refine gk_block (by kernel_rfl) ?_
    refine gk_pick [0, 3] (K' := [(0, .string a0), (3, .int .i64 0)]) (by kernel_rfl) ?_
    intro t hK
    refine gc_loop (tocsinref01_Utf8_l17 a0) (fun s7 t I' L' => I ≤ I' ∧ L = L' ∧ Knows 98 [(0, .string a0), (3, .int .i64 s7)] t) (by kernel_rfl) ?_ hl6 ⟨(Imm.refl _), rfl, hK⟩
    rintro s7 o8 t I12 L' hb9 ⟨hI10, rfl, hK11⟩
    unfold tocsinref01_Utf8_l17 at hb9
    refine gk_at hK11 ?_
    refine gk_seq (by kernel_rfl) ?_
    refine gk_seq (by kernel_rfl) ?_
    refine gk_region (by kernel_rfl) ?_
    refine gl_pure 4 [0, 3, 12] (K' := [(0, .string a0), (3, .int .i64 s7), (12, .bool (decide (s7 < (a0.size : Int))))]) (by kernel_rfl) ?_
    refine gl_atE (by kernel_rfl) ?_
    refine ge_seq ?_
    refine gk_cond (b := (decide (s7 < (a0.size : Int)))) (by kernel_rfl) (by kernel_rfl) (fun hc19 => ?_) (fun hc19 => ?_)
    · have hb9 := cond_t hc19 hb9
      refine gk_skip (by kernel_rfl) ?_
      refine ge_seq ?_
      obtain ⟨j20, hj21, hb9⟩ := bind_some hb9
      refine gk_join (fun t I' L' => ∃ j22, j20 = Sum.inl j22 ∧ I12 ≤ I' ∧ L = L' ∧ Knows 98 [(0, .string a0), (3, .int .i64 j22)] t) ?_ ?_
      · refine gk_block (by kernel_rfl) ?_
        refine gk_seq (by kernel_rfl) ?_
        refine gk_region (by kernel_rfl) ?_
        refine gl_pure 2 [0, 3, 13, 14] (K' := [(0, .string a0), (3, .int .i64 s7), (13, .string a0), (14, .int .i64 s7)]) (by kernel_rfl) ?_
        obtain ⟨c26, hx27, hj21⟩ := bind_some hj21
        refine gl_index' (T' := 9) (xs := (.tmp 13)) (xi := (.tmp 14)) (kd := .i64) hx27 (by kernel_rfl) (by kernel_rfl) (by kernel_rfl) (by kernel_rfl) (by kernel_rfl) ?_
        refine gl_pure 2 [0, 3, 4] (K' := [(0, .string a0), (3, .int .i64 s7), (4, .int .i64 (IntKind.wrap .i64 c26))]) (by kernel_rfl) ?_
        refine gl_atE (by kernel_rfl) ?_
        refine ge_seq ?_
        refine gk_seq (by kernel_rfl) ?_
        refine gk_region (by kernel_rfl) ?_
        refine gl_pure 1 [0, 3, 4] (K' := [(0, .string a0), (3, .int .i64 s7), (4, .int .i64 (IntKind.wrap .i64 c26))]) (by kernel_rfl) ?_
        refine gl_atE (by kernel_rfl) ?_
        refine ge_seq ?_
        refine gk_seq (by kernel_rfl) ?_
        refine gk_region (by kernel_rfl) ?_
        refine gl_pure 1 [0, 3, 4] (K' := [(0, .string a0), (3, .int .i64 s7), (4, .int .i64 (IntKind.wrap .i64 c26))]) (by kernel_rfl) ?_
        refine gl_atE (by kernel_rfl) ?_
        refine ge_seq ?_
        refine gk_seq (by kernel_rfl) ?_
        refine gk_region (by kernel_rfl) ?_
        refine gl_pure 1 [0, 3, 4] (K' := [(0, .string a0), (3, .int .i64 s7), (4, .int .i64 (IntKind.wrap .i64 c26))]) (by kernel_rfl) ?_
        refine gl_atE (by kernel_rfl) ?_
        refine ge_seq ?_
        refine gk_seq (by kernel_rfl) ?_
        refine gk_block (by kernel_rfl) ?_
        refine gk_seq (by kernel_rfl) ?_
        refine gk_region (by kernel_rfl) ?_
        refine gl_pure 3 [0, 3, 4, 17] (K' := [(0, .string a0), (3, .int .i64 s7), (4, .int .i64 (IntKind.wrap .i64 c26)), (17, .bool (decide ((IntKind.wrap .i64 c26) < 128)))]) (by kernel_rfl) ?_
        refine gl_atE (by kernel_rfl) ?_
        refine ge_seq ?_
        refine gk_cond (b := (decide ((IntKind.wrap .i64 c26) < 128))) (by kernel_rfl) (by kernel_rfl) (fun hc28 => ?_) (fun hc28 => ?_)
        · have hj21 := cond_t hc28 hj21
          refine gk_seq (by kernel_rfl) ?_
          refine gk_region (by kernel_rfl) ?_
          refine gl_pure 3 [0, 3] (K' := [(0, .string a0), (3, .int .i64 (IntKind.wrap .i64 (s7 + 1)))]) (by kernel_rfl) ?_
          refine gl_atE (by kernel_rfl) ?_
          refine ge_seq ?_
          refine gk_exit (by kernel_rfl) ?_
          refine ge_block_miss (by kernel_rfl) ?_
          refine ge_seq_exit ?_
          refine ge_block_hit (by kernel_rfl) ?_
          obtain rfl := some_inj hj21
          exact ge_mid fun t ht => ⟨_, rfl, (Imm.refl _), rfl, ht.pick (l := [0, 3]) (by kernel_rfl)⟩
        · have hj21 := cond_f hc28 hj21
          refine gk_seq (by kernel_rfl) ?_
          obtain ⟨b31, hb32⟩ : ∃ z, z = ((decide ((IntKind.wrap .i64 c26) ≥ 194)) && (decide ((IntKind.wrap .i64 c26) < 224))) := ⟨_, rfl⟩
          refine gk_join (fun t I' L' => I12 ≤ I' ∧ L = L' ∧ Knows 98 [(0, .string a0), (3, .int .i64 s7), (4, .int .i64 (IntKind.wrap .i64 c26)), (22, .bool b31)] t) ?_ ?_
          · refine gk_region (by kernel_rfl) ?_
            refine gl_pure 3 [0, 3, 4, 25] (K' := [(0, .string a0), (3, .int .i64 s7), (4, .int .i64 (IntKind.wrap .i64 c26)), (25, .bool (decide ((IntKind.wrap .i64 c26) ≥ 194)))]) (by kernel_rfl) ?_
            refine gl_case 25 (b := (decide ((IntKind.wrap .i64 c26) ≥ 194))) (by kernel_rfl) (fun hc34 => ?_) (fun hc34 => ?_)
            · refine gl_pure 4 [0, 3, 4, 22] (K' := [(0, .string a0), (3, .int .i64 s7), (4, .int .i64 (IntKind.wrap .i64 c26)), (22, .bool (decide ((IntKind.wrap .i64 c26) < 224)))]) (by kernel_rfl) ?_
              refine gl_atE (by kernel_rfl) ?_
              exact ge_mid fun t ht => ⟨(Imm.refl _), rfl, by rw [(show b31 = (decide ((IntKind.wrap .i64 c26) < 224)) from hb32.trans (by first | (rw [hc34]; done) | (rw [hc34]; rfl) | (simp [hc34]; done) | (simp only [hc34]; rfl) | (simp at *; omega)))]; exact ht.pick (l := [0, 3, 4, 22]) (by kernel_rfl)⟩
            · refine gl_pure 4 [0, 3, 4, 22] (K' := [(0, .string a0), (3, .int .i64 s7), (4, .int .i64 (IntKind.wrap .i64 c26)), (22, .bool false)]) (by kernel_rfl) ?_
              refine gl_atE (by kernel_rfl) ?_
              exact ge_mid fun t ht => ⟨(Imm.refl _), rfl, by rw [(show b31 = false from hb32.trans (by first | (rw [hc34]; done) | (rw [hc34]; rfl) | (simp [hc34]; done) | (simp only [hc34]; rfl) | (simp at *; omega)))]; exact ht.pick (l := [0, 3, 4, 22]) (by kernel_rfl)⟩
          · rintro t I33 L' ⟨hI29, rfl, hK30⟩
            subst hb32
            refine ge_at hK30 ?_
            refine ge_seq ?_
            obtain ⟨j35, hj36, hj21⟩ := bind_some hj21
            refine gk_join (fun t I' L' => ∃ j37, j35 = Sum.inl j37 ∧ I33 ≤ I' ∧ L = L' ∧ Knows 98 [(0, .string a0), (3, .int .i64 s7), (5, .int .i64 j37.1), (6, .int .i64 j37.2.1), (7, .int .i64 j37.2.2)] t) ?_ ?_
            · refine gk_cond (b := ((decide ((IntKind.wrap .i64 c26) ≥ 194)) && (decide ((IntKind.wrap .i64 c26) < 224)))) (by kernel_rfl) (by kernel_rfl) (fun hc41 => ?_) (fun hc41 => ?_)
              · have hj36 := cond_t hc41 hj36
                refine gk_seq (by kernel_rfl) ?_
                refine gk_region (by kernel_rfl) ?_
                refine gl_pure 1 [0, 3, 4, 5] (K' := [(0, .string a0), (3, .int .i64 s7), (4, .int .i64 (IntKind.wrap .i64 c26)), (5, .int .i64 1)]) (by kernel_rfl) ?_
                refine gl_atE (by kernel_rfl) ?_
                refine ge_seq ?_
                refine gk_seq (by kernel_rfl) ?_
                refine gk_region (by kernel_rfl) ?_
                refine gl_pure 1 [0, 3, 4, 5, 6] (K' := [(0, .string a0), (3, .int .i64 s7), (4, .int .i64 (IntKind.wrap .i64 c26)), (5, .int .i64 1), (6, .int .i64 128)]) (by kernel_rfl) ?_
                refine gl_atE (by kernel_rfl) ?_
                refine ge_seq ?_
                refine gk_region (by kernel_rfl) ?_
                refine gl_pure 3 [0, 3, 5, 6, 7] (K' := [(0, .string a0), (3, .int .i64 s7), (5, .int .i64 1), (6, .int .i64 128), (7, .int .i64 (bitAnd .i64 (IntKind.wrap .i64 c26) 31))]) (by kernel_rfl) ?_
                refine gl_atE (by kernel_rfl) ?_
                obtain rfl := some_inj hj36
                exact ge_mid fun t ht => ⟨_, rfl, (Imm.refl _), rfl, ht.pick (l := [0, 3, 5, 6, 7]) (by kernel_rfl)⟩
              · have hj36 := cond_f hc41 hj36
                refine gk_seq (by kernel_rfl) ?_
                obtain ⟨b44, hb45⟩ : ∃ z, z = ((decide ((IntKind.wrap .i64 c26) ≥ 224)) && (decide ((IntKind.wrap .i64 c26) < 240))) := ⟨_, rfl⟩
                refine gk_join (fun t I' L' => I33 ≤ I' ∧ L = L' ∧ Knows 98 [(0, .string a0), (3, .int .i64 s7), (4, .int .i64 (IntKind.wrap .i64 c26)), (31, .bool b44)] t) ?_ ?_
                · refine gk_region (by kernel_rfl) ?_
                  refine gl_pure 3 [0, 3, 4, 34] (K' := [(0, .string a0), (3, .int .i64 s7), (4, .int .i64 (IntKind.wrap .i64 c26)), (34, .bool (decide ((IntKind.wrap .i64 c26) ≥ 224)))]) (by kernel_rfl) ?_
                  refine gl_case 34 (b := (decide ((IntKind.wrap .i64 c26) ≥ 224))) (by kernel_rfl) (fun hc47 => ?_) (fun hc47 => ?_)
                  · refine gl_pure 4 [0, 3, 4, 31] (K' := [(0, .string a0), (3, .int .i64 s7), (4, .int .i64 (IntKind.wrap .i64 c26)), (31, .bool (decide ((IntKind.wrap .i64 c26) < 240)))]) (by kernel_rfl) ?_
                    refine gl_atE (by kernel_rfl) ?_
                    exact ge_mid fun t ht => ⟨(Imm.refl _), rfl, by rw [(show b44 = (decide ((IntKind.wrap .i64 c26) < 240)) from hb45.trans (by first | (rw [hc47]; done) | (rw [hc47]; rfl) | (simp [hc47]; done) | (simp only [hc47]; rfl) | (simp at *; omega)))]; exact ht.pick (l := [0, 3, 4, 31]) (by kernel_rfl)⟩
                  · refine gl_pure 4 [0, 3, 4, 31] (K' := [(0, .string a0), (3, .int .i64 s7), (4, .int .i64 (IntKind.wrap .i64 c26)), (31, .bool false)]) (by kernel_rfl) ?_
                    refine gl_atE (by kernel_rfl) ?_
                    exact ge_mid fun t ht => ⟨(Imm.refl _), rfl, by rw [(show b44 = false from hb45.trans (by first | (rw [hc47]; done) | (rw [hc47]; rfl) | (simp [hc47]; done) | (simp only [hc47]; rfl) | (simp at *; omega)))]; exact ht.pick (l := [0, 3, 4, 31]) (by kernel_rfl)⟩
                · rintro t I46 L' ⟨hI42, rfl, hK43⟩
                  subst hb45
                  refine ge_at hK43 ?_
                  refine ge_seq ?_
                  obtain ⟨j48, hj49, hj36⟩ := bind_some hj36
                  refine gk_join (fun t I' L' => ∃ j50, j48 = Sum.inl j50 ∧ I46 ≤ I' ∧ L = L' ∧ Knows 98 [(0, .string a0), (3, .int .i64 s7), (5, .int .i64 j50.1), (6, .int .i64 j50.2.1), (7, .int .i64 j50.2.2)] t) ?_ ?_
                  · refine gk_cond (b := ((decide ((IntKind.wrap .i64 c26) ≥ 224)) && (decide ((IntKind.wrap .i64 c26) < 240)))) (by kernel_rfl) (by kernel_rfl) (fun hc54 => ?_) (fun hc54 => ?_)
                    · have hj49 := cond_t hc54 hj49
                      refine gk_seq (by kernel_rfl) ?_
                      refine gk_region (by kernel_rfl) ?_
                      refine gl_pure 1 [0, 3, 4, 5] (K' := [(0, .string a0), (3, .int .i64 s7), (4, .int .i64 (IntKind.wrap .i64 c26)), (5, .int .i64 2)]) (by kernel_rfl) ?_
                      refine gl_atE (by kernel_rfl) ?_
                      refine ge_seq ?_
                      refine gk_seq (by kernel_rfl) ?_
                      refine gk_region (by kernel_rfl) ?_
                      refine gl_pure 1 [0, 3, 4, 5, 6] (K' := [(0, .string a0), (3, .int .i64 s7), (4, .int .i64 (IntKind.wrap .i64 c26)), (5, .int .i64 2), (6, .int .i64 2048)]) (by kernel_rfl) ?_
                      refine gl_atE (by kernel_rfl) ?_
                      refine ge_seq ?_
                      refine gk_region (by kernel_rfl) ?_
                      refine gl_pure 3 [0, 3, 5, 6, 7] (K' := [(0, .string a0), (3, .int .i64 s7), (5, .int .i64 2), (6, .int .i64 2048), (7, .int .i64 (bitAnd .i64 (IntKind.wrap .i64 c26) 15))]) (by kernel_rfl) ?_
                      refine gl_atE (by kernel_rfl) ?_
                      obtain rfl := some_inj hj49
                      exact ge_mid fun t ht => ⟨_, rfl, (Imm.refl _), rfl, ht.pick (l := [0, 3, 5, 6, 7]) (by kernel_rfl)⟩
                    · have hj49 := cond_f hc54 hj49
                      refine gk_seq (by kernel_rfl) ?_
                      obtain ⟨b57, hb58⟩ : ∃ z, z = ((decide ((IntKind.wrap .i64 c26) ≥ 240)) && (decide ((IntKind.wrap .i64 c26) < 245))) := ⟨_, rfl⟩
                      refine gk_join (fun t I' L' => I46 ≤ I' ∧ L = L' ∧ Knows 98 [(0, .string a0), (3, .int .i64 s7), (4, .int .i64 (IntKind.wrap .i64 c26)), (40, .bool b57)] t) ?_ ?_
                      · refine gk_region (by kernel_rfl) ?_
                        refine gl_pure 3 [0, 3, 4, 43] (K' := [(0, .string a0), (3, .int .i64 s7), (4, .int .i64 (IntKind.wrap .i64 c26)), (43, .bool (decide ((IntKind.wrap .i64 c26) ≥ 240)))]) (by kernel_rfl) ?_
                        refine gl_case 43 (b := (decide ((IntKind.wrap .i64 c26) ≥ 240))) (by kernel_rfl) (fun hc60 => ?_) (fun hc60 => ?_)
                        · refine gl_pure 4 [0, 3, 4, 40] (K' := [(0, .string a0), (3, .int .i64 s7), (4, .int .i64 (IntKind.wrap .i64 c26)), (40, .bool (decide ((IntKind.wrap .i64 c26) < 245)))]) (by kernel_rfl) ?_
                          refine gl_atE (by kernel_rfl) ?_
                          exact ge_mid fun t ht => ⟨(Imm.refl _), rfl, by rw [(show b57 = (decide ((IntKind.wrap .i64 c26) < 245)) from hb58.trans (by first | (rw [hc60]; done) | (rw [hc60]; rfl) | (simp [hc60]; done) | (simp only [hc60]; rfl) | (simp at *; omega)))]; exact ht.pick (l := [0, 3, 4, 40]) (by kernel_rfl)⟩
                        · refine gl_pure 4 [0, 3, 4, 40] (K' := [(0, .string a0), (3, .int .i64 s7), (4, .int .i64 (IntKind.wrap .i64 c26)), (40, .bool false)]) (by kernel_rfl) ?_
                          refine gl_atE (by kernel_rfl) ?_
                          exact ge_mid fun t ht => ⟨(Imm.refl _), rfl, by rw [(show b57 = false from hb58.trans (by first | (rw [hc60]; done) | (rw [hc60]; rfl) | (simp [hc60]; done) | (simp only [hc60]; rfl) | (simp at *; omega)))]; exact ht.pick (l := [0, 3, 4, 40]) (by kernel_rfl)⟩
                      · rintro t I59 L' ⟨hI55, rfl, hK56⟩
                        subst hb58
                        refine ge_at hK56 ?_
                        refine ge_seq ?_
                        refine gk_cond (b := ((decide ((IntKind.wrap .i64 c26) ≥ 240)) && (decide ((IntKind.wrap .i64 c26) < 245)))) (by kernel_rfl) (by kernel_rfl) (fun hc61 => ?_) (fun hc61 => ?_)
                        · have hj49 := cond_t hc61 hj49
                          refine gk_seq (by kernel_rfl) ?_
                          refine gk_region (by kernel_rfl) ?_
                          refine gl_pure 1 [0, 3, 4, 5] (K' := [(0, .string a0), (3, .int .i64 s7), (4, .int .i64 (IntKind.wrap .i64 c26)), (5, .int .i64 3)]) (by kernel_rfl) ?_
                          refine gl_atE (by kernel_rfl) ?_
                          refine ge_seq ?_
                          refine gk_seq (by kernel_rfl) ?_
                          refine gk_region (by kernel_rfl) ?_
                          refine gl_pure 1 [0, 3, 4, 5, 6] (K' := [(0, .string a0), (3, .int .i64 s7), (4, .int .i64 (IntKind.wrap .i64 c26)), (5, .int .i64 3), (6, .int .i64 65536)]) (by kernel_rfl) ?_
                          refine gl_atE (by kernel_rfl) ?_
                          refine ge_seq ?_
                          refine gk_region (by kernel_rfl) ?_
                          refine gl_pure 3 [0, 3, 5, 6, 7] (K' := [(0, .string a0), (3, .int .i64 s7), (5, .int .i64 3), (6, .int .i64 65536), (7, .int .i64 (bitAnd .i64 (IntKind.wrap .i64 c26) 7))]) (by kernel_rfl) ?_
                          refine gl_atE (by kernel_rfl) ?_
                          obtain rfl := some_inj hj49
                          exact ge_mid fun t ht => ⟨_, rfl, hI55, rfl, ht.pick (l := [0, 3, 5, 6, 7]) (by kernel_rfl)⟩
                        · have hj49 := cond_f hc61 hj49
                          refine gk_seq (by kernel_rfl) ?_
                          refine gk_region (by kernel_rfl) ?_
                          refine gl_pure 1 [2] (K' := [(2, .bool false)]) (by kernel_rfl) ?_
                          refine gl_atE (by kernel_rfl) ?_
                          refine ge_seq ?_
                          refine gk_ret (by kernel_rfl) ?_
                          refine ge_seq_ret ?_
                          obtain rfl := some_inj hj49
                          refine ge_seq_ret ?_
                          obtain rfl := some_inj hj36
                          refine ge_block_ret ?_
                          refine ge_seq_ret ?_
                          refine ge_block_ret ?_
                          refine ge_seq_ret ?_
                          obtain rfl := some_inj hj21
                          obtain rfl := some_inj hb9
                          refine ge_round_out (fun hrr => ?_) (by intro h; cases h)
                          obtain rfl := hrr
                          refine ge_block_ret ?_
                          refine ge_seq_ret ?_
                          refine ge_seq_ret ?_
                          obtain rfl := some_inj hr
                          exact ge_result trivial (ResOk.tmp (by kernel_rfl) ResOk.nil) (Imm.trans (Imm.trans (Imm.trans hI10 hI29) hI42) hI55) ⟨rfl, rfl⟩
                  · rintro t I53 L' ⟨j50, rfl, hI51, rfl, hK52⟩
                    refine ge_at hK52 ?_
                    obtain rfl := some_inj hj36
                    exact ge_mid fun t ht => ⟨_, rfl, (Imm.trans hI42 hI51), rfl, ht.pick (l := [0, 3, 5, 6, 7]) (by kernel_rfl)⟩
            · rintro t I40 L' ⟨j37, rfl, hI38, rfl, hK39⟩
              refine ge_at hK39 ?_
              refine ge_block_normal ?_
              refine ge_seq ?_
              refine gk_seq (by kernel_rfl) ?_
              refine gk_seq (by kernel_rfl) ?_
              refine gk_region (by kernel_rfl) ?_
              refine gl_pure 1 [0, 3, 5, 6, 7, 8] (K' := [(0, .string a0), (3, .int .i64 s7), (5, .int .i64 j37.1), (6, .int .i64 j37.2.1), (7, .int .i64 j37.2.2), (8, .int .i64 1)]) (by kernel_rfl) ?_
              refine gl_atE (by kernel_rfl) ?_
              refine ge_seq ?_
              obtain ⟨r67, hl68, hj21⟩ := bind_some hj21
              refine gk_join (fun t I' L' => ∃ r75, r67 = Sum.inl r75 ∧ I40 ≤ I' ∧ L = L' ∧ Knows 98 [(0, .string a0), (3, .int .i64 s7), (5, .int .i64 j37.1), (6, .int .i64 j37.2.1), (7, .int .i64 r75)] t) ?_ ?_
              · refine gk_block (by kernel_rfl) ?_
                refine gk_pick [0, 3, 5, 6, 7, 8] (K' := [(0, .string a0), (3, .int .i64 s7), (5, .int .i64 j37.1), (6, .int .i64 j37.2.1), (7, .int .i64 j37.2.2), (8, .int .i64 1)]) (by kernel_rfl) ?_
                intro t hK
                refine gc_loop (tocsinref01_Utf8_l79 a0 s7 j37) (fun s69 t I' L' => I40 ≤ I' ∧ L = L' ∧ Knows 98 [(0, .string a0), (3, .int .i64 s7), (5, .int .i64 j37.1), (6, .int .i64 j37.2.1), (7, .int .i64 s69.1), (8, .int .i64 s69.2)] t) (by kernel_rfl) ?_ hl68 ⟨(Imm.refl _), rfl, hK⟩
                rintro s69 o70 t I74 L' hb71 ⟨hI72, rfl, hK73⟩
                unfold tocsinref01_Utf8_l79 at hb71
                refine gk_at hK73 ?_
                refine gk_seq (by kernel_rfl) ?_
                refine gk_seq (by kernel_rfl) ?_
                refine gk_region (by kernel_rfl) ?_
                refine gl_pure 3 [0, 3, 5, 6, 7, 8, 51] (K' := [(0, .string a0), (3, .int .i64 s7), (5, .int .i64 j37.1), (6, .int .i64 j37.2.1), (7, .int .i64 s69.1), (8, .int .i64 s69.2), (51, .bool (decide (s69.2 ≤ j37.1)))]) (by kernel_rfl) ?_
                refine gl_atE (by kernel_rfl) ?_
                refine ge_seq ?_
                refine gk_cond (b := (decide (s69.2 ≤ j37.1))) (by kernel_rfl) (by kernel_rfl) (fun hc81 => ?_) (fun hc81 => ?_)
                · have hb71 := cond_t hc81 hb71
                  refine gk_skip (by kernel_rfl) ?_
                  refine ge_seq ?_
                  refine gk_seq (by kernel_rfl) ?_
                  refine gk_block (by kernel_rfl) ?_
                  refine gk_seq (by kernel_rfl) ?_
                  refine gk_seq (by kernel_rfl) ?_
                  obtain ⟨j82, hj83, hb71⟩ := bind_some hb71
                  refine gk_join (fun t I' L' => I74 ≤ I' ∧ L = L' ∧ Knows 98 [(0, .string a0), (3, .int .i64 s7), (5, .int .i64 j37.1), (6, .int .i64 j37.2.1), (7, .int .i64 s69.1), (8, .int .i64 s69.2), (68, .bool j82)] t) ?_ ?_
                  · refine gk_region (by kernel_rfl) ?_
                    refine gl_pure 7 [0, 3, 5, 6, 7, 8, 60] (K' := [(0, .string a0), (3, .int .i64 s7), (5, .int .i64 j37.1), (6, .int .i64 j37.2.1), (7, .int .i64 s69.1), (8, .int .i64 s69.2), (60, .bool (decide ((IntKind.wrap .i64 (s7 + s69.2)) ≥ (a0.size : Int))))]) (by kernel_rfl) ?_
                    refine gl_case 60 (b := (decide ((IntKind.wrap .i64 (s7 + s69.2)) ≥ (a0.size : Int)))) (by kernel_rfl) (fun hc87 => ?_) (fun hc87 => ?_)
                    · have hj83 := cond_t hc87 hj83
                      refine gl_pure 8 [0, 3, 5, 6, 7, 8, 68] (K' := [(0, .string a0), (3, .int .i64 s7), (5, .int .i64 j37.1), (6, .int .i64 j37.2.1), (7, .int .i64 s69.1), (8, .int .i64 s69.2), (68, .bool true)]) (by kernel_rfl) ?_
                      refine gl_atE (by kernel_rfl) ?_
                      obtain rfl := some_inj hj83
                      exact ge_mid fun t ht => ⟨(Imm.refl _), rfl, ht.pick (l := [0, 3, 5, 6, 7, 8, 68]) (by kernel_rfl)⟩
                    · have hj83 := cond_f hc87 hj83
                      refine gl_pure 4 [0, 3, 5, 6, 7, 8, 60, 61, 64] (K' := [(0, .string a0), (3, .int .i64 s7), (5, .int .i64 j37.1), (6, .int .i64 j37.2.1), (7, .int .i64 s69.1), (8, .int .i64 s69.2), (60, .bool false), (61, .string a0), (64, .int .i64 (IntKind.wrap .i64 (s7 + s69.2)))]) (by kernel_rfl) ?_
                      obtain ⟨c88, hx89, hj83⟩ := bind_some hj83
                      refine gl_index' (T' := 9) (xs := (.tmp 61)) (xi := (.tmp 64)) (kd := .i64) hx89 (by kernel_rfl) (by kernel_rfl) (by kernel_rfl) (by kernel_rfl) (by kernel_rfl) ?_
                      refine gl_pure 3 [0, 3, 5, 6, 7, 8, 68] (K' := [(0, .string a0), (3, .int .i64 s7), (5, .int .i64 j37.1), (6, .int .i64 j37.2.1), (7, .int .i64 s69.1), (8, .int .i64 s69.2), (68, .bool ((bitAnd .u8 c88 192) != 128))]) (by kernel_rfl) ?_
                      refine gl_atE (by kernel_rfl) ?_
                      obtain rfl := some_inj hj83
                      exact ge_mid fun t ht => ⟨(Imm.refl _), rfl, ht.pick (l := [0, 3, 5, 6, 7, 8, 68]) (by kernel_rfl)⟩
                  · rintro t I86 L' ⟨hI84, rfl, hK85⟩
                    refine ge_at hK85 ?_
                    refine ge_seq ?_
                    refine gk_cond (b := j82) (by kernel_rfl) (by kernel_rfl) (fun hc90 => ?_) (fun hc90 => ?_)
                    · have hb71 := cond_t hc90 hb71
                      refine gk_seq (by kernel_rfl) ?_
                      refine gk_region (by kernel_rfl) ?_
                      refine gl_pure 1 [2] (K' := [(2, .bool false)]) (by kernel_rfl) ?_
                      refine gl_atE (by kernel_rfl) ?_
                      refine ge_seq ?_
                      refine gk_ret (by kernel_rfl) ?_
                      refine ge_seq_ret ?_
                      refine ge_block_ret ?_
                      refine ge_seq_ret ?_
                      obtain rfl := some_inj hb71
                      refine ge_round_out (fun hrr => ?_) (by intro h; cases h)
                      obtain rfl := hrr
                      refine ge_block_ret ?_
                      refine ge_seq_ret ?_
                      refine ge_seq_ret ?_
                      refine ge_block_ret ?_
                      refine ge_seq_ret ?_
                      obtain rfl := some_inj hj21
                      obtain rfl := some_inj hb9
                      refine ge_round_out (fun hrr => ?_) (by intro h; cases h)
                      obtain rfl := hrr
                      refine ge_block_ret ?_
                      refine ge_seq_ret ?_
                      refine ge_seq_ret ?_
                      obtain rfl := some_inj hr
                      exact ge_result trivial (ResOk.tmp (by kernel_rfl) ResOk.nil) (Imm.trans (Imm.trans (Imm.trans (Imm.trans hI10 hI29) hI38) hI72) hI84) ⟨rfl, rfl⟩
                    · have hb71 := cond_f hc90 hb71
                      refine gk_skip (by kernel_rfl) ?_
                      refine ge_seq ?_
                      refine gk_region (by kernel_rfl) ?_
                      refine gl_pure 6 [0, 3, 5, 6, 8, 70, 71, 74] (K' := [(0, .string a0), (3, .int .i64 s7), (5, .int .i64 j37.1), (6, .int .i64 j37.2.1), (8, .int .i64 s69.2), (70, .int .i64 (IntKind.wrap .i64 (s69.1 * 64))), (71, .string a0), (74, .int .i64 (IntKind.wrap .i64 (s7 + s69.2)))]) (by kernel_rfl) ?_
                      obtain ⟨c91, hx92, hb71⟩ := bind_some hb71
                      refine gl_index' (T' := 9) (xs := (.tmp 71)) (xi := (.tmp 74)) (kd := .i64) hx92 (by kernel_rfl) (by kernel_rfl) (by kernel_rfl) (by kernel_rfl) (by kernel_rfl) ?_
                      refine gl_pure 4 [0, 3, 5, 6, 7, 8] (K' := [(0, .string a0), (3, .int .i64 s7), (5, .int .i64 j37.1), (6, .int .i64 j37.2.1), (7, .int .i64 (IntKind.wrap .i64 ((IntKind.wrap .i64 (s69.1 * 64)) + (IntKind.wrap .i64 (bitAnd .u8 c91 63))))), (8, .int .i64 s69.2)]) (by kernel_rfl) ?_
                      refine gl_atE (by kernel_rfl) ?_
                      refine ge_block_normal ?_
                      refine ge_seq ?_
                      refine gk_region (by kernel_rfl) ?_
                      refine gl_pure 3 [0, 3, 5, 6, 7, 8] (K' := [(0, .string a0), (3, .int .i64 s7), (5, .int .i64 j37.1), (6, .int .i64 j37.2.1), (7, .int .i64 (IntKind.wrap .i64 ((IntKind.wrap .i64 (s69.1 * 64)) + (IntKind.wrap .i64 (bitAnd .u8 c91 63))))), (8, .int .i64 (IntKind.wrap .i64 (s69.2 + 1)))]) (by kernel_rfl) ?_
                      refine gl_atE (by kernel_rfl) ?_
                      obtain rfl := some_inj hb71
                      exact ge_round fun t ht => ⟨(Imm.trans hI72 hI84), rfl, ht.pick (l := [0, 3, 5, 6, 7, 8]) (by kernel_rfl)⟩
                · have hb71 := cond_f hc81 hb71
                  refine gk_exit (by kernel_rfl) ?_
                  refine ge_seq_exit ?_
                  obtain rfl := some_inj hb71
                  refine ge_round_out (fun hrr => ?_) (by intro h; cases h)
                  obtain rfl := hrr
                  refine ge_block_hit (by kernel_rfl) ?_
                  exact ge_mid fun t ht => ⟨_, rfl, hI72, rfl, ht.pick (l := [0, 3, 5, 6, 7]) (by kernel_rfl)⟩
              · rintro t I78 L' ⟨r75, rfl, hI76, rfl, hK77⟩
                refine ge_at hK77 ?_
                refine ge_seq ?_
                refine gk_seq (by kernel_rfl) ?_
                refine gk_seq (by kernel_rfl) ?_
                obtain ⟨b95, hb96⟩ : ∃ z, z = (((decide (r75 < j37.2.1)) || (decide (r75 > 1114111))) || ((decide (r75 ≥ 55296)) && (decide (r75 < 57344)))) := ⟨_, rfl⟩
                refine gk_join (fun t I' L' => I78 ≤ I' ∧ L = L' ∧ Knows 98 [(0, .string a0), (3, .int .i64 s7), (5, .int .i64 j37.1), (93, .bool b95)] t) ?_ ?_
                · refine gk_region (by kernel_rfl) ?_
                  refine gl_pure 4 [0, 3, 5, 7, 82] (K' := [(0, .string a0), (3, .int .i64 s7), (5, .int .i64 j37.1), (7, .int .i64 r75), (82, .bool (decide (r75 < j37.2.1)))]) (by kernel_rfl) ?_
                  refine gl_case 82 (b := (decide (r75 < j37.2.1))) (by kernel_rfl) (fun hc98 => ?_) (fun hc98 => ?_)
                  · refine gl_pure 11 [0, 3, 5, 93] (K' := [(0, .string a0), (3, .int .i64 s7), (5, .int .i64 j37.1), (93, .bool true)]) (by kernel_rfl) ?_
                    refine gl_atE (by kernel_rfl) ?_
                    exact ge_mid fun t ht => ⟨(Imm.refl _), rfl, by rw [(show b95 = true from hb96.trans (by first | (rw [hc98]; done) | (rw [hc98]; rfl) | (simp [hc98]; done) | (simp only [hc98]; rfl) | (simp at *; omega)))]; exact ht.pick (l := [0, 3, 5, 93]) (by kernel_rfl)⟩
                  · refine gl_pure 4 [0, 3, 5, 7, 86] (K' := [(0, .string a0), (3, .int .i64 s7), (5, .int .i64 j37.1), (7, .int .i64 r75), (86, .bool (decide (r75 > 1114111)))]) (by kernel_rfl) ?_
                    refine gl_case 86 (b := (decide (r75 > 1114111))) (by kernel_rfl) (fun hc99 => ?_) (fun hc99 => ?_)
                    · refine gl_pure 7 [0, 3, 5, 93] (K' := [(0, .string a0), (3, .int .i64 s7), (5, .int .i64 j37.1), (93, .bool true)]) (by kernel_rfl) ?_
                      refine gl_atE (by kernel_rfl) ?_
                      exact ge_mid fun t ht => ⟨(Imm.refl _), rfl, by rw [(show b95 = true from hb96.trans (by first | (rw [hc98, hc99]; done) | (rw [hc98, hc99]; rfl) | (simp [hc98, hc99]; done) | (simp only [hc98, hc99]; rfl) | (simp at *; omega)))]; exact ht.pick (l := [0, 3, 5, 93]) (by kernel_rfl)⟩
                    · refine gl_pure 3 [0, 3, 5, 7, 86, 89] (K' := [(0, .string a0), (3, .int .i64 s7), (5, .int .i64 j37.1), (7, .int .i64 r75), (86, .bool false), (89, .bool (decide (r75 ≥ 55296)))]) (by kernel_rfl) ?_
                      refine gl_case 89 (b := (decide (r75 ≥ 55296))) (by kernel_rfl) (fun hc100 => ?_) (fun hc100 => ?_)
                      · refine gl_pure 4 [0, 3, 5, 93] (K' := [(0, .string a0), (3, .int .i64 s7), (5, .int .i64 j37.1), (93, .bool (decide (r75 < 57344)))]) (by kernel_rfl) ?_
                        refine gl_atE (by kernel_rfl) ?_
                        exact ge_mid fun t ht => ⟨(Imm.refl _), rfl, by rw [(show b95 = (decide (r75 < 57344)) from hb96.trans (by first | (rw [hc98, hc99, hc100]; done) | (rw [hc98, hc99, hc100]; rfl) | (simp [hc98, hc99, hc100]; done) | (simp only [hc98, hc99, hc100]; rfl) | (simp at *; omega)))]; exact ht.pick (l := [0, 3, 5, 93]) (by kernel_rfl)⟩
                      · refine gl_pure 4 [0, 3, 5, 93] (K' := [(0, .string a0), (3, .int .i64 s7), (5, .int .i64 j37.1), (93, .bool false)]) (by kernel_rfl) ?_
                        refine gl_atE (by kernel_rfl) ?_
                        exact ge_mid fun t ht => ⟨(Imm.refl _), rfl, by rw [(show b95 = false from hb96.trans (by first | (rw [hc98, hc99, hc100]; done) | (rw [hc98, hc99, hc100]; rfl) | (simp [hc98, hc99, hc100]; done) | (simp only [hc98, hc99, hc100]; rfl) | (simp at *; omega)))]; exact ht.pick (l := [0, 3, 5, 93]) (by kernel_rfl)⟩
                · rintro t I97 L' ⟨hI93, rfl, hK94⟩
                  subst hb96
                  refine ge_at hK94 ?_
                  refine ge_seq ?_
                  refine gk_cond (b := (((decide (r75 < j37.2.1)) || (decide (r75 > 1114111))) || ((decide (r75 ≥ 55296)) && (decide (r75 < 57344))))) (by kernel_rfl) (by kernel_rfl) (fun hc101 => ?_) (fun hc101 => ?_)
                  · have hj21 := cond_t hc101 hj21
                    refine gk_seq (by kernel_rfl) ?_
                    refine gk_region (by kernel_rfl) ?_
                    refine gl_pure 1 [2] (K' := [(2, .bool false)]) (by kernel_rfl) ?_
                    refine gl_atE (by kernel_rfl) ?_
                    refine ge_seq ?_
                    refine gk_ret (by kernel_rfl) ?_
                    refine ge_seq_ret ?_
                    refine ge_block_ret ?_
                    refine ge_seq_ret ?_
                    obtain rfl := some_inj hj21
                    obtain rfl := some_inj hb9
                    refine ge_round_out (fun hrr => ?_) (by intro h; cases h)
                    obtain rfl := hrr
                    refine ge_block_ret ?_
                    refine ge_seq_ret ?_
                    refine ge_seq_ret ?_
                    obtain rfl := some_inj hr
                    exact ge_result trivial (ResOk.tmp (by kernel_rfl) ResOk.nil) (Imm.trans (Imm.trans (Imm.trans (Imm.trans hI10 hI29) hI38) hI76) hI93) ⟨rfl, rfl⟩
                  · have hj21 := cond_f hc101 hj21
                    refine gk_skip (by kernel_rfl) ?_
                    refine ge_seq ?_
                    refine gk_region (by kernel_rfl) ?_
                    refine gl_pure 5 [0, 3] (K' := [(0, .string a0), (3, .int .i64 (IntKind.wrap .i64 ((IntKind.wrap .i64 (s7 + j37.1)) + 1)))]) (by kernel_rfl) ?_
                    refine gl_atE (by kernel_rfl) ?_
                    refine ge_block_normal ?_
                    obtain rfl := some_inj hj21
                    exact ge_mid fun t ht => ⟨_, rfl, (Imm.trans (Imm.trans (Imm.trans hI29 hI38) hI76) hI93), rfl, ht.pick (l := [0, 3]) (by kernel_rfl)⟩
      · rintro t I25 L' ⟨j22, rfl, hI23, rfl, hK24⟩
        refine ge_at hK24 ?_
        obtain rfl := some_inj hb9
        exact ge_round fun t ht => ⟨(Imm.trans hI10 hI23), rfl, ht.pick (l := [0, 3]) (by kernel_rfl)⟩
    · have hb9 := cond_f hc19 hb9
      refine gk_exit (by kernel_rfl) ?_
      refine ge_seq_exit ?_
      obtain rfl := some_inj hb9
      refine ge_round_out (fun hrr => ?_) (by intro h; cases h)
      obtain rfl := hrr
      refine ge_block_hit (by kernel_rfl) ?_
      exact ge_mid fun t ht => ⟨_, rfl, hI10, rfl, ht.pick (l := []) (by kernel_rfl)⟩
  · rintro t I16 L' ⟨r13, rfl, hI14, rfl, hK15⟩
    refine ge_at hK15 ?_
    refine ge_seq ?_
    refine gk_seq (by kernel_rfl) ?_
    refine gk_region (by kernel_rfl) ?_
    refine gl_pure 1 [2] (K' := [(2, .bool true)]) (by kernel_rfl) ?_
    refine gl_atE (by kernel_rfl) ?_
    refine ge_seq ?_
    refine gk_ret (by kernel_rfl) ?_
    obtain rfl := some_inj hr
    exact ge_result trivial (ResOk.tmp (by kernel_rfl) ResOk.nil) hI14 ⟨rfl, rfl⟩
end Go.Proofs.YtcnnbaneoehilaaDoor
