import Derived.Test.YtlkmfhccpcncnaaDoorProg
import Derived.Test.YtlkmfhccpcncnaaDoorChecked
import Derived.Test.YtlkmfhccpcncnaaDoorGB20
import Derived.Lib.LaidU8T
import Derived.Shelf.Unicode.ValidAny
set_option linter.unusedVariables false
set_option linter.unusedSimpArgs false
set_option maxRecDepth 100000
namespace Go.Proofs.YtlkmfhccpcncnaaDoor
open Go.GB
structure S155 where
  f0 : Int
  f1 : Int
def kS155 : Kd S155 := Kd.iso (Kd.pair (Kd.int .u8) (Kd.int .u8)) (fun x => (x.f0, x.f1))
def wS155 (x : S155) (n : Nat) : Prop := ∃ n0 n1, n0 + n1 + 1 ≤ n ∧ (wInt .u8) x.f0 n0 ∧ (wInt .u8) x.f1 n1
theorem kS155_open {I : Imm} {x : S155} {cs : List Value} (h : kS155.R I x cs) : cs = [.int .u8 x.f0, .int .u8 x.f1] := by
  obtain ⟨_, _, rfl, h_0, h_1⟩ := h
  obtain rfl := h_0
  obtain rfl := h_1
  exact rfl
theorem kS155_mk {I : Imm} {x : S155}   : kS155.R I x [.int .u8 x.f0, .int .u8 x.f1] :=
  ⟨[.int .u8 x.f0], [.int .u8 x.f1], rfl, rfl, rfl⟩
def tab0 : List Int := (List.range 256).map fun c => (Go.Lib.firstT c : Int)
def tab1 : List S155 := (List.range 16).map fun i => ⟨(Go.Lib.accLo i : Int), (Go.Lib.accHi i : Int)⟩
structure Gl (I : Imm) : Prop where
  dr : I.dr = 0
  g0 : RepS (Kd.int .u8) I (some ⟨0, 0, none⟩) 256 tab0
  g1 : RepS kS155 I (some ⟨1, 0, none⟩) 16 tab1
theorem Gl.mono {I J : Imm} (h : Gl I) (hI : I ≤ J) : Gl J := ⟨hI.dr.trans h.dr, h.g0.mono hI, h.g1.mono hI⟩
structure S79 where
  f0 : ByteArray
  f1 : ByteArray
def kS79 : Kd S79 := Kd.iso (Kd.pair Kd.str Kd.str) (fun x => (x.f0, x.f1))
def wS79 (x : S79) (n : Nat) : Prop := ∃ n0 n1, n0 + n1 + 1 ≤ n ∧ wStr x.f0 n0 ∧ wStr x.f1 n1
theorem kS79_open {I : Imm} {x : S79} {cs : List Value} (h : kS79.R I x cs) : cs = [.string x.f0, .string x.f1] := by
  obtain ⟨_, _, rfl, h_0, h_1⟩ := h
  obtain rfl := h_0
  obtain rfl := h_1
  exact rfl
theorem kS79_mk {I : Imm} {x : S79}   : kS79.R I x [.string x.f0, .string x.f1] :=
  ⟨[.string x.f0], [.string x.f1], rfl, rfl, rfl⟩
structure S23 where
  f0 : ByteArray
  f1 : ByteArray
  f2 : Int
  f3 : List (List S79)
  f4 : List (List S79)
def kS23 : Kd S23 := Kd.iso (Kd.pair Kd.str (Kd.pair Kd.str (Kd.pair (Kd.int .i64) (Kd.pair (Kd.sl (Kd.sl kS79)) (Kd.sl (Kd.sl kS79)))))) (fun x => (x.f0, x.f1, x.f2, x.f3, x.f4))
def wS23 (x : S23) (n : Nat) : Prop := ∃ n0 n1 n2 n3 n4, n0 + n1 + n2 + n3 + n4 + 1 ≤ n ∧ wStr x.f0 n0 ∧ wStr x.f1 n1 ∧ (wInt .i64) x.f2 n2 ∧ (wSl (wSl wS79)) x.f3 n3 ∧ (wSl (wSl wS79)) x.f4 n4
theorem kS23_open {I : Imm} {x : S23} {cs : List Value} (h : kS23.R I x cs) : ∃ A3 c3 A4 c4, RepS (Kd.sl kS79) I A3 c3 x.f3 ∧ RepS (Kd.sl kS79) I A4 c4 x.f4 ∧ cs = [.string x.f0, .string x.f1, .int .i64 x.f2, .slice A3 x.f3.length c3, .slice A4 x.f4.length c4] := by
  obtain ⟨_, _, rfl, h_0, ⟨_, _, rfl, h_1, ⟨_, _, rfl, h_2, ⟨_, _, rfl, ⟨A_3, c_3, rfl, h_3⟩, ⟨A_4, c_4, rfl, h_4⟩⟩⟩⟩⟩ := h
  obtain rfl := h_0
  obtain rfl := h_1
  obtain rfl := h_2
  exact ⟨A_3, c_3, A_4, c_4, h_3, h_4, rfl⟩
theorem kS23_mk {I : Imm} {x : S23} {A3 : Option Addr} {c3 : Nat} {A4 : Option Addr} {c4 : Nat} (h3 : RepS (Kd.sl kS79) I A3 c3 x.f3) (h4 : RepS (Kd.sl kS79) I A4 c4 x.f4) : kS23.R I x [.string x.f0, .string x.f1, .int .i64 x.f2, .slice A3 x.f3.length c3, .slice A4 x.f4.length c4] :=
  ⟨[.string x.f0], [.string x.f1, .int .i64 x.f2, .slice A3 x.f3.length c3, .slice A4 x.f4.length c4], rfl, rfl, ⟨[.string x.f1], [.int .i64 x.f2, .slice A3 x.f3.length c3, .slice A4 x.f4.length c4], rfl, rfl, ⟨[.int .i64 x.f2], [.slice A3 x.f3.length c3, .slice A4 x.f4.length c4], rfl, rfl, ⟨[.slice A3 x.f3.length c3], [.slice A4 x.f4.length c4], rfl, ⟨_, _, rfl, h3⟩, ⟨_, _, rfl, h4⟩⟩⟩⟩⟩
/-! 29 tocsinlaw26_lent  -/
noncomputable def tocsinlaw26_lent_l28 (a0 : List (List S79)) : ((List (List S79)) × Int) → Option (((List (List S79)) × Int) ⊕ ((List (List S79)))) := fun s11 =>
  bif (decide (s11.2 < (a0.length : Int))) then
  (Option.bind (ix a0 s11.2) fun (x31 : List S79) =>
    Option.bind (app ([] : List S79) x31) fun (zs42 : List S79) =>
    Option.bind (app s11.1 [zs42]) fun (zs56 : List (List S79)) =>
    some (Sum.inl (zs56, (IntKind.wrap .i64 (s11.2 + 1)))))
  else
  (some (Sum.inr s11.1))
noncomputable def tocsinlaw26_lent (a0 : List (List S79)) : Option (List (List S79)) :=
  Option.bind (loopO (tocsinlaw26_lent_l28 a0) ([], 0)) fun (r9 : (List (List S79))) =>
  some r9
theorem tocsinlaw26_lent_walk {a0 : List (List S79)} {A0_0 : Option Addr} {n0_0 : Nat} {I : Imm} {r : (List (List S79))}  (hf0_0 : RepS (Kd.sl kS79) I A0_0 n0_0 a0) (hr : tocsinlaw26_lent a0 = some r) (L : Own) :
    CallsTo Tryd.prog 29 #[.slice A0_0 a0.length n0_0] I L (fun v I' L' => ∃ A0 c0 C0, OwnS (Kd.sl kS79) 36 I' A0 c0 r C0 ∧ v = .slice A0 r.length c0 ∧ C0 ++ L = L') := by
  unfold tocsinlaw26_lent at hr
  refine callsTo_body (N := 21) Tryd.func29 (by kernel_rfl) (by kernel_rfl) (by kernel_rfl) ?_
  refine gk_pick [0] (K' := [(0, .slice A0_0 a0.length n0_0)]) (by kernel_rfl) ?_
  refine gk_seq (by kernel_rfl) ?_
  refine gk_region (by kernel_rfl) ?_
  refine gl_pure 1 [0] (K' := [(0, .slice A0_0 a0.length n0_0)]) (by kernel_rfl) ?_
  refine gl_atE (by kernel_rfl) ?_
  refine ge_seq ?_
  refine gk_seq (by kernel_rfl) ?_
  refine gk_region (by kernel_rfl) ?_
  refine gl_pure 1 [0, 3] (K' := [(0, .slice A0_0 a0.length n0_0), (3, .slice none 0 0)]) (by kernel_rfl) ?_
  refine gl_atE (by kernel_rfl) ?_
  refine ge_seq ?_
  refine gk_seq (by kernel_rfl) ?_
  refine gk_seq (by kernel_rfl) ?_
  refine gk_region (by kernel_rfl) ?_
  refine gl_pure 3 [3, 7, 8, 9] (K' := [(3, .slice none 0 0), (7, .slice A0_0 a0.length n0_0), (8, .int .i64 (a0.length : Int)), (9, .int .i64 0)]) (by kernel_rfl) ?_
  refine gl_atE (by kernel_rfl) ?_
  refine ge_seq ?_
  obtain ⟨r9, hl10, hr⟩ := bind_some hr
  refine gk_join (fun t I' L' => ∃ A22 n23 C24, OwnS (Kd.sl kS79) 36 I' A22 n23 r9 C24 ∧ I ≤ I' ∧ C24 ++ L = L' ∧ Knows 21 [(3, .slice A22 r9.length n23)] t) ?_ ?_
  · refine gk_block (by kernel_rfl) ?_
    refine gk_pick [3, 7, 8, 9] (K' := [(3, .slice none 0 0), (7, .slice A0_0 a0.length n0_0), (8, .int .i64 (a0.length : Int)), (9, .int .i64 0)]) (by kernel_rfl) ?_
    intro t hK
    refine gc_loop (tocsinlaw26_lent_l28 a0) (fun s11 t I' L' => ∃ A15 n16 C17, OwnS (Kd.sl kS79) 36 I' A15 n16 s11.1 C17 ∧ I ≤ I' ∧ C17 ++ L = L' ∧ Knows 21 [(3, .slice A15 s11.1.length n16), (7, .slice A0_0 a0.length n0_0), (8, .int .i64 (a0.length : Int)), (9, .int .i64 s11.2)] t) (by kernel_rfl) ?_ hl10 ⟨none, 0, [], OwnS.nil _ _ _ _, (Imm.refl _), rfl, hK⟩
    rintro s11 o12 t I20 L' hb13 ⟨A15, n16, C17, hO18, hI14, rfl, hK19⟩
    unfold tocsinlaw26_lent_l28 at hb13
    refine gk_at hK19 ?_
    refine gk_seq (by kernel_rfl) ?_
    refine gk_region (by kernel_rfl) ?_
    refine gl_pure 1 [3, 7, 8, 9, 10] (K' := [(3, .slice A15 s11.1.length n16), (7, .slice A0_0 a0.length n0_0), (8, .int .i64 (a0.length : Int)), (9, .int .i64 s11.2), (10, .bool (decide (s11.2 < (a0.length : Int))))]) (by kernel_rfl) ?_
    refine gl_atE (by kernel_rfl) ?_
    refine ge_seq ?_
    refine gk_seq (by kernel_rfl) ?_
    refine gk_cond (b := (decide (s11.2 < (a0.length : Int)))) (by kernel_rfl) (by kernel_rfl) (fun hc30 => ?_) (fun hc30 => ?_)
    · have hb13 := cond_t hc30 hb13
      refine gk_skip (by kernel_rfl) ?_
      refine ge_seq ?_
      refine gk_seq (by kernel_rfl) ?_
      refine gk_block (by kernel_rfl) ?_
      refine gk_seq (by kernel_rfl) ?_
      refine gk_region (by kernel_rfl) ?_
      obtain ⟨x31, hx32, hb13⟩ := bind_some hb13
      obtain ⟨p33, cs34, hR35, hA36, ha37⟩ := RepS.ixAt hx32 (hf0_0.mono hI14)
      have hi38 := ix_some hx32
      obtain ⟨A39, n40, rfl, hf41⟩ := sl_open hR35
      refine gl_indexAddrF (c := n0_0) (T' := 22) (e := 36) (xs := (.tmp 7)) (xi := (.tmp 9)) (kd := .i64) ha37 hi38.1 hi38.2.1 (by kernel_rfl) (by kernel_rfl) (by kernel_rfl) (by kernel_rfl) (by kernel_rfl) ?_
      refine gl_load (T' := 36) (xp := (.tmp 11)) (p := p33) (c := .slice A39 x31.length n40) (n := 1) (by kernel_rfl) (by kernel_rfl) (by kernel_rfl) (by kernel_rfl) hA36 ?_
      refine gl_pure 1 [3, 5, 7, 8, 9] (K' := [(3, .slice A15 s11.1.length n16), (5, .slice A39 x31.length n40), (7, .slice A0_0 a0.length n0_0), (8, .int .i64 (a0.length : Int)), (9, .int .i64 s11.2)]) (by kernel_rfl) ?_
      refine gl_atE (by kernel_rfl) ?_
      refine ge_seq ?_
      refine gk_seq (by kernel_rfl) ?_
      refine gk_region (by kernel_rfl) ?_
      refine gl_pure 1 [3, 5, 6, 7, 8, 9] (K' := [(3, .slice A15 s11.1.length n16), (5, .slice A39 x31.length n40), (6, .slice none 0 0), (7, .slice A0_0 a0.length n0_0), (8, .int .i64 (a0.length : Int)), (9, .int .i64 s11.2)]) (by kernel_rfl) ?_
      refine gl_atE (by kernel_rfl) ?_
      refine ge_seq ?_
      refine gk_region (by kernel_rfl) ?_
      refine gl_pure 3 [7, 8, 9, 13, 14, 15] (K' := [(7, .slice A0_0 a0.length n0_0), (8, .int .i64 (a0.length : Int)), (9, .int .i64 s11.2), (13, .slice A15 s11.1.length n16), (14, .slice none 0 0), (15, .slice A39 x31.length n40)]) (by kernel_rfl) ?_
      obtain ⟨zs42, hz43, hb13⟩ := bind_some hb13
      refine gl_append (xv := .slice A39 x31.length n40) (d := kS79) (t := 36) (tx := 36) (e := 80) (s := (.tmp 14)) (x := (.tmp 15)) (xs := []) (A := none) (c := 0) (C := []) (fun X => X ++ (C17 ++ L)) hz43 (by kernel_rfl) (by kernel_rfl) (by kernel_rfl) (by kernel_rfl) (by kernel_rfl) (by kernel_rfl) (fun X => Upd.new X _) (OwnS.nil _ _ _ none) (SrcOk.slice (c := n40) (e := 80) (n := 2) (RepS.rd hf41 _) (by kernel_rfl)) (fun A44 n45 C46 hO47 => ?_)
      refine gl_rest (Tk.step (Upd.rmC _ _) (Tk.nil _)) (fun J48 hJ49 hC50 => ?_)
      have hf51 := (OwnS.rest hO47 hJ49 hC50.left)
      refine gl_buildSlice (T' := 22) (e := 36) (n := 1) (len := 1) (parts := #[(0, (.tmp 16))]) (l := [(0, .slice A44 zs42.length n45)]) (cs := #[.slice A44 zs42.length n45]) (by kernel_rfl) (by kernel_rfl) (by kernel_rfl) (by kernel_rfl) (by kernel_rfl) (fun g52 => ?_)
      have hO53 : OwnS (Kd.sl kS79) 36 J48 (some ⟨g52, 0, none⟩) 1 [zs42] [(g52, .cells #[.slice A44 zs42.length n45] 36)] := OwnS.lit (row_cons (l := [.slice A44 zs42.length n45]) ⟨_, _, rfl, hf51⟩ (row_nil _ _)) rfl rfl rfl
      refine gl_reord (D := [(g52, .cells #[.slice A44 zs42.length n45] 36)] ++ (C17 ++ L)) (Reord.refl _) ?_
      obtain ⟨zs56, hz57, hb13⟩ := bind_some hb13
      refine gl_append (xv := .slice (some ⟨g52, 0, none⟩) [zs42].length 1) (d := (Kd.sl kS79)) (t := 22) (tx := 22) (e := 36) (s := (.tmp 13)) (x := (.tmp 17)) (xs := s11.1) (fun X => [(g52, .cells #[.slice A44 zs42.length n45] 36)] ++ (X ++ L)) hz57 (by kernel_rfl) (by kernel_rfl) (by kernel_rfl) (by kernel_rfl) (by kernel_rfl) (by kernel_rfl) (fun X => (Upd.app _ (Upd.head _ X _))) (hO18.mono hJ49) (SrcOk.slice (c := 1) (e := 36) (n := 1) (OwnS.rd hO53 (Upd.selfC _ _)) (by kernel_rfl)) (fun A58 n59 C60 hO61 => ?_)
      refine gl_pure 1 [3, 7, 8, 9] (K' := [(3, .slice A58 zs56.length n59), (7, .slice A0_0 a0.length n0_0), (8, .int .i64 (a0.length : Int)), (9, .int .i64 s11.2)]) (by kernel_rfl) ?_
      refine gl_atE (by kernel_rfl) ?_
      refine ge_block_normal ?_
      refine ge_seq ?_
      refine gk_region (by kernel_rfl) ?_
      refine gl_pure 2 [3, 7, 8, 9] (K' := [(3, .slice A58 zs56.length n59), (7, .slice A0_0 a0.length n0_0), (8, .int .i64 (a0.length : Int)), (9, .int .i64 (IntKind.wrap .i64 (s11.2 + 1)))]) (by kernel_rfl) ?_
      refine gl_reord (D := C60 ++ L) (Reord.step (Upd.app _ (Upd.rmC _ _)) (Reord.skipC (Reord.refl _))) ?_
      refine gl_atE (by kernel_rfl) ?_
      obtain rfl := some_inj hb13
      exact ge_round fun t ht => ⟨A58, n59, C60, hO61, (Imm.trans hI14 hJ49), rfl, ht.pick (l := [3, 7, 8, 9]) (by kernel_rfl)⟩
    · have hb13 := cond_f hc30 hb13
      refine gk_exit (by kernel_rfl) ?_
      refine ge_seq_exit ?_
      obtain rfl := some_inj hb13
      refine ge_round_out (fun hrr => ?_) (by intro h; cases h)
      obtain rfl := hrr
      refine ge_block_hit (by kernel_rfl) ?_
      exact ge_mid fun t ht => ⟨A15, n16, C17, hO18, hI14, rfl, ht.pick (l := [3]) (by kernel_rfl)⟩
  · rintro t I27 L' ⟨A22, n23, C24, hO25, hI21, rfl, hK26⟩
    refine ge_at hK26 ?_
    refine ge_seq ?_
    refine gk_seq (by kernel_rfl) ?_
    refine gk_region (by kernel_rfl) ?_
    refine gl_pure 2 [2] (K' := [(2, .slice A22 r9.length n23)]) (by kernel_rfl) ?_
    refine gl_atE (by kernel_rfl) ?_
    refine ge_seq ?_
    refine gk_ret (by kernel_rfl) ?_
    obtain rfl := some_inj hr
    exact ge_result trivial (ResOk.tmp (by kernel_rfl) ResOk.nil) hI21 ⟨A22, n23, C24, hO25, rfl, rfl⟩
/-! 24 tocsinlaw26_mark  -/
noncomputable def tocsinlaw26_mark (a0 : S23) : Option S23 :=
  Option.bind (tocsinlaw26_lent a0.f3) fun (y3 : (List (List S79))) =>
  Option.bind (tocsinlaw26_lent a0.f4) fun (y12 : (List (List S79))) =>
  some (⟨a0.f0, a0.f1, a0.f2, y3, y12⟩ : S23)
theorem tocsinlaw26_mark_walk {a0 : S23} {A0_3 : Option Addr} {n0_3 : Nat} {A0_4 : Option Addr} {n0_4 : Nat} {I : Imm} {r : S23}  (hf0_3 : RepS (Kd.sl kS79) I A0_3 n0_3 a0.f3) (hf0_4 : RepS (Kd.sl kS79) I A0_4 n0_4 a0.f4) (hr : tocsinlaw26_mark a0 = some r) (L : Own) :
    CallsTo Tryd.prog 24 #[.agg #[.string a0.f0, .string a0.f1, .int .i64 a0.f2, .slice A0_3 a0.f3.length n0_3, .slice A0_4 a0.f4.length n0_4]] I L (fun v I' L' => ∃ A0_3 c0_3 A0_4 c0_4, RepS (Kd.sl kS79) I' A0_3 c0_3 r.f3 ∧ RepS (Kd.sl kS79) I' A0_4 c0_4 r.f4 ∧ v = .agg #[.string r.f0, .string r.f1, .int .i64 r.f2, .slice A0_3 r.f3.length c0_3, .slice A0_4 r.f4.length c0_4] ∧ L = L') := by
  unfold tocsinlaw26_mark at hr
  refine callsTo_body (N := 12) Tryd.func24 (by kernel_rfl) (by kernel_rfl) (by kernel_rfl) ?_
  refine gk_pick [0] (K' := [(0, .agg #[.string a0.f0, .string a0.f1, .int .i64 a0.f2, .slice A0_3 a0.f3.length n0_3, .slice A0_4 a0.f4.length n0_4])]) (by kernel_rfl) ?_
  refine gk_seq (by kernel_rfl) ?_
  refine gk_region (by kernel_rfl) ?_
  refine gl_box (T' := 24) (x := (.tmp 0)) (v := .agg #[.string a0.f0, .string a0.f1, .int .i64 a0.f2, .slice A0_3 a0.f3.length n0_3, .slice A0_4 a0.f4.length n0_4]) (cs := #[.string a0.f0, .string a0.f1, .int .i64 a0.f2, .slice A0_3 a0.f3.length n0_3, .slice A0_4 a0.f4.length n0_4]) (by kernel_rfl) (by kernel_rfl) (by kernel_rfl) (by kernel_rfl) (fun g1 => ?_)
  refine gl_alloc (T' := 24) (cs := #[.string (⟨#[]⟩ : ByteArray), .string (⟨#[]⟩ : ByteArray), .int .i64 0, .slice none 0 0, .slice none 0 0]) (by kernel_rfl) (by kernel_rfl) (by kernel_rfl) (fun g2 => ?_)
  refine gl_atE (by kernel_rfl) ?_
  refine ge_seq ?_
  refine gk_seq (by kernel_rfl) ?_
  refine gk_region (by kernel_rfl) ?_
  refine gl_pure 1 [1, 2, 3] (K' := [(1, .pointer (some ⟨g1, 0, none⟩)), (2, .pointer (some ⟨g2, 0, none⟩)), (3, .pointer (some ⟨g1, 3, none⟩))]) (by kernel_rfl) ?_
  refine gl_loadB (T' := 22) (xp := (.tmp 3)) (v := .slice A0_3 a0.f3.length n0_3) (g := g1) (off := 3) (cs := #[.string a0.f0, .string a0.f1, .int .i64 a0.f2, .slice A0_3 a0.f3.length n0_3, .slice A0_4 a0.f4.length n0_4]) (e := 24) (fz := (0, 0)) (by kernel_rfl) (by kernel_rfl) (by kernel_rfl) (List.mem_cons_of_mem _ List.mem_cons_self) (by kernel_rfl) ?_
  obtain ⟨y3, hx4, hr⟩ := bind_some hr
  refine gl_call (by kernel_rfl) (tocsinlaw26_lent_walk (r := y3) hf0_3 hx4 _) ?_
  rintro v I5 L6 hI7 ⟨A8, c9, C10, hO11, rfl, rfl⟩
  refine gl_pure 1 [1, 2, 5, 6] (K' := [(1, .pointer (some ⟨g1, 0, none⟩)), (2, .pointer (some ⟨g2, 0, none⟩)), (5, .slice A8 y3.length c9), (6, .pointer (some ⟨g1, 3, none⟩))]) (by kernel_rfl) ?_
  refine gl_storeB (T' := 22) (xp := (.tmp 6)) (xv := (.tmp 5)) (v := .slice A8 y3.length c9) (g := g1) (off := 3) (cs := #[.string a0.f0, .string a0.f1, .int .i64 a0.f2, .slice A0_3 a0.f3.length n0_3, .slice A0_4 a0.f4.length n0_4]) (cs' := #[.string a0.f0, .string a0.f1, .int .i64 a0.f2, .slice A8 y3.length c9, .slice A0_4 a0.f4.length n0_4]) (by kernel_rfl) (by kernel_rfl) (by kernel_rfl) (by kernel_rfl) (by kernel_rfl) (Upd.app _ (Upd.one _ (Upd.set _ _ _ _))) ?_ (by kernel_rfl)
  refine gl_atE (by kernel_rfl) ?_
  refine ge_seq ?_
  refine gk_seq (by kernel_rfl) ?_
  refine gk_region (by kernel_rfl) ?_
  refine gl_pure 1 [1, 2, 7] (K' := [(1, .pointer (some ⟨g1, 0, none⟩)), (2, .pointer (some ⟨g2, 0, none⟩)), (7, .pointer (some ⟨g1, 4, none⟩))]) (by kernel_rfl) ?_
  refine gl_loadB (T' := 22) (xp := (.tmp 7)) (v := .slice A0_4 a0.f4.length n0_4) (g := g1) (off := 4) (cs := #[.string a0.f0, .string a0.f1, .int .i64 a0.f2, .slice A8 y3.length c9, .slice A0_4 a0.f4.length n0_4]) (e := 24) (fz := (0, 0)) (by kernel_rfl) (by kernel_rfl) (by kernel_rfl) (List.mem_append_right _ (List.mem_cons_of_mem _ List.mem_cons_self)) (by kernel_rfl) ?_
  obtain ⟨y12, hx13, hr⟩ := bind_some hr
  refine gl_call (by kernel_rfl) (tocsinlaw26_lent_walk (r := y12) (hf0_4.mono hI7) hx13 _) ?_
  rintro v I14 L15 hI16 ⟨A17, c18, C19, hO20, rfl, rfl⟩
  refine gl_pure 1 [1, 2, 9, 10] (K' := [(1, .pointer (some ⟨g1, 0, none⟩)), (2, .pointer (some ⟨g2, 0, none⟩)), (9, .slice A17 y12.length c18), (10, .pointer (some ⟨g1, 4, none⟩))]) (by kernel_rfl) ?_
  refine gl_storeB (T' := 22) (xp := (.tmp 10)) (xv := (.tmp 9)) (v := .slice A17 y12.length c18) (g := g1) (off := 4) (cs := #[.string a0.f0, .string a0.f1, .int .i64 a0.f2, .slice A8 y3.length c9, .slice A0_4 a0.f4.length n0_4]) (cs' := #[.string a0.f0, .string a0.f1, .int .i64 a0.f2, .slice A8 y3.length c9, .slice A17 y12.length c18]) (by kernel_rfl) (by kernel_rfl) (by kernel_rfl) (by kernel_rfl) (by kernel_rfl) (Upd.app _ (Upd.app _ (Upd.one _ (Upd.set _ _ _ _)))) ?_ (by kernel_rfl)
  refine gl_atE (by kernel_rfl) ?_
  refine ge_seq ?_
  refine gk_seq (by kernel_rfl) ?_
  refine gk_region (by kernel_rfl) ?_
  refine gl_loadB (T' := 24) (xp := (.tmp 1)) (v := .agg #[.string a0.f0, .string a0.f1, .int .i64 a0.f2, .slice A8 y3.length c9, .slice A17 y12.length c18]) (g := g1) (off := 0) (cs := #[.string a0.f0, .string a0.f1, .int .i64 a0.f2, .slice A8 y3.length c9, .slice A17 y12.length c18]) (e := 24) (fz := (0, 0)) (by kernel_rfl) (by kernel_rfl) (by kernel_rfl) (List.mem_append_right _ (List.mem_append_right _ (List.mem_cons_of_mem _ List.mem_cons_self))) (by kernel_rfl) ?_
  refine gl_storeB (T' := 24) (xp := (.tmp 2)) (xv := (.tmp 11)) (v := .agg #[.string a0.f0, .string a0.f1, .int .i64 a0.f2, .slice A8 y3.length c9, .slice A17 y12.length c18]) (g := g2) (off := 0) (cs := #[.string (⟨#[]⟩ : ByteArray), .string (⟨#[]⟩ : ByteArray), .int .i64 0, .slice none 0 0, .slice none 0 0]) (cs' := #[.string a0.f0, .string a0.f1, .int .i64 a0.f2, .slice A8 y3.length c9, .slice A17 y12.length c18]) (by kernel_rfl) (by kernel_rfl) (by kernel_rfl) (by kernel_rfl) (by kernel_rfl) (Upd.app _ (Upd.app _ (Upd.set _ _ _ _))) ?_ (by kernel_rfl)
  refine gl_atE (by kernel_rfl) ?_
  refine ge_seq ?_
  refine gk_rest (Tk.step (Upd.rmC _ _) (Tk.step (Upd.rmC _ _) (Tk.step (Upd.rm1 _ _) (Tk.nil _)))) (fun J21 hJ22 hC23 => ?_)
  have hf24 := (OwnS.rest hO20 hJ22 hC23.left)
  have hf25 := (OwnS.rest (hO11.mono hI16) hJ22 hC23.right.left)
  have hf26 := hC23.right.right.left.blk
  refine gk_reord (D := L) (Reord.skip (Reord.refl _)) ?_
  refine gk_ret (by kernel_rfl) ?_
  obtain rfl := some_inj hr
  exact ge_result trivial (ResOk.cell (v := .agg #[.string a0.f0, .string a0.f1, .int .i64 a0.f2, .slice A8 y3.length c9, .slice A17 y12.length c18]) (by kernel_rfl) (loadR_agg (cs := [.string a0.f0, .string a0.f1, .int .i64 a0.f2, .slice A8 y3.length c9, .slice A17 y12.length c18]) (by kernel_rfl) (RunAt.take hf26 5)) ResOk.nil) (Imm.trans (Imm.trans hI7 hI16) hJ22) ⟨A8, c9, A17, c18, hf25, hf24, rfl, rfl⟩
def lays196_ren : Go.Shelf.Ren := ⟨fun x => if x = 196 then 107 else if x = 259 then 126 else x, fun x => if x = 119 then 154 else if x = 46 then 142 else if x = 139 then 157 else if x = 138 then 156 else if x = 53 then 106 else x, fun x => if x = 3 then 0 else if x = 4 then 1 else x⟩
theorem lays196 : Go.Proofs.Lays.n196 Tryd.prog lays196_ren := {
  mixed := by kernel_rfl,
  f196 := Tryd.func107.trans (congrArg some (by kernel_rfl)),
  f259 := Tryd.func126.trans (congrArg some (by kernel_rfl)),
  t0 := Tryd.underlying0,
  a0 := Tryd.isAgg0,
  z0 := Tryd.sizeOf0,
  v0 := Tryd.zeroValue0,
  t3 := Tryd.underlying3,
  a3 := Tryd.isAgg3,
  z3 := Tryd.sizeOf3,
  v3 := Tryd.zeroValue3,
  t4 := Tryd.underlying4,
  a4 := Tryd.isAgg4,
  z4 := Tryd.sizeOf4,
  v4 := Tryd.zeroValue4,
  t5 := Tryd.underlying5,
  a5 := Tryd.isAgg5,
  z5 := Tryd.sizeOf5,
  v5 := Tryd.zeroValue5,
  t9 := Tryd.underlying9,
  a9 := Tryd.isAgg9,
  z9 := Tryd.sizeOf9,
  v9 := Tryd.zeroValue9,
  t12 := Tryd.underlying12,
  a12 := Tryd.isAgg12,
  z12 := Tryd.sizeOf12,
  v12 := Tryd.zeroValue12,
  t46 := Tryd.underlying142,
  a46 := Tryd.isAgg142,
  z46 := Tryd.sizeOf142,
  v46 := Tryd.zeroValue142,
  t53 := Tryd.underlying106,
  a53 := Tryd.isAgg106,
  z53 := Tryd.sizeOf106,
  v53 := Tryd.zeroValue106,
  t119 := Tryd.underlying154,
  a119 := Tryd.isAgg154,
  z119 := Tryd.sizeOf154,
  t138 := Tryd.underlying156,
  a138 := Tryd.isAgg156,
  z138 := Tryd.sizeOf156,
  v138 := Tryd.zeroValue156,
  t139 := Tryd.underlying157,
  a139 := Tryd.isAgg157,
  z139 := Tryd.sizeOf157,
  v139 := Tryd.zeroValue157,
  g3 := by kernel_rfl,
  g4 := by kernel_rfl }

theorem gl_tabs {I : Imm} {L : Own} {W : World} (hG : Gl I) (hW : Holds I L W) : Go.Lib.Utf8Tabs 0 1 W := by
  refine ⟨fun c hc => ?_, fun i hi => ?_⟩
  · obtain ⟨a, cs, ha, hR, hr⟩ := hG.g0.at_ c (Go.Lib.firstT c : Int) (by simp [tab0, List.getElem?_range hc])
    cases ha
    obtain rfl : cs = [.int .u8 (Go.Lib.firstT c : Int)] := hR
    have := hW.cell (hr 0 _ rfl)
    rw [addr_add, show c * (Kd.int .u8).n + 0 = c from by show c * 1 + 0 = c; omega] at this
    exact this
  · obtain ⟨a, cs, ha, hR, hr⟩ := hG.g1.at_ i ⟨(Go.Lib.accLo i : Int), (Go.Lib.accHi i : Int)⟩ (by simp [tab1, List.getElem?_range hi])
    cases ha
    obtain rfl := kS155_open hR
    have h0 := hW.cell (hr 0 _ rfl)
    have h1 := hW.cell (hr 1 _ rfl)
    rw [addr_add] at h0 h1
    rw [show i * kS155.n + 0 = 2 * i from by show i * 2 + 0 = 2 * i; omega] at h0
    rw [show i * kS155.n + 1 = 2 * i + 1 from by show i * 2 + 1 = 2 * i + 1; omega] at h1
    exact ⟨h0, h1⟩
def utf8_ValidString (a0 : ByteArray) : Option Bool := if a0.size ≤ 9223372036854775807 then some (Go.Lib.validD a0.data.toList) else none
theorem utf8_ValidString_walk {a0 : ByteArray} {I : Imm} {r : Bool} (hG : Gl I) (hr : utf8_ValidString a0 = some r) (L : Own) :
    CallsTo Tryd.prog 107 #[.string a0] I L (fun v I' L' => v = .bool r ∧ L = L') := by
  unfold utf8_ValidString at hr
  split at hr <;> cases hr
  rename_i hs
  exact callsTo_below hG.dr (fun W hW => Go.Proofs.Any.utf8_ValidString lays196 a0 W hs (gl_tabs hG hW))

/-! 70 nflog_text  -/
noncomputable def nflog_text (a0 : ByteArray) (a1 : Int) : Option Bool :=
  Option.bind (bif (decide ((a0.size : Int) ≥ 1)) then
    (bif (decide ((a0.size : Int) ≤ a1)) then
      (Option.bind (utf8_ValidString a0) fun (y8 : Bool) =>
        some y8)
      else
      (some false))
    else
    (some false)) fun (j1 : Bool) =>
  some j1
theorem nflog_text_walk {a0 : ByteArray} {a1 : Int} {I : Imm} {r : Bool} (hG : Gl I) (hr : nflog_text a0 a1 = some r) (L : Own) :
    CallsTo Tryd.prog 70 #[.string a0, .int .i64 a1] I L (fun v I' L' => v = .bool r ∧ L = L') := by
  unfold nflog_text at hr
  refine callsTo_body (N := 18) Tryd.func70 (by kernel_rfl) (by kernel_rfl) (by kernel_rfl) ?_
  refine gk_pick [0, 1] (K' := [(0, .string a0), (1, .int .i64 a1)]) (by kernel_rfl) ?_
  refine gk_seq (by kernel_rfl) ?_
  refine gk_region (by kernel_rfl) ?_
  refine gl_pure 1 [0, 1] (K' := [(0, .string a0), (1, .int .i64 a1)]) (by kernel_rfl) ?_
  refine gl_atE (by kernel_rfl) ?_
  refine ge_seq ?_
  refine gk_seq (by kernel_rfl) ?_
  obtain ⟨j1, hj2, hr⟩ := bind_some hr
  refine gk_join (fun t I' L' => I ≤ I' ∧ L = L' ∧ Knows 18 [(4, .bool j1)] t) ?_ ?_
  · refine gk_region (by kernel_rfl) ?_
    refine gl_pure 4 [0, 1, 8] (K' := [(0, .string a0), (1, .int .i64 a1), (8, .bool (decide ((a0.size : Int) ≥ 1)))]) (by kernel_rfl) ?_
    refine gl_case 8 (b := (decide ((a0.size : Int) ≥ 1))) (by kernel_rfl) (fun hc6 => ?_) (fun hc6 => ?_)
    · have hj2 := cond_t hc6 hj2
      refine gl_pure 6 [0, 14] (K' := [(0, .string a0), (14, .bool (decide ((a0.size : Int) ≤ a1)))]) (by kernel_rfl) ?_
      refine gl_case 14 (b := (decide ((a0.size : Int) ≤ a1))) (by kernel_rfl) (fun hc7 => ?_) (fun hc7 => ?_)
      · have hj2 := cond_t hc7 hj2
        refine gl_pure 1 [14, 15] (K' := [(14, .bool true), (15, .string a0)]) (by kernel_rfl) ?_
        obtain ⟨y8, hx9, hj2⟩ := bind_some hj2
        refine gl_callQ (by kernel_rfl) (utf8_ValidString_walk (r := y8) hG hx9 _) ?_
        refine gl_pure 2 [4] (K' := [(4, .bool y8)]) (by kernel_rfl) ?_
        refine gl_atE (by kernel_rfl) ?_
        obtain rfl := some_inj hj2
        exact ge_mid fun t ht => ⟨(Imm.refl _), rfl, ht.pick (l := [4]) (by kernel_rfl)⟩
      · have hj2 := cond_f hc7 hj2
        refine gl_pure 4 [4] (K' := [(4, .bool false)]) (by kernel_rfl) ?_
        refine gl_atE (by kernel_rfl) ?_
        obtain rfl := some_inj hj2
        exact ge_mid fun t ht => ⟨(Imm.refl _), rfl, ht.pick (l := [4]) (by kernel_rfl)⟩
    · have hj2 := cond_f hc6 hj2
      refine gl_pure 10 [4] (K' := [(4, .bool false)]) (by kernel_rfl) ?_
      refine gl_atE (by kernel_rfl) ?_
      obtain rfl := some_inj hj2
      exact ge_mid fun t ht => ⟨(Imm.refl _), rfl, ht.pick (l := [4]) (by kernel_rfl)⟩
  · rintro t I5 L' ⟨hI3, rfl, hK4⟩
    refine ge_at hK4 ?_
    refine ge_seq ?_
    refine gk_ret (by kernel_rfl) ?_
    obtain rfl := some_inj hr
    exact ge_result trivial (ResOk.tmp (by kernel_rfl) ResOk.nil) hI3 ⟨rfl, rfl⟩
/-! 147 labels_digit  -/
noncomputable def labels_digit (a0 : Int) : Bool :=
  ((decide (a0 ≥ 48)) && (decide (a0 ≤ 57)))
theorem labels_digit_walk {a0 : Int} {I : Imm} {r : Bool}  (hr : labels_digit a0 = r) (L : Own) :
    CallsTo Tryd.prog 147 #[.int .u8 a0] I L (fun v I' L' => v = .bool r ∧ L = L') := by
  replace hr : some (labels_digit a0) = some r := congrArg some hr
  unfold labels_digit at hr
  refine callsTo_body (N := 9) Tryd.func147 (by kernel_rfl) (by kernel_rfl) (by kernel_rfl) ?_
  refine gk_pick [0] (K' := [(0, .int .u8 a0)]) (by kernel_rfl) ?_
  refine gk_seq (by kernel_rfl) ?_
  refine gk_region (by kernel_rfl) ?_
  refine gl_pure 1 [0] (K' := [(0, .int .u8 a0)]) (by kernel_rfl) ?_
  refine gl_atE (by kernel_rfl) ?_
  refine ge_seq ?_
  refine gk_seq (by kernel_rfl) ?_
  obtain ⟨b3, hb4⟩ : ∃ z, z = ((decide (a0 ≥ 48)) && (decide (a0 ≤ 57))) := ⟨_, rfl⟩
  refine gk_join (fun t I' L' => I ≤ I' ∧ L = L' ∧ Knows 9 [(2, .bool b3)] t) ?_ ?_
  · refine gk_region (by kernel_rfl) ?_
    refine gl_pure 3 [0, 5] (K' := [(0, .int .u8 a0), (5, .bool (decide (a0 ≥ 48)))]) (by kernel_rfl) ?_
    refine gl_case 5 (b := (decide (a0 ≥ 48))) (by kernel_rfl) (fun hc6 => ?_) (fun hc6 => ?_)
    · refine gl_pure 4 [2] (K' := [(2, .bool (decide (a0 ≤ 57)))]) (by kernel_rfl) ?_
      refine gl_atE (by kernel_rfl) ?_
      exact ge_mid fun t ht => ⟨(Imm.refl _), rfl, by rw [(show b3 = (decide (a0 ≤ 57)) from hb4.trans (by rw [hc6]; try rfl))]; exact ht.pick (l := [2]) (by kernel_rfl)⟩
    · refine gl_pure 4 [2] (K' := [(2, .bool false)]) (by kernel_rfl) ?_
      refine gl_atE (by kernel_rfl) ?_
      exact ge_mid fun t ht => ⟨(Imm.refl _), rfl, by rw [(show b3 = false from hb4.trans (by rw [hc6]; try rfl))]; exact ht.pick (l := [2]) (by kernel_rfl)⟩
  · rintro t I5 L' ⟨hI1, rfl, hK2⟩
    subst hb4
    refine ge_at hK2 ?_
    refine ge_seq ?_
    refine gk_ret (by kernel_rfl) ?_
    obtain rfl := some_inj hr
    exact ge_result trivial (ResOk.tmp (by kernel_rfl) ResOk.nil) hI1 ⟨rfl, rfl⟩
/-! 148 labels_letter  -/
noncomputable def labels_letter (a0 : Int) : Bool :=
  ((((decide (a0 ≥ 97)) && (decide (a0 ≤ 122))) || ((decide (a0 ≥ 65)) && (decide (a0 ≤ 90)))) || (a0 == 95))
theorem labels_letter_walk {a0 : Int} {I : Imm} {r : Bool}  (hr : labels_letter a0 = r) (L : Own) :
    CallsTo Tryd.prog 148 #[.int .u8 a0] I L (fun v I' L' => v = .bool r ∧ L = L') := by
  replace hr : some (labels_letter a0) = some r := congrArg some hr
  unfold labels_letter at hr
  refine callsTo_body (N := 21) Tryd.func148 (by kernel_rfl) (by kernel_rfl) (by kernel_rfl) ?_
  refine gk_pick [0] (K' := [(0, .int .u8 a0)]) (by kernel_rfl) ?_
  refine gk_seq (by kernel_rfl) ?_
  refine gk_region (by kernel_rfl) ?_
  refine gl_pure 1 [0] (K' := [(0, .int .u8 a0)]) (by kernel_rfl) ?_
  refine gl_atE (by kernel_rfl) ?_
  refine ge_seq ?_
  refine gk_seq (by kernel_rfl) ?_
  obtain ⟨b3, hb4⟩ : ∃ z, z = ((((decide (a0 ≥ 97)) && (decide (a0 ≤ 122))) || ((decide (a0 ≥ 65)) && (decide (a0 ≤ 90)))) || (a0 == 95)) := ⟨_, rfl⟩
  refine gk_join (fun t I' L' => I ≤ I' ∧ L = L' ∧ Knows 21 [(2, .bool b3)] t) ?_ ?_
  · refine gk_region (by kernel_rfl) ?_
    refine gl_pure 3 [0, 5] (K' := [(0, .int .u8 a0), (5, .bool (decide (a0 ≥ 97)))]) (by kernel_rfl) ?_
    refine gl_case 5 (b := (decide (a0 ≥ 97))) (by kernel_rfl) (fun hc6 => ?_) (fun hc6 => ?_)
    · refine gl_pure 4 [0, 9] (K' := [(0, .int .u8 a0), (9, .bool (decide (a0 ≤ 122)))]) (by kernel_rfl) ?_
      refine gl_case 9 (b := (decide (a0 ≤ 122))) (by kernel_rfl) (fun hc7 => ?_) (fun hc7 => ?_)
      · refine gl_pure 12 [2] (K' := [(2, .bool true)]) (by kernel_rfl) ?_
        refine gl_atE (by kernel_rfl) ?_
        exact ge_mid fun t ht => ⟨(Imm.refl _), rfl, by rw [(show b3 = true from hb4.trans (by rw [hc6, hc7]; try rfl))]; exact ht.pick (l := [2]) (by kernel_rfl)⟩
      · refine gl_pure 3 [0, 9, 12] (K' := [(0, .int .u8 a0), (9, .bool false), (12, .bool (decide (a0 ≥ 65)))]) (by kernel_rfl) ?_
        refine gl_case 12 (b := (decide (a0 ≥ 65))) (by kernel_rfl) (fun hc8 => ?_) (fun hc8 => ?_)
        · refine gl_pure 5 [0, 17] (K' := [(0, .int .u8 a0), (17, .bool (decide (a0 ≤ 90)))]) (by kernel_rfl) ?_
          refine gl_case 17 (b := (decide (a0 ≤ 90))) (by kernel_rfl) (fun hc9 => ?_) (fun hc9 => ?_)
          · refine gl_pure 4 [2] (K' := [(2, .bool true)]) (by kernel_rfl) ?_
            refine gl_atE (by kernel_rfl) ?_
            exact ge_mid fun t ht => ⟨(Imm.refl _), rfl, by rw [(show b3 = true from hb4.trans (by rw [hc6, hc7, hc8, hc9]; try rfl))]; exact ht.pick (l := [2]) (by kernel_rfl)⟩
          · refine gl_pure 4 [2] (K' := [(2, .bool (a0 == 95))]) (by kernel_rfl) ?_
            refine gl_atE (by kernel_rfl) ?_
            exact ge_mid fun t ht => ⟨(Imm.refl _), rfl, by rw [(show b3 = (a0 == 95) from hb4.trans (by rw [hc6, hc7, hc8, hc9]; try rfl))]; exact ht.pick (l := [2]) (by kernel_rfl)⟩
        · refine gl_pure 9 [2] (K' := [(2, .bool (a0 == 95))]) (by kernel_rfl) ?_
          refine gl_atE (by kernel_rfl) ?_
          exact ge_mid fun t ht => ⟨(Imm.refl _), rfl, by rw [(show b3 = (a0 == 95) from hb4.trans (by rw [hc6, hc7, hc8]; try rfl))]; exact ht.pick (l := [2]) (by kernel_rfl)⟩
    · refine gl_pure 7 [0, 9, 12] (K' := [(0, .int .u8 a0), (9, .bool false), (12, .bool (decide (a0 ≥ 65)))]) (by kernel_rfl) ?_
      refine gl_case 12 (b := (decide (a0 ≥ 65))) (by kernel_rfl) (fun hc10 => ?_) (fun hc10 => ?_)
      · refine gl_pure 5 [0, 17] (K' := [(0, .int .u8 a0), (17, .bool (decide (a0 ≤ 90)))]) (by kernel_rfl) ?_
        refine gl_case 17 (b := (decide (a0 ≤ 90))) (by kernel_rfl) (fun hc11 => ?_) (fun hc11 => ?_)
        · refine gl_pure 4 [2] (K' := [(2, .bool true)]) (by kernel_rfl) ?_
          refine gl_atE (by kernel_rfl) ?_
          exact ge_mid fun t ht => ⟨(Imm.refl _), rfl, by rw [(show b3 = true from hb4.trans (by rw [hc6, hc10, hc11]; try rfl))]; exact ht.pick (l := [2]) (by kernel_rfl)⟩
        · refine gl_pure 4 [2] (K' := [(2, .bool (a0 == 95))]) (by kernel_rfl) ?_
          refine gl_atE (by kernel_rfl) ?_
          exact ge_mid fun t ht => ⟨(Imm.refl _), rfl, by rw [(show b3 = (a0 == 95) from hb4.trans (by rw [hc6, hc10, hc11]; try rfl))]; exact ht.pick (l := [2]) (by kernel_rfl)⟩
      · refine gl_pure 9 [2] (K' := [(2, .bool (a0 == 95))]) (by kernel_rfl) ?_
        refine gl_atE (by kernel_rfl) ?_
        exact ge_mid fun t ht => ⟨(Imm.refl _), rfl, by rw [(show b3 = (a0 == 95) from hb4.trans (by rw [hc6, hc10]; try rfl))]; exact ht.pick (l := [2]) (by kernel_rfl)⟩
  · rintro t I5 L' ⟨hI1, rfl, hK2⟩
    subst hb4
    refine ge_at hK2 ?_
    refine ge_seq ?_
    refine gk_ret (by kernel_rfl) ?_
    obtain rfl := some_inj hr
    exact ge_result trivial (ResOk.tmp (by kernel_rfl) ResOk.nil) hI1 ⟨rfl, rfl⟩
/-! 139 labels_named  -/
noncomputable def labels_named_l33 (a2 : Bool) (l11 : List Int) : Int → Option ((Int) ⊕ ((Unit) ⊕ (Bool))) := fun s23 =>
  bif (decide (s23 < (l11.length : Int))) then
  (Option.bind (ix l11 s23) fun (x36 : Int) =>
    bif (((!(labels_letter x36)) && (!(labels_digit x36))) && (!(a2 && (x36 == 58)))) then
    (some (Sum.inr (Sum.inr false)))
    else
    (some (Sum.inl (IntKind.wrap .i64 (s23 + 1)))))
  else
  (some (Sum.inr (Sum.inl ())))
noncomputable def labels_named (a0 : ByteArray) (a1 : Int) (a2 : Bool) : Option Bool :=
  Option.bind (bif (a0.toList == (⟨#[]⟩ : ByteArray).toList) then
    (some true)
    else
    (bif (decide ((a0.size : Int) > a1)) then
      (some true)
      else
      (Option.bind (bx a0 0) fun (c8 : Int) =>
        some (labels_digit c8)))) fun (j1 : Bool) =>
  bif j1 then
  (some false)
  else
  (Option.bind (sb a0) fun (l11 : List Int) =>
    Option.bind (loopO (labels_named_l33 a2 l11) 0) fun (r21 : (Unit) ⊕ (Bool)) =>
    match r21 with
    | Sum.inl r29 => some true
    | Sum.inr v54 => some v54)
theorem labels_named_walk {a0 : ByteArray} {a1 : Int} {a2 : Bool} {I : Imm} {r : Bool}  (hr : labels_named a0 a1 a2 = some r) (L : Own) :
    CallsTo Tryd.prog 139 #[.string a0, .int .i64 a1, .bool a2] I L (fun v I' L' => v = .bool r ∧ L = L') := by
  unfold labels_named at hr
  refine callsTo_body (N := 46) Tryd.func139 (by kernel_rfl) (by kernel_rfl) (by kernel_rfl) ?_
  refine gk_pick [0, 1, 2] (K' := [(0, .string a0), (1, .int .i64 a1), (2, .bool a2)]) (by kernel_rfl) ?_
  refine gk_seq (by kernel_rfl) ?_
  refine gk_region (by kernel_rfl) ?_
  refine gl_pure 1 [0, 1, 2] (K' := [(0, .string a0), (1, .int .i64 a1), (2, .bool a2)]) (by kernel_rfl) ?_
  refine gl_atE (by kernel_rfl) ?_
  refine ge_seq ?_
  refine gk_seq (by kernel_rfl) ?_
  refine gk_seq (by kernel_rfl) ?_
  obtain ⟨j1, hj2, hr⟩ := bind_some hr
  refine gk_join (fun t I' L' => I ≤ I' ∧ L = L' ∧ Knows 46 [(0, .string a0), (2, .bool a2), (21, .bool j1)] t) ?_ ?_
  · refine gk_region (by kernel_rfl) ?_
    refine gl_pure 3 [0, 1, 2, 11] (K' := [(0, .string a0), (1, .int .i64 a1), (2, .bool a2), (11, .bool (a0.toList == (⟨#[]⟩ : ByteArray).toList))]) (by kernel_rfl) ?_
    refine gl_case 11 (b := (a0.toList == (⟨#[]⟩ : ByteArray).toList)) (by kernel_rfl) (fun hc6 => ?_) (fun hc6 => ?_)
    · have hj2 := cond_t hc6 hj2
      refine gl_pure 10 [0, 2, 21] (K' := [(0, .string a0), (2, .bool a2), (21, .bool true)]) (by kernel_rfl) ?_
      refine gl_atE (by kernel_rfl) ?_
      obtain rfl := some_inj hj2
      exact ge_mid fun t ht => ⟨(Imm.refl _), rfl, ht.pick (l := [0, 2, 21]) (by kernel_rfl)⟩
    · have hj2 := cond_f hc6 hj2
      refine gl_pure 6 [0, 2, 17] (K' := [(0, .string a0), (2, .bool a2), (17, .bool (decide ((a0.size : Int) > a1)))]) (by kernel_rfl) ?_
      refine gl_case 17 (b := (decide ((a0.size : Int) > a1))) (by kernel_rfl) (fun hc7 => ?_) (fun hc7 => ?_)
      · have hj2 := cond_t hc7 hj2
        refine gl_pure 4 [0, 2, 21] (K' := [(0, .string a0), (2, .bool a2), (21, .bool true)]) (by kernel_rfl) ?_
        refine gl_atE (by kernel_rfl) ?_
        obtain rfl := some_inj hj2
        exact ge_mid fun t ht => ⟨(Imm.refl _), rfl, ht.pick (l := [0, 2, 21]) (by kernel_rfl)⟩
      · have hj2 := cond_f hc7 hj2
        refine gl_pure 1 [0, 2, 17, 18] (K' := [(0, .string a0), (2, .bool a2), (17, .bool false), (18, .string a0)]) (by kernel_rfl) ?_
        obtain ⟨c8, hx9, hj2⟩ := bind_some hj2
        refine gl_index' (T' := 9) (xs := (.tmp 18)) (xi := (.const (.int .i64 0))) (kd := .i64) hx9 (by kernel_rfl) (by kernel_rfl) (by kernel_rfl) (by kernel_rfl) (by kernel_rfl) ?_
        refine gl_callQ (by kernel_rfl) (labels_digit_walk (r := (labels_digit c8))  rfl _) ?_
        refine gl_pure 1 [0, 2, 21] (K' := [(0, .string a0), (2, .bool a2), (21, .bool (labels_digit c8))]) (by kernel_rfl) ?_
        refine gl_atE (by kernel_rfl) ?_
        obtain rfl := some_inj hj2
        exact ge_mid fun t ht => ⟨(Imm.refl _), rfl, ht.pick (l := [0, 2, 21]) (by kernel_rfl)⟩
  · rintro t I5 L' ⟨hI3, rfl, hK4⟩
    refine ge_at hK4 ?_
    refine ge_seq ?_
    refine gk_cond (b := j1) (by kernel_rfl) (by kernel_rfl) (fun hc10 => ?_) (fun hc10 => ?_)
    · have hr := cond_t hc10 hr
      refine gk_seq (by kernel_rfl) ?_
      refine gk_region (by kernel_rfl) ?_
      refine gl_pure 1 [6] (K' := [(6, .bool false)]) (by kernel_rfl) ?_
      refine gl_atE (by kernel_rfl) ?_
      refine ge_seq ?_
      refine gk_ret (by kernel_rfl) ?_
      refine ge_seq_ret ?_
      obtain rfl := some_inj hr
      exact ge_result trivial (ResOk.tmp (by kernel_rfl) ResOk.nil) hI3 ⟨rfl, rfl⟩
    · have hr := cond_f hc10 hr
      refine gk_skip (by kernel_rfl) ?_
      refine ge_seq ?_
      refine gk_seq (by kernel_rfl) ?_
      refine gk_seq (by kernel_rfl) ?_
      refine gk_region (by kernel_rfl) ?_
      refine gl_pure 1 [2, 22] (K' := [(2, .bool a2), (22, .string a0)]) (by kernel_rfl) ?_
      obtain ⟨l11, hx12, hr⟩ := bind_some hr
      refine gl_strBytes (src := 9) (dst := 58) (e := 5) (n := 1) (x := (.tmp 22)) hx12 (by kernel_rfl) (by kernel_rfl) (by kernel_rfl) (by kernel_rfl) (by kernel_rfl) (by kernel_rfl) (fun A13 n14 C15 hO16 => ?_)
      refine gl_pure 2 [2, 23, 24, 25] (K' := [(2, .bool a2), (23, .slice A13 l11.length n14), (24, .int .i64 (l11.length : Int)), (25, .int .i64 0)]) (by kernel_rfl) ?_
      refine gl_atE (by kernel_rfl) ?_
      refine ge_seq ?_
      obtain ⟨r21, hl22, hr⟩ := bind_some hr
      refine gk_join (fun t I' L' => ∃ r29, r21 = Sum.inl r29 ∧ I5 ≤ I' ∧ L = L' ∧ Knows 46 [] t) ?_ ?_
      · refine gk_block (by kernel_rfl) ?_
        refine gk_pick [2, 23, 24, 25] (K' := [(2, .bool a2), (23, .slice A13 l11.length n14), (24, .int .i64 (l11.length : Int)), (25, .int .i64 0)]) (by kernel_rfl) ?_
        intro t hK
        refine gc_loop (labels_named_l33 a2 l11) (fun s23 t I' L' => I5 ≤ I' ∧ C15 ++ L = L' ∧ Knows 46 [(2, .bool a2), (23, .slice A13 l11.length n14), (24, .int .i64 (l11.length : Int)), (25, .int .i64 s23)] t) (by kernel_rfl) ?_ hl22 ⟨(Imm.refl _), rfl, hK⟩
        rintro s23 o24 t I28 L' hb25 ⟨hI26, rfl, hK27⟩
        unfold labels_named_l33 at hb25
        refine gk_at hK27 ?_
        refine gk_seq (by kernel_rfl) ?_
        refine gk_region (by kernel_rfl) ?_
        refine gl_pure 1 [2, 23, 24, 25, 26] (K' := [(2, .bool a2), (23, .slice A13 l11.length n14), (24, .int .i64 (l11.length : Int)), (25, .int .i64 s23), (26, .bool (decide (s23 < (l11.length : Int))))]) (by kernel_rfl) ?_
        refine gl_atE (by kernel_rfl) ?_
        refine ge_seq ?_
        refine gk_seq (by kernel_rfl) ?_
        refine gk_cond (b := (decide (s23 < (l11.length : Int)))) (by kernel_rfl) (by kernel_rfl) (fun hc35 => ?_) (fun hc35 => ?_)
        · have hb25 := cond_t hc35 hb25
          refine gk_skip (by kernel_rfl) ?_
          refine ge_seq ?_
          refine gk_seq (by kernel_rfl) ?_
          refine gk_block (by kernel_rfl) ?_
          refine gk_seq (by kernel_rfl) ?_
          refine gk_region (by kernel_rfl) ?_
          obtain ⟨x36, hx37, hb25⟩ := bind_some hb25
          refine gl_indexAddrW (d := (Kd.int .u8)) (c := n14) (T' := 58) (e := 5) (xs := (.tmp 23)) (xi := (.tmp 25)) (kd := .i64) hx37 (hO16.mono hI26) (Upd.selfC _ _) (by kernel_rfl) (by kernel_rfl) (by kernel_rfl) (by kernel_rfl) (by kernel_rfl) (fun p38 cs39 hR40 hA41 hp44 => ?_)
          obtain rfl := hR40
          refine gl_loadO (T' := 5) (xp := (.tmp 27)) (p := p38) (c := .int .u8 x36) (n := 1) (by kernel_rfl) (by kernel_rfl) (by kernel_rfl) (by kernel_rfl) hA41 ?_
          refine gl_pure 1 [2, 8, 23, 24, 25] (K' := [(2, .bool a2), (8, .int .u8 x36), (23, .slice A13 l11.length n14), (24, .int .i64 (l11.length : Int)), (25, .int .i64 s23)]) (by kernel_rfl) ?_
          refine gl_atE (by kernel_rfl) ?_
          refine ge_seq ?_
          refine gk_seq (by kernel_rfl) ?_
          obtain ⟨b47, hb48⟩ : ∃ z, z = (((!(labels_letter x36)) && (!(labels_digit x36))) && (!(a2 && (x36 == 58)))) := ⟨_, rfl⟩
          refine gk_join (fun t I' L' => I28 ≤ I' ∧ C15 ++ L = L' ∧ Knows 46 [(2, .bool a2), (23, .slice A13 l11.length n14), (24, .int .i64 (l11.length : Int)), (25, .int .i64 s23), (44, .bool b47)] t) ?_ ?_
          · refine gk_region (by kernel_rfl) ?_
            refine gl_pure 1 [2, 8, 23, 24, 25, 29] (K' := [(2, .bool a2), (8, .int .u8 x36), (23, .slice A13 l11.length n14), (24, .int .i64 (l11.length : Int)), (25, .int .i64 s23), (29, .int .u8 x36)]) (by kernel_rfl) ?_
            refine gl_callQ (by kernel_rfl) (labels_letter_walk (r := (labels_letter x36))  rfl _) ?_
            refine gl_pure 2 [2, 8, 23, 24, 25, 32] (K' := [(2, .bool a2), (8, .int .u8 x36), (23, .slice A13 l11.length n14), (24, .int .i64 (l11.length : Int)), (25, .int .i64 s23), (32, .bool (!(labels_letter x36)))]) (by kernel_rfl) ?_
            refine gl_case 32 (b := (!(labels_letter x36))) (by kernel_rfl) (fun hc50 => ?_) (fun hc50 => ?_)
            · refine gl_pure 1 [2, 8, 23, 24, 25, 32, 33] (K' := [(2, .bool a2), (8, .int .u8 x36), (23, .slice A13 l11.length n14), (24, .int .i64 (l11.length : Int)), (25, .int .i64 s23), (32, .bool true), (33, .int .u8 x36)]) (by kernel_rfl) ?_
              refine gl_callQ (by kernel_rfl) (labels_digit_walk (r := (labels_digit x36))  rfl _) ?_
              refine gl_pure 3 [2, 8, 23, 24, 25, 37] (K' := [(2, .bool a2), (8, .int .u8 x36), (23, .slice A13 l11.length n14), (24, .int .i64 (l11.length : Int)), (25, .int .i64 s23), (37, .bool (!(labels_digit x36)))]) (by kernel_rfl) ?_
              refine gl_case 37 (b := (!(labels_digit x36))) (by kernel_rfl) (fun hc51 => ?_) (fun hc51 => ?_)
              · refine gl_pure 2 [2, 8, 23, 24, 25, 37, 39] (K' := [(2, .bool a2), (8, .int .u8 x36), (23, .slice A13 l11.length n14), (24, .int .i64 (l11.length : Int)), (25, .int .i64 s23), (37, .bool true), (39, .bool a2)]) (by kernel_rfl) ?_
                refine gl_case 39 (b := a2) (by kernel_rfl) (fun hc52 => ?_) (fun hc52 => ?_)
                · refine gl_pure 5 [2, 23, 24, 25, 44] (K' := [(2, .bool a2), (23, .slice A13 l11.length n14), (24, .int .i64 (l11.length : Int)), (25, .int .i64 s23), (44, .bool (!(x36 == 58)))]) (by kernel_rfl) ?_
                  refine gl_atE (by kernel_rfl) ?_
                  exact ge_mid fun t ht => ⟨(Imm.refl _), rfl, by rw [(show b47 = (!(x36 == 58)) from hb48.trans (by rw [hc50, hc51, hc52]; try rfl))]; exact ht.pick (l := [2, 23, 24, 25, 44]) (by kernel_rfl)⟩
                · refine gl_pure 5 [2, 23, 24, 25, 44] (K' := [(2, .bool a2), (23, .slice A13 l11.length n14), (24, .int .i64 (l11.length : Int)), (25, .int .i64 s23), (44, .bool true)]) (by kernel_rfl) ?_
                  refine gl_atE (by kernel_rfl) ?_
                  exact ge_mid fun t ht => ⟨(Imm.refl _), rfl, by rw [(show b47 = true from hb48.trans (by rw [hc50, hc51, hc52]; try rfl))]; exact ht.pick (l := [2, 23, 24, 25, 44]) (by kernel_rfl)⟩
              · refine gl_pure 7 [2, 23, 24, 25, 44] (K' := [(2, .bool a2), (23, .slice A13 l11.length n14), (24, .int .i64 (l11.length : Int)), (25, .int .i64 s23), (44, .bool false)]) (by kernel_rfl) ?_
                refine gl_atE (by kernel_rfl) ?_
                exact ge_mid fun t ht => ⟨(Imm.refl _), rfl, by rw [(show b47 = false from hb48.trans (by rw [hc50, hc51]; try rfl))]; exact ht.pick (l := [2, 23, 24, 25, 44]) (by kernel_rfl)⟩
            · refine gl_pure 12 [2, 23, 24, 25, 44] (K' := [(2, .bool a2), (23, .slice A13 l11.length n14), (24, .int .i64 (l11.length : Int)), (25, .int .i64 s23), (44, .bool false)]) (by kernel_rfl) ?_
              refine gl_atE (by kernel_rfl) ?_
              exact ge_mid fun t ht => ⟨(Imm.refl _), rfl, by rw [(show b47 = false from hb48.trans (by rw [hc50]; try rfl))]; exact ht.pick (l := [2, 23, 24, 25, 44]) (by kernel_rfl)⟩
          · rintro t I49 L' ⟨hI45, rfl, hK46⟩
            subst hb48
            refine ge_at hK46 ?_
            refine ge_seq ?_
            refine gk_cond (b := (((!(labels_letter x36)) && (!(labels_digit x36))) && (!(a2 && (x36 == 58))))) (by kernel_rfl) (by kernel_rfl) (fun hc53 => ?_) (fun hc53 => ?_)
            · have hb25 := cond_t hc53 hb25
              refine gk_seq (by kernel_rfl) ?_
              refine gk_region (by kernel_rfl) ?_
              refine gl_pure 1 [6] (K' := [(6, .bool false)]) (by kernel_rfl) ?_
              refine gl_atE (by kernel_rfl) ?_
              refine ge_seq ?_
              refine gk_reord (D := L) (Reord.skipC (Reord.refl _)) ?_
              refine gk_ret (by kernel_rfl) ?_
              refine ge_block_ret ?_
              refine ge_seq_ret ?_
              obtain rfl := some_inj hb25
              refine ge_round_out (fun hrr => ?_) (by intro h; cases h)
              obtain rfl := hrr
              refine ge_block_ret ?_
              refine ge_seq_ret ?_
              refine ge_seq_ret ?_
              obtain rfl := some_inj hr
              exact ge_result trivial (ResOk.tmp (by kernel_rfl) ResOk.nil) (Imm.trans (Imm.trans hI3 hI26) hI45) ⟨rfl, rfl⟩
            · have hb25 := cond_f hc53 hb25
              refine gk_skip (by kernel_rfl) ?_
              refine ge_block_normal ?_
              refine ge_seq ?_
              refine gk_region (by kernel_rfl) ?_
              refine gl_pure 2 [2, 23, 24, 25] (K' := [(2, .bool a2), (23, .slice A13 l11.length n14), (24, .int .i64 (l11.length : Int)), (25, .int .i64 (IntKind.wrap .i64 (s23 + 1)))]) (by kernel_rfl) ?_
              refine gl_atE (by kernel_rfl) ?_
              obtain rfl := some_inj hb25
              exact ge_round fun t ht => ⟨(Imm.trans hI26 hI45), rfl, ht.pick (l := [2, 23, 24, 25]) (by kernel_rfl)⟩
        · have hb25 := cond_f hc35 hb25
          refine gk_reord (D := L) (Reord.skipC (Reord.refl _)) ?_
          refine gk_exit (by kernel_rfl) ?_
          refine ge_seq_exit ?_
          obtain rfl := some_inj hb25
          refine ge_round_out (fun hrr => ?_) (by intro h; cases h)
          obtain rfl := hrr
          refine ge_block_hit (by kernel_rfl) ?_
          exact ge_mid fun t ht => ⟨_, rfl, hI26, rfl, ht.pick (l := []) (by kernel_rfl)⟩
      · rintro t I32 L' ⟨r29, rfl, hI30, rfl, hK31⟩
        refine ge_at hK31 ?_
        refine ge_seq ?_
        refine gk_seq (by kernel_rfl) ?_
        refine gk_region (by kernel_rfl) ?_
        refine gl_pure 1 [6] (K' := [(6, .bool true)]) (by kernel_rfl) ?_
        refine gl_atE (by kernel_rfl) ?_
        refine ge_seq ?_
        refine gk_ret (by kernel_rfl) ?_
        obtain rfl := some_inj hr
        exact ge_result trivial (ResOk.tmp (by kernel_rfl) ResOk.nil) (Imm.trans hI3 hI30) ⟨rfl, rfl⟩
/-! 124 labels_Name  -/
noncomputable def labels_Name (a0 : ByteArray) : Option Bool :=
  Option.bind (labels_named a0 64 false) fun (y1 : Bool) =>
  some y1
theorem labels_Name_walk {a0 : ByteArray} {I : Imm} {r : Bool}  (hr : labels_Name a0 = some r) (L : Own) :
    CallsTo Tryd.prog 124 #[.string a0] I L (fun v I' L' => v = .bool r ∧ L = L') := by
  unfold labels_Name at hr
  refine callsTo_body (N := 5) Tryd.func124 (by kernel_rfl) (by kernel_rfl) (by kernel_rfl) ?_
  refine gk_pick [0] (K' := [(0, .string a0)]) (by kernel_rfl) ?_
  refine gk_seq (by kernel_rfl) ?_
  refine gk_region (by kernel_rfl) ?_
  refine gl_pure 1 [0] (K' := [(0, .string a0)]) (by kernel_rfl) ?_
  refine gl_atE (by kernel_rfl) ?_
  refine ge_seq ?_
  refine gk_seq (by kernel_rfl) ?_
  refine gk_region (by kernel_rfl) ?_
  refine gl_pure 1 [3] (K' := [(3, .string a0)]) (by kernel_rfl) ?_
  obtain ⟨y1, hx2, hr⟩ := bind_some hr
  refine gl_callQ (by kernel_rfl) (labels_named_walk (r := y1)  hx2 _) ?_
  refine gl_pure 1 [2] (K' := [(2, .bool y1)]) (by kernel_rfl) ?_
  refine gl_atE (by kernel_rfl) ?_
  refine ge_seq ?_
  refine gk_ret (by kernel_rfl) ?_
  obtain rfl := some_inj hr
  exact ge_result trivial (ResOk.tmp (by kernel_rfl) ResOk.nil) (Imm.refl _) ⟨rfl, rfl⟩
/-! 125 labels_value  -/
noncomputable def labels_value (a0 : ByteArray) : Option Int :=
  bif (a0.toList == (⟨#[]⟩ : ByteArray).toList) then
  (some 41)
  else
  (bif (decide ((a0.size : Int) > 256)) then
    (some 4)
    else
    (Option.bind (utf8_ValidString a0) fun (y3 : Bool) =>
      bif (!y3) then
      (some 12)
      else
      (some 0)))
theorem labels_value_walk {a0 : ByteArray} {I : Imm} {r : Int} (hG : Gl I) (hr : labels_value a0 = some r) (L : Own) :
    CallsTo Tryd.prog 125 #[.string a0] I L (fun v I' L' => v = .int .i64 r ∧ L = L') := by
  unfold labels_value at hr
  refine callsTo_body (N := 14) Tryd.func125 (by kernel_rfl) (by kernel_rfl) (by kernel_rfl) ?_
  refine gk_pick [0] (K' := [(0, .string a0)]) (by kernel_rfl) ?_
  refine gk_seq (by kernel_rfl) ?_
  refine gk_region (by kernel_rfl) ?_
  refine gl_pure 1 [0] (K' := [(0, .string a0)]) (by kernel_rfl) ?_
  refine gl_atE (by kernel_rfl) ?_
  refine ge_seq ?_
  refine gk_seq (by kernel_rfl) ?_
  refine gk_block (by kernel_rfl) ?_
  refine gk_seq (by kernel_rfl) ?_
  refine gk_region (by kernel_rfl) ?_
  refine gl_pure 3 [0, 3] (K' := [(0, .string a0), (3, .bool (a0.toList == (⟨#[]⟩ : ByteArray).toList))]) (by kernel_rfl) ?_
  refine gl_atE (by kernel_rfl) ?_
  refine ge_seq ?_
  refine gk_cond (b := (a0.toList == (⟨#[]⟩ : ByteArray).toList)) (by kernel_rfl) (by kernel_rfl) (fun hc1 => ?_) (fun hc1 => ?_)
  · have hr := cond_t hc1 hr
    refine gk_seq (by kernel_rfl) ?_
    refine gk_region (by kernel_rfl) ?_
    refine gl_pure 1 [2] (K' := [(2, .int .i64 41)]) (by kernel_rfl) ?_
    refine gl_atE (by kernel_rfl) ?_
    refine ge_seq ?_
    refine gk_ret (by kernel_rfl) ?_
    refine ge_block_ret ?_
    refine ge_seq_ret ?_
    obtain rfl := some_inj hr
    exact ge_result trivial (ResOk.tmp (by kernel_rfl) ResOk.nil) (Imm.refl _) ⟨rfl, rfl⟩
  · have hr := cond_f hc1 hr
    refine gk_seq (by kernel_rfl) ?_
    refine gk_region (by kernel_rfl) ?_
    refine gl_pure 4 [0, 6] (K' := [(0, .string a0), (6, .bool (decide ((a0.size : Int) > 256)))]) (by kernel_rfl) ?_
    refine gl_atE (by kernel_rfl) ?_
    refine ge_seq ?_
    refine gk_cond (b := (decide ((a0.size : Int) > 256))) (by kernel_rfl) (by kernel_rfl) (fun hc2 => ?_) (fun hc2 => ?_)
    · have hr := cond_t hc2 hr
      refine gk_seq (by kernel_rfl) ?_
      refine gk_region (by kernel_rfl) ?_
      refine gl_pure 1 [2] (K' := [(2, .int .i64 4)]) (by kernel_rfl) ?_
      refine gl_atE (by kernel_rfl) ?_
      refine ge_seq ?_
      refine gk_ret (by kernel_rfl) ?_
      refine ge_block_ret ?_
      refine ge_seq_ret ?_
      obtain rfl := some_inj hr
      exact ge_result trivial (ResOk.tmp (by kernel_rfl) ResOk.nil) (Imm.refl _) ⟨rfl, rfl⟩
    · have hr := cond_f hc2 hr
      refine gk_seq (by kernel_rfl) ?_
      refine gk_region (by kernel_rfl) ?_
      refine gl_pure 1 [11] (K' := [(11, .string a0)]) (by kernel_rfl) ?_
      obtain ⟨y3, hx4, hr⟩ := bind_some hr
      refine gl_callQ (by kernel_rfl) (utf8_ValidString_walk (r := y3) hG hx4 _) ?_
      refine gl_pure 2 [10] (K' := [(10, .bool (!y3))]) (by kernel_rfl) ?_
      refine gl_atE (by kernel_rfl) ?_
      refine ge_seq ?_
      refine gk_cond (b := (!y3)) (by kernel_rfl) (by kernel_rfl) (fun hc5 => ?_) (fun hc5 => ?_)
      · have hr := cond_t hc5 hr
        refine gk_seq (by kernel_rfl) ?_
        refine gk_region (by kernel_rfl) ?_
        refine gl_pure 1 [2] (K' := [(2, .int .i64 12)]) (by kernel_rfl) ?_
        refine gl_atE (by kernel_rfl) ?_
        refine ge_seq ?_
        refine gk_ret (by kernel_rfl) ?_
        refine ge_block_ret ?_
        refine ge_seq_ret ?_
        obtain rfl := some_inj hr
        exact ge_result trivial (ResOk.tmp (by kernel_rfl) ResOk.nil) (Imm.refl _) ⟨rfl, rfl⟩
      · have hr := cond_f hc5 hr
        refine gk_skip (by kernel_rfl) ?_
        refine ge_block_normal ?_
        refine ge_seq ?_
        refine gk_seq (by kernel_rfl) ?_
        refine gk_region (by kernel_rfl) ?_
        refine gl_pure 1 [2] (K' := [(2, .int .i64 0)]) (by kernel_rfl) ?_
        refine gl_atE (by kernel_rfl) ?_
        refine ge_seq ?_
        refine gk_ret (by kernel_rfl) ?_
        obtain rfl := some_inj hr
        exact ge_result trivial (ResOk.tmp (by kernel_rfl) ResOk.nil) (Imm.refl _) ⟨rfl, rfl⟩
/-! 106 labels_Right  -/
noncomputable def labels_Right_l18 (a0 : List S79) : Int → Option ((Int) ⊕ ((Unit) ⊕ (Int × Int))) := fun s8 =>
  bif (decide (s8 < (a0.length : Int))) then
  (Option.bind (ix a0 s8) fun (x21 : S79) =>
    Option.bind (labels_Name x21.f0) fun (y30 : Bool) =>
    bif (!y30) then
    (some (Sum.inr (Sum.inr (40, s8))))
    else
    (Option.bind (labels_value x21.f1) fun (y33 : Int) =>
      bif (y33 != 0) then
      (some (Sum.inr (Sum.inr (y33, s8))))
      else
      (Option.bind (bif (decide (s8 > 0)) then
          (Option.bind (ix a0 (IntKind.wrap .i64 (s8 - 1))) fun (x42 : S79) =>
            some ((Op.bytesLess x21.f0.toList x42.f0.toList) || (x21.f0.toList == x42.f0.toList)))
          else
          (some false)) fun (j36 : Bool) =>
        bif j36 then
        (some (Sum.inr (Sum.inr (3, s8))))
        else
        (some (Sum.inl (IntKind.wrap .i64 (s8 + 1)))))))
  else
  (some (Sum.inr (Sum.inl ())))
noncomputable def labels_Right (a0 : List S79) : Option (Int × Int) :=
  bif (decide ((a0.length : Int) > 16)) then
  (some (8, 0))
  else
  (Option.bind (loopO (labels_Right_l18 a0) 0) fun (r6 : (Unit) ⊕ (Int × Int)) =>
    match r6 with
    | Sum.inl r14 => some (0, 0)
    | Sum.inr v51 => some v51)
theorem labels_Right_walk {a0 : List S79} {A0_0 : Option Addr} {n0_0 : Nat} {I : Imm} {r : Int × Int} (hG : Gl I)  (hf0_0 : RepS kS79 I A0_0 n0_0 a0) (hr : labels_Right a0 = some r) (L : Own) :
    CallsTo Tryd.prog 106 #[.slice A0_0 a0.length n0_0] I L (fun v I' L' => v = .tuple #[.int .i64 r.1, .int .i64 r.2] ∧ L = L') := by
  unfold labels_Right at hr
  refine callsTo_body (N := 44) Tryd.func106 (by kernel_rfl) (by kernel_rfl) (by kernel_rfl) ?_
  refine gk_pick [0] (K' := [(0, .slice A0_0 a0.length n0_0)]) (by kernel_rfl) ?_
  refine gk_seq (by kernel_rfl) ?_
  refine gk_region (by kernel_rfl) ?_
  refine gl_pure 2 [0] (K' := [(0, .slice A0_0 a0.length n0_0)]) (by kernel_rfl) ?_
  refine gl_atE (by kernel_rfl) ?_
  refine ge_seq ?_
  refine gk_seq (by kernel_rfl) ?_
  refine gk_seq (by kernel_rfl) ?_
  refine gk_region (by kernel_rfl) ?_
  refine gl_pure 3 [0, 9] (K' := [(0, .slice A0_0 a0.length n0_0), (9, .bool (decide ((a0.length : Int) > 16)))]) (by kernel_rfl) ?_
  refine gl_atE (by kernel_rfl) ?_
  refine ge_seq ?_
  refine gk_cond (b := (decide ((a0.length : Int) > 16))) (by kernel_rfl) (by kernel_rfl) (fun hc1 => ?_) (fun hc1 => ?_)
  · have hr := cond_t hc1 hr
    refine gk_seq (by kernel_rfl) ?_
    refine gk_region (by kernel_rfl) ?_
    refine gl_pure 2 [2, 3] (K' := [(2, .int .i64 8), (3, .int .i64 0)]) (by kernel_rfl) ?_
    refine gl_atE (by kernel_rfl) ?_
    refine ge_seq ?_
    refine gk_ret (by kernel_rfl) ?_
    refine ge_seq_ret ?_
    obtain rfl := some_inj hr
    exact ge_result trivial (ResOk.tmp (by kernel_rfl) (ResOk.tmp (by kernel_rfl) ResOk.nil)) (Imm.refl _) ⟨rfl, rfl⟩
  · have hr := cond_f hc1 hr
    refine gk_skip (by kernel_rfl) ?_
    refine ge_seq ?_
    refine gk_seq (by kernel_rfl) ?_
    refine gk_seq (by kernel_rfl) ?_
    refine gk_region (by kernel_rfl) ?_
    refine gl_pure 3 [0, 10, 11, 12] (K' := [(0, .slice A0_0 a0.length n0_0), (10, .slice A0_0 a0.length n0_0), (11, .int .i64 (a0.length : Int)), (12, .int .i64 0)]) (by kernel_rfl) ?_
    refine gl_atE (by kernel_rfl) ?_
    refine ge_seq ?_
    obtain ⟨r6, hl7, hr⟩ := bind_some hr
    refine gk_join (fun t I' L' => ∃ r14, r6 = Sum.inl r14 ∧ I ≤ I' ∧ L = L' ∧ Knows 44 [] t) ?_ ?_
    · refine gk_block (by kernel_rfl) ?_
      refine gk_pick [0, 10, 11, 12] (K' := [(0, .slice A0_0 a0.length n0_0), (10, .slice A0_0 a0.length n0_0), (11, .int .i64 (a0.length : Int)), (12, .int .i64 0)]) (by kernel_rfl) ?_
      intro t hK
      refine gc_loop (labels_Right_l18 a0) (fun s8 t I' L' => I ≤ I' ∧ L = L' ∧ Knows 44 [(0, .slice A0_0 a0.length n0_0), (10, .slice A0_0 a0.length n0_0), (11, .int .i64 (a0.length : Int)), (12, .int .i64 s8)] t) (by kernel_rfl) ?_ hl7 ⟨(Imm.refl _), rfl, hK⟩
      rintro s8 o9 t I13 L' hb10 ⟨hI11, rfl, hK12⟩
      unfold labels_Right_l18 at hb10
      refine gk_at hK12 ?_
      refine gk_seq (by kernel_rfl) ?_
      refine gk_region (by kernel_rfl) ?_
      refine gl_pure 1 [0, 10, 11, 12, 13] (K' := [(0, .slice A0_0 a0.length n0_0), (10, .slice A0_0 a0.length n0_0), (11, .int .i64 (a0.length : Int)), (12, .int .i64 s8), (13, .bool (decide (s8 < (a0.length : Int))))]) (by kernel_rfl) ?_
      refine gl_atE (by kernel_rfl) ?_
      refine ge_seq ?_
      refine gk_seq (by kernel_rfl) ?_
      refine gk_cond (b := (decide (s8 < (a0.length : Int)))) (by kernel_rfl) (by kernel_rfl) (fun hc20 => ?_) (fun hc20 => ?_)
      · have hb10 := cond_t hc20 hb10
        refine gk_skip (by kernel_rfl) ?_
        refine ge_seq ?_
        refine gk_seq (by kernel_rfl) ?_
        refine gk_block (by kernel_rfl) ?_
        refine gk_seq (by kernel_rfl) ?_
        refine gk_region (by kernel_rfl) ?_
        refine gl_pure 1 [0, 10, 11, 12, 14] (K' := [(0, .slice A0_0 a0.length n0_0), (10, .slice A0_0 a0.length n0_0), (11, .int .i64 (a0.length : Int)), (12, .int .i64 s8), (14, .int .i64 s8)]) (by kernel_rfl) ?_
        obtain ⟨x21, hx22, hb10⟩ := bind_some hb10
        obtain ⟨p23, cs24, hR25, hA26, ha27⟩ := RepS.ixAt hx22 (hf0_0.mono hI11)
        have hi28 := ix_some hx22
        obtain rfl := kS79_open hR25
        refine gl_indexAddrF (c := n0_0) (T' := 36) (e := 80) (xs := (.tmp 10)) (xi := (.tmp 12)) (kd := .i64) ha27 hi28.1 hi28.2.1 (by kernel_rfl) (by kernel_rfl) (by kernel_rfl) (by kernel_rfl) (by kernel_rfl) ?_
        refine gl_loadA (T' := 80) (xp := (.tmp 15)) (p := p23) (cs := [.string x21.f0, .string x21.f1]) (by kernel_rfl) (by kernel_rfl) (by kernel_rfl) (by kernel_rfl) (hA26.take 2) ?_
        refine gl_alloc (T' := 80) (cs := #[.string (⟨#[]⟩ : ByteArray), .string (⟨#[]⟩ : ByteArray)]) (by kernel_rfl) (by kernel_rfl) (by kernel_rfl) (fun g29 => ?_)
        refine gl_pure 1 [0, 4, 5, 10, 11, 12, 16] (K' := [(0, .slice A0_0 a0.length n0_0), (4, .int .i64 s8), (5, .pointer (some ⟨g29, 0, none⟩)), (10, .slice A0_0 a0.length n0_0), (11, .int .i64 (a0.length : Int)), (12, .int .i64 s8), (16, .agg #[.string x21.f0, .string x21.f1])]) (by kernel_rfl) ?_
        refine gl_storeB (T' := 80) (xp := (.tmp 5)) (xv := (.tmp 16)) (v := .agg #[.string x21.f0, .string x21.f1]) (g := g29) (off := 0) (cs := #[.string (⟨#[]⟩ : ByteArray), .string (⟨#[]⟩ : ByteArray)]) (cs' := #[.string x21.f0, .string x21.f1]) (by kernel_rfl) (by kernel_rfl) (by kernel_rfl) (by kernel_rfl) (by kernel_rfl) (Upd.set _ _ _ _) ?_ (by kernel_rfl)
        refine gl_atE (by kernel_rfl) ?_
        refine ge_seq ?_
        refine gk_seq (by kernel_rfl) ?_
        refine gk_seq (by kernel_rfl) ?_
        refine gk_region (by kernel_rfl) ?_
        refine gl_pure 1 [0, 4, 5, 10, 11, 12, 17] (K' := [(0, .slice A0_0 a0.length n0_0), (4, .int .i64 s8), (5, .pointer (some ⟨g29, 0, none⟩)), (10, .slice A0_0 a0.length n0_0), (11, .int .i64 (a0.length : Int)), (12, .int .i64 s8), (17, .pointer (some ⟨g29, 0, none⟩))]) (by kernel_rfl) ?_
        refine gl_loadB (T' := 9) (xp := (.tmp 17)) (v := .string x21.f0) (g := g29) (off := 0) (cs := #[.string x21.f0, .string x21.f1]) (e := 80) (fz := (0, 0)) (by kernel_rfl) (by kernel_rfl) (by kernel_rfl) List.mem_cons_self (by kernel_rfl) ?_
        obtain ⟨y30, hx31, hb10⟩ := bind_some hb10
        refine gl_callQ (by kernel_rfl) (labels_Name_walk (r := y30)  hx31 _) ?_
        refine gl_pure 1 [0, 4, 5, 10, 11, 12, 20] (K' := [(0, .slice A0_0 a0.length n0_0), (4, .int .i64 s8), (5, .pointer (some ⟨g29, 0, none⟩)), (10, .slice A0_0 a0.length n0_0), (11, .int .i64 (a0.length : Int)), (12, .int .i64 s8), (20, .bool (!y30))]) (by kernel_rfl) ?_
        refine gl_atE (by kernel_rfl) ?_
        refine ge_seq ?_
        refine gk_cond (b := (!y30)) (by kernel_rfl) (by kernel_rfl) (fun hc32 => ?_) (fun hc32 => ?_)
        · have hb10 := cond_t hc32 hb10
          refine gk_seq (by kernel_rfl) ?_
          refine gk_region (by kernel_rfl) ?_
          refine gl_pure 3 [2, 3] (K' := [(2, .int .i64 40), (3, .int .i64 s8)]) (by kernel_rfl) ?_
          refine gl_atE (by kernel_rfl) ?_
          refine ge_seq ?_
          refine gk_reord (D := L) (Reord.skip (Reord.refl _)) ?_
          refine gk_ret (by kernel_rfl) ?_
          refine ge_seq_ret ?_
          refine ge_block_ret ?_
          refine ge_seq_ret ?_
          obtain rfl := some_inj hb10
          refine ge_round_out (fun hrr => ?_) (by intro h; cases h)
          obtain rfl := hrr
          refine ge_block_ret ?_
          refine ge_seq_ret ?_
          refine ge_seq_ret ?_
          obtain rfl := some_inj hr
          exact ge_result trivial (ResOk.tmp (by kernel_rfl) (ResOk.tmp (by kernel_rfl) ResOk.nil)) hI11 ⟨rfl, rfl⟩
        · have hb10 := cond_f hc32 hb10
          refine gk_skip (by kernel_rfl) ?_
          refine ge_seq ?_
          refine gk_seq (by kernel_rfl) ?_
          refine gk_seq (by kernel_rfl) ?_
          refine gk_region (by kernel_rfl) ?_
          refine gl_pure 1 [0, 4, 5, 10, 11, 12, 22] (K' := [(0, .slice A0_0 a0.length n0_0), (4, .int .i64 s8), (5, .pointer (some ⟨g29, 0, none⟩)), (10, .slice A0_0 a0.length n0_0), (11, .int .i64 (a0.length : Int)), (12, .int .i64 s8), (22, .pointer (some ⟨g29, 1, none⟩))]) (by kernel_rfl) ?_
          refine gl_loadB (T' := 9) (xp := (.tmp 22)) (v := .string x21.f1) (g := g29) (off := 1) (cs := #[.string x21.f0, .string x21.f1]) (e := 80) (fz := (0, 0)) (by kernel_rfl) (by kernel_rfl) (by kernel_rfl) List.mem_cons_self (by kernel_rfl) ?_
          obtain ⟨y33, hx34, hb10⟩ := bind_some hb10
          refine gl_callQ (by kernel_rfl) (labels_value_walk (r := y33) (hG.mono hI11) hx34 _) ?_
          refine gl_pure 1 [0, 4, 5, 6, 10, 11, 12] (K' := [(0, .slice A0_0 a0.length n0_0), (4, .int .i64 s8), (5, .pointer (some ⟨g29, 0, none⟩)), (6, .int .i64 y33), (10, .slice A0_0 a0.length n0_0), (11, .int .i64 (a0.length : Int)), (12, .int .i64 s8)]) (by kernel_rfl) ?_
          refine gl_atE (by kernel_rfl) ?_
          refine ge_seq ?_
          refine gk_seq (by kernel_rfl) ?_
          refine gk_region (by kernel_rfl) ?_
          refine gl_pure 2 [0, 4, 5, 6, 10, 11, 12, 26] (K' := [(0, .slice A0_0 a0.length n0_0), (4, .int .i64 s8), (5, .pointer (some ⟨g29, 0, none⟩)), (6, .int .i64 y33), (10, .slice A0_0 a0.length n0_0), (11, .int .i64 (a0.length : Int)), (12, .int .i64 s8), (26, .bool (y33 != 0))]) (by kernel_rfl) ?_
          refine gl_atE (by kernel_rfl) ?_
          refine ge_seq ?_
          refine gk_cond (b := (y33 != 0)) (by kernel_rfl) (by kernel_rfl) (fun hc35 => ?_) (fun hc35 => ?_)
          · have hb10 := cond_t hc35 hb10
            refine gk_seq (by kernel_rfl) ?_
            refine gk_region (by kernel_rfl) ?_
            refine gl_pure 4 [2, 3] (K' := [(2, .int .i64 y33), (3, .int .i64 s8)]) (by kernel_rfl) ?_
            refine gl_atE (by kernel_rfl) ?_
            refine ge_seq ?_
            refine gk_reord (D := L) (Reord.skip (Reord.refl _)) ?_
            refine gk_ret (by kernel_rfl) ?_
            refine ge_seq_ret ?_
            refine ge_block_ret ?_
            refine ge_seq_ret ?_
            obtain rfl := some_inj hb10
            refine ge_round_out (fun hrr => ?_) (by intro h; cases h)
            obtain rfl := hrr
            refine ge_block_ret ?_
            refine ge_seq_ret ?_
            refine ge_seq_ret ?_
            obtain rfl := some_inj hr
            exact ge_result trivial (ResOk.tmp (by kernel_rfl) (ResOk.tmp (by kernel_rfl) ResOk.nil)) hI11 ⟨rfl, rfl⟩
          · have hb10 := cond_f hc35 hb10
            refine gk_skip (by kernel_rfl) ?_
            refine ge_seq ?_
            refine gk_seq (by kernel_rfl) ?_
            obtain ⟨j36, hj37, hb10⟩ := bind_some hb10
            refine gk_join (fun t I' L' => I13 ≤ I' ∧ L = L' ∧ Knows 44 [(0, .slice A0_0 a0.length n0_0), (4, .int .i64 s8), (10, .slice A0_0 a0.length n0_0), (11, .int .i64 (a0.length : Int)), (12, .int .i64 s8), (41, .bool j36)] t) ?_ ?_
            · refine gk_draw 13 [(0, true), (1, true), (2, true), (3, true), (4, true), (5, true), (6, true), (7, true), (8, true), (9, true), (10, true), (11, true), (12, true)] [(g29, .cells #[.string x21.f0, .string x21.f1] 80)] (List.forall_mem_cons.2 ⟨List.mem_cons_self, (fun p hp => by cases hp)⟩) (by kernel_rfl) (by kernel_rfl) (by kernel_rfl) ?_ (by kernel_rfl)
              refine gd_pure 3 [0, 4, 5, 10, 11, 12, 31] (K' := [(0, .slice A0_0 a0.length n0_0), (4, .int .i64 s8), (5, .pointer (some ⟨g29, 0, none⟩)), (10, .slice A0_0 a0.length n0_0), (11, .int .i64 (a0.length : Int)), (12, .int .i64 s8), (31, .bool (decide (s8 > 0)))]) (s' := [(3, true), (4, true), (5, true), (6, true), (7, true), (8, true), (9, true), (10, true), (11, true), (12, true)]) (CC.refl (List.forall_mem_cons.2 ⟨List.mem_cons_self, (fun p hp => by cases hp)⟩)) (by kernel_rfl) ?_
              refine gd_case 31 (b := (decide (s8 > 0))) (by kernel_rfl) (fun hc41 => ?_) (fun hc41 => ?_)
              · have hj37 := cond_t hc41 hj37
                refine gd_pure 1 [0, 4, 10, 11, 12, 31, 32] (K' := [(0, .slice A0_0 a0.length n0_0), (4, .int .i64 s8), (10, .slice A0_0 a0.length n0_0), (11, .int .i64 (a0.length : Int)), (12, .int .i64 s8), (31, .bool true), (32, .pointer (some ⟨g29, 0, none⟩))]) (s' := [(4, true), (5, true), (6, true), (7, true), (8, true), (9, true), (10, true), (11, true), (12, true)]) (CC.refl (List.forall_mem_cons.2 ⟨List.mem_cons_self, (fun p hp => by cases hp)⟩)) (by kernel_rfl) ?_
                refine gd_q (v := .string x21.f0) (by kernel_rfl) (by kernel_rfl) (CC.refl (List.forall_mem_cons.2 ⟨List.mem_cons_self, (fun p hp => by cases hp)⟩)) (fun I' L' T hC kk => gl_loadB (T' := 9) (xp := (.tmp 32)) (v := .string x21.f0) (g := g29) (off := 0) (cs := #[.string x21.f0, .string x21.f1]) (e := 80) (fz := (0, 0)) (by kernel_rfl) (by kernel_rfl) (by kernel_rfl) (hC.sub _ List.mem_cons_self) (by kernel_rfl) kk) ?_
                refine gd_pure 3 [0, 4, 10, 11, 12, 31, 33, 34, 36] (K' := [(0, .slice A0_0 a0.length n0_0), (4, .int .i64 s8), (10, .slice A0_0 a0.length n0_0), (11, .int .i64 (a0.length : Int)), (12, .int .i64 s8), (31, .bool true), (33, .string x21.f0), (34, .slice A0_0 a0.length n0_0), (36, .int .i64 (IntKind.wrap .i64 (s8 - 1)))]) (s' := [(8, true), (9, true), (10, true), (11, true), (12, true)]) (CC.refl (List.forall_mem_cons.2 ⟨List.mem_cons_self, (fun p hp => by cases hp)⟩)) (by kernel_rfl) ?_
                obtain ⟨x42, hx43, hj37⟩ := bind_some hj37
                obtain ⟨p44, cs45, hR46, hA47, ha48⟩ := RepS.ixAt hx43 (hf0_0.mono hI11)
                have hi49 := ix_some hx43
                obtain rfl := kS79_open hR46
                refine gd_q (v := .pointer (some p44)) (by kernel_rfl) (by kernel_rfl) (CC.refl (List.forall_mem_cons.2 ⟨List.mem_cons_self, (fun p hp => by cases hp)⟩)) (fun I' L' T hC kk => gl_indexAddrF (c := n0_0) (T' := 36) (e := 80) (xs := (.tmp 34)) (xi := (.tmp 36)) (kd := .i64) ha48 hi49.1 hi49.2.1 (by kernel_rfl) (by kernel_rfl) (by kernel_rfl) (by kernel_rfl) (by kernel_rfl) kk) ?_
                refine gd_pure 1 [0, 4, 10, 11, 12, 31, 33, 38] (K' := [(0, .slice A0_0 a0.length n0_0), (4, .int .i64 s8), (10, .slice A0_0 a0.length n0_0), (11, .int .i64 (a0.length : Int)), (12, .int .i64 s8), (31, .bool true), (33, .string x21.f0), (38, .pointer (some (p44.add 0)))]) (s' := [(10, true), (11, true), (12, true)]) (CC.refl (List.forall_mem_cons.2 ⟨List.mem_cons_self, (fun p hp => by cases hp)⟩)) (by kernel_rfl) ?_
                refine gd_q (v := .string x42.f0) (by kernel_rfl) (by kernel_rfl) (CC.refl (List.forall_mem_cons.2 ⟨List.mem_cons_self, (fun p hp => by cases hp)⟩)) (fun I' L' T hC kk => gl_load (T' := 9) (xp := (.tmp 38)) (p := (p44.add 0)) (c := .string x42.f0) (n := 1) (by kernel_rfl) (by kernel_rfl) (by kernel_rfl) (by kernel_rfl) ((hA47.drop 0).mono hC.le) kk) ?_
                refine gd_pure 2 [0, 4, 10, 11, 12, 41] (K' := [(0, .slice A0_0 a0.length n0_0), (4, .int .i64 s8), (10, .slice A0_0 a0.length n0_0), (11, .int .i64 (a0.length : Int)), (12, .int .i64 s8), (41, .bool ((Op.bytesLess x21.f0.toList x42.f0.toList) || (x21.f0.toList == x42.f0.toList)))]) (s' := []) (CC.refl (List.forall_mem_cons.2 ⟨List.mem_cons_self, (fun p hp => by cases hp)⟩)) (by kernel_rfl) ?_
                refine gd_done ?_
                refine gl_reord (D := L) (Reord.skip (Reord.refl _)) ?_
                refine gl_atE (by kernel_rfl) ?_
                obtain rfl := some_inj hj37
                exact ge_mid fun t ht => ⟨(Imm.refl _), rfl, ht.pick (l := [0, 4, 10, 11, 12, 41]) (by kernel_rfl)⟩
              · have hj37 := cond_f hc41 hj37
                refine gd_pure 10 [0, 4, 10, 11, 12, 41] (K' := [(0, .slice A0_0 a0.length n0_0), (4, .int .i64 s8), (10, .slice A0_0 a0.length n0_0), (11, .int .i64 (a0.length : Int)), (12, .int .i64 s8), (41, .bool false)]) (s' := []) (CC.refl (List.forall_mem_cons.2 ⟨List.mem_cons_self, (fun p hp => by cases hp)⟩)) (by kernel_rfl) ?_
                refine gd_done ?_
                refine gl_reord (D := L) (Reord.skip (Reord.refl _)) ?_
                refine gl_atE (by kernel_rfl) ?_
                obtain rfl := some_inj hj37
                exact ge_mid fun t ht => ⟨(Imm.refl _), rfl, ht.pick (l := [0, 4, 10, 11, 12, 41]) (by kernel_rfl)⟩
            · rintro t I40 L' ⟨hI38, rfl, hK39⟩
              refine ge_at hK39 ?_
              refine ge_seq ?_
              refine gk_cond (b := j36) (by kernel_rfl) (by kernel_rfl) (fun hc50 => ?_) (fun hc50 => ?_)
              · have hb10 := cond_t hc50 hb10
                refine gk_seq (by kernel_rfl) ?_
                refine gk_region (by kernel_rfl) ?_
                refine gl_pure 3 [2, 3] (K' := [(2, .int .i64 3), (3, .int .i64 s8)]) (by kernel_rfl) ?_
                refine gl_atE (by kernel_rfl) ?_
                refine ge_seq ?_
                refine gk_ret (by kernel_rfl) ?_
                refine ge_block_ret ?_
                refine ge_seq_ret ?_
                obtain rfl := some_inj hb10
                refine ge_round_out (fun hrr => ?_) (by intro h; cases h)
                obtain rfl := hrr
                refine ge_block_ret ?_
                refine ge_seq_ret ?_
                refine ge_seq_ret ?_
                obtain rfl := some_inj hr
                exact ge_result trivial (ResOk.tmp (by kernel_rfl) (ResOk.tmp (by kernel_rfl) ResOk.nil)) (Imm.trans hI11 hI38) ⟨rfl, rfl⟩
              · have hb10 := cond_f hc50 hb10
                refine gk_skip (by kernel_rfl) ?_
                refine ge_block_normal ?_
                refine ge_seq ?_
                refine gk_region (by kernel_rfl) ?_
                refine gl_pure 2 [0, 10, 11, 12] (K' := [(0, .slice A0_0 a0.length n0_0), (10, .slice A0_0 a0.length n0_0), (11, .int .i64 (a0.length : Int)), (12, .int .i64 (IntKind.wrap .i64 (s8 + 1)))]) (by kernel_rfl) ?_
                refine gl_atE (by kernel_rfl) ?_
                obtain rfl := some_inj hb10
                exact ge_round fun t ht => ⟨(Imm.trans hI11 hI38), rfl, ht.pick (l := [0, 10, 11, 12]) (by kernel_rfl)⟩
      · have hb10 := cond_f hc20 hb10
        refine gk_exit (by kernel_rfl) ?_
        refine ge_seq_exit ?_
        obtain rfl := some_inj hb10
        refine ge_round_out (fun hrr => ?_) (by intro h; cases h)
        obtain rfl := hrr
        refine ge_block_hit (by kernel_rfl) ?_
        exact ge_mid fun t ht => ⟨_, rfl, hI11, rfl, ht.pick (l := []) (by kernel_rfl)⟩
    · rintro t I17 L' ⟨r14, rfl, hI15, rfl, hK16⟩
      refine ge_at hK16 ?_
      refine ge_seq ?_
      refine gk_seq (by kernel_rfl) ?_
      refine gk_region (by kernel_rfl) ?_
      refine gl_pure 2 [2, 3] (K' := [(2, .int .i64 0), (3, .int .i64 0)]) (by kernel_rfl) ?_
      refine gl_atE (by kernel_rfl) ?_
      refine ge_seq ?_
      refine gk_ret (by kernel_rfl) ?_
      obtain rfl := some_inj hr
      exact ge_result trivial (ResOk.tmp (by kernel_rfl) (ResOk.tmp (by kernel_rfl) ResOk.nil)) hI15 ⟨rfl, rfl⟩
structure Fn145 (I : Imm) (fv : Value) (f : S79 → S79 → Option Int) : Prop where
  out : ∀ I', I ≤ I' → ∀ (x0 : S79) (x1 : S79) (r : Int), f x0 x1 = some r → ∀ L, CallsV Tryd.prog fv [.agg #[.string x0.f0, .string x0.f1], .agg #[.string x1.f0, .string x1.f1]] I' L (fun v I' L' => v = .int .i64 r ∧ L = L')
theorem Fn145.mono {I J : Imm} {fv : Value} {f : S79 → S79 → Option Int} (h : Fn145 I fv f) (hI : I ≤ J) : Fn145 J fv f := ⟨fun I' hI' => h.out I' (Imm.trans hI hI')⟩
/-! 109 slices_CompareFunc  -/
noncomputable def slices_CompareFunc_l17 (a0 : List S79) (a1 : List S79) (a2 : S79 → S79 → Option Int) : Int → Option ((Int) ⊕ ((Unit) ⊕ (Int))) := fun s7 =>
  bif (decide (s7 < (a0.length : Int))) then
  (Option.bind (ix a0 s7) fun (x20 : S79) =>
    bif (decide (s7 ≥ (a1.length : Int))) then
    (some (Sum.inr (Sum.inr 1)))
    else
    (Option.bind (ix a1 s7) fun (x30 : S79) =>
      Option.bind (a2 x20 x30) fun (y40 : Int) =>
      bif (y40 != 0) then
      (some (Sum.inr (Sum.inr y40)))
      else
      (some (Sum.inl (IntKind.wrap .i64 (s7 + 1))))))
  else
  (some (Sum.inr (Sum.inl ())))
noncomputable def slices_CompareFunc (a0 : List S79) (a1 : List S79) (a2 : S79 → S79 → Option Int) : Option Int :=
  Option.bind (loopO (slices_CompareFunc_l17 a0 a1 a2) 0) fun (r5 : (Unit) ⊕ (Int)) =>
  match r5 with
  | Sum.inl r13 => bif (decide ((a0.length : Int) < (a1.length : Int))) then
    (some (-1))
    else
    (some 0)
  | Sum.inr v43 => some v43
theorem slices_CompareFunc_walk {a0 : List S79} {A0_0 : Option Addr} {n0_0 : Nat} {a1 : List S79} {A1_0 : Option Addr} {n1_0 : Nat} {a2 : S79 → S79 → Option Int} {fv2 : Value} {I : Imm} {r : Int}  (hf0_0 : RepS kS79 I A0_0 n0_0 a0)  (hf1_0 : RepS kS79 I A1_0 n1_0 a1) (hf2 : Fn145 I fv2 a2) (hr : slices_CompareFunc a0 a1 a2 = some r) (L : Own) :
    CallsTo Tryd.prog 109 #[.slice A0_0 a0.length n0_0, .slice A1_0 a1.length n1_0, fv2] I L (fun v I' L' => v = .int .i64 r ∧ L = L') := by
  unfold slices_CompareFunc at hr
  refine callsTo_body (N := 39) Tryd.func109 (by kernel_rfl) (by kernel_rfl) (by kernel_rfl) ?_
  refine gk_pick [0, 1, 2] (K' := [(0, .slice A0_0 a0.length n0_0), (1, .slice A1_0 a1.length n1_0), (2, fv2)]) (by kernel_rfl) ?_
  refine gk_seq (by kernel_rfl) ?_
  refine gk_region (by kernel_rfl) ?_
  refine gl_pure 1 [0, 1, 2] (K' := [(0, .slice A0_0 a0.length n0_0), (1, .slice A1_0 a1.length n1_0), (2, fv2)]) (by kernel_rfl) ?_
  refine gl_atE (by kernel_rfl) ?_
  refine ge_seq ?_
  refine gk_seq (by kernel_rfl) ?_
  refine gk_seq (by kernel_rfl) ?_
  refine gk_region (by kernel_rfl) ?_
  refine gl_pure 3 [0, 1, 2, 11, 12, 13] (K' := [(0, .slice A0_0 a0.length n0_0), (1, .slice A1_0 a1.length n1_0), (2, fv2), (11, .slice A0_0 a0.length n0_0), (12, .int .i64 (a0.length : Int)), (13, .int .i64 0)]) (by kernel_rfl) ?_
  refine gl_atE (by kernel_rfl) ?_
  refine ge_seq ?_
  obtain ⟨r5, hl6, hr⟩ := bind_some hr
  refine gk_join (fun t I' L' => ∃ r13, r5 = Sum.inl r13 ∧ I ≤ I' ∧ L = L' ∧ Knows 39 [(0, .slice A0_0 a0.length n0_0), (1, .slice A1_0 a1.length n1_0)] t) ?_ ?_
  · refine gk_block (by kernel_rfl) ?_
    refine gk_pick [0, 1, 2, 11, 12, 13] (K' := [(0, .slice A0_0 a0.length n0_0), (1, .slice A1_0 a1.length n1_0), (2, fv2), (11, .slice A0_0 a0.length n0_0), (12, .int .i64 (a0.length : Int)), (13, .int .i64 0)]) (by kernel_rfl) ?_
    intro t hK
    refine gc_loop (slices_CompareFunc_l17 a0 a1 a2) (fun s7 t I' L' => I ≤ I' ∧ L = L' ∧ Knows 39 [(0, .slice A0_0 a0.length n0_0), (1, .slice A1_0 a1.length n1_0), (2, fv2), (11, .slice A0_0 a0.length n0_0), (12, .int .i64 (a0.length : Int)), (13, .int .i64 s7)] t) (by kernel_rfl) ?_ hl6 ⟨(Imm.refl _), rfl, hK⟩
    rintro s7 o8 t I12 L' hb9 ⟨hI10, rfl, hK11⟩
    unfold slices_CompareFunc_l17 at hb9
    refine gk_at hK11 ?_
    refine gk_seq (by kernel_rfl) ?_
    refine gk_region (by kernel_rfl) ?_
    refine gl_pure 1 [0, 1, 2, 11, 12, 13, 14] (K' := [(0, .slice A0_0 a0.length n0_0), (1, .slice A1_0 a1.length n1_0), (2, fv2), (11, .slice A0_0 a0.length n0_0), (12, .int .i64 (a0.length : Int)), (13, .int .i64 s7), (14, .bool (decide (s7 < (a0.length : Int))))]) (by kernel_rfl) ?_
    refine gl_atE (by kernel_rfl) ?_
    refine ge_seq ?_
    refine gk_seq (by kernel_rfl) ?_
    refine gk_cond (b := (decide (s7 < (a0.length : Int)))) (by kernel_rfl) (by kernel_rfl) (fun hc19 => ?_) (fun hc19 => ?_)
    · have hb9 := cond_t hc19 hb9
      refine gk_skip (by kernel_rfl) ?_
      refine ge_seq ?_
      refine gk_seq (by kernel_rfl) ?_
      refine gk_block (by kernel_rfl) ?_
      refine gk_seq (by kernel_rfl) ?_
      refine gk_region (by kernel_rfl) ?_
      refine gl_pure 1 [0, 1, 2, 11, 12, 13, 15] (K' := [(0, .slice A0_0 a0.length n0_0), (1, .slice A1_0 a1.length n1_0), (2, fv2), (11, .slice A0_0 a0.length n0_0), (12, .int .i64 (a0.length : Int)), (13, .int .i64 s7), (15, .int .i64 s7)]) (by kernel_rfl) ?_
      obtain ⟨x20, hx21, hb9⟩ := bind_some hb9
      obtain ⟨p22, cs23, hR24, hA25, ha26⟩ := RepS.ixAt hx21 (hf0_0.mono hI10)
      have hi27 := ix_some hx21
      obtain rfl := kS79_open hR24
      refine gl_indexAddrF (c := n0_0) (T' := 36) (e := 80) (xs := (.tmp 11)) (xi := (.tmp 13)) (kd := .i64) ha26 hi27.1 hi27.2.1 (by kernel_rfl) (by kernel_rfl) (by kernel_rfl) (by kernel_rfl) (by kernel_rfl) ?_
      refine gl_loadA (T' := 80) (xp := (.tmp 16)) (p := p22) (cs := [.string x20.f0, .string x20.f1]) (by kernel_rfl) (by kernel_rfl) (by kernel_rfl) (by kernel_rfl) (hA25.take 2) ?_
      refine gl_alloc (T' := 80) (cs := #[.string (⟨#[]⟩ : ByteArray), .string (⟨#[]⟩ : ByteArray)]) (by kernel_rfl) (by kernel_rfl) (by kernel_rfl) (fun g28 => ?_)
      refine gl_pure 1 [0, 1, 2, 7, 8, 11, 12, 13, 17] (K' := [(0, .slice A0_0 a0.length n0_0), (1, .slice A1_0 a1.length n1_0), (2, fv2), (7, .int .i64 s7), (8, .pointer (some ⟨g28, 0, none⟩)), (11, .slice A0_0 a0.length n0_0), (12, .int .i64 (a0.length : Int)), (13, .int .i64 s7), (17, .agg #[.string x20.f0, .string x20.f1])]) (by kernel_rfl) ?_
      refine gl_storeB (T' := 80) (xp := (.tmp 8)) (xv := (.tmp 17)) (v := .agg #[.string x20.f0, .string x20.f1]) (g := g28) (off := 0) (cs := #[.string (⟨#[]⟩ : ByteArray), .string (⟨#[]⟩ : ByteArray)]) (cs' := #[.string x20.f0, .string x20.f1]) (by kernel_rfl) (by kernel_rfl) (by kernel_rfl) (by kernel_rfl) (by kernel_rfl) (Upd.set _ _ _ _) ?_ (by kernel_rfl)
      refine gl_atE (by kernel_rfl) ?_
      refine ge_seq ?_
      refine gk_seq (by kernel_rfl) ?_
      refine gk_seq (by kernel_rfl) ?_
      refine gk_region (by kernel_rfl) ?_
      refine gl_pure 4 [0, 1, 2, 7, 8, 11, 12, 13, 21] (K' := [(0, .slice A0_0 a0.length n0_0), (1, .slice A1_0 a1.length n1_0), (2, fv2), (7, .int .i64 s7), (8, .pointer (some ⟨g28, 0, none⟩)), (11, .slice A0_0 a0.length n0_0), (12, .int .i64 (a0.length : Int)), (13, .int .i64 s7), (21, .bool (decide (s7 ≥ (a1.length : Int))))]) (by kernel_rfl) ?_
      refine gl_atE (by kernel_rfl) ?_
      refine ge_seq ?_
      refine gk_cond (b := (decide (s7 ≥ (a1.length : Int)))) (by kernel_rfl) (by kernel_rfl) (fun hc29 => ?_) (fun hc29 => ?_)
      · have hb9 := cond_t hc29 hb9
        refine gk_seq (by kernel_rfl) ?_
        refine gk_region (by kernel_rfl) ?_
        refine gl_pure 1 [6] (K' := [(6, .int .i64 1)]) (by kernel_rfl) ?_
        refine gl_atE (by kernel_rfl) ?_
        refine ge_seq ?_
        refine gk_reord (D := L) (Reord.skip (Reord.refl _)) ?_
        refine gk_ret (by kernel_rfl) ?_
        refine ge_seq_ret ?_
        refine ge_block_ret ?_
        refine ge_seq_ret ?_
        obtain rfl := some_inj hb9
        refine ge_round_out (fun hrr => ?_) (by intro h; cases h)
        obtain rfl := hrr
        refine ge_block_ret ?_
        refine ge_seq_ret ?_
        refine ge_seq_ret ?_
        obtain rfl := some_inj hr
        exact ge_result trivial (ResOk.tmp (by kernel_rfl) ResOk.nil) hI10 ⟨rfl, rfl⟩
      · have hb9 := cond_f hc29 hb9
        refine gk_skip (by kernel_rfl) ?_
        refine ge_seq ?_
        refine gk_seq (by kernel_rfl) ?_
        refine gk_region (by kernel_rfl) ?_
        refine gl_pure 2 [0, 1, 2, 8, 11, 12, 13, 22, 23] (K' := [(0, .slice A0_0 a0.length n0_0), (1, .slice A1_0 a1.length n1_0), (2, fv2), (8, .pointer (some ⟨g28, 0, none⟩)), (11, .slice A0_0 a0.length n0_0), (12, .int .i64 (a0.length : Int)), (13, .int .i64 s7), (22, .slice A1_0 a1.length n1_0), (23, .int .i64 s7)]) (by kernel_rfl) ?_
        obtain ⟨x30, hx31, hb9⟩ := bind_some hb9
        obtain ⟨p32, cs33, hR34, hA35, ha36⟩ := RepS.ixAt hx31 (hf1_0.mono hI10)
        have hi37 := ix_some hx31
        obtain rfl := kS79_open hR34
        refine gl_indexAddrF (c := n1_0) (T' := 36) (e := 80) (xs := (.tmp 22)) (xi := (.tmp 23)) (kd := .i64) ha36 hi37.1 hi37.2.1 (by kernel_rfl) (by kernel_rfl) (by kernel_rfl) (by kernel_rfl) (by kernel_rfl) ?_
        refine gl_loadA (T' := 80) (xp := (.tmp 24)) (p := p32) (cs := [.string x30.f0, .string x30.f1]) (by kernel_rfl) (by kernel_rfl) (by kernel_rfl) (by kernel_rfl) (hA35.take 2) ?_
        refine gl_alloc (T' := 80) (cs := #[.string (⟨#[]⟩ : ByteArray), .string (⟨#[]⟩ : ByteArray)]) (by kernel_rfl) (by kernel_rfl) (by kernel_rfl) (fun g38 => ?_)
        refine gl_storeB (T' := 80) (xp := (.tmp 9)) (xv := (.tmp 25)) (v := .agg #[.string x30.f0, .string x30.f1]) (g := g38) (off := 0) (cs := #[.string (⟨#[]⟩ : ByteArray), .string (⟨#[]⟩ : ByteArray)]) (cs' := #[.string x30.f0, .string x30.f1]) (by kernel_rfl) (by kernel_rfl) (by kernel_rfl) (by kernel_rfl) (by kernel_rfl) (Upd.set _ _ _ _) ?_ (by kernel_rfl)
        refine gl_atE (by kernel_rfl) ?_
        refine ge_seq ?_
        refine gk_seq (by kernel_rfl) ?_
        refine gk_region (by kernel_rfl) ?_
        refine gl_pure 1 [0, 1, 2, 8, 9, 11, 12, 13, 26] (K' := [(0, .slice A0_0 a0.length n0_0), (1, .slice A1_0 a1.length n1_0), (2, fv2), (8, .pointer (some ⟨g28, 0, none⟩)), (9, .pointer (some ⟨g38, 0, none⟩)), (11, .slice A0_0 a0.length n0_0), (12, .int .i64 (a0.length : Int)), (13, .int .i64 s7), (26, fv2)]) (by kernel_rfl) ?_
        refine gl_loadB (T' := 80) (xp := (.tmp 8)) (v := .agg #[.string x20.f0, .string x20.f1]) (g := g28) (off := 0) (cs := #[.string x20.f0, .string x20.f1]) (e := 80) (fz := (0, 0)) (by kernel_rfl) (by kernel_rfl) (by kernel_rfl) (List.mem_cons_of_mem _ List.mem_cons_self) (by kernel_rfl) ?_
        refine gl_loadB (T' := 80) (xp := (.tmp 9)) (v := .agg #[.string x30.f0, .string x30.f1]) (g := g38) (off := 0) (cs := #[.string x30.f0, .string x30.f1]) (e := 80) (fz := (0, 0)) (by kernel_rfl) (by kernel_rfl) (by kernel_rfl) List.mem_cons_self (by kernel_rfl) ?_
        obtain ⟨y40, hx39, hb9⟩ := bind_some hb9
        refine gl_callvQ (by kernel_rfl) ((hf2.mono hI10).out _ (Imm.refl _) _ _ _ hx39   _) ?_
        refine gl_pure 1 [0, 1, 2, 10, 11, 12, 13] (K' := [(0, .slice A0_0 a0.length n0_0), (1, .slice A1_0 a1.length n1_0), (2, fv2), (10, .int .i64 y40), (11, .slice A0_0 a0.length n0_0), (12, .int .i64 (a0.length : Int)), (13, .int .i64 s7)]) (by kernel_rfl) ?_
        refine gl_atE (by kernel_rfl) ?_
        refine ge_seq ?_
        refine gk_seq (by kernel_rfl) ?_
        refine gk_region (by kernel_rfl) ?_
        refine gl_pure 2 [0, 1, 2, 10, 11, 12, 13, 31] (K' := [(0, .slice A0_0 a0.length n0_0), (1, .slice A1_0 a1.length n1_0), (2, fv2), (10, .int .i64 y40), (11, .slice A0_0 a0.length n0_0), (12, .int .i64 (a0.length : Int)), (13, .int .i64 s7), (31, .bool (y40 != 0))]) (by kernel_rfl) ?_
        refine gl_atE (by kernel_rfl) ?_
        refine ge_seq ?_
        refine gk_cond (b := (y40 != 0)) (by kernel_rfl) (by kernel_rfl) (fun hc41 => ?_) (fun hc41 => ?_)
        · have hb9 := cond_t hc41 hb9
          refine gk_seq (by kernel_rfl) ?_
          refine gk_region (by kernel_rfl) ?_
          refine gl_pure 2 [6] (K' := [(6, .int .i64 y40)]) (by kernel_rfl) ?_
          refine gl_atE (by kernel_rfl) ?_
          refine ge_seq ?_
          refine gk_reord (D := L) (Reord.skip (Reord.skip (Reord.refl _))) ?_
          refine gk_ret (by kernel_rfl) ?_
          refine ge_block_ret ?_
          refine ge_seq_ret ?_
          obtain rfl := some_inj hb9
          refine ge_round_out (fun hrr => ?_) (by intro h; cases h)
          obtain rfl := hrr
          refine ge_block_ret ?_
          refine ge_seq_ret ?_
          refine ge_seq_ret ?_
          obtain rfl := some_inj hr
          exact ge_result trivial (ResOk.tmp (by kernel_rfl) ResOk.nil) hI10 ⟨rfl, rfl⟩
        · have hb9 := cond_f hc41 hb9
          refine gk_skip (by kernel_rfl) ?_
          refine ge_block_normal ?_
          refine ge_seq ?_
          refine gk_region (by kernel_rfl) ?_
          refine gl_pure 2 [0, 1, 2, 11, 12, 13] (K' := [(0, .slice A0_0 a0.length n0_0), (1, .slice A1_0 a1.length n1_0), (2, fv2), (11, .slice A0_0 a0.length n0_0), (12, .int .i64 (a0.length : Int)), (13, .int .i64 (IntKind.wrap .i64 (s7 + 1)))]) (by kernel_rfl) ?_
          refine gl_reord (D := L) (Reord.skip (Reord.skip (Reord.refl _))) ?_
          refine gl_atE (by kernel_rfl) ?_
          obtain rfl := some_inj hb9
          exact ge_round fun t ht => ⟨hI10, rfl, ht.pick (l := [0, 1, 2, 11, 12, 13]) (by kernel_rfl)⟩
    · have hb9 := cond_f hc19 hb9
      refine gk_exit (by kernel_rfl) ?_
      refine ge_seq_exit ?_
      obtain rfl := some_inj hb9
      refine ge_round_out (fun hrr => ?_) (by intro h; cases h)
      obtain rfl := hrr
      refine ge_block_hit (by kernel_rfl) ?_
      exact ge_mid fun t ht => ⟨_, rfl, hI10, rfl, ht.pick (l := [0, 1]) (by kernel_rfl)⟩
  · rintro t I16 L' ⟨r13, rfl, hI14, rfl, hK15⟩
    refine ge_at hK15 ?_
    refine ge_seq ?_
    refine gk_seq (by kernel_rfl) ?_
    refine gk_seq (by kernel_rfl) ?_
    refine gk_region (by kernel_rfl) ?_
    refine gl_pure 5 [38] (K' := [(38, .bool (decide ((a0.length : Int) < (a1.length : Int))))]) (by kernel_rfl) ?_
    refine gl_atE (by kernel_rfl) ?_
    refine ge_seq ?_
    refine gk_cond (b := (decide ((a0.length : Int) < (a1.length : Int)))) (by kernel_rfl) (by kernel_rfl) (fun hc42 => ?_) (fun hc42 => ?_)
    · have hr := cond_t hc42 hr
      refine gk_seq (by kernel_rfl) ?_
      refine gk_region (by kernel_rfl) ?_
      refine gl_pure 1 [6] (K' := [(6, .int .i64 (-1))]) (by kernel_rfl) ?_
      refine gl_atE (by kernel_rfl) ?_
      refine ge_seq ?_
      refine gk_ret (by kernel_rfl) ?_
      refine ge_seq_ret ?_
      obtain rfl := some_inj hr
      exact ge_result trivial (ResOk.tmp (by kernel_rfl) ResOk.nil) hI14 ⟨rfl, rfl⟩
    · have hr := cond_f hc42 hr
      refine gk_skip (by kernel_rfl) ?_
      refine ge_seq ?_
      refine gk_seq (by kernel_rfl) ?_
      refine gk_region (by kernel_rfl) ?_
      refine gl_pure 1 [6] (K' := [(6, .int .i64 0)]) (by kernel_rfl) ?_
      refine gl_atE (by kernel_rfl) ?_
      refine ge_seq ?_
      refine gk_ret (by kernel_rfl) ?_
      obtain rfl := some_inj hr
      exact ge_result trivial (ResOk.tmp (by kernel_rfl) ResOk.nil) hI14 ⟨rfl, rfl⟩
/-! 127 bytealg_CompareString  -/
noncomputable def bytealg_CompareString (a0 : ByteArray) (a1 : ByteArray) : Int :=
  (Lib.compareBytes a0.data.toList a1.data.toList)
theorem bytealg_CompareString_walk {a0 : ByteArray} {a1 : ByteArray} {I : Imm} {r : Int}  (hr : bytealg_CompareString a0 a1 = r) (L : Own) :
    CallsTo Tryd.prog 127 #[.string a0, .string a1] I L (fun v I' L' => v = .int .i64 r ∧ L = L') := by
  replace hr : some (bytealg_CompareString a0 a1) = some r := congrArg some hr
  unfold bytealg_CompareString at hr
  refine callsTo_body (N := 8) Tryd.func127 (by kernel_rfl) (by kernel_rfl) (by kernel_rfl) ?_
  refine gk_pick [0, 1] (K' := [(0, .string a0), (1, .string a1)]) (by kernel_rfl) ?_
  refine gk_seq (by kernel_rfl) ?_
  refine gk_region (by kernel_rfl) ?_
  refine gl_pure 1 [0, 1] (K' := [(0, .string a0), (1, .string a1)]) (by kernel_rfl) ?_
  refine gl_atE (by kernel_rfl) ?_
  refine ge_seq ?_
  refine gk_seq (by kernel_rfl) ?_
  refine gk_region (by kernel_rfl) ?_
  refine gl_pure 2 [5, 6] (K' := [(5, .string a0), (6, .string a1)]) (by kernel_rfl) ?_
  refine gl_cmpstring (a := a0) (b := a1) Tryd.func140 (by kernel_rfl) (by kernel_rfl) (by kernel_rfl) (by kernel_rfl) (by kernel_rfl) (by kernel_rfl) ?_
  refine gl_pure 1 [4] (K' := [(4, .int .i64 (Lib.compareBytes a0.data.toList a1.data.toList))]) (by kernel_rfl) ?_
  refine gl_atE (by kernel_rfl) ?_
  refine ge_seq ?_
  refine gk_ret (by kernel_rfl) ?_
  obtain rfl := some_inj hr
  exact ge_result trivial (ResOk.tmp (by kernel_rfl) ResOk.nil) (Imm.refl _) ⟨rfl, rfl⟩
/-! 111 strings_Compare  -/
noncomputable def strings_Compare (a0 : ByteArray) (a1 : ByteArray) : Int :=
  (bytealg_CompareString a0 a1)
theorem strings_Compare_walk {a0 : ByteArray} {a1 : ByteArray} {I : Imm} {r : Int}  (hr : strings_Compare a0 a1 = r) (L : Own) :
    CallsTo Tryd.prog 111 #[.string a0, .string a1] I L (fun v I' L' => v = .int .i64 r ∧ L = L') := by
  replace hr : some (strings_Compare a0 a1) = some r := congrArg some hr
  unfold strings_Compare at hr
  refine callsTo_body (N := 8) Tryd.func111 (by kernel_rfl) (by kernel_rfl) (by kernel_rfl) ?_
  refine gk_pick [0, 1] (K' := [(0, .string a0), (1, .string a1)]) (by kernel_rfl) ?_
  refine gk_seq (by kernel_rfl) ?_
  refine gk_region (by kernel_rfl) ?_
  refine gl_pure 1 [0, 1] (K' := [(0, .string a0), (1, .string a1)]) (by kernel_rfl) ?_
  refine gl_atE (by kernel_rfl) ?_
  refine ge_seq ?_
  refine gk_seq (by kernel_rfl) ?_
  refine gk_region (by kernel_rfl) ?_
  refine gl_pure 2 [5, 6] (K' := [(5, .string a0), (6, .string a1)]) (by kernel_rfl) ?_
  refine gl_callQ (by kernel_rfl) (bytealg_CompareString_walk (r := (bytealg_CompareString a0 a1))  rfl _) ?_
  refine gl_pure 1 [4] (K' := [(4, .int .i64 (bytealg_CompareString a0 a1))]) (by kernel_rfl) ?_
  refine gl_atE (by kernel_rfl) ?_
  refine ge_seq ?_
  refine gk_ret (by kernel_rfl) ?_
  obtain rfl := some_inj hr
  exact ge_result trivial (ResOk.tmp (by kernel_rfl) ResOk.nil) (Imm.refl _) ⟨rfl, rfl⟩
/-! 110 labels_Compare_1  -/
noncomputable def labels_Compare_1 (a0 : S79) (a1 : S79) : Int :=
  bif ((strings_Compare a0.f0 a1.f0) != 0) then
  ((strings_Compare a0.f0 a1.f0))
  else
  ((strings_Compare a0.f1 a1.f1))
theorem labels_Compare_1_walk {a0 : S79} {a1 : S79} {I : Imm} {r : Int}  (hr : labels_Compare_1 a0 a1 = r) (L : Own) :
    CallsTo Tryd.prog 110 #[.agg #[.string a0.f0, .string a0.f1], .agg #[.string a1.f0, .string a1.f1]] I L (fun v I' L' => v = .int .i64 r ∧ L = L') := by
  replace hr : some (labels_Compare_1 a0 a1) = some r := congrArg some hr
  unfold labels_Compare_1 at hr
  refine callsTo_body (N := 19) Tryd.func110 (by kernel_rfl) (by kernel_rfl) (by kernel_rfl) ?_
  refine gk_pick [0, 1] (K' := [(0, .agg #[.string a0.f0, .string a0.f1]), (1, .agg #[.string a1.f0, .string a1.f1])]) (by kernel_rfl) ?_
  refine gk_seq (by kernel_rfl) ?_
  refine gk_region (by kernel_rfl) ?_
  refine gl_box (T' := 80) (x := (.tmp 0)) (v := .agg #[.string a0.f0, .string a0.f1]) (cs := #[.string a0.f0, .string a0.f1]) (by kernel_rfl) (by kernel_rfl) (by kernel_rfl) (by kernel_rfl) (fun g1 => ?_)
  refine gl_box (T' := 80) (x := (.tmp 1)) (v := .agg #[.string a1.f0, .string a1.f1]) (cs := #[.string a1.f0, .string a1.f1]) (by kernel_rfl) (by kernel_rfl) (by kernel_rfl) (by kernel_rfl) (fun g2 => ?_)
  refine gl_pure 1 [2, 3] (K' := [(2, .pointer (some ⟨g1, 0, none⟩)), (3, .pointer (some ⟨g2, 0, none⟩))]) (by kernel_rfl) ?_
  refine gl_atE (by kernel_rfl) ?_
  refine ge_seq ?_
  refine gk_seq (by kernel_rfl) ?_
  refine gk_seq (by kernel_rfl) ?_
  refine gk_region (by kernel_rfl) ?_
  refine gl_pure 1 [2, 3, 6] (K' := [(2, .pointer (some ⟨g1, 0, none⟩)), (3, .pointer (some ⟨g2, 0, none⟩)), (6, .pointer (some ⟨g1, 0, none⟩))]) (by kernel_rfl) ?_
  refine gl_loadB (T' := 9) (xp := (.tmp 6)) (v := .string a0.f0) (g := g1) (off := 0) (cs := #[.string a0.f0, .string a0.f1]) (e := 80) (fz := (0, 0)) (by kernel_rfl) (by kernel_rfl) (by kernel_rfl) (List.mem_cons_of_mem _ List.mem_cons_self) (by kernel_rfl) ?_
  refine gl_pure 1 [2, 3, 7, 8] (K' := [(2, .pointer (some ⟨g1, 0, none⟩)), (3, .pointer (some ⟨g2, 0, none⟩)), (7, .string a0.f0), (8, .pointer (some ⟨g2, 0, none⟩))]) (by kernel_rfl) ?_
  refine gl_loadB (T' := 9) (xp := (.tmp 8)) (v := .string a1.f0) (g := g2) (off := 0) (cs := #[.string a1.f0, .string a1.f1]) (e := 80) (fz := (0, 0)) (by kernel_rfl) (by kernel_rfl) (by kernel_rfl) List.mem_cons_self (by kernel_rfl) ?_
  refine gl_callQ (by kernel_rfl) (strings_Compare_walk (r := (strings_Compare a0.f0 a1.f0))  rfl _) ?_
  refine gl_pure 1 [2, 3, 5] (K' := [(2, .pointer (some ⟨g1, 0, none⟩)), (3, .pointer (some ⟨g2, 0, none⟩)), (5, .int .i64 (strings_Compare a0.f0 a1.f0))]) (by kernel_rfl) ?_
  refine gl_atE (by kernel_rfl) ?_
  refine ge_seq ?_
  refine gk_seq (by kernel_rfl) ?_
  refine gk_region (by kernel_rfl) ?_
  refine gl_pure 2 [2, 3, 5, 12] (K' := [(2, .pointer (some ⟨g1, 0, none⟩)), (3, .pointer (some ⟨g2, 0, none⟩)), (5, .int .i64 (strings_Compare a0.f0 a1.f0)), (12, .bool ((strings_Compare a0.f0 a1.f0) != 0))]) (by kernel_rfl) ?_
  refine gl_atE (by kernel_rfl) ?_
  refine ge_seq ?_
  refine gk_cond (b := ((strings_Compare a0.f0 a1.f0) != 0)) (by kernel_rfl) (by kernel_rfl) (fun hc3 => ?_) (fun hc3 => ?_)
  · have hr := scond_t hc3 hr
    refine gk_seq (by kernel_rfl) ?_
    refine gk_region (by kernel_rfl) ?_
    refine gl_pure 2 [4] (K' := [(4, .int .i64 (strings_Compare a0.f0 a1.f0))]) (by kernel_rfl) ?_
    refine gl_atE (by kernel_rfl) ?_
    refine ge_seq ?_
    refine gk_reord (D := L) (Reord.skip (Reord.skip (Reord.refl _))) ?_
    refine gk_ret (by kernel_rfl) ?_
    refine ge_seq_ret ?_
    obtain rfl := some_inj hr
    exact ge_result trivial (ResOk.tmp (by kernel_rfl) ResOk.nil) (Imm.refl _) ⟨rfl, rfl⟩
  · have hr := scond_f hc3 hr
    refine gk_skip (by kernel_rfl) ?_
    refine ge_seq ?_
    refine gk_seq (by kernel_rfl) ?_
    refine gk_region (by kernel_rfl) ?_
    refine gl_pure 1 [3, 14] (K' := [(3, .pointer (some ⟨g2, 0, none⟩)), (14, .pointer (some ⟨g1, 1, none⟩))]) (by kernel_rfl) ?_
    refine gl_loadB (T' := 9) (xp := (.tmp 14)) (v := .string a0.f1) (g := g1) (off := 1) (cs := #[.string a0.f0, .string a0.f1]) (e := 80) (fz := (0, 0)) (by kernel_rfl) (by kernel_rfl) (by kernel_rfl) (List.mem_cons_of_mem _ List.mem_cons_self) (by kernel_rfl) ?_
    refine gl_pure 1 [15, 16] (K' := [(15, .string a0.f1), (16, .pointer (some ⟨g2, 1, none⟩))]) (by kernel_rfl) ?_
    refine gl_loadB (T' := 9) (xp := (.tmp 16)) (v := .string a1.f1) (g := g2) (off := 1) (cs := #[.string a1.f0, .string a1.f1]) (e := 80) (fz := (0, 0)) (by kernel_rfl) (by kernel_rfl) (by kernel_rfl) List.mem_cons_self (by kernel_rfl) ?_
    refine gl_callQ (by kernel_rfl) (strings_Compare_walk (r := (strings_Compare a0.f1 a1.f1))  rfl _) ?_
    refine gl_pure 1 [4] (K' := [(4, .int .i64 (strings_Compare a0.f1 a1.f1))]) (by kernel_rfl) ?_
    refine gl_atE (by kernel_rfl) ?_
    refine ge_seq ?_
    refine gk_reord (D := L) (Reord.skip (Reord.skip (Reord.refl _))) ?_
    refine gk_ret (by kernel_rfl) ?_
    obtain rfl := some_inj hr
    exact ge_result trivial (ResOk.tmp (by kernel_rfl) ResOk.nil) (Imm.refl _) ⟨rfl, rfl⟩
theorem labels_Compare_1_impl145  {I : Imm}  : Fn145 I (.func (.func 110) #[] #[]) (fun x0 x1 => some (labels_Compare_1 x0 x1)) := ⟨fun I' hI x0 x1 r hr  L => ⟨110, #[], #[], rfl, ⟨_, Tryd.func110, by kernel_rfl, by kernel_rfl⟩, by
  simp only [List.append_toArray, List.nil_append, List.append_nil, Array.append_empty, Array.empty_append, List.push_append_toArray, List.cons_append]
  exact labels_Compare_1_walk    (some_inj hr) L⟩⟩
/-! 76 labels_Compare  -/
noncomputable def labels_Compare (a0 : List S79) (a1 : List S79) : Option Int :=
  Option.bind (slices_CompareFunc a0 a1 (fun x0 x1 => some (labels_Compare_1 x0 x1))) fun (y1 : Int) =>
  some y1
theorem labels_Compare_walk {a0 : List S79} {A0_0 : Option Addr} {n0_0 : Nat} {a1 : List S79} {A1_0 : Option Addr} {n1_0 : Nat} {I : Imm} {r : Int}  (hf0_0 : RepS kS79 I A0_0 n0_0 a0)  (hf1_0 : RepS kS79 I A1_0 n1_0 a1) (hr : labels_Compare a0 a1 = some r) (L : Own) :
    CallsTo Tryd.prog 76 #[.slice A0_0 a0.length n0_0, .slice A1_0 a1.length n1_0] I L (fun v I' L' => v = .int .i64 r ∧ L = L') := by
  unfold labels_Compare at hr
  refine callsTo_body (N := 8) Tryd.func76 (by kernel_rfl) (by kernel_rfl) (by kernel_rfl) ?_
  refine gk_pick [0, 1] (K' := [(0, .slice A0_0 a0.length n0_0), (1, .slice A1_0 a1.length n1_0)]) (by kernel_rfl) ?_
  refine gk_seq (by kernel_rfl) ?_
  refine gk_region (by kernel_rfl) ?_
  refine gl_pure 1 [0, 1] (K' := [(0, .slice A0_0 a0.length n0_0), (1, .slice A1_0 a1.length n1_0)]) (by kernel_rfl) ?_
  refine gl_atE (by kernel_rfl) ?_
  refine ge_seq ?_
  refine gk_seq (by kernel_rfl) ?_
  refine gk_region (by kernel_rfl) ?_
  refine gl_pure 2 [5, 6] (K' := [(5, .slice A0_0 a0.length n0_0), (6, .slice A1_0 a1.length n1_0)]) (by kernel_rfl) ?_
  obtain ⟨y1, hx2, hr⟩ := bind_some hr
  refine gl_callQ (by kernel_rfl) (slices_CompareFunc_walk (r := y1) hf0_0 hf1_0 labels_Compare_1_impl145 hx2 _) ?_
  refine gl_pure 1 [4] (K' := [(4, .int .i64 y1)]) (by kernel_rfl) ?_
  refine gl_atE (by kernel_rfl) ?_
  refine ge_seq ?_
  refine gk_ret (by kernel_rfl) ?_
  obtain rfl := some_inj hr
  exact ge_result trivial (ResOk.tmp (by kernel_rfl) ResOk.nil) (Imm.refl _) ⟨rfl, rfl⟩
/-! 71 nflog_rising  -/
noncomputable def nflog_rising_l17 (a0 : List (List S79)) : Int → Option ((Int) ⊕ ((Unit) ⊕ (Bool))) := fun s7 =>
  bif (decide (s7 < (a0.length : Int))) then
  (Option.bind (ix a0 s7) fun (x20 : List S79) =>
    Option.bind (labels_Right x20) fun (y31 : Int × Int) =>
    Option.bind (bif (y31.1 != 0) then
      (some true)
      else
      (bif (decide (s7 > 0)) then
        (Option.bind (ix a0 (IntKind.wrap .i64 (s7 - 1))) fun (x40 : List S79) =>
          Option.bind (labels_Compare x40 x20) fun (y51 : Int) =>
          some (decide (y51 ≥ 0)))
        else
        (some false))) fun (j33 : Bool) =>
    bif j33 then
    (some (Sum.inr (Sum.inr false)))
    else
    (some (Sum.inl (IntKind.wrap .i64 (s7 + 1)))))
  else
  (some (Sum.inr (Sum.inl ())))
noncomputable def nflog_rising (a0 : List (List S79)) : Option Bool :=
  Option.bind (loopO (nflog_rising_l17 a0) 0) fun (r5 : (Unit) ⊕ (Bool)) =>
  match r5 with
  | Sum.inl r13 => some true
  | Sum.inr v54 => some v54
theorem nflog_rising_walk {a0 : List (List S79)} {A0_0 : Option Addr} {n0_0 : Nat} {I : Imm} {r : Bool} (hG : Gl I)  (hf0_0 : RepS (Kd.sl kS79) I A0_0 n0_0 a0) (hr : nflog_rising a0 = some r) (L : Own) :
    CallsTo Tryd.prog 71 #[.slice A0_0 a0.length n0_0] I L (fun v I' L' => v = .bool r ∧ L = L') := by
  unfold nflog_rising at hr
  refine callsTo_body (N := 36) Tryd.func71 (by kernel_rfl) (by kernel_rfl) (by kernel_rfl) ?_
  refine gk_pick [0] (K' := [(0, .slice A0_0 a0.length n0_0)]) (by kernel_rfl) ?_
  refine gk_seq (by kernel_rfl) ?_
  refine gk_region (by kernel_rfl) ?_
  refine gl_pure 1 [0] (K' := [(0, .slice A0_0 a0.length n0_0)]) (by kernel_rfl) ?_
  refine gl_atE (by kernel_rfl) ?_
  refine ge_seq ?_
  refine gk_seq (by kernel_rfl) ?_
  refine gk_seq (by kernel_rfl) ?_
  refine gk_region (by kernel_rfl) ?_
  refine gl_pure 3 [0, 7, 8, 9] (K' := [(0, .slice A0_0 a0.length n0_0), (7, .slice A0_0 a0.length n0_0), (8, .int .i64 (a0.length : Int)), (9, .int .i64 0)]) (by kernel_rfl) ?_
  refine gl_atE (by kernel_rfl) ?_
  refine ge_seq ?_
  obtain ⟨r5, hl6, hr⟩ := bind_some hr
  refine gk_join (fun t I' L' => ∃ r13, r5 = Sum.inl r13 ∧ I ≤ I' ∧ L = L' ∧ Knows 36 [] t) ?_ ?_
  · refine gk_block (by kernel_rfl) ?_
    refine gk_pick [0, 7, 8, 9] (K' := [(0, .slice A0_0 a0.length n0_0), (7, .slice A0_0 a0.length n0_0), (8, .int .i64 (a0.length : Int)), (9, .int .i64 0)]) (by kernel_rfl) ?_
    intro t hK
    refine gc_loop (nflog_rising_l17 a0) (fun s7 t I' L' => I ≤ I' ∧ L = L' ∧ Knows 36 [(0, .slice A0_0 a0.length n0_0), (7, .slice A0_0 a0.length n0_0), (8, .int .i64 (a0.length : Int)), (9, .int .i64 s7)] t) (by kernel_rfl) ?_ hl6 ⟨(Imm.refl _), rfl, hK⟩
    rintro s7 o8 t I12 L' hb9 ⟨hI10, rfl, hK11⟩
    unfold nflog_rising_l17 at hb9
    refine gk_at hK11 ?_
    refine gk_seq (by kernel_rfl) ?_
    refine gk_region (by kernel_rfl) ?_
    refine gl_pure 1 [0, 7, 8, 9, 10] (K' := [(0, .slice A0_0 a0.length n0_0), (7, .slice A0_0 a0.length n0_0), (8, .int .i64 (a0.length : Int)), (9, .int .i64 s7), (10, .bool (decide (s7 < (a0.length : Int))))]) (by kernel_rfl) ?_
    refine gl_atE (by kernel_rfl) ?_
    refine ge_seq ?_
    refine gk_seq (by kernel_rfl) ?_
    refine gk_cond (b := (decide (s7 < (a0.length : Int)))) (by kernel_rfl) (by kernel_rfl) (fun hc19 => ?_) (fun hc19 => ?_)
    · have hb9 := cond_t hc19 hb9
      refine gk_skip (by kernel_rfl) ?_
      refine ge_seq ?_
      refine gk_seq (by kernel_rfl) ?_
      refine gk_block (by kernel_rfl) ?_
      refine gk_seq (by kernel_rfl) ?_
      refine gk_region (by kernel_rfl) ?_
      refine gl_pure 1 [0, 7, 8, 9, 11] (K' := [(0, .slice A0_0 a0.length n0_0), (7, .slice A0_0 a0.length n0_0), (8, .int .i64 (a0.length : Int)), (9, .int .i64 s7), (11, .int .i64 s7)]) (by kernel_rfl) ?_
      obtain ⟨x20, hx21, hb9⟩ := bind_some hb9
      obtain ⟨p22, cs23, hR24, hA25, ha26⟩ := RepS.ixAt hx21 (hf0_0.mono hI10)
      have hi27 := ix_some hx21
      obtain ⟨A28, n29, rfl, hf30⟩ := sl_open hR24
      refine gl_indexAddrF (c := n0_0) (T' := 22) (e := 36) (xs := (.tmp 7)) (xi := (.tmp 9)) (kd := .i64) ha26 hi27.1 hi27.2.1 (by kernel_rfl) (by kernel_rfl) (by kernel_rfl) (by kernel_rfl) (by kernel_rfl) ?_
      refine gl_load (T' := 36) (xp := (.tmp 12)) (p := p22) (c := .slice A28 x20.length n29) (n := 1) (by kernel_rfl) (by kernel_rfl) (by kernel_rfl) (by kernel_rfl) hA25 ?_
      refine gl_pure 2 [0, 3, 4, 7, 8, 9] (K' := [(0, .slice A0_0 a0.length n0_0), (3, .int .i64 s7), (4, .slice A28 x20.length n29), (7, .slice A0_0 a0.length n0_0), (8, .int .i64 (a0.length : Int)), (9, .int .i64 s7)]) (by kernel_rfl) ?_
      refine gl_atE (by kernel_rfl) ?_
      refine ge_seq ?_
      refine gk_seq (by kernel_rfl) ?_
      refine gk_region (by kernel_rfl) ?_
      refine gl_pure 1 [0, 3, 4, 7, 8, 9, 15] (K' := [(0, .slice A0_0 a0.length n0_0), (3, .int .i64 s7), (4, .slice A28 x20.length n29), (7, .slice A0_0 a0.length n0_0), (8, .int .i64 (a0.length : Int)), (9, .int .i64 s7), (15, .slice A28 x20.length n29)]) (by kernel_rfl) ?_
      obtain ⟨y31, hx32, hb9⟩ := bind_some hb9
      refine gl_callQ (by kernel_rfl) (labels_Right_walk (r := y31) (hG.mono hI10) hf30 hx32 _) ?_
      refine gl_pure 5 [0, 3, 4, 5, 7, 8, 9] (K' := [(0, .slice A0_0 a0.length n0_0), (3, .int .i64 s7), (4, .slice A28 x20.length n29), (5, .int .i64 y31.1), (7, .slice A0_0 a0.length n0_0), (8, .int .i64 (a0.length : Int)), (9, .int .i64 s7)]) (by kernel_rfl) ?_
      refine gl_atE (by kernel_rfl) ?_
      refine ge_seq ?_
      refine gk_seq (by kernel_rfl) ?_
      obtain ⟨j33, hj34, hb9⟩ := bind_some hb9
      refine gk_join (fun t I' L' => I12 ≤ I' ∧ L = L' ∧ Knows 36 [(0, .slice A0_0 a0.length n0_0), (7, .slice A0_0 a0.length n0_0), (8, .int .i64 (a0.length : Int)), (9, .int .i64 s7), (34, .bool j33)] t) ?_ ?_
      · refine gk_region (by kernel_rfl) ?_
        refine gl_pure 3 [0, 3, 4, 7, 8, 9, 21] (K' := [(0, .slice A0_0 a0.length n0_0), (3, .int .i64 s7), (4, .slice A28 x20.length n29), (7, .slice A0_0 a0.length n0_0), (8, .int .i64 (a0.length : Int)), (9, .int .i64 s7), (21, .bool (y31.1 != 0))]) (by kernel_rfl) ?_
        refine gl_case 21 (b := (y31.1 != 0)) (by kernel_rfl) (fun hc38 => ?_) (fun hc38 => ?_)
        · have hj34 := cond_t hc38 hj34
          refine gl_pure 13 [0, 7, 8, 9, 34] (K' := [(0, .slice A0_0 a0.length n0_0), (7, .slice A0_0 a0.length n0_0), (8, .int .i64 (a0.length : Int)), (9, .int .i64 s7), (34, .bool true)]) (by kernel_rfl) ?_
          refine gl_atE (by kernel_rfl) ?_
          obtain rfl := some_inj hj34
          exact ge_mid fun t ht => ⟨(Imm.refl _), rfl, ht.pick (l := [0, 7, 8, 9, 34]) (by kernel_rfl)⟩
        · have hj34 := cond_f hc38 hj34
          refine gl_pure 3 [0, 3, 4, 7, 8, 9, 21, 24] (K' := [(0, .slice A0_0 a0.length n0_0), (3, .int .i64 s7), (4, .slice A28 x20.length n29), (7, .slice A0_0 a0.length n0_0), (8, .int .i64 (a0.length : Int)), (9, .int .i64 s7), (21, .bool false), (24, .bool (decide (s7 > 0)))]) (by kernel_rfl) ?_
          refine gl_case 24 (b := (decide (s7 > 0))) (by kernel_rfl) (fun hc39 => ?_) (fun hc39 => ?_)
          · have hj34 := cond_t hc39 hj34
            refine gl_pure 3 [0, 4, 7, 8, 9, 21, 24, 25, 27] (K' := [(0, .slice A0_0 a0.length n0_0), (4, .slice A28 x20.length n29), (7, .slice A0_0 a0.length n0_0), (8, .int .i64 (a0.length : Int)), (9, .int .i64 s7), (21, .bool false), (24, .bool true), (25, .slice A0_0 a0.length n0_0), (27, .int .i64 (IntKind.wrap .i64 (s7 - 1)))]) (by kernel_rfl) ?_
            obtain ⟨x40, hx41, hj34⟩ := bind_some hj34
            obtain ⟨p42, cs43, hR44, hA45, ha46⟩ := RepS.ixAt hx41 (hf0_0.mono hI10)
            have hi47 := ix_some hx41
            obtain ⟨A48, n49, rfl, hf50⟩ := sl_open hR44
            refine gl_indexAddrF (c := n0_0) (T' := 22) (e := 36) (xs := (.tmp 25)) (xi := (.tmp 27)) (kd := .i64) ha46 hi47.1 hi47.2.1 (by kernel_rfl) (by kernel_rfl) (by kernel_rfl) (by kernel_rfl) (by kernel_rfl) ?_
            refine gl_load (T' := 36) (xp := (.tmp 28)) (p := p42) (c := .slice A48 x40.length n49) (n := 1) (by kernel_rfl) (by kernel_rfl) (by kernel_rfl) (by kernel_rfl) hA45 ?_
            refine gl_pure 1 [0, 7, 8, 9, 21, 24, 29, 30] (K' := [(0, .slice A0_0 a0.length n0_0), (7, .slice A0_0 a0.length n0_0), (8, .int .i64 (a0.length : Int)), (9, .int .i64 s7), (21, .bool false), (24, .bool true), (29, .slice A48 x40.length n49), (30, .slice A28 x20.length n29)]) (by kernel_rfl) ?_
            obtain ⟨y51, hx52, hj34⟩ := bind_some hj34
            refine gl_callQ (by kernel_rfl) (labels_Compare_walk (r := y51) hf50 hf30 hx52 _) ?_
            refine gl_pure 3 [0, 7, 8, 9, 34] (K' := [(0, .slice A0_0 a0.length n0_0), (7, .slice A0_0 a0.length n0_0), (8, .int .i64 (a0.length : Int)), (9, .int .i64 s7), (34, .bool (decide (y51 ≥ 0)))]) (by kernel_rfl) ?_
            refine gl_atE (by kernel_rfl) ?_
            obtain rfl := some_inj hj34
            exact ge_mid fun t ht => ⟨(Imm.refl _), rfl, ht.pick (l := [0, 7, 8, 9, 34]) (by kernel_rfl)⟩
          · have hj34 := cond_f hc39 hj34
            refine gl_pure 10 [0, 7, 8, 9, 34] (K' := [(0, .slice A0_0 a0.length n0_0), (7, .slice A0_0 a0.length n0_0), (8, .int .i64 (a0.length : Int)), (9, .int .i64 s7), (34, .bool false)]) (by kernel_rfl) ?_
            refine gl_atE (by kernel_rfl) ?_
            obtain rfl := some_inj hj34
            exact ge_mid fun t ht => ⟨(Imm.refl _), rfl, ht.pick (l := [0, 7, 8, 9, 34]) (by kernel_rfl)⟩
      · rintro t I37 L' ⟨hI35, rfl, hK36⟩
        refine ge_at hK36 ?_
        refine ge_seq ?_
        refine gk_cond (b := j33) (by kernel_rfl) (by kernel_rfl) (fun hc53 => ?_) (fun hc53 => ?_)
        · have hb9 := cond_t hc53 hb9
          refine gk_seq (by kernel_rfl) ?_
          refine gk_region (by kernel_rfl) ?_
          refine gl_pure 1 [2] (K' := [(2, .bool false)]) (by kernel_rfl) ?_
          refine gl_atE (by kernel_rfl) ?_
          refine ge_seq ?_
          refine gk_ret (by kernel_rfl) ?_
          refine ge_block_ret ?_
          refine ge_seq_ret ?_
          obtain rfl := some_inj hb9
          refine ge_round_out (fun hrr => ?_) (by intro h; cases h)
          obtain rfl := hrr
          refine ge_block_ret ?_
          refine ge_seq_ret ?_
          refine ge_seq_ret ?_
          obtain rfl := some_inj hr
          exact ge_result trivial (ResOk.tmp (by kernel_rfl) ResOk.nil) (Imm.trans hI10 hI35) ⟨rfl, rfl⟩
        · have hb9 := cond_f hc53 hb9
          refine gk_skip (by kernel_rfl) ?_
          refine ge_block_normal ?_
          refine ge_seq ?_
          refine gk_region (by kernel_rfl) ?_
          refine gl_pure 2 [0, 7, 8, 9] (K' := [(0, .slice A0_0 a0.length n0_0), (7, .slice A0_0 a0.length n0_0), (8, .int .i64 (a0.length : Int)), (9, .int .i64 (IntKind.wrap .i64 (s7 + 1)))]) (by kernel_rfl) ?_
          refine gl_atE (by kernel_rfl) ?_
          obtain rfl := some_inj hb9
          exact ge_round fun t ht => ⟨(Imm.trans hI10 hI35), rfl, ht.pick (l := [0, 7, 8, 9]) (by kernel_rfl)⟩
    · have hb9 := cond_f hc19 hb9
      refine gk_exit (by kernel_rfl) ?_
      refine ge_seq_exit ?_
      obtain rfl := some_inj hb9
      refine ge_round_out (fun hrr => ?_) (by intro h; cases h)
      obtain rfl := hrr
      refine ge_block_hit (by kernel_rfl) ?_
      exact ge_mid fun t ht => ⟨_, rfl, hI10, rfl, ht.pick (l := []) (by kernel_rfl)⟩
  · rintro t I16 L' ⟨r13, rfl, hI14, rfl, hK15⟩
    refine ge_at hK15 ?_
    refine ge_seq ?_
    refine gk_seq (by kernel_rfl) ?_
    refine gk_region (by kernel_rfl) ?_
    refine gl_pure 1 [2] (K' := [(2, .bool true)]) (by kernel_rfl) ?_
    refine gl_atE (by kernel_rfl) ?_
    refine ge_seq ?_
    refine gk_ret (by kernel_rfl) ?_
    obtain rfl := some_inj hr
    exact ge_result trivial (ResOk.tmp (by kernel_rfl) ResOk.nil) hI14 ⟨rfl, rfl⟩
/-! 32 nflog_Right  -/
noncomputable def nflog_Right (a0 : S23) : Option Int :=
  Option.bind (nflog_text a0.f0 64) fun (y2 : Bool) =>
  bif (!y2) then
  (some 204)
  else
  (Option.bind (nflog_text a0.f1 65536) fun (y5 : Bool) =>
    bif (!y5) then
    (some 40)
    else
    (bif ((decide (a0.f2 < 0)) || (decide (a0.f2 > 1125899906842624))) then
      (some 1)
      else
      (bif ((decide ((a0.f3.length : Int) > 500)) || (decide ((a0.f4.length : Int) > 500))) then
        (some 8)
        else
        (Option.bind (Option.bind (nflog_rising a0.f3) fun (y27 : Bool) =>
            bif (!y27) then
            (some true)
            else
            (Option.bind (nflog_rising a0.f4) fun (y30 : Bool) =>
              some (!y30))) fun (j22 : Bool) =>
          bif j22 then
          (some 41)
          else
          (some 0)))))
theorem nflog_Right_walk {a0 : S23} {A0_3 : Option Addr} {n0_3 : Nat} {A0_4 : Option Addr} {n0_4 : Nat} {I : Imm} {r : Int} (hG : Gl I)  (hf0_3 : RepS (Kd.sl kS79) I A0_3 n0_3 a0.f3) (hf0_4 : RepS (Kd.sl kS79) I A0_4 n0_4 a0.f4) (hr : nflog_Right a0 = some r) (L : Own) :
    CallsTo Tryd.prog 32 #[.agg #[.string a0.f0, .string a0.f1, .int .i64 a0.f2, .slice A0_3 a0.f3.length n0_3, .slice A0_4 a0.f4.length n0_4]] I L (fun v I' L' => v = .int .i64 r ∧ L = L') := by
  unfold nflog_Right at hr
  refine callsTo_body (N := 44) Tryd.func32 (by kernel_rfl) (by kernel_rfl) (by kernel_rfl) ?_
  refine gk_pick [0] (K' := [(0, .agg #[.string a0.f0, .string a0.f1, .int .i64 a0.f2, .slice A0_3 a0.f3.length n0_3, .slice A0_4 a0.f4.length n0_4])]) (by kernel_rfl) ?_
  refine gk_seq (by kernel_rfl) ?_
  refine gk_region (by kernel_rfl) ?_
  refine gl_box (T' := 24) (x := (.tmp 0)) (v := .agg #[.string a0.f0, .string a0.f1, .int .i64 a0.f2, .slice A0_3 a0.f3.length n0_3, .slice A0_4 a0.f4.length n0_4]) (cs := #[.string a0.f0, .string a0.f1, .int .i64 a0.f2, .slice A0_3 a0.f3.length n0_3, .slice A0_4 a0.f4.length n0_4]) (by kernel_rfl) (by kernel_rfl) (by kernel_rfl) (by kernel_rfl) (fun g1 => ?_)
  refine gl_pure 1 [1] (K' := [(1, .pointer (some ⟨g1, 0, none⟩))]) (by kernel_rfl) ?_
  refine gl_atE (by kernel_rfl) ?_
  refine ge_seq ?_
  refine gk_seq (by kernel_rfl) ?_
  refine gk_block (by kernel_rfl) ?_
  refine gk_seq (by kernel_rfl) ?_
  refine gk_region (by kernel_rfl) ?_
  refine gl_pure 1 [1, 4] (K' := [(1, .pointer (some ⟨g1, 0, none⟩)), (4, .pointer (some ⟨g1, 0, none⟩))]) (by kernel_rfl) ?_
  refine gl_loadB (T' := 9) (xp := (.tmp 4)) (v := .string a0.f0) (g := g1) (off := 0) (cs := #[.string a0.f0, .string a0.f1, .int .i64 a0.f2, .slice A0_3 a0.f3.length n0_3, .slice A0_4 a0.f4.length n0_4]) (e := 24) (fz := (0, 0)) (by kernel_rfl) (by kernel_rfl) (by kernel_rfl) List.mem_cons_self (by kernel_rfl) ?_
  obtain ⟨y2, hx3, hr⟩ := bind_some hr
  refine gl_callQ (by kernel_rfl) (nflog_text_walk (r := y2) hG hx3 _) ?_
  refine gl_pure 2 [1, 3] (K' := [(1, .pointer (some ⟨g1, 0, none⟩)), (3, .bool (!y2))]) (by kernel_rfl) ?_
  refine gl_atE (by kernel_rfl) ?_
  refine ge_seq ?_
  refine gk_cond (b := (!y2)) (by kernel_rfl) (by kernel_rfl) (fun hc4 => ?_) (fun hc4 => ?_)
  · have hr := cond_t hc4 hr
    refine gk_seq (by kernel_rfl) ?_
    refine gk_region (by kernel_rfl) ?_
    refine gl_pure 1 [2] (K' := [(2, .int .i64 204)]) (by kernel_rfl) ?_
    refine gl_atE (by kernel_rfl) ?_
    refine ge_seq ?_
    refine gk_reord (D := L) (Reord.skip (Reord.refl _)) ?_
    refine gk_ret (by kernel_rfl) ?_
    refine ge_block_ret ?_
    refine ge_seq_ret ?_
    obtain rfl := some_inj hr
    exact ge_result trivial (ResOk.tmp (by kernel_rfl) ResOk.nil) (Imm.refl _) ⟨rfl, rfl⟩
  · have hr := cond_f hc4 hr
    refine gk_seq (by kernel_rfl) ?_
    refine gk_region (by kernel_rfl) ?_
    refine gl_pure 1 [1, 9] (K' := [(1, .pointer (some ⟨g1, 0, none⟩)), (9, .pointer (some ⟨g1, 1, none⟩))]) (by kernel_rfl) ?_
    refine gl_loadB (T' := 9) (xp := (.tmp 9)) (v := .string a0.f1) (g := g1) (off := 1) (cs := #[.string a0.f0, .string a0.f1, .int .i64 a0.f2, .slice A0_3 a0.f3.length n0_3, .slice A0_4 a0.f4.length n0_4]) (e := 24) (fz := (0, 0)) (by kernel_rfl) (by kernel_rfl) (by kernel_rfl) List.mem_cons_self (by kernel_rfl) ?_
    obtain ⟨y5, hx6, hr⟩ := bind_some hr
    refine gl_callQ (by kernel_rfl) (nflog_text_walk (r := y5) hG hx6 _) ?_
    refine gl_pure 2 [1, 8] (K' := [(1, .pointer (some ⟨g1, 0, none⟩)), (8, .bool (!y5))]) (by kernel_rfl) ?_
    refine gl_atE (by kernel_rfl) ?_
    refine ge_seq ?_
    refine gk_cond (b := (!y5)) (by kernel_rfl) (by kernel_rfl) (fun hc7 => ?_) (fun hc7 => ?_)
    · have hr := cond_t hc7 hr
      refine gk_seq (by kernel_rfl) ?_
      refine gk_region (by kernel_rfl) ?_
      refine gl_pure 1 [2] (K' := [(2, .int .i64 40)]) (by kernel_rfl) ?_
      refine gl_atE (by kernel_rfl) ?_
      refine ge_seq ?_
      refine gk_reord (D := L) (Reord.skip (Reord.refl _)) ?_
      refine gk_ret (by kernel_rfl) ?_
      refine ge_block_ret ?_
      refine ge_seq_ret ?_
      obtain rfl := some_inj hr
      exact ge_result trivial (ResOk.tmp (by kernel_rfl) ResOk.nil) (Imm.refl _) ⟨rfl, rfl⟩
    · have hr := cond_f hc7 hr
      refine gk_seq (by kernel_rfl) ?_
      obtain ⟨b10, hb11⟩ : ∃ z, z = ((decide (a0.f2 < 0)) || (decide (a0.f2 > 1125899906842624))) := ⟨_, rfl⟩
      refine gk_join (fun t I' L' => I ≤ I' ∧ (g1, .cells #[.string a0.f0, .string a0.f1, .int .i64 a0.f2, .slice A0_3 a0.f3.length n0_3, .slice A0_4 a0.f4.length n0_4] 24) :: L = L' ∧ Knows 44 [(1, .pointer (some ⟨g1, 0, none⟩)), (13, .bool b10)] t) ?_ ?_
      · refine gk_region (by kernel_rfl) ?_
        refine gl_pure 1 [1, 14] (K' := [(1, .pointer (some ⟨g1, 0, none⟩)), (14, .pointer (some ⟨g1, 2, none⟩))]) (by kernel_rfl) ?_
        refine gl_loadB (T' := 2) (xp := (.tmp 14)) (v := .int .i64 a0.f2) (g := g1) (off := 2) (cs := #[.string a0.f0, .string a0.f1, .int .i64 a0.f2, .slice A0_3 a0.f3.length n0_3, .slice A0_4 a0.f4.length n0_4]) (e := 24) (fz := (0, 0)) (by kernel_rfl) (by kernel_rfl) (by kernel_rfl) List.mem_cons_self (by kernel_rfl) ?_
        refine gl_pure 2 [1, 17] (K' := [(1, .pointer (some ⟨g1, 0, none⟩)), (17, .bool (decide (a0.f2 < 0)))]) (by kernel_rfl) ?_
        refine gl_case 17 (b := (decide (a0.f2 < 0))) (by kernel_rfl) (fun hc13 => ?_) (fun hc13 => ?_)
        · refine gl_pure 5 [1, 13] (K' := [(1, .pointer (some ⟨g1, 0, none⟩)), (13, .bool true)]) (by kernel_rfl) ?_
          refine gl_atE (by kernel_rfl) ?_
          exact ge_mid fun t ht => ⟨(Imm.refl _), rfl, by rw [(show b10 = true from hb11.trans (by rw [hc13]; try rfl))]; exact ht.pick (l := [1, 13]) (by kernel_rfl)⟩
        · refine gl_pure 1 [1, 17, 18] (K' := [(1, .pointer (some ⟨g1, 0, none⟩)), (17, .bool false), (18, .pointer (some ⟨g1, 2, none⟩))]) (by kernel_rfl) ?_
          refine gl_loadB (T' := 2) (xp := (.tmp 18)) (v := .int .i64 a0.f2) (g := g1) (off := 2) (cs := #[.string a0.f0, .string a0.f1, .int .i64 a0.f2, .slice A0_3 a0.f3.length n0_3, .slice A0_4 a0.f4.length n0_4]) (e := 24) (fz := (0, 0)) (by kernel_rfl) (by kernel_rfl) (by kernel_rfl) List.mem_cons_self (by kernel_rfl) ?_
          refine gl_pure 3 [1, 13] (K' := [(1, .pointer (some ⟨g1, 0, none⟩)), (13, .bool (decide (a0.f2 > 1125899906842624)))]) (by kernel_rfl) ?_
          refine gl_atE (by kernel_rfl) ?_
          exact ge_mid fun t ht => ⟨(Imm.refl _), rfl, by rw [(show b10 = (decide (a0.f2 > 1125899906842624)) from hb11.trans (by rw [hc13]; try rfl))]; exact ht.pick (l := [1, 13]) (by kernel_rfl)⟩
      · rintro t I12 L' ⟨hI8, rfl, hK9⟩
        subst hb11
        refine ge_at hK9 ?_
        refine ge_seq ?_
        refine gk_cond (b := ((decide (a0.f2 < 0)) || (decide (a0.f2 > 1125899906842624)))) (by kernel_rfl) (by kernel_rfl) (fun hc14 => ?_) (fun hc14 => ?_)
        · have hr := cond_t hc14 hr
          refine gk_seq (by kernel_rfl) ?_
          refine gk_region (by kernel_rfl) ?_
          refine gl_pure 1 [2] (K' := [(2, .int .i64 1)]) (by kernel_rfl) ?_
          refine gl_atE (by kernel_rfl) ?_
          refine ge_seq ?_
          refine gk_reord (D := L) (Reord.skip (Reord.refl _)) ?_
          refine gk_ret (by kernel_rfl) ?_
          refine ge_block_ret ?_
          refine ge_seq_ret ?_
          obtain rfl := some_inj hr
          exact ge_result trivial (ResOk.tmp (by kernel_rfl) ResOk.nil) hI8 ⟨rfl, rfl⟩
        · have hr := cond_f hc14 hr
          refine gk_seq (by kernel_rfl) ?_
          obtain ⟨b17, hb18⟩ : ∃ z, z = ((decide ((a0.f3.length : Int) > 500)) || (decide ((a0.f4.length : Int) > 500))) := ⟨_, rfl⟩
          refine gk_join (fun t I' L' => I12 ≤ I' ∧ (g1, .cells #[.string a0.f0, .string a0.f1, .int .i64 a0.f2, .slice A0_3 a0.f3.length n0_3, .slice A0_4 a0.f4.length n0_4] 24) :: L = L' ∧ Knows 44 [(1, .pointer (some ⟨g1, 0, none⟩)), (22, .bool b17)] t) ?_ ?_
          · refine gk_region (by kernel_rfl) ?_
            refine gl_pure 1 [1, 23] (K' := [(1, .pointer (some ⟨g1, 0, none⟩)), (23, .pointer (some ⟨g1, 3, none⟩))]) (by kernel_rfl) ?_
            refine gl_loadB (T' := 22) (xp := (.tmp 23)) (v := .slice A0_3 a0.f3.length n0_3) (g := g1) (off := 3) (cs := #[.string a0.f0, .string a0.f1, .int .i64 a0.f2, .slice A0_3 a0.f3.length n0_3, .slice A0_4 a0.f4.length n0_4]) (e := 24) (fz := (0, 0)) (by kernel_rfl) (by kernel_rfl) (by kernel_rfl) List.mem_cons_self (by kernel_rfl) ?_
            refine gl_pure 3 [1, 27] (K' := [(1, .pointer (some ⟨g1, 0, none⟩)), (27, .bool (decide ((a0.f3.length : Int) > 500)))]) (by kernel_rfl) ?_
            refine gl_case 27 (b := (decide ((a0.f3.length : Int) > 500))) (by kernel_rfl) (fun hc20 => ?_) (fun hc20 => ?_)
            · refine gl_pure 6 [1, 22] (K' := [(1, .pointer (some ⟨g1, 0, none⟩)), (22, .bool true)]) (by kernel_rfl) ?_
              refine gl_atE (by kernel_rfl) ?_
              exact ge_mid fun t ht => ⟨(Imm.refl _), rfl, by rw [(show b17 = true from hb18.trans (by rw [hc20]; try rfl))]; exact ht.pick (l := [1, 22]) (by kernel_rfl)⟩
            · refine gl_pure 1 [1, 27, 28] (K' := [(1, .pointer (some ⟨g1, 0, none⟩)), (27, .bool false), (28, .pointer (some ⟨g1, 4, none⟩))]) (by kernel_rfl) ?_
              refine gl_loadB (T' := 22) (xp := (.tmp 28)) (v := .slice A0_4 a0.f4.length n0_4) (g := g1) (off := 4) (cs := #[.string a0.f0, .string a0.f1, .int .i64 a0.f2, .slice A0_3 a0.f3.length n0_3, .slice A0_4 a0.f4.length n0_4]) (e := 24) (fz := (0, 0)) (by kernel_rfl) (by kernel_rfl) (by kernel_rfl) List.mem_cons_self (by kernel_rfl) ?_
              refine gl_pure 4 [1, 22] (K' := [(1, .pointer (some ⟨g1, 0, none⟩)), (22, .bool (decide ((a0.f4.length : Int) > 500)))]) (by kernel_rfl) ?_
              refine gl_atE (by kernel_rfl) ?_
              exact ge_mid fun t ht => ⟨(Imm.refl _), rfl, by rw [(show b17 = (decide ((a0.f4.length : Int) > 500)) from hb18.trans (by rw [hc20]; try rfl))]; exact ht.pick (l := [1, 22]) (by kernel_rfl)⟩
          · rintro t I19 L' ⟨hI15, rfl, hK16⟩
            subst hb18
            refine ge_at hK16 ?_
            refine ge_seq ?_
            refine gk_cond (b := ((decide ((a0.f3.length : Int) > 500)) || (decide ((a0.f4.length : Int) > 500)))) (by kernel_rfl) (by kernel_rfl) (fun hc21 => ?_) (fun hc21 => ?_)
            · have hr := cond_t hc21 hr
              refine gk_seq (by kernel_rfl) ?_
              refine gk_region (by kernel_rfl) ?_
              refine gl_pure 1 [2] (K' := [(2, .int .i64 8)]) (by kernel_rfl) ?_
              refine gl_atE (by kernel_rfl) ?_
              refine ge_seq ?_
              refine gk_reord (D := L) (Reord.skip (Reord.refl _)) ?_
              refine gk_ret (by kernel_rfl) ?_
              refine ge_block_ret ?_
              refine ge_seq_ret ?_
              obtain rfl := some_inj hr
              exact ge_result trivial (ResOk.tmp (by kernel_rfl) ResOk.nil) (Imm.trans hI8 hI15) ⟨rfl, rfl⟩
            · have hr := cond_f hc21 hr
              refine gk_seq (by kernel_rfl) ?_
              obtain ⟨j22, hj23, hr⟩ := bind_some hr
              refine gk_join (fun t I' L' => I19 ≤ I' ∧ L = L' ∧ Knows 44 [(33, .bool j22)] t) ?_ ?_
              · refine gk_region (by kernel_rfl) ?_
                refine gl_pure 1 [1, 34] (K' := [(1, .pointer (some ⟨g1, 0, none⟩)), (34, .pointer (some ⟨g1, 3, none⟩))]) (by kernel_rfl) ?_
                refine gl_loadB (T' := 22) (xp := (.tmp 34)) (v := .slice A0_3 a0.f3.length n0_3) (g := g1) (off := 3) (cs := #[.string a0.f0, .string a0.f1, .int .i64 a0.f2, .slice A0_3 a0.f3.length n0_3, .slice A0_4 a0.f4.length n0_4]) (e := 24) (fz := (0, 0)) (by kernel_rfl) (by kernel_rfl) (by kernel_rfl) List.mem_cons_self (by kernel_rfl) ?_
                obtain ⟨y27, hx28, hj23⟩ := bind_some hj23
                refine gl_callQ (by kernel_rfl) (nflog_rising_walk (r := y27) (hG.mono (Imm.trans hI8 hI15)) (hf0_3.mono (Imm.trans hI8 hI15)) hx28 _) ?_
                refine gl_pure 2 [1, 38] (K' := [(1, .pointer (some ⟨g1, 0, none⟩)), (38, .bool (!y27))]) (by kernel_rfl) ?_
                refine gl_case 38 (b := (!y27)) (by kernel_rfl) (fun hc29 => ?_) (fun hc29 => ?_)
                · have hj23 := cond_t hc29 hj23
                  refine gl_pure 6 [33] (K' := [(33, .bool true)]) (by kernel_rfl) ?_
                  refine gl_reord (D := L) (Reord.skip (Reord.refl _)) ?_
                  refine gl_atE (by kernel_rfl) ?_
                  obtain rfl := some_inj hj23
                  exact ge_mid fun t ht => ⟨(Imm.refl _), rfl, ht.pick (l := [33]) (by kernel_rfl)⟩
                · have hj23 := cond_f hc29 hj23
                  refine gl_pure 1 [38, 39] (K' := [(38, .bool false), (39, .pointer (some ⟨g1, 4, none⟩))]) (by kernel_rfl) ?_
                  refine gl_loadB (T' := 22) (xp := (.tmp 39)) (v := .slice A0_4 a0.f4.length n0_4) (g := g1) (off := 4) (cs := #[.string a0.f0, .string a0.f1, .int .i64 a0.f2, .slice A0_3 a0.f3.length n0_3, .slice A0_4 a0.f4.length n0_4]) (e := 24) (fz := (0, 0)) (by kernel_rfl) (by kernel_rfl) (by kernel_rfl) List.mem_cons_self (by kernel_rfl) ?_
                  obtain ⟨y30, hx31, hj23⟩ := bind_some hj23
                  refine gl_callQ (by kernel_rfl) (nflog_rising_walk (r := y30) (hG.mono (Imm.trans hI8 hI15)) (hf0_4.mono (Imm.trans hI8 hI15)) hx31 _) ?_
                  refine gl_pure 3 [33] (K' := [(33, .bool (!y30))]) (by kernel_rfl) ?_
                  refine gl_reord (D := L) (Reord.skip (Reord.refl _)) ?_
                  refine gl_atE (by kernel_rfl) ?_
                  obtain rfl := some_inj hj23
                  exact ge_mid fun t ht => ⟨(Imm.refl _), rfl, ht.pick (l := [33]) (by kernel_rfl)⟩
              · rintro t I26 L' ⟨hI24, rfl, hK25⟩
                refine ge_at hK25 ?_
                refine ge_seq ?_
                refine gk_cond (b := j22) (by kernel_rfl) (by kernel_rfl) (fun hc32 => ?_) (fun hc32 => ?_)
                · have hr := cond_t hc32 hr
                  refine gk_seq (by kernel_rfl) ?_
                  refine gk_region (by kernel_rfl) ?_
                  refine gl_pure 1 [2] (K' := [(2, .int .i64 41)]) (by kernel_rfl) ?_
                  refine gl_atE (by kernel_rfl) ?_
                  refine ge_seq ?_
                  refine gk_ret (by kernel_rfl) ?_
                  refine ge_block_ret ?_
                  refine ge_seq_ret ?_
                  obtain rfl := some_inj hr
                  exact ge_result trivial (ResOk.tmp (by kernel_rfl) ResOk.nil) (Imm.trans (Imm.trans hI8 hI15) hI24) ⟨rfl, rfl⟩
                · have hr := cond_f hc32 hr
                  refine gk_skip (by kernel_rfl) ?_
                  refine ge_block_normal ?_
                  refine ge_seq ?_
                  refine gk_seq (by kernel_rfl) ?_
                  refine gk_region (by kernel_rfl) ?_
                  refine gl_pure 1 [2] (K' := [(2, .int .i64 0)]) (by kernel_rfl) ?_
                  refine gl_atE (by kernel_rfl) ?_
                  refine ge_seq ?_
                  refine gk_ret (by kernel_rfl) ?_
                  obtain rfl := some_inj hr
                  exact ge_result trivial (ResOk.tmp (by kernel_rfl) ResOk.nil) (Imm.trans (Imm.trans hI8 hI15) hI24) ⟨rfl, rfl⟩
/-! 120 vint_joined  -/
noncomputable def vint_joined (a0 : List Int) (a1 : List Int) : Option (List Int) :=
  Option.bind (mkrow (0 : Int) 0 (IntKind.wrap .i64 ((a0.length : Int) + (a1.length : Int)))) fun (xs1 : List Int) =>
  Option.bind (app xs1 a0) fun (zs6 : List Int) =>
  Option.bind (app zs6 a1) fun (zs12 : List Int) =>
  some zs12
theorem vint_joined_walk {a0 : List Int} {A0_0 : Option Addr} {n0_0 : Nat} {a1 : List Int} {A1_0 : Option Addr} {n1_0 : Nat} {I : Imm} {r : (List Int)}  (hf0_0 : RepS (Kd.int .u8) I A0_0 n0_0 a0)  (hf1_0 : RepS (Kd.int .u8) I A1_0 n1_0 a1) (hr : vint_joined a0 a1 = some r) (L : Own) :
    CallsTo Tryd.prog 120 #[.slice A0_0 a0.length n0_0, .slice A1_0 a1.length n1_0] I L (fun v I' L' => ∃ A0 c0 C0, OwnS (Kd.int .u8) 5 I' A0 c0 r C0 ∧ v = .slice A0 r.length c0 ∧ C0 ++ L = L') := by
  unfold vint_joined at hr
  refine callsTo_body (N := 17) Tryd.func120 (by kernel_rfl) (by kernel_rfl) (by kernel_rfl) ?_
  refine gk_pick [0, 1] (K' := [(0, .slice A0_0 a0.length n0_0), (1, .slice A1_0 a1.length n1_0)]) (by kernel_rfl) ?_
  refine gk_seq (by kernel_rfl) ?_
  refine gk_region (by kernel_rfl) ?_
  refine gl_pure 1 [0, 1] (K' := [(0, .slice A0_0 a0.length n0_0), (1, .slice A1_0 a1.length n1_0)]) (by kernel_rfl) ?_
  refine gl_atE (by kernel_rfl) ?_
  refine ge_seq ?_
  refine gk_seq (by kernel_rfl) ?_
  refine gk_region (by kernel_rfl) ?_
  refine gl_pure 5 [0, 1, 10] (K' := [(0, .slice A0_0 a0.length n0_0), (1, .slice A1_0 a1.length n1_0), (10, .int .i64 (IntKind.wrap .i64 ((a0.length : Int) + (a1.length : Int))))]) (by kernel_rfl) ?_
  obtain ⟨xs1, hx2, hr⟩ := bind_some hr
  refine gl_makeSlice (d := (Kd.int .u8)) (T' := 58) (e := 5) (lx := (.const (.int .i64 0))) (cx := (.tmp 10)) (kl := .i64) (kc := .i64) (zc := #[.int .u8 0]) hx2 (by kernel_rfl) (by kernel_rfl) (by kernel_rfl) (by kernel_rfl) (by kernel_rfl) (by kernel_rfl) (by kernel_rfl) rfl (fun A3 C4 hO5 => ?_)
  refine gl_pure 1 [0, 1, 5] (K' := [(0, .slice A0_0 a0.length n0_0), (1, .slice A1_0 a1.length n1_0), (5, .slice A3 xs1.length ((IntKind.wrap .i64 ((a0.length : Int) + (a1.length : Int))).toNat))]) (by kernel_rfl) ?_
  refine gl_atE (by kernel_rfl) ?_
  refine ge_seq ?_
  refine gk_seq (by kernel_rfl) ?_
  refine gk_region (by kernel_rfl) ?_
  refine gl_pure 2 [1, 12, 13] (K' := [(1, .slice A1_0 a1.length n1_0), (12, .slice A3 xs1.length ((IntKind.wrap .i64 ((a0.length : Int) + (a1.length : Int))).toNat)), (13, .slice A0_0 a0.length n0_0)]) (by kernel_rfl) ?_
  obtain ⟨zs6, hz7, hr⟩ := bind_some hr
  refine gl_append (xv := .slice A0_0 a0.length n0_0) (d := (Kd.int .u8)) (t := 58) (tx := 58) (e := 5) (s := (.tmp 12)) (x := (.tmp 13)) (xs := xs1) (fun X => X ++ L) hz7 (by kernel_rfl) (by kernel_rfl) (by kernel_rfl) (by kernel_rfl) (by kernel_rfl) (by kernel_rfl) (fun X => (Upd.head _ X _)) hO5 (SrcOk.slice (c := n0_0) (e := 5) (n := 1) (RepS.rd hf0_0 _) (by kernel_rfl)) (fun A8 n9 C10 hO11 => ?_)
  refine gl_pure 1 [14, 15] (K' := [(14, .slice A8 zs6.length n9), (15, .slice A1_0 a1.length n1_0)]) (by kernel_rfl) ?_
  obtain ⟨zs12, hz13, hr⟩ := bind_some hr
  refine gl_append (xv := .slice A1_0 a1.length n1_0) (d := (Kd.int .u8)) (t := 58) (tx := 58) (e := 5) (s := (.tmp 14)) (x := (.tmp 15)) (xs := zs6) (fun X => X ++ L) hz13 (by kernel_rfl) (by kernel_rfl) (by kernel_rfl) (by kernel_rfl) (by kernel_rfl) (by kernel_rfl) (fun X => (Upd.head _ X _)) hO11 (SrcOk.slice (c := n1_0) (e := 5) (n := 1) (RepS.rd hf1_0 _) (by kernel_rfl)) (fun A14 n15 C16 hO17 => ?_)
  refine gl_pure 1 [4] (K' := [(4, .slice A14 zs12.length n15)]) (by kernel_rfl) ?_
  refine gl_atE (by kernel_rfl) ?_
  refine ge_seq ?_
  refine gk_ret (by kernel_rfl) ?_
  obtain rfl := some_inj hr
  exact ge_result trivial (ResOk.tmp (by kernel_rfl) ResOk.nil) (Imm.refl _) ⟨A14, n15, C16, hO17, rfl, rfl⟩
/-! 97 vint_PutU  -/
noncomputable def vint_PutU_l28 : (Int × (List Int)) → Option ((Int × (List Int)) ⊕ (Int × (List Int))) := fun s11 =>
  bif (decide (s11.1 ≥ 128)) then
  (Option.bind (app s11.2 [(bitOr .u8 (IntKind.wrap .u8 s11.1) 128)]) fun (zs35 : List Int) =>
    some (Sum.inl ((shr .u64 s11.1 7), zs35)))
  else
  (some (Sum.inr (s11.1, s11.2)))
noncomputable def vint_PutU (a0 : List Int) (a1 : Int) : Option (List Int) :=
  Option.bind (loopO vint_PutU_l28 (a1, [])) fun (r9 : Int × (List Int)) =>
  Option.bind (app r9.2 [(IntKind.wrap .u8 r9.1)]) fun (zs45 : List Int) =>
  Option.bind (vint_joined a0 zs45) fun (y55 : (List Int)) =>
  some y55
theorem vint_PutU_walk {a0 : List Int} {A0_0 : Option Addr} {n0_0 : Nat} {a1 : Int} {I : Imm} {r : (List Int)}  (hf0_0 : RepS (Kd.int .u8) I A0_0 n0_0 a0) (hr : vint_PutU a0 a1 = some r) (L : Own) :
    CallsTo Tryd.prog 97 #[.slice A0_0 a0.length n0_0, .int .u64 a1] I L (fun v I' L' => ∃ A0 c0 C0, OwnS (Kd.int .u8) 5 I' A0 c0 r C0 ∧ v = .slice A0 r.length c0 ∧ C0 ++ L = L') := by
  unfold vint_PutU at hr
  refine callsTo_body (N := 23) Tryd.func97 (by kernel_rfl) (by kernel_rfl) (by kernel_rfl) ?_
  refine gk_pick [0, 1] (K' := [(0, .slice A0_0 a0.length n0_0), (1, .int .u64 a1)]) (by kernel_rfl) ?_
  refine gk_seq (by kernel_rfl) ?_
  refine gk_region (by kernel_rfl) ?_
  refine gl_pure 1 [0, 1] (K' := [(0, .slice A0_0 a0.length n0_0), (1, .int .u64 a1)]) (by kernel_rfl) ?_
  refine gl_atE (by kernel_rfl) ?_
  refine ge_seq ?_
  refine gk_seq (by kernel_rfl) ?_
  refine gk_region (by kernel_rfl) ?_
  refine gl_pure 1 [0, 1, 5] (K' := [(0, .slice A0_0 a0.length n0_0), (1, .int .u64 a1), (5, .slice none 0 0)]) (by kernel_rfl) ?_
  refine gl_atE (by kernel_rfl) ?_
  refine ge_seq ?_
  refine gk_seq (by kernel_rfl) ?_
  obtain ⟨r9, hl10, hr⟩ := bind_some hr
  refine gk_join (fun t I' L' => ∃ A22 n23 C24, OwnS (Kd.int .u8) 5 I' A22 n23 r9.2 C24 ∧ I ≤ I' ∧ C24 ++ L = L' ∧ Knows 23 [(0, .slice A0_0 a0.length n0_0), (1, .int .u64 r9.1), (5, .slice A22 r9.2.length n23)] t) ?_ ?_
  · refine gk_block (by kernel_rfl) ?_
    refine gk_pick [0, 1, 5] (K' := [(0, .slice A0_0 a0.length n0_0), (1, .int .u64 a1), (5, .slice none 0 0)]) (by kernel_rfl) ?_
    intro t hK
    refine gc_loop (vint_PutU_l28) (fun s11 t I' L' => ∃ A15 n16 C17, OwnS (Kd.int .u8) 5 I' A15 n16 s11.2 C17 ∧ I ≤ I' ∧ C17 ++ L = L' ∧ Knows 23 [(0, .slice A0_0 a0.length n0_0), (1, .int .u64 s11.1), (5, .slice A15 s11.2.length n16)] t) (by kernel_rfl) ?_ hl10 ⟨none, 0, [], OwnS.nil _ _ _ _, (Imm.refl _), rfl, hK⟩
    rintro s11 o12 t I20 L' hb13 ⟨A15, n16, C17, hO18, hI14, rfl, hK19⟩
    unfold vint_PutU_l28 at hb13
    refine gk_at hK19 ?_
    refine gk_seq (by kernel_rfl) ?_
    refine gk_seq (by kernel_rfl) ?_
    refine gk_region (by kernel_rfl) ?_
    refine gl_pure 2 [0, 1, 5, 7] (K' := [(0, .slice A0_0 a0.length n0_0), (1, .int .u64 s11.1), (5, .slice A15 s11.2.length n16), (7, .bool (decide (s11.1 ≥ 128)))]) (by kernel_rfl) ?_
    refine gl_atE (by kernel_rfl) ?_
    refine ge_seq ?_
    refine gk_cond (b := (decide (s11.1 ≥ 128))) (by kernel_rfl) (by kernel_rfl) (fun hc30 => ?_) (fun hc30 => ?_)
    · have hb13 := cond_t hc30 hb13
      refine gk_skip (by kernel_rfl) ?_
      refine ge_seq ?_
      refine gk_seq (by kernel_rfl) ?_
      refine gk_block (by kernel_rfl) ?_
      refine gk_region (by kernel_rfl) ?_
      refine gl_pure 4 [0, 1, 10, 13] (K' := [(0, .slice A0_0 a0.length n0_0), (1, .int .u64 s11.1), (10, .slice A15 s11.2.length n16), (13, .int .u8 (bitOr .u8 (IntKind.wrap .u8 s11.1) 128))]) (by kernel_rfl) ?_
      refine gl_buildSlice (T' := 58) (e := 5) (n := 1) (len := 1) (parts := #[(0, (.tmp 13))]) (l := [(0, .int .u8 (bitOr .u8 (IntKind.wrap .u8 s11.1) 128))]) (cs := #[.int .u8 (bitOr .u8 (IntKind.wrap .u8 s11.1) 128)]) (by kernel_rfl) (by kernel_rfl) (by kernel_rfl) (by kernel_rfl) (by kernel_rfl) (fun g31 => ?_)
      have hO32 : OwnS (Kd.int .u8) 5 I20 (some ⟨g31, 0, none⟩) 1 [(bitOr .u8 (IntKind.wrap .u8 s11.1) 128)] [(g31, .cells #[.int .u8 (bitOr .u8 (IntKind.wrap .u8 s11.1) 128)] 5)] := OwnS.lit (row_cons (l := [.int .u8 (bitOr .u8 (IntKind.wrap .u8 s11.1) 128)]) rfl (row_nil _ _)) rfl rfl rfl
      refine gl_reord (D := [(g31, .cells #[.int .u8 (bitOr .u8 (IntKind.wrap .u8 s11.1) 128)] 5)] ++ (C17 ++ L)) (Reord.refl _) ?_
      obtain ⟨zs35, hz36, hb13⟩ := bind_some hb13
      refine gl_append (xv := .slice (some ⟨g31, 0, none⟩) [(bitOr .u8 (IntKind.wrap .u8 s11.1) 128)].length 1) (d := (Kd.int .u8)) (t := 58) (tx := 58) (e := 5) (s := (.tmp 10)) (x := (.tmp 14)) (xs := s11.2) (fun X => [(g31, .cells #[.int .u8 (bitOr .u8 (IntKind.wrap .u8 s11.1) 128)] 5)] ++ (X ++ L)) hz36 (by kernel_rfl) (by kernel_rfl) (by kernel_rfl) (by kernel_rfl) (by kernel_rfl) (by kernel_rfl) (fun X => (Upd.app _ (Upd.head _ X _))) hO18 (SrcOk.slice (c := 1) (e := 5) (n := 1) (OwnS.rd hO32 (Upd.selfC _ _)) (by kernel_rfl)) (fun A37 n38 C39 hO40 => ?_)
      refine gl_pure 1 [0, 1, 5] (K' := [(0, .slice A0_0 a0.length n0_0), (1, .int .u64 s11.1), (5, .slice A37 zs35.length n38)]) (by kernel_rfl) ?_
      refine gl_atE (by kernel_rfl) ?_
      refine ge_block_normal ?_
      refine ge_seq ?_
      refine gk_region (by kernel_rfl) ?_
      refine gl_pure 3 [0, 1, 5] (K' := [(0, .slice A0_0 a0.length n0_0), (1, .int .u64 (shr .u64 s11.1 7)), (5, .slice A37 zs35.length n38)]) (by kernel_rfl) ?_
      refine gl_reord (D := C39 ++ L) (Reord.step (Upd.app _ (Upd.rmC _ _)) (Reord.skipC (Reord.refl _))) ?_
      refine gl_atE (by kernel_rfl) ?_
      obtain rfl := some_inj hb13
      exact ge_round fun t ht => ⟨A37, n38, C39, hO40, hI14, rfl, ht.pick (l := [0, 1, 5]) (by kernel_rfl)⟩
    · have hb13 := cond_f hc30 hb13
      refine gk_exit (by kernel_rfl) ?_
      refine ge_seq_exit ?_
      obtain rfl := some_inj hb13
      refine ge_round_out (fun hrr => ?_) (by intro h; cases h)
      obtain rfl := hrr
      refine ge_block_hit (by kernel_rfl) ?_
      exact ge_mid fun t ht => ⟨A15, n16, C17, hO18, hI14, rfl, ht.pick (l := [0, 1, 5]) (by kernel_rfl)⟩
  · rintro t I27 L' ⟨A22, n23, C24, hO25, hI21, rfl, hK26⟩
    refine ge_at hK26 ?_
    refine ge_seq ?_
    refine gk_seq (by kernel_rfl) ?_
    refine gk_region (by kernel_rfl) ?_
    refine gl_pure 4 [16, 17, 19] (K' := [(16, .slice A0_0 a0.length n0_0), (17, .slice A22 r9.2.length n23), (19, .int .u8 (IntKind.wrap .u8 r9.1))]) (by kernel_rfl) ?_
    refine gl_buildSlice (T' := 58) (e := 5) (n := 1) (len := 1) (parts := #[(0, (.tmp 19))]) (l := [(0, .int .u8 (IntKind.wrap .u8 r9.1))]) (cs := #[.int .u8 (IntKind.wrap .u8 r9.1)]) (by kernel_rfl) (by kernel_rfl) (by kernel_rfl) (by kernel_rfl) (by kernel_rfl) (fun g41 => ?_)
    have hO42 : OwnS (Kd.int .u8) 5 I27 (some ⟨g41, 0, none⟩) 1 [(IntKind.wrap .u8 r9.1)] [(g41, .cells #[.int .u8 (IntKind.wrap .u8 r9.1)] 5)] := OwnS.lit (row_cons (l := [.int .u8 (IntKind.wrap .u8 r9.1)]) rfl (row_nil _ _)) rfl rfl rfl
    refine gl_reord (D := [(g41, .cells #[.int .u8 (IntKind.wrap .u8 r9.1)] 5)] ++ (C24 ++ L)) (Reord.refl _) ?_
    obtain ⟨zs45, hz46, hr⟩ := bind_some hr
    refine gl_append (xv := .slice (some ⟨g41, 0, none⟩) [(IntKind.wrap .u8 r9.1)].length 1) (d := (Kd.int .u8)) (t := 58) (tx := 58) (e := 5) (s := (.tmp 17)) (x := (.tmp 20)) (xs := r9.2) (fun X => [(g41, .cells #[.int .u8 (IntKind.wrap .u8 r9.1)] 5)] ++ (X ++ L)) hz46 (by kernel_rfl) (by kernel_rfl) (by kernel_rfl) (by kernel_rfl) (by kernel_rfl) (by kernel_rfl) (fun X => (Upd.app _ (Upd.head _ X _))) hO25 (SrcOk.slice (c := 1) (e := 5) (n := 1) (OwnS.rd hO42 (Upd.selfC _ _)) (by kernel_rfl)) (fun A47 n48 C49 hO50 => ?_)
    refine gl_rest (Tk.step (Upd.app _ (Upd.rmC _ _)) (Tk.nil _)) (fun J51 hJ52 hC53 => ?_)
    have hf54 := (OwnS.rest hO50 hJ52 hC53.left)
    obtain ⟨y55, hx56, hr⟩ := bind_some hr
    refine gl_call (by kernel_rfl) (vint_joined_walk (r := y55) (hf0_0.mono (Imm.trans hI21 hJ52)) hf54 hx56 _) ?_
    rintro v I57 L58 hI59 ⟨A60, c61, C62, hO63, rfl, rfl⟩
    refine gl_pure 1 [4] (K' := [(4, .slice A60 y55.length c61)]) (by kernel_rfl) ?_
    refine gl_atE (by kernel_rfl) ?_
    refine ge_seq ?_
    refine gk_reord (D := C62 ++ L) (Reord.step (Upd.rmC _ _) (Reord.skipC (Reord.refl _))) ?_
    refine gk_ret (by kernel_rfl) ?_
    obtain rfl := some_inj hr
    exact ge_result trivial (ResOk.tmp (by kernel_rfl) ResOk.nil) (Imm.trans (Imm.trans hI21 hJ52) hI59) ⟨A60, c61, C62, hO63, rfl, rfl⟩
/-! 96 vint_PutText  -/
noncomputable def vint_PutText (a0 : List Int) (a1 : ByteArray) : Option (List Int) :=
  Option.bind (vint_PutU a0 (IntKind.wrap .u64 (a1.size : Int))) fun (y1 : (List Int)) =>
  Option.bind (sb a1) fun (l10 : List Int) =>
  Option.bind (vint_joined y1 l10) fun (y21 : (List Int)) =>
  some y21
theorem vint_PutText_walk {a0 : List Int} {A0_0 : Option Addr} {n0_0 : Nat} {a1 : ByteArray} {I : Imm} {r : (List Int)}  (hf0_0 : RepS (Kd.int .u8) I A0_0 n0_0 a0) (hr : vint_PutText a0 a1 = some r) (L : Own) :
    CallsTo Tryd.prog 96 #[.slice A0_0 a0.length n0_0, .string a1] I L (fun v I' L' => ∃ A0 c0 C0, OwnS (Kd.int .u8) 5 I' A0 c0 r C0 ∧ v = .slice A0 r.length c0 ∧ C0 ++ L = L') := by
  unfold vint_PutText at hr
  refine callsTo_body (N := 13) Tryd.func96 (by kernel_rfl) (by kernel_rfl) (by kernel_rfl) ?_
  refine gk_pick [0, 1] (K' := [(0, .slice A0_0 a0.length n0_0), (1, .string a1)]) (by kernel_rfl) ?_
  refine gk_seq (by kernel_rfl) ?_
  refine gk_region (by kernel_rfl) ?_
  refine gl_pure 1 [0, 1] (K' := [(0, .slice A0_0 a0.length n0_0), (1, .string a1)]) (by kernel_rfl) ?_
  refine gl_atE (by kernel_rfl) ?_
  refine ge_seq ?_
  refine gk_seq (by kernel_rfl) ?_
  refine gk_region (by kernel_rfl) ?_
  refine gl_pure 4 [1, 5, 8] (K' := [(1, .string a1), (5, .slice A0_0 a0.length n0_0), (8, .int .u64 (IntKind.wrap .u64 (a1.size : Int)))]) (by kernel_rfl) ?_
  obtain ⟨y1, hx2, hr⟩ := bind_some hr
  refine gl_call (by kernel_rfl) (vint_PutU_walk (r := y1) hf0_0 hx2 _) ?_
  rintro v I3 L4 hI5 ⟨A6, c7, C8, hO9, rfl, rfl⟩
  refine gl_pure 1 [9, 10] (K' := [(9, .slice A6 y1.length c7), (10, .string a1)]) (by kernel_rfl) ?_
  obtain ⟨l10, hx11, hr⟩ := bind_some hr
  refine gl_strBytes (src := 9) (dst := 58) (e := 5) (n := 1) (x := (.tmp 10)) hx11 (by kernel_rfl) (by kernel_rfl) (by kernel_rfl) (by kernel_rfl) (by kernel_rfl) (by kernel_rfl) (fun A12 n13 C14 hO15 => ?_)
  refine gl_rest (Tk.step (Upd.rmC _ _) (Tk.step (Upd.rmC _ _) (Tk.nil _))) (fun J16 hJ17 hC18 => ?_)
  have hf19 := (OwnS.rest hO15 hJ17 hC18.left)
  have hf20 := (OwnS.rest hO9 hJ17 hC18.right.left)
  obtain ⟨y21, hx22, hr⟩ := bind_some hr
  refine gl_call (by kernel_rfl) (vint_joined_walk (r := y21) hf20 hf19 hx22 _) ?_
  rintro v I23 L24 hI25 ⟨A26, c27, C28, hO29, rfl, rfl⟩
  refine gl_pure 1 [4] (K' := [(4, .slice A26 y21.length c27)]) (by kernel_rfl) ?_
  refine gl_atE (by kernel_rfl) ?_
  refine ge_seq ?_
  refine gk_ret (by kernel_rfl) ?_
  obtain rfl := some_inj hr
  exact ge_result trivial (ResOk.tmp (by kernel_rfl) ResOk.nil) (Imm.trans (Imm.trans hI5 hJ17) hI25) ⟨A26, c27, C28, hO29, rfl, rfl⟩
/-! 95 vint_PutI  -/
noncomputable def vint_PutI (a0 : List Int) (a1 : Int) : Option (List Int) :=
  Option.bind (vint_PutU a0 (bitXor .u64 (shl .u64 (IntKind.wrap .u64 a1) 1) (IntKind.wrap .u64 (shr .i64 a1 63)))) fun (y1 : (List Int)) =>
  some y1
theorem vint_PutI_walk {a0 : List Int} {A0_0 : Option Addr} {n0_0 : Nat} {a1 : Int} {I : Imm} {r : (List Int)}  (hf0_0 : RepS (Kd.int .u8) I A0_0 n0_0 a0) (hr : vint_PutI a0 a1 = some r) (L : Own) :
    CallsTo Tryd.prog 95 #[.slice A0_0 a0.length n0_0, .int .i64 a1] I L (fun v I' L' => ∃ A0 c0 C0, OwnS (Kd.int .u8) 5 I' A0 c0 r C0 ∧ v = .slice A0 r.length c0 ∧ C0 ++ L = L') := by
  unfold vint_PutI at hr
  refine callsTo_body (N := 14) Tryd.func95 (by kernel_rfl) (by kernel_rfl) (by kernel_rfl) ?_
  refine gk_pick [0, 1] (K' := [(0, .slice A0_0 a0.length n0_0), (1, .int .i64 a1)]) (by kernel_rfl) ?_
  refine gk_seq (by kernel_rfl) ?_
  refine gk_region (by kernel_rfl) ?_
  refine gl_pure 1 [0, 1] (K' := [(0, .slice A0_0 a0.length n0_0), (1, .int .i64 a1)]) (by kernel_rfl) ?_
  refine gl_atE (by kernel_rfl) ?_
  refine ge_seq ?_
  refine gk_seq (by kernel_rfl) ?_
  refine gk_region (by kernel_rfl) ?_
  refine gl_pure 8 [5, 12] (K' := [(5, .slice A0_0 a0.length n0_0), (12, .int .u64 (bitXor .u64 (shl .u64 (IntKind.wrap .u64 a1) 1) (IntKind.wrap .u64 (shr .i64 a1 63))))]) (by kernel_rfl) ?_
  obtain ⟨y1, hx2, hr⟩ := bind_some hr
  refine gl_call (by kernel_rfl) (vint_PutU_walk (r := y1) hf0_0 hx2 _) ?_
  rintro v I3 L4 hI5 ⟨A6, c7, C8, hO9, rfl, rfl⟩
  refine gl_pure 1 [4] (K' := [(4, .slice A6 y1.length c7)]) (by kernel_rfl) ?_
  refine gl_atE (by kernel_rfl) ?_
  refine ge_seq ?_
  refine gk_ret (by kernel_rfl) ?_
  obtain rfl := some_inj hr
  exact ge_result trivial (ResOk.tmp (by kernel_rfl) ResOk.nil) hI5 ⟨A6, c7, C8, hO9, rfl, rfl⟩
/-! 121 labels_right  -/
noncomputable def labels_right (a0 : List S79) : Option Int :=
  Option.bind (labels_Right a0) fun (y1 : Int × Int) =>
  some y1.1
theorem labels_right_walk {a0 : List S79} {A0_0 : Option Addr} {n0_0 : Nat} {I : Imm} {r : Int} (hG : Gl I)  (hf0_0 : RepS kS79 I A0_0 n0_0 a0) (hr : labels_right a0 = some r) (L : Own) :
    CallsTo Tryd.prog 121 #[.slice A0_0 a0.length n0_0] I L (fun v I' L' => v = .int .i64 r ∧ L = L') := by
  unfold labels_right at hr
  refine callsTo_body (N := 11) Tryd.func121 (by kernel_rfl) (by kernel_rfl) (by kernel_rfl) ?_
  refine gk_pick [0] (K' := [(0, .slice A0_0 a0.length n0_0)]) (by kernel_rfl) ?_
  refine gk_seq (by kernel_rfl) ?_
  refine gk_region (by kernel_rfl) ?_
  refine gl_pure 1 [0] (K' := [(0, .slice A0_0 a0.length n0_0)]) (by kernel_rfl) ?_
  refine gl_atE (by kernel_rfl) ?_
  refine ge_seq ?_
  refine gk_seq (by kernel_rfl) ?_
  refine gk_region (by kernel_rfl) ?_
  refine gl_pure 1 [6] (K' := [(6, .slice A0_0 a0.length n0_0)]) (by kernel_rfl) ?_
  obtain ⟨y1, hx2, hr⟩ := bind_some hr
  refine gl_callQ (by kernel_rfl) (labels_Right_walk (r := y1) hG hf0_0 hx2 _) ?_
  refine gl_pure 5 [3] (K' := [(3, .int .i64 y1.1)]) (by kernel_rfl) ?_
  refine gl_atE (by kernel_rfl) ?_
  refine ge_seq ?_
  refine gk_seq (by kernel_rfl) ?_
  refine gk_region (by kernel_rfl) ?_
  refine gl_pure 2 [2] (K' := [(2, .int .i64 y1.1)]) (by kernel_rfl) ?_
  refine gl_atE (by kernel_rfl) ?_
  refine ge_seq ?_
  refine gk_ret (by kernel_rfl) ?_
  obtain rfl := some_inj hr
  exact ge_result trivial (ResOk.tmp (by kernel_rfl) ResOk.nil) (Imm.refl _) ⟨rfl, rfl⟩
/-! 98 labels_Put  -/
noncomputable def labels_Put_l40 (a1 : List S79) : ((List Int) × Int) → Option (((List Int) × Int) ⊕ ((List Int))) := fun s23 =>
  bif (decide (s23.2 < (a1.length : Int))) then
  (Option.bind (ix a1 s23.2) fun (x43 : S79) =>
    Option.bind (vint_PutText s23.1 x43.f0) fun (y56 : (List Int)) =>
    Option.bind (vint_PutText y56 x43.f1) fun (y69 : (List Int)) =>
    some (Sum.inl (y69, (IntKind.wrap .i64 (s23.2 + 1)))))
  else
  (some (Sum.inr s23.1))
noncomputable def labels_Put (a0 : List Int) (a1 : List S79) : Option ((List Int) × Int) :=
  Option.bind (labels_right a1) fun (y1 : Int) =>
  bif (y1 != 0) then
  (some ([], y1))
  else
  (Option.bind (vint_PutU a0 (IntKind.wrap .u64 (a1.length : Int))) fun (y4 : (List Int)) =>
    Option.bind (loopO (labels_Put_l40 a1) (y4, 0)) fun (r21 : (List Int)) =>
    some (r21, 0))
theorem labels_Put_walk {a0 : List Int} {A0_0 : Option Addr} {n0_0 : Nat} {a1 : List S79} {A1_0 : Option Addr} {n1_0 : Nat} {I : Imm} {r : (List Int) × Int} (hG : Gl I)  (hf0_0 : RepS (Kd.int .u8) I A0_0 n0_0 a0)  (hf1_0 : RepS kS79 I A1_0 n1_0 a1) (hr : labels_Put a0 a1 = some r) (L : Own) :
    CallsTo Tryd.prog 98 #[.slice A0_0 a0.length n0_0, .slice A1_0 a1.length n1_0] I L (fun v I' L' => ∃ A0 c0 C0, OwnS (Kd.int .u8) 5 I' A0 c0 r.1 C0 ∧ v = .tuple #[.slice A0 r.1.length c0, .int .i64 r.2] ∧ C0 ++ L = L') := by
  unfold labels_Put at hr
  refine callsTo_body (N := 35) Tryd.func98 (by kernel_rfl) (by kernel_rfl) (by kernel_rfl) ?_
  refine gk_pick [0, 1] (K' := [(0, .slice A0_0 a0.length n0_0), (1, .slice A1_0 a1.length n1_0)]) (by kernel_rfl) ?_
  refine gk_seq (by kernel_rfl) ?_
  refine gk_region (by kernel_rfl) ?_
  refine gl_pure 2 [0, 1] (K' := [(0, .slice A0_0 a0.length n0_0), (1, .slice A1_0 a1.length n1_0)]) (by kernel_rfl) ?_
  refine gl_atE (by kernel_rfl) ?_
  refine ge_seq ?_
  refine gk_seq (by kernel_rfl) ?_
  refine gk_seq (by kernel_rfl) ?_
  refine gk_region (by kernel_rfl) ?_
  refine gl_pure 1 [0, 1, 10] (K' := [(0, .slice A0_0 a0.length n0_0), (1, .slice A1_0 a1.length n1_0), (10, .slice A1_0 a1.length n1_0)]) (by kernel_rfl) ?_
  obtain ⟨y1, hx2, hr⟩ := bind_some hr
  refine gl_callQ (by kernel_rfl) (labels_right_walk (r := y1) hG hf1_0 hx2 _) ?_
  refine gl_pure 1 [0, 1, 6] (K' := [(0, .slice A0_0 a0.length n0_0), (1, .slice A1_0 a1.length n1_0), (6, .int .i64 y1)]) (by kernel_rfl) ?_
  refine gl_atE (by kernel_rfl) ?_
  refine ge_seq ?_
  refine gk_seq (by kernel_rfl) ?_
  refine gk_region (by kernel_rfl) ?_
  refine gl_pure 2 [0, 1, 6, 13] (K' := [(0, .slice A0_0 a0.length n0_0), (1, .slice A1_0 a1.length n1_0), (6, .int .i64 y1), (13, .bool (y1 != 0))]) (by kernel_rfl) ?_
  refine gl_atE (by kernel_rfl) ?_
  refine ge_seq ?_
  refine gk_cond (b := (y1 != 0)) (by kernel_rfl) (by kernel_rfl) (fun hc3 => ?_) (fun hc3 => ?_)
  · have hr := cond_t hc3 hr
    refine gk_seq (by kernel_rfl) ?_
    refine gk_region (by kernel_rfl) ?_
    refine gl_pure 3 [4, 5] (K' := [(4, .slice none 0 0), (5, .int .i64 y1)]) (by kernel_rfl) ?_
    refine gl_atE (by kernel_rfl) ?_
    refine ge_seq ?_
    refine gk_ret (by kernel_rfl) ?_
    refine ge_seq_ret ?_
    obtain rfl := some_inj hr
    exact ge_result trivial (ResOk.tmp (by kernel_rfl) (ResOk.tmp (by kernel_rfl) ResOk.nil)) (Imm.refl _) ⟨none, 0, [], OwnS.nil _ _ _ _, rfl, rfl⟩
  · have hr := cond_f hc3 hr
    refine gk_skip (by kernel_rfl) ?_
    refine ge_seq ?_
    refine gk_seq (by kernel_rfl) ?_
    refine gk_region (by kernel_rfl) ?_
    refine gl_pure 4 [1, 15, 18] (K' := [(1, .slice A1_0 a1.length n1_0), (15, .slice A0_0 a0.length n0_0), (18, .int .u64 (IntKind.wrap .u64 (a1.length : Int)))]) (by kernel_rfl) ?_
    obtain ⟨y4, hx5, hr⟩ := bind_some hr
    refine gl_call (by kernel_rfl) (vint_PutU_walk (r := y4) hf0_0 hx5 _) ?_
    rintro v I6 L7 hI8 ⟨A9, c10, C11, hO12, rfl, rfl⟩
    refine gl_pure 1 [1, 7] (K' := [(1, .slice A1_0 a1.length n1_0), (7, .slice A9 y4.length c10)]) (by kernel_rfl) ?_
    refine gl_atE (by kernel_rfl) ?_
    refine ge_seq ?_
    refine gk_seq (by kernel_rfl) ?_
    refine gk_seq (by kernel_rfl) ?_
    refine gk_region (by kernel_rfl) ?_
    refine gl_pure 3 [7, 20, 21, 22] (K' := [(7, .slice A9 y4.length c10), (20, .slice A1_0 a1.length n1_0), (21, .int .i64 (a1.length : Int)), (22, .int .i64 0)]) (by kernel_rfl) ?_
    refine gl_atE (by kernel_rfl) ?_
    refine ge_seq ?_
    obtain ⟨r21, hl22, hr⟩ := bind_some hr
    refine gk_join (fun t I' L' => ∃ A34 n35 C36, OwnS (Kd.int .u8) 5 I' A34 n35 r21 C36 ∧ I6 ≤ I' ∧ C36 ++ L = L' ∧ Knows 35 [(7, .slice A34 r21.length n35)] t) ?_ ?_
    · refine gk_block (by kernel_rfl) ?_
      refine gk_pick [7, 20, 21, 22] (K' := [(7, .slice A9 y4.length c10), (20, .slice A1_0 a1.length n1_0), (21, .int .i64 (a1.length : Int)), (22, .int .i64 0)]) (by kernel_rfl) ?_
      intro t hK
      refine gc_loop (labels_Put_l40 a1) (fun s23 t I' L' => ∃ A27 n28 C29, OwnS (Kd.int .u8) 5 I' A27 n28 s23.1 C29 ∧ I6 ≤ I' ∧ C29 ++ L = L' ∧ Knows 35 [(7, .slice A27 s23.1.length n28), (20, .slice A1_0 a1.length n1_0), (21, .int .i64 (a1.length : Int)), (22, .int .i64 s23.2)] t) (by kernel_rfl) ?_ hl22 ⟨A9, c10, C11, hO12, (Imm.refl _), rfl, hK⟩
      rintro s23 o24 t I32 L' hb25 ⟨A27, n28, C29, hO30, hI26, rfl, hK31⟩
      unfold labels_Put_l40 at hb25
      refine gk_at hK31 ?_
      refine gk_seq (by kernel_rfl) ?_
      refine gk_region (by kernel_rfl) ?_
      refine gl_pure 1 [7, 20, 21, 22, 23] (K' := [(7, .slice A27 s23.1.length n28), (20, .slice A1_0 a1.length n1_0), (21, .int .i64 (a1.length : Int)), (22, .int .i64 s23.2), (23, .bool (decide (s23.2 < (a1.length : Int))))]) (by kernel_rfl) ?_
      refine gl_atE (by kernel_rfl) ?_
      refine ge_seq ?_
      refine gk_seq (by kernel_rfl) ?_
      refine gk_cond (b := (decide (s23.2 < (a1.length : Int)))) (by kernel_rfl) (by kernel_rfl) (fun hc42 => ?_) (fun hc42 => ?_)
      · have hb25 := cond_t hc42 hb25
        refine gk_skip (by kernel_rfl) ?_
        refine ge_seq ?_
        refine gk_seq (by kernel_rfl) ?_
        refine gk_block (by kernel_rfl) ?_
        refine gk_seq (by kernel_rfl) ?_
        refine gk_region (by kernel_rfl) ?_
        obtain ⟨x43, hx44, hb25⟩ := bind_some hb25
        obtain ⟨p45, cs46, hR47, hA48, ha49⟩ := RepS.ixAt hx44 (hf1_0.mono (Imm.trans hI8 hI26))
        have hi50 := ix_some hx44
        obtain rfl := kS79_open hR47
        refine gl_indexAddrF (c := n1_0) (T' := 36) (e := 80) (xs := (.tmp 20)) (xi := (.tmp 22)) (kd := .i64) ha49 hi50.1 hi50.2.1 (by kernel_rfl) (by kernel_rfl) (by kernel_rfl) (by kernel_rfl) (by kernel_rfl) ?_
        refine gl_loadA (T' := 80) (xp := (.tmp 24)) (p := p45) (cs := [.string x43.f0, .string x43.f1]) (by kernel_rfl) (by kernel_rfl) (by kernel_rfl) (by kernel_rfl) (hA48.take 2) ?_
        refine gl_alloc (T' := 80) (cs := #[.string (⟨#[]⟩ : ByteArray), .string (⟨#[]⟩ : ByteArray)]) (by kernel_rfl) (by kernel_rfl) (by kernel_rfl) (fun g51 => ?_)
        refine gl_storeB (T' := 80) (xp := (.tmp 9)) (xv := (.tmp 25)) (v := .agg #[.string x43.f0, .string x43.f1]) (g := g51) (off := 0) (cs := #[.string (⟨#[]⟩ : ByteArray), .string (⟨#[]⟩ : ByteArray)]) (cs' := #[.string x43.f0, .string x43.f1]) (by kernel_rfl) (by kernel_rfl) (by kernel_rfl) (by kernel_rfl) (by kernel_rfl) (Upd.set _ _ _ _) ?_ (by kernel_rfl)
        refine gl_atE (by kernel_rfl) ?_
        refine ge_seq ?_
        refine gk_draw 6 [(0, true), (1, true), (2, true), (4, true), (5, true), (3, false)] [(g51, .cells #[.string x43.f0, .string x43.f1] 80)] (List.forall_mem_cons.2 ⟨List.mem_cons_self, (fun p hp => by cases hp)⟩) (by kernel_rfl) (by kernel_rfl) (by kernel_rfl) ?_ (by kernel_rfl)
        refine gd_pure 2 [7, 9, 20, 21, 22, 26, 27] (K' := [(7, .slice A27 s23.1.length n28), (9, .pointer (some ⟨g51, 0, none⟩)), (20, .slice A1_0 a1.length n1_0), (21, .int .i64 (a1.length : Int)), (22, .int .i64 s23.2), (26, .slice A27 s23.1.length n28), (27, .pointer (some ⟨g51, 0, none⟩))]) (s' := [(2, true), (4, true), (5, true), (3, false)]) (CC.refl (List.forall_mem_cons.2 ⟨List.mem_cons_self, (fun p hp => by cases hp)⟩)) (by kernel_rfl) ?_
        refine gd_q (v := .string x43.f0) (by kernel_rfl) (by kernel_rfl) (CC.refl (List.forall_mem_cons.2 ⟨List.mem_cons_self, (fun p hp => by cases hp)⟩)) (fun I' L' T hC kk => gl_loadB (T' := 9) (xp := (.tmp 27)) (v := .string x43.f0) (g := g51) (off := 0) (cs := #[.string x43.f0, .string x43.f1]) (e := 80) (fz := (0, 0)) (by kernel_rfl) (by kernel_rfl) (by kernel_rfl) (hC.sub _ List.mem_cons_self) (by kernel_rfl) kk) ?_
        refine gd_pure 1 [7, 20, 21, 22, 26, 28, 30] (K' := [(7, .slice A27 s23.1.length n28), (20, .slice A1_0 a1.length n1_0), (21, .int .i64 (a1.length : Int)), (22, .int .i64 s23.2), (26, .slice A27 s23.1.length n28), (28, .string x43.f0), (30, .pointer (some ⟨g51, 1, none⟩))]) (s' := [(5, true), (3, false)]) (CC.refl (List.forall_mem_cons.2 ⟨List.mem_cons_self, (fun p hp => by cases hp)⟩)) (by kernel_rfl) ?_
        refine gd_q (v := .string x43.f1) (by kernel_rfl) (by kernel_rfl) (CC.refl (List.forall_mem_cons.2 ⟨List.mem_cons_self, (fun p hp => by cases hp)⟩)) (fun I' L' T hC kk => gl_loadB (T' := 9) (xp := (.tmp 30)) (v := .string x43.f1) (g := g51) (off := 1) (cs := #[.string x43.f0, .string x43.f1]) (e := 80) (fz := (0, 0)) (by kernel_rfl) (by kernel_rfl) (by kernel_rfl) (hC.sub _ List.mem_cons_self) (by kernel_rfl) kk) ?_
        refine gd_one (by kernel_rfl) ?_
        refine gl_rest (Tk.step (Upd.one _ (Upd.rmC _ _)) (Tk.nil _)) (fun J52 hJ53 hC54 => ?_)
        have hf55 := (OwnS.rest hO30 hJ53 hC54.left)
        obtain ⟨y56, hx57, hb25⟩ := bind_some hb25
        refine gl_call (by kernel_rfl) (vint_PutText_walk (r := y56) hf55 hx57 _) ?_
        rintro v I58 L59 hI60 ⟨A61, c62, C63, hO64, rfl, rfl⟩
        refine gl_toD (by kernel_rfl) ⟨(Imm.trans hJ53 hI60), (List.forall_mem_cons.2 ⟨(List.mem_append_right _ List.mem_cons_self), (fun p hp => by cases hp)⟩)⟩ ?_
        refine gd_done ?_
        refine gl_rest (Tk.step (Upd.rmC _ _) (Tk.nil _)) (fun J65 hJ66 hC67 => ?_)
        have hf68 := (OwnS.rest hO64 hJ66 hC67.left)
        obtain ⟨y69, hx70, hb25⟩ := bind_some hb25
        refine gl_call (by kernel_rfl) (vint_PutText_walk (r := y69) hf68 hx70 _) ?_
        rintro v I71 L72 hI73 ⟨A74, c75, C76, hO77, rfl, rfl⟩
        refine gl_pure 1 [7, 20, 21, 22] (K' := [(7, .slice A74 y69.length c75), (20, .slice A1_0 a1.length n1_0), (21, .int .i64 (a1.length : Int)), (22, .int .i64 s23.2)]) (by kernel_rfl) ?_
        refine gl_atE (by kernel_rfl) ?_
        refine ge_block_normal ?_
        refine ge_seq ?_
        refine gk_region (by kernel_rfl) ?_
        refine gl_pure 2 [7, 20, 21, 22] (K' := [(7, .slice A74 y69.length c75), (20, .slice A1_0 a1.length n1_0), (21, .int .i64 (a1.length : Int)), (22, .int .i64 (IntKind.wrap .i64 (s23.2 + 1)))]) (by kernel_rfl) ?_
        refine gl_reord (D := C76 ++ L) (Reord.step (Upd.rmC _ _) (Reord.skip (Reord.refl _))) ?_
        refine gl_atE (by kernel_rfl) ?_
        obtain rfl := some_inj hb25
        exact ge_round fun t ht => ⟨A74, c75, C76, hO77, (Imm.trans (Imm.trans (Imm.trans (Imm.trans hI26 hJ53) hI60) hJ66) hI73), rfl, ht.pick (l := [7, 20, 21, 22]) (by kernel_rfl)⟩
      · have hb25 := cond_f hc42 hb25
        refine gk_exit (by kernel_rfl) ?_
        refine ge_seq_exit ?_
        obtain rfl := some_inj hb25
        refine ge_round_out (fun hrr => ?_) (by intro h; cases h)
        obtain rfl := hrr
        refine ge_block_hit (by kernel_rfl) ?_
        exact ge_mid fun t ht => ⟨A27, n28, C29, hO30, hI26, rfl, ht.pick (l := [7]) (by kernel_rfl)⟩
    · rintro t I39 L' ⟨A34, n35, C36, hO37, hI33, rfl, hK38⟩
      refine ge_at hK38 ?_
      refine ge_seq ?_
      refine gk_seq (by kernel_rfl) ?_
      refine gk_region (by kernel_rfl) ?_
      refine gl_pure 3 [4, 5] (K' := [(4, .slice A34 r21.length n35), (5, .int .i64 0)]) (by kernel_rfl) ?_
      refine gl_atE (by kernel_rfl) ?_
      refine ge_seq ?_
      refine gk_ret (by kernel_rfl) ?_
      obtain rfl := some_inj hr
      exact ge_result trivial (ResOk.tmp (by kernel_rfl) (ResOk.tmp (by kernel_rfl) ResOk.nil)) (Imm.trans hI8 hI33) ⟨A34, n35, C36, hO37, rfl, rfl⟩
/-! 57 nflog_record  -/
noncomputable def nflog_record_l123 (x71 : List (List S79)) : ((List Int) × Int) → Option (((List Int) × Int) ⊕ ((List Int))) := fun s106 =>
  bif (decide (s106.2 < (x71.length : Int))) then
  (Option.bind (ix x71 s106.2) fun (x126 : List S79) =>
    Option.bind (labels_Put s106.1 x126) fun (y141 : (List Int) × Int) =>
    some (Sum.inl (y141.1, (IntKind.wrap .i64 (s106.2 + 1)))))
  else
  (some (Sum.inr s106.1))
noncomputable def nflog_record_l68 (a0 : S23) : ((List Int) × Int) → Option (((List Int) × Int) ⊕ ((List Int))) := fun s51 =>
  bif (decide (s51.2 < ([a0.f3, a0.f4].length : Int))) then
  (Option.bind (ix [a0.f3, a0.f4] s51.2) fun (x71 : List (List S79)) =>
    Option.bind (vint_PutU s51.1 (IntKind.wrap .u64 (x71.length : Int))) fun (y87 : (List Int)) =>
    Option.bind (loopO (nflog_record_l123 x71) (y87, 0)) fun (r104 : (List Int)) =>
    some (Sum.inl (r104, (IntKind.wrap .i64 (s51.2 + 1)))))
  else
  (some (Sum.inr s51.1))
noncomputable def nflog_record (a0 : S23) : Option (List Int) :=
  Option.bind (vint_PutText [] a0.f0) fun (y2 : (List Int)) =>
  Option.bind (vint_PutText y2 a0.f1) fun (y15 : (List Int)) =>
  Option.bind (vint_PutI y15 a0.f2) fun (y28 : (List Int)) =>
  Option.bind (loopO (nflog_record_l68 a0) (y28, 0)) fun (r49 : (List Int)) =>
  some r49
theorem nflog_record_walk {a0 : S23} {A0_3 : Option Addr} {n0_3 : Nat} {A0_4 : Option Addr} {n0_4 : Nat} {I : Imm} {r : (List Int)} (hG : Gl I)  (hf0_3 : RepS (Kd.sl kS79) I A0_3 n0_3 a0.f3) (hf0_4 : RepS (Kd.sl kS79) I A0_4 n0_4 a0.f4) (hr : nflog_record a0 = some r) (L : Own) :
    CallsTo Tryd.prog 57 #[.agg #[.string a0.f0, .string a0.f1, .int .i64 a0.f2, .slice A0_3 a0.f3.length n0_3, .slice A0_4 a0.f4.length n0_4]] I L (fun v I' L' => ∃ A0 c0 C0, OwnS (Kd.int .u8) 5 I' A0 c0 r C0 ∧ v = .slice A0 r.length c0 ∧ C0 ++ L = L') := by
  unfold nflog_record at hr
  refine callsTo_body (N := 47) Tryd.func57 (by kernel_rfl) (by kernel_rfl) (by kernel_rfl) ?_
  refine gk_pick [0] (K' := [(0, .agg #[.string a0.f0, .string a0.f1, .int .i64 a0.f2, .slice A0_3 a0.f3.length n0_3, .slice A0_4 a0.f4.length n0_4])]) (by kernel_rfl) ?_
  refine gk_seq (by kernel_rfl) ?_
  refine gk_region (by kernel_rfl) ?_
  refine gl_box (T' := 24) (x := (.tmp 0)) (v := .agg #[.string a0.f0, .string a0.f1, .int .i64 a0.f2, .slice A0_3 a0.f3.length n0_3, .slice A0_4 a0.f4.length n0_4]) (cs := #[.string a0.f0, .string a0.f1, .int .i64 a0.f2, .slice A0_3 a0.f3.length n0_3, .slice A0_4 a0.f4.length n0_4]) (by kernel_rfl) (by kernel_rfl) (by kernel_rfl) (by kernel_rfl) (fun g1 => ?_)
  refine gl_pure 1 [1] (K' := [(1, .pointer (some ⟨g1, 0, none⟩))]) (by kernel_rfl) ?_
  refine gl_atE (by kernel_rfl) ?_
  refine ge_seq ?_
  refine gk_seq (by kernel_rfl) ?_
  refine gk_draw 8 [(0, true), (1, true), (3, true), (4, true), (6, true), (7, true), (2, false), (5, false)] [(g1, .cells #[.string a0.f0, .string a0.f1, .int .i64 a0.f2, .slice A0_3 a0.f3.length n0_3, .slice A0_4 a0.f4.length n0_4] 24)] (List.forall_mem_cons.2 ⟨List.mem_cons_self, (fun p hp => by cases hp)⟩) (by kernel_rfl) (by kernel_rfl) (by kernel_rfl) ?_ (by kernel_rfl)
  refine gd_pure 1 [1, 8] (K' := [(1, .pointer (some ⟨g1, 0, none⟩)), (8, .pointer (some ⟨g1, 0, none⟩))]) (s' := [(1, true), (3, true), (4, true), (6, true), (7, true), (2, false), (5, false)]) (CC.refl (List.forall_mem_cons.2 ⟨List.mem_cons_self, (fun p hp => by cases hp)⟩)) (by kernel_rfl) ?_
  refine gd_q (v := .string a0.f0) (by kernel_rfl) (by kernel_rfl) (CC.refl (List.forall_mem_cons.2 ⟨List.mem_cons_self, (fun p hp => by cases hp)⟩)) (fun I' L' T hC kk => gl_loadB (T' := 9) (xp := (.tmp 8)) (v := .string a0.f0) (g := g1) (off := 0) (cs := #[.string a0.f0, .string a0.f1, .int .i64 a0.f2, .slice A0_3 a0.f3.length n0_3, .slice A0_4 a0.f4.length n0_4]) (e := 24) (fz := (0, 0)) (by kernel_rfl) (by kernel_rfl) (by kernel_rfl) (hC.sub _ List.mem_cons_self) (by kernel_rfl) kk) ?_
  refine gd_pure 1 [1, 9, 11] (K' := [(1, .pointer (some ⟨g1, 0, none⟩)), (9, .string a0.f0), (11, .pointer (some ⟨g1, 1, none⟩))]) (s' := [(4, true), (6, true), (7, true), (2, false), (5, false)]) (CC.refl (List.forall_mem_cons.2 ⟨List.mem_cons_self, (fun p hp => by cases hp)⟩)) (by kernel_rfl) ?_
  refine gd_q (v := .string a0.f1) (by kernel_rfl) (by kernel_rfl) (CC.refl (List.forall_mem_cons.2 ⟨List.mem_cons_self, (fun p hp => by cases hp)⟩)) (fun I' L' T hC kk => gl_loadB (T' := 9) (xp := (.tmp 11)) (v := .string a0.f1) (g := g1) (off := 1) (cs := #[.string a0.f0, .string a0.f1, .int .i64 a0.f2, .slice A0_3 a0.f3.length n0_3, .slice A0_4 a0.f4.length n0_4]) (e := 24) (fz := (0, 0)) (by kernel_rfl) (by kernel_rfl) (by kernel_rfl) (hC.sub _ List.mem_cons_self) (by kernel_rfl) kk) ?_
  refine gd_pure 1 [1, 9, 12, 14] (K' := [(1, .pointer (some ⟨g1, 0, none⟩)), (9, .string a0.f0), (12, .string a0.f1), (14, .pointer (some ⟨g1, 2, none⟩))]) (s' := [(7, true), (2, false), (5, false)]) (CC.refl (List.forall_mem_cons.2 ⟨List.mem_cons_self, (fun p hp => by cases hp)⟩)) (by kernel_rfl) ?_
  refine gd_q (v := .int .i64 a0.f2) (by kernel_rfl) (by kernel_rfl) (CC.refl (List.forall_mem_cons.2 ⟨List.mem_cons_self, (fun p hp => by cases hp)⟩)) (fun I' L' T hC kk => gl_loadB (T' := 2) (xp := (.tmp 14)) (v := .int .i64 a0.f2) (g := g1) (off := 2) (cs := #[.string a0.f0, .string a0.f1, .int .i64 a0.f2, .slice A0_3 a0.f3.length n0_3, .slice A0_4 a0.f4.length n0_4]) (e := 24) (fz := (0, 0)) (by kernel_rfl) (by kernel_rfl) (by kernel_rfl) (hC.sub _ List.mem_cons_self) (by kernel_rfl) kk) ?_
  refine gd_one (by kernel_rfl) ?_
  obtain ⟨y2, hx3, hr⟩ := bind_some hr
  refine gl_call (by kernel_rfl) (vint_PutText_walk (r := y2) (RepS.nil _ _) hx3 _) ?_
  rintro v I4 L5 hI6 ⟨A7, c8, C9, hO10, rfl, rfl⟩
  refine gl_toD (by kernel_rfl) ⟨hI6, (List.forall_mem_cons.2 ⟨(List.mem_append_right _ List.mem_cons_self), (fun p hp => by cases hp)⟩)⟩ ?_
  refine gd_one (by kernel_rfl) ?_
  refine gl_rest (Tk.step (Upd.rmC _ _) (Tk.nil _)) (fun J11 hJ12 hC13 => ?_)
  have hf14 := (OwnS.rest hO10 hJ12 hC13.left)
  obtain ⟨y15, hx16, hr⟩ := bind_some hr
  refine gl_call (by kernel_rfl) (vint_PutText_walk (r := y15) hf14 hx16 _) ?_
  rintro v I17 L18 hI19 ⟨A20, c21, C22, hO23, rfl, rfl⟩
  refine gl_toD (by kernel_rfl) ⟨(Imm.trans hJ12 hI19), (List.forall_mem_cons.2 ⟨(List.mem_append_right _ List.mem_cons_self), (fun p hp => by cases hp)⟩)⟩ ?_
  refine gd_done ?_
  refine gl_rest (Tk.step (Upd.rmC _ _) (Tk.nil _)) (fun J24 hJ25 hC26 => ?_)
  have hf27 := (OwnS.rest hO23 hJ25 hC26.left)
  obtain ⟨y28, hx29, hr⟩ := bind_some hr
  refine gl_call (by kernel_rfl) (vint_PutI_walk (r := y28) hf27 hx29 _) ?_
  rintro v I30 L31 hI32 ⟨A33, c34, C35, hO36, rfl, rfl⟩
  refine gl_pure 1 [1, 3] (K' := [(1, .pointer (some ⟨g1, 0, none⟩)), (3, .slice A33 y28.length c34)]) (by kernel_rfl) ?_
  refine gl_atE (by kernel_rfl) ?_
  refine ge_seq ?_
  refine gk_seq (by kernel_rfl) ?_
  refine gk_seq (by kernel_rfl) ?_
  refine gk_region (by kernel_rfl) ?_
  refine gl_pure 1 [1, 3, 17] (K' := [(1, .pointer (some ⟨g1, 0, none⟩)), (3, .slice A33 y28.length c34), (17, .pointer (some ⟨g1, 3, none⟩))]) (by kernel_rfl) ?_
  refine gl_loadB (T' := 22) (xp := (.tmp 17)) (v := .slice A0_3 a0.f3.length n0_3) (g := g1) (off := 3) (cs := #[.string a0.f0, .string a0.f1, .int .i64 a0.f2, .slice A0_3 a0.f3.length n0_3, .slice A0_4 a0.f4.length n0_4]) (e := 24) (fz := (0, 0)) (by kernel_rfl) (by kernel_rfl) (by kernel_rfl) (List.mem_append_right _ List.mem_cons_self) (by kernel_rfl) ?_
  refine gl_pure 1 [3, 18, 19] (K' := [(3, .slice A33 y28.length c34), (18, .slice A0_3 a0.f3.length n0_3), (19, .pointer (some ⟨g1, 4, none⟩))]) (by kernel_rfl) ?_
  refine gl_loadB (T' := 22) (xp := (.tmp 19)) (v := .slice A0_4 a0.f4.length n0_4) (g := g1) (off := 4) (cs := #[.string a0.f0, .string a0.f1, .int .i64 a0.f2, .slice A0_3 a0.f3.length n0_3, .slice A0_4 a0.f4.length n0_4]) (e := 24) (fz := (0, 0)) (by kernel_rfl) (by kernel_rfl) (by kernel_rfl) (List.mem_append_right _ List.mem_cons_self) (by kernel_rfl) ?_
  refine gl_buildSlice (T' := 104) (e := 22) (n := 1) (len := 2) (parts := #[(0, (.tmp 18)), (1, (.tmp 20))]) (l := [(0, .slice A0_3 a0.f3.length n0_3), (1, .slice A0_4 a0.f4.length n0_4)]) (cs := #[.slice A0_3 a0.f3.length n0_3, .slice A0_4 a0.f4.length n0_4]) (by kernel_rfl) (by kernel_rfl) (by kernel_rfl) (by kernel_rfl) (by kernel_rfl) (fun g37 => ?_)
  have hO38 : OwnS (Kd.sl (Kd.sl kS79)) 22 I30 (some ⟨g37, 0, none⟩) 2 [a0.f3, a0.f4] [(g37, .cells #[.slice A0_3 a0.f3.length n0_3, .slice A0_4 a0.f4.length n0_4] 22)] := OwnS.lit (row_cons (l := [.slice A0_3 a0.f3.length n0_3]) ⟨_, _, rfl, (hf0_3.mono (Imm.trans (Imm.trans (Imm.trans (Imm.trans hI6 hJ12) hI19) hJ25) hI32))⟩ (row_cons (l := [.slice A0_4 a0.f4.length n0_4]) ⟨_, _, rfl, (hf0_4.mono (Imm.trans (Imm.trans (Imm.trans (Imm.trans hI6 hJ12) hI19) hJ25) hI32))⟩ (row_nil _ _))) rfl rfl rfl
  refine gl_reord (D := [(g37, .cells #[.slice A0_3 a0.f3.length n0_3, .slice A0_4 a0.f4.length n0_4] 22)] ++ (C35 ++ ((g1, .cells #[.string a0.f0, .string a0.f1, .int .i64 a0.f2, .slice A0_3 a0.f3.length n0_3, .slice A0_4 a0.f4.length n0_4] 24) :: L))) (Reord.refl _) ?_
  refine gl_pure 2 [3, 21, 22, 23] (K' := [(3, .slice A33 y28.length c34), (21, .slice (some ⟨g37, 0, none⟩) [a0.f3, a0.f4].length 2), (22, .int .i64 ([a0.f3, a0.f4].length : Int)), (23, .int .i64 0)]) (by kernel_rfl) ?_
  refine gl_atE (by kernel_rfl) ?_
  refine ge_seq ?_
  obtain ⟨r49, hl50, hr⟩ := bind_some hr
  refine gk_reord (D := C35 ++ ([(g37, .cells #[.slice A0_3 a0.f3.length n0_3, .slice A0_4 a0.f4.length n0_4] 22)] ++ L)) (Reord.step (Upd.app _ (Upd.rmC _ _)) (Reord.step (Upd.rmC _ _) (Reord.skip (Reord.refl _)))) ?_
  refine gk_join (fun t I' L' => ∃ A62 n63 C64, OwnS (Kd.int .u8) 5 I' A62 n63 r49 C64 ∧ I30 ≤ I' ∧ C64 ++ L = L' ∧ Knows 47 [(3, .slice A62 r49.length n63)] t) ?_ ?_
  · refine gk_block (by kernel_rfl) ?_
    refine gk_pick [3, 21, 22, 23] (K' := [(3, .slice A33 y28.length c34), (21, .slice (some ⟨g37, 0, none⟩) [a0.f3, a0.f4].length 2), (22, .int .i64 ([a0.f3, a0.f4].length : Int)), (23, .int .i64 0)]) (by kernel_rfl) ?_
    intro t hK
    refine gc_loop (nflog_record_l68 a0) (fun s51 t I' L' => ∃ A55 n56 C57, OwnS (Kd.int .u8) 5 I' A55 n56 s51.1 C57 ∧ I30 ≤ I' ∧ C57 ++ ([(g37, .cells #[.slice A0_3 a0.f3.length n0_3, .slice A0_4 a0.f4.length n0_4] 22)] ++ L) = L' ∧ Knows 47 [(3, .slice A55 s51.1.length n56), (21, .slice (some ⟨g37, 0, none⟩) [a0.f3, a0.f4].length 2), (22, .int .i64 ([a0.f3, a0.f4].length : Int)), (23, .int .i64 s51.2)] t) (by kernel_rfl) ?_ hl50 ⟨A33, c34, C35, hO36, (Imm.refl _), rfl, hK⟩
    rintro s51 o52 t I60 L' hb53 ⟨A55, n56, C57, hO58, hI54, rfl, hK59⟩
    unfold nflog_record_l68 at hb53
    refine gk_at hK59 ?_
    refine gk_seq (by kernel_rfl) ?_
    refine gk_region (by kernel_rfl) ?_
    refine gl_pure 1 [3, 21, 22, 23, 24] (K' := [(3, .slice A55 s51.1.length n56), (21, .slice (some ⟨g37, 0, none⟩) [a0.f3, a0.f4].length 2), (22, .int .i64 ([a0.f3, a0.f4].length : Int)), (23, .int .i64 s51.2), (24, .bool (decide (s51.2 < ([a0.f3, a0.f4].length : Int))))]) (by kernel_rfl) ?_
    refine gl_atE (by kernel_rfl) ?_
    refine ge_seq ?_
    refine gk_seq (by kernel_rfl) ?_
    refine gk_cond (b := (decide (s51.2 < ([a0.f3, a0.f4].length : Int)))) (by kernel_rfl) (by kernel_rfl) (fun hc70 => ?_) (fun hc70 => ?_)
    · have hb53 := cond_t hc70 hb53
      refine gk_skip (by kernel_rfl) ?_
      refine ge_seq ?_
      refine gk_seq (by kernel_rfl) ?_
      refine gk_block (by kernel_rfl) ?_
      refine gk_seq (by kernel_rfl) ?_
      refine gk_region (by kernel_rfl) ?_
      obtain ⟨x71, hx72, hb53⟩ := bind_some hb53
      refine gl_indexAddrW (d := (Kd.sl (Kd.sl kS79))) (c := 2) (T' := 104) (e := 22) (xs := (.tmp 21)) (xi := (.tmp 23)) (kd := .i64) hx72 (hO38.mono hI54) (Upd.app _ (Upd.selfC _ _)) (by kernel_rfl) (by kernel_rfl) (by kernel_rfl) (by kernel_rfl) (by kernel_rfl) (fun p73 cs74 hR75 hA76 hp82 => ?_)
      obtain ⟨A79, n80, rfl, hf81⟩ := sl_open hR75
      refine gl_loadO (T' := 22) (xp := (.tmp 25)) (p := p73) (c := .slice A79 x71.length n80) (n := 1) (by kernel_rfl) (by kernel_rfl) (by kernel_rfl) (by kernel_rfl) hA76 ?_
      refine gl_pure 1 [3, 5, 21, 22, 23] (K' := [(3, .slice A55 s51.1.length n56), (5, .slice A79 x71.length n80), (21, .slice (some ⟨g37, 0, none⟩) [a0.f3, a0.f4].length 2), (22, .int .i64 ([a0.f3, a0.f4].length : Int)), (23, .int .i64 s51.2)]) (by kernel_rfl) ?_
      refine gl_atE (by kernel_rfl) ?_
      refine ge_seq ?_
      refine gk_seq (by kernel_rfl) ?_
      refine gk_region (by kernel_rfl) ?_
      refine gl_pure 4 [5, 21, 22, 23, 27, 30] (K' := [(5, .slice A79 x71.length n80), (21, .slice (some ⟨g37, 0, none⟩) [a0.f3, a0.f4].length 2), (22, .int .i64 ([a0.f3, a0.f4].length : Int)), (23, .int .i64 s51.2), (27, .slice A55 s51.1.length n56), (30, .int .u64 (IntKind.wrap .u64 (x71.length : Int)))]) (by kernel_rfl) ?_
      refine gl_rest (Tk.step (Upd.rmC _ _) (Tk.nil _)) (fun J83 hJ84 hC85 => ?_)
      have hf86 := (OwnS.rest hO58 hJ84 hC85.left)
      obtain ⟨y87, hx88, hb53⟩ := bind_some hb53
      refine gl_call (by kernel_rfl) (vint_PutU_walk (r := y87) hf86 hx88 _) ?_
      rintro v I89 L90 hI91 ⟨A92, c93, C94, hO95, rfl, rfl⟩
      refine gl_pure 1 [3, 5, 21, 22, 23] (K' := [(3, .slice A92 y87.length c93), (5, .slice A79 x71.length n80), (21, .slice (some ⟨g37, 0, none⟩) [a0.f3, a0.f4].length 2), (22, .int .i64 ([a0.f3, a0.f4].length : Int)), (23, .int .i64 s51.2)]) (by kernel_rfl) ?_
      refine gl_atE (by kernel_rfl) ?_
      refine ge_seq ?_
      refine gk_seq (by kernel_rfl) ?_
      refine gk_region (by kernel_rfl) ?_
      refine gl_pure 3 [3, 21, 22, 23, 32, 33, 34] (K' := [(3, .slice A92 y87.length c93), (21, .slice (some ⟨g37, 0, none⟩) [a0.f3, a0.f4].length 2), (22, .int .i64 ([a0.f3, a0.f4].length : Int)), (23, .int .i64 s51.2), (32, .slice A79 x71.length n80), (33, .int .i64 (x71.length : Int)), (34, .int .i64 0)]) (by kernel_rfl) ?_
      refine gl_atE (by kernel_rfl) ?_
      refine ge_seq ?_
      obtain ⟨r104, hl105, hb53⟩ := bind_some hb53
      refine gk_join (fun t I' L' => ∃ A117 n118 C119, OwnS (Kd.int .u8) 5 I' A117 n118 r104 C119 ∧ I89 ≤ I' ∧ C119 ++ ([(g37, .cells #[.slice A0_3 a0.f3.length n0_3, .slice A0_4 a0.f4.length n0_4] 22)] ++ L) = L' ∧ Knows 47 [(3, .slice A117 r104.length n118), (21, .slice (some ⟨g37, 0, none⟩) [a0.f3, a0.f4].length 2), (22, .int .i64 ([a0.f3, a0.f4].length : Int)), (23, .int .i64 s51.2)] t) ?_ ?_
      · refine gk_block (by kernel_rfl) ?_
        refine gk_pick [3, 21, 22, 23, 32, 33, 34] (K' := [(3, .slice A92 y87.length c93), (21, .slice (some ⟨g37, 0, none⟩) [a0.f3, a0.f4].length 2), (22, .int .i64 ([a0.f3, a0.f4].length : Int)), (23, .int .i64 s51.2), (32, .slice A79 x71.length n80), (33, .int .i64 (x71.length : Int)), (34, .int .i64 0)]) (by kernel_rfl) ?_
        intro t hK
        refine gc_loop (nflog_record_l123 x71) (fun s106 t I' L' => ∃ A110 n111 C112, OwnS (Kd.int .u8) 5 I' A110 n111 s106.1 C112 ∧ I89 ≤ I' ∧ C112 ++ ([(g37, .cells #[.slice A0_3 a0.f3.length n0_3, .slice A0_4 a0.f4.length n0_4] 22)] ++ L) = L' ∧ Knows 47 [(3, .slice A110 s106.1.length n111), (21, .slice (some ⟨g37, 0, none⟩) [a0.f3, a0.f4].length 2), (22, .int .i64 ([a0.f3, a0.f4].length : Int)), (23, .int .i64 s51.2), (32, .slice A79 x71.length n80), (33, .int .i64 (x71.length : Int)), (34, .int .i64 s106.2)] t) (by kernel_rfl) ?_ hl105 ⟨A92, c93, C94, hO95, (Imm.refl _), rfl, hK⟩
        rintro s106 o107 t I115 L' hb108 ⟨A110, n111, C112, hO113, hI109, rfl, hK114⟩
        unfold nflog_record_l123 at hb108
        refine gk_at hK114 ?_
        refine gk_seq (by kernel_rfl) ?_
        refine gk_region (by kernel_rfl) ?_
        refine gl_pure 1 [3, 21, 22, 23, 32, 33, 34, 35] (K' := [(3, .slice A110 s106.1.length n111), (21, .slice (some ⟨g37, 0, none⟩) [a0.f3, a0.f4].length 2), (22, .int .i64 ([a0.f3, a0.f4].length : Int)), (23, .int .i64 s51.2), (32, .slice A79 x71.length n80), (33, .int .i64 (x71.length : Int)), (34, .int .i64 s106.2), (35, .bool (decide (s106.2 < (x71.length : Int))))]) (by kernel_rfl) ?_
        refine gl_atE (by kernel_rfl) ?_
        refine ge_seq ?_
        refine gk_seq (by kernel_rfl) ?_
        refine gk_cond (b := (decide (s106.2 < (x71.length : Int)))) (by kernel_rfl) (by kernel_rfl) (fun hc125 => ?_) (fun hc125 => ?_)
        · have hb108 := cond_t hc125 hb108
          refine gk_skip (by kernel_rfl) ?_
          refine ge_seq ?_
          refine gk_seq (by kernel_rfl) ?_
          refine gk_block (by kernel_rfl) ?_
          refine gk_seq (by kernel_rfl) ?_
          refine gk_region (by kernel_rfl) ?_
          obtain ⟨x126, hx127, hb108⟩ := bind_some hb108
          obtain ⟨p128, cs129, hR130, hA131, ha132⟩ := RepS.ixAt hx127 (hf81.mono (Imm.trans (Imm.trans hJ84 hI91) hI109))
          have hi133 := ix_some hx127
          obtain ⟨A134, n135, rfl, hf136⟩ := sl_open hR130
          refine gl_indexAddrF (c := n80) (T' := 22) (e := 36) (xs := (.tmp 32)) (xi := (.tmp 34)) (kd := .i64) ha132 hi133.1 hi133.2.1 (by kernel_rfl) (by kernel_rfl) (by kernel_rfl) (by kernel_rfl) (by kernel_rfl) ?_
          refine gl_load (T' := 36) (xp := (.tmp 36)) (p := p128) (c := .slice A134 x126.length n135) (n := 1) (by kernel_rfl) (by kernel_rfl) (by kernel_rfl) (by kernel_rfl) hA131 ?_
          refine gl_pure 1 [3, 7, 21, 22, 23, 32, 33, 34] (K' := [(3, .slice A110 s106.1.length n111), (7, .slice A134 x126.length n135), (21, .slice (some ⟨g37, 0, none⟩) [a0.f3, a0.f4].length 2), (22, .int .i64 ([a0.f3, a0.f4].length : Int)), (23, .int .i64 s51.2), (32, .slice A79 x71.length n80), (33, .int .i64 (x71.length : Int)), (34, .int .i64 s106.2)]) (by kernel_rfl) ?_
          refine gl_atE (by kernel_rfl) ?_
          refine ge_seq ?_
          refine gk_region (by kernel_rfl) ?_
          refine gl_pure 2 [21, 22, 23, 32, 33, 34, 39, 40] (K' := [(21, .slice (some ⟨g37, 0, none⟩) [a0.f3, a0.f4].length 2), (22, .int .i64 ([a0.f3, a0.f4].length : Int)), (23, .int .i64 s51.2), (32, .slice A79 x71.length n80), (33, .int .i64 (x71.length : Int)), (34, .int .i64 s106.2), (39, .slice A110 s106.1.length n111), (40, .slice A134 x126.length n135)]) (by kernel_rfl) ?_
          refine gl_rest (Tk.step (Upd.rmC _ _) (Tk.nil _)) (fun J137 hJ138 hC139 => ?_)
          have hf140 := (OwnS.rest hO113 hJ138 hC139.left)
          obtain ⟨y141, hx142, hb108⟩ := bind_some hb108
          refine gl_call (by kernel_rfl) (labels_Put_walk (r := y141) (hG.mono (Imm.trans (Imm.trans (Imm.trans (Imm.trans (Imm.trans (Imm.trans (Imm.trans (Imm.trans (Imm.trans hI6 hJ12) hI19) hJ25) hI32) hI54) hJ84) hI91) hI109) hJ138)) hf140 (hf136.mono hJ138) hx142 _) ?_
          rintro v I143 L144 hI145 ⟨A146, c147, C148, hO149, rfl, rfl⟩
          refine gl_pure 4 [3, 21, 22, 23, 32, 33, 34] (K' := [(3, .slice A146 y141.1.length c147), (21, .slice (some ⟨g37, 0, none⟩) [a0.f3, a0.f4].length 2), (22, .int .i64 ([a0.f3, a0.f4].length : Int)), (23, .int .i64 s51.2), (32, .slice A79 x71.length n80), (33, .int .i64 (x71.length : Int)), (34, .int .i64 s106.2)]) (by kernel_rfl) ?_
          refine gl_atE (by kernel_rfl) ?_
          refine ge_block_normal ?_
          refine ge_seq ?_
          refine gk_region (by kernel_rfl) ?_
          refine gl_pure 2 [3, 21, 22, 23, 32, 33, 34] (K' := [(3, .slice A146 y141.1.length c147), (21, .slice (some ⟨g37, 0, none⟩) [a0.f3, a0.f4].length 2), (22, .int .i64 ([a0.f3, a0.f4].length : Int)), (23, .int .i64 s51.2), (32, .slice A79 x71.length n80), (33, .int .i64 (x71.length : Int)), (34, .int .i64 (IntKind.wrap .i64 (s106.2 + 1)))]) (by kernel_rfl) ?_
          refine gl_atE (by kernel_rfl) ?_
          obtain rfl := some_inj hb108
          exact ge_round fun t ht => ⟨A146, c147, C148, hO149, (Imm.trans (Imm.trans hI109 hJ138) hI145), rfl, ht.pick (l := [3, 21, 22, 23, 32, 33, 34]) (by kernel_rfl)⟩
        · have hb108 := cond_f hc125 hb108
          refine gk_exit (by kernel_rfl) ?_
          refine ge_seq_exit ?_
          obtain rfl := some_inj hb108
          refine ge_round_out (fun hrr => ?_) (by intro h; cases h)
          obtain rfl := hrr
          refine ge_block_hit (by kernel_rfl) ?_
          exact ge_mid fun t ht => ⟨A110, n111, C112, hO113, hI109, rfl, ht.pick (l := [3, 21, 22, 23]) (by kernel_rfl)⟩
      · rintro t I122 L' ⟨A117, n118, C119, hO120, hI116, rfl, hK121⟩
        refine ge_at hK121 ?_
        refine ge_block_normal ?_
        refine ge_seq ?_
        refine gk_region (by kernel_rfl) ?_
        refine gl_pure 2 [3, 21, 22, 23] (K' := [(3, .slice A117 r104.length n118), (21, .slice (some ⟨g37, 0, none⟩) [a0.f3, a0.f4].length 2), (22, .int .i64 ([a0.f3, a0.f4].length : Int)), (23, .int .i64 (IntKind.wrap .i64 (s51.2 + 1)))]) (by kernel_rfl) ?_
        refine gl_atE (by kernel_rfl) ?_
        obtain rfl := some_inj hb53
        exact ge_round fun t ht => ⟨A117, n118, C119, hO120, (Imm.trans (Imm.trans (Imm.trans hI54 hJ84) hI91) hI116), rfl, ht.pick (l := [3, 21, 22, 23]) (by kernel_rfl)⟩
    · have hb53 := cond_f hc70 hb53
      refine gk_reord (D := C57 ++ L) (Reord.step (Upd.rmC _ _) (Reord.skipC (Reord.refl _))) ?_
      refine gk_exit (by kernel_rfl) ?_
      refine ge_seq_exit ?_
      obtain rfl := some_inj hb53
      refine ge_round_out (fun hrr => ?_) (by intro h; cases h)
      obtain rfl := hrr
      refine ge_block_hit (by kernel_rfl) ?_
      exact ge_mid fun t ht => ⟨A55, n56, C57, hO58, hI54, rfl, ht.pick (l := [3]) (by kernel_rfl)⟩
  · rintro t I67 L' ⟨A62, n63, C64, hO65, hI61, rfl, hK66⟩
    refine ge_at hK66 ?_
    refine ge_seq ?_
    refine gk_seq (by kernel_rfl) ?_
    refine gk_region (by kernel_rfl) ?_
    refine gl_pure 2 [2] (K' := [(2, .slice A62 r49.length n63)]) (by kernel_rfl) ?_
    refine gl_atE (by kernel_rfl) ?_
    refine ge_seq ?_
    refine gk_ret (by kernel_rfl) ?_
    obtain rfl := some_inj hr
    exact ge_result trivial (ResOk.tmp (by kernel_rfl) ResOk.nil) (Imm.trans (Imm.trans (Imm.trans (Imm.trans (Imm.trans hI6 hJ12) hI19) hJ25) hI32) hI61) ⟨A62, n63, C64, hO65, rfl, rfl⟩
/-! 25 nflog_Record  -/
noncomputable def nflog_Record (a0 : S23) : Option ((List Int) × Int) :=
  Option.bind (nflog_Right a0) fun (y2 : Int) =>
  bif (y2 != 0) then
  (some ([], y2))
  else
  (Option.bind (nflog_record a0) fun (y5 : (List Int)) =>
    some (y5, 0))
theorem nflog_Record_walk {a0 : S23} {A0_3 : Option Addr} {n0_3 : Nat} {A0_4 : Option Addr} {n0_4 : Nat} {I : Imm} {r : (List Int) × Int} (hG : Gl I)  (hf0_3 : RepS (Kd.sl kS79) I A0_3 n0_3 a0.f3) (hf0_4 : RepS (Kd.sl kS79) I A0_4 n0_4 a0.f4) (hr : nflog_Record a0 = some r) (L : Own) :
    CallsTo Tryd.prog 25 #[.agg #[.string a0.f0, .string a0.f1, .int .i64 a0.f2, .slice A0_3 a0.f3.length n0_3, .slice A0_4 a0.f4.length n0_4]] I L (fun v I' L' => ∃ A0 c0 C0, OwnS (Kd.int .u8) 5 I' A0 c0 r.1 C0 ∧ v = .tuple #[.slice A0 r.1.length c0, .int .i64 r.2] ∧ C0 ++ L = L') := by
  unfold nflog_Record at hr
  refine callsTo_body (N := 12) Tryd.func25 (by kernel_rfl) (by kernel_rfl) (by kernel_rfl) ?_
  refine gk_pick [0] (K' := [(0, .agg #[.string a0.f0, .string a0.f1, .int .i64 a0.f2, .slice A0_3 a0.f3.length n0_3, .slice A0_4 a0.f4.length n0_4])]) (by kernel_rfl) ?_
  refine gk_seq (by kernel_rfl) ?_
  refine gk_region (by kernel_rfl) ?_
  refine gl_box (T' := 24) (x := (.tmp 0)) (v := .agg #[.string a0.f0, .string a0.f1, .int .i64 a0.f2, .slice A0_3 a0.f3.length n0_3, .slice A0_4 a0.f4.length n0_4]) (cs := #[.string a0.f0, .string a0.f1, .int .i64 a0.f2, .slice A0_3 a0.f3.length n0_3, .slice A0_4 a0.f4.length n0_4]) (by kernel_rfl) (by kernel_rfl) (by kernel_rfl) (by kernel_rfl) (fun g1 => ?_)
  refine gl_pure 2 [1] (K' := [(1, .pointer (some ⟨g1, 0, none⟩))]) (by kernel_rfl) ?_
  refine gl_atE (by kernel_rfl) ?_
  refine ge_seq ?_
  refine gk_seq (by kernel_rfl) ?_
  refine gk_seq (by kernel_rfl) ?_
  refine gk_region (by kernel_rfl) ?_
  refine gl_loadB (T' := 24) (xp := (.tmp 1)) (v := .agg #[.string a0.f0, .string a0.f1, .int .i64 a0.f2, .slice A0_3 a0.f3.length n0_3, .slice A0_4 a0.f4.length n0_4]) (g := g1) (off := 0) (cs := #[.string a0.f0, .string a0.f1, .int .i64 a0.f2, .slice A0_3 a0.f3.length n0_3, .slice A0_4 a0.f4.length n0_4]) (e := 24) (fz := (0, 0)) (by kernel_rfl) (by kernel_rfl) (by kernel_rfl) List.mem_cons_self (by kernel_rfl) ?_
  obtain ⟨y2, hx3, hr⟩ := bind_some hr
  refine gl_callQ (by kernel_rfl) (nflog_Right_walk (r := y2) hG hf0_3 hf0_4 hx3 _) ?_
  refine gl_pure 1 [1, 4] (K' := [(1, .pointer (some ⟨g1, 0, none⟩)), (4, .int .i64 y2)]) (by kernel_rfl) ?_
  refine gl_atE (by kernel_rfl) ?_
  refine ge_seq ?_
  refine gk_seq (by kernel_rfl) ?_
  refine gk_region (by kernel_rfl) ?_
  refine gl_pure 2 [1, 4, 8] (K' := [(1, .pointer (some ⟨g1, 0, none⟩)), (4, .int .i64 y2), (8, .bool (y2 != 0))]) (by kernel_rfl) ?_
  refine gl_atE (by kernel_rfl) ?_
  refine ge_seq ?_
  refine gk_cond (b := (y2 != 0)) (by kernel_rfl) (by kernel_rfl) (fun hc4 => ?_) (fun hc4 => ?_)
  · have hr := cond_t hc4 hr
    refine gk_seq (by kernel_rfl) ?_
    refine gk_region (by kernel_rfl) ?_
    refine gl_pure 3 [2, 3] (K' := [(2, .slice none 0 0), (3, .int .i64 y2)]) (by kernel_rfl) ?_
    refine gl_atE (by kernel_rfl) ?_
    refine ge_seq ?_
    refine gk_reord (D := L) (Reord.skip (Reord.refl _)) ?_
    refine gk_ret (by kernel_rfl) ?_
    refine ge_seq_ret ?_
    obtain rfl := some_inj hr
    exact ge_result trivial (ResOk.tmp (by kernel_rfl) (ResOk.tmp (by kernel_rfl) ResOk.nil)) (Imm.refl _) ⟨none, 0, [], OwnS.nil _ _ _ _, rfl, rfl⟩
  · have hr := cond_f hc4 hr
    refine gk_skip (by kernel_rfl) ?_
    refine ge_seq ?_
    refine gk_seq (by kernel_rfl) ?_
    refine gk_region (by kernel_rfl) ?_
    refine gl_loadB (T' := 24) (xp := (.tmp 1)) (v := .agg #[.string a0.f0, .string a0.f1, .int .i64 a0.f2, .slice A0_3 a0.f3.length n0_3, .slice A0_4 a0.f4.length n0_4]) (g := g1) (off := 0) (cs := #[.string a0.f0, .string a0.f1, .int .i64 a0.f2, .slice A0_3 a0.f3.length n0_3, .slice A0_4 a0.f4.length n0_4]) (e := 24) (fz := (0, 0)) (by kernel_rfl) (by kernel_rfl) (by kernel_rfl) List.mem_cons_self (by kernel_rfl) ?_
    obtain ⟨y5, hx6, hr⟩ := bind_some hr
    refine gl_call (by kernel_rfl) (nflog_record_walk (r := y5) hG hf0_3 hf0_4 hx6 _) ?_
    rintro v I7 L8 hI9 ⟨A10, c11, C12, hO13, rfl, rfl⟩
    refine gl_pure 2 [2, 3] (K' := [(2, .slice A10 y5.length c11), (3, .int .i64 0)]) (by kernel_rfl) ?_
    refine gl_atE (by kernel_rfl) ?_
    refine ge_seq ?_
    refine gk_reord (D := C12 ++ L) (Reord.step (Upd.rmC _ _) (Reord.skip (Reord.refl _))) ?_
    refine gk_ret (by kernel_rfl) ?_
    obtain rfl := some_inj hr
    exact ge_result trivial (ResOk.tmp (by kernel_rfl) (ResOk.tmp (by kernel_rfl) ResOk.nil)) hI9 ⟨A10, c11, C12, hO13, rfl, rfl⟩
/-! 72 tocsinref01_Utf8  -/
noncomputable def tocsinref01_Utf8_l79 (a0 : ByteArray) (s7 : Int) (j37 : Int × Int × Int) : (Int × Int) → Option ((Int × Int) ⊕ ((Int) ⊕ ((Int) ⊕ ((Int) ⊕ ((Unit) ⊕ (Bool)))))) := fun s69 =>
  bif (decide (s69.2 ≤ j37.1)) then
  (Option.bind (bif (decide ((IntKind.wrap .i64 (s7 + s69.2)) ≥ (a0.size : Int))) then
      (some true)
      else
      (Option.bind (bx a0 (IntKind.wrap .i64 (s7 + s69.2))) fun (c88 : Int) =>
        some ((bitAnd .u8 c88 192) != 128))) fun (j82 : Bool) =>
    bif j82 then
    (some (Sum.inr (Sum.inr (Sum.inr (Sum.inr (Sum.inr false))))))
    else
    (Option.bind (bx a0 (IntKind.wrap .i64 (s7 + s69.2))) fun (c91 : Int) =>
      some (Sum.inl ((IntKind.wrap .i64 ((IntKind.wrap .i64 (s69.1 * 64)) + (IntKind.wrap .i64 (bitAnd .u8 c91 63)))), (IntKind.wrap .i64 (s69.2 + 1))))))
  else
  (some (Sum.inr (Sum.inl s69.1)))
noncomputable def tocsinref01_Utf8_l17 (a0 : ByteArray) : Int → Option ((Int) ⊕ ((Unit) ⊕ (Bool))) := fun s7 =>
  bif (decide (s7 < (a0.size : Int))) then
  (Option.bind (Option.bind (bx a0 s7) fun (c26 : Int) =>
      bif (decide ((IntKind.wrap .i64 c26) < 128)) then
      (some (Sum.inl (IntKind.wrap .i64 (s7 + 1))))
      else
      (Option.bind (bif ((decide ((IntKind.wrap .i64 c26) ≥ 194)) && (decide ((IntKind.wrap .i64 c26) < 224))) then
          (some (Sum.inl (1, 128, (bitAnd .i64 (IntKind.wrap .i64 c26) 31))))
          else
          (Option.bind (bif ((decide ((IntKind.wrap .i64 c26) ≥ 224)) && (decide ((IntKind.wrap .i64 c26) < 240))) then
              (some (Sum.inl (2, 2048, (bitAnd .i64 (IntKind.wrap .i64 c26) 15))))
              else
              (bif ((decide ((IntKind.wrap .i64 c26) ≥ 240)) && (decide ((IntKind.wrap .i64 c26) < 245))) then
                (some (Sum.inl (3, 65536, (bitAnd .i64 (IntKind.wrap .i64 c26) 7))))
                else
                (some (Sum.inr (Sum.inr (Sum.inr (Sum.inr (Sum.inr false)))))))) fun (j48 : (Int × Int × Int) ⊕ ((Int × Int × Int) ⊕ ((Int) ⊕ ((Int) ⊕ ((Unit) ⊕ (Bool)))))) =>
            match j48 with
            | Sum.inl j50 => some (Sum.inl (j50.1, j50.2.1, j50.2.2))
            | Sum.inr v62 => some v62)) fun (j35 : (Int × Int × Int) ⊕ ((Int) ⊕ ((Int) ⊕ ((Unit) ⊕ (Bool))))) =>
        match j35 with
        | Sum.inl j37 => Option.bind (loopO (tocsinref01_Utf8_l79 a0 s7 j37) (j37.2.2, 1)) fun (r67 : (Int) ⊕ ((Int) ⊕ ((Int) ⊕ ((Unit) ⊕ (Bool))))) =>
          match r67 with
          | Sum.inl r75 => bif (((decide (r75 < j37.2.1)) || (decide (r75 > 1114111))) || ((decide (r75 ≥ 55296)) && (decide (r75 < 57344)))) then
            (some (Sum.inr (Sum.inr (Sum.inr false))))
            else
            (some (Sum.inl (IntKind.wrap .i64 ((IntKind.wrap .i64 (s7 + j37.1)) + 1))))
          | Sum.inr v102 => some v102
        | Sum.inr v103 => some v103)) fun (j20 : (Int) ⊕ ((Int) ⊕ ((Unit) ⊕ (Bool)))) =>
    match j20 with
    | Sum.inl j22 => some (Sum.inl j22)
    | Sum.inr v104 => some v104)
  else
  (some (Sum.inr (Sum.inl ())))
noncomputable def tocsinref01_Utf8 (a0 : ByteArray) : Option Bool :=
  Option.bind (loopO (tocsinref01_Utf8_l17 a0) 0) fun (r5 : (Unit) ⊕ (Bool)) =>
  match r5 with
  | Sum.inl r13 => some true
  | Sum.inr v105 => some v105
theorem tocsinref01_Utf8_walk {a0 : ByteArray} {I : Imm} {r : Bool}  (hr : tocsinref01_Utf8 a0 = some r) (L : Own) :
    CallsTo Tryd.prog 72 #[.string a0] I L (fun v I' L' => v = .bool r ∧ L = L') := by
  unfold tocsinref01_Utf8 at hr
  refine callsTo_body (N := 98) Tryd.func72 (by kernel_rfl) (by kernel_rfl) (by kernel_rfl) ?_
  refine gk_pick [0] (K' := [(0, .string a0)]) (by kernel_rfl) ?_
  refine gk_seq (by kernel_rfl) ?_
  refine gk_region (by kernel_rfl) ?_
  refine gl_pure 1 [0] (K' := [(0, .string a0)]) (by kernel_rfl) ?_
  refine gl_atE (by kernel_rfl) ?_
  refine ge_seq ?_
  refine gk_seq (by kernel_rfl) ?_
  refine gk_seq (by kernel_rfl) ?_
  refine gk_region (by kernel_rfl) ?_
  refine gl_pure 1 [0, 3] (K' := [(0, .string a0), (3, .int .i64 0)]) (by kernel_rfl) ?_
  refine gl_atE (by kernel_rfl) ?_
  refine ge_seq ?_
  obtain ⟨r5, hl6, hr⟩ := bind_some hr
  refine gk_join (fun t I' L' => ∃ r13, r5 = Sum.inl r13 ∧ I ≤ I' ∧ L = L' ∧ Knows 98 [] t) ?_ ?_
  · refine gk_block (by kernel_rfl) ?_
    refine gk_pick [0, 3] (K' := [(0, .string a0), (3, .int .i64 0)]) (by kernel_rfl) ?_
    intro t hK
    refine gc_loop (tocsinref01_Utf8_l17 a0) (fun s7 t I' L' => I ≤ I' ∧ L = L' ∧ Knows 98 [(0, .string a0), (3, .int .i64 s7)] t) (by kernel_rfl) ?_ hl6 ⟨(Imm.refl _), rfl, hK⟩
    rintro s7 o8 t I12 L' hb9 ⟨hI10, rfl, hK11⟩
    unfold tocsinref01_Utf8_l17 at hb9
    refine gk_at hK11 ?_
    refine gk_seq (by kernel_rfl) ?_
    refine gk_seq (by kernel_rfl) ?_
    refine gk_region (by kernel_rfl) ?_
    refine gl_pure 4 [0, 3, 12] (K' := [(0, .string a0), (3, .int .i64 s7), (12, .bool (decide (s7 < (a0.size : Int))))]) (by kernel_rfl) ?_
    refine gl_atE (by kernel_rfl) ?_
    refine ge_seq ?_
    refine gk_cond (b := (decide (s7 < (a0.size : Int)))) (by kernel_rfl) (by kernel_rfl) (fun hc19 => ?_) (fun hc19 => ?_)
    · have hb9 := cond_t hc19 hb9
      refine gk_skip (by kernel_rfl) ?_
      refine ge_seq ?_
      obtain ⟨j20, hj21, hb9⟩ := bind_some hb9
      refine gk_join (fun t I' L' => ∃ j22, j20 = Sum.inl j22 ∧ I12 ≤ I' ∧ L = L' ∧ Knows 98 [(0, .string a0), (3, .int .i64 j22)] t) ?_ ?_
      · refine gk_block (by kernel_rfl) ?_
        refine gk_seq (by kernel_rfl) ?_
        refine gk_region (by kernel_rfl) ?_
        refine gl_pure 2 [0, 3, 13, 14] (K' := [(0, .string a0), (3, .int .i64 s7), (13, .string a0), (14, .int .i64 s7)]) (by kernel_rfl) ?_
        obtain ⟨c26, hx27, hj21⟩ := bind_some hj21
        refine gl_index' (T' := 9) (xs := (.tmp 13)) (xi := (.tmp 14)) (kd := .i64) hx27 (by kernel_rfl) (by kernel_rfl) (by kernel_rfl) (by kernel_rfl) (by kernel_rfl) ?_
        refine gl_pure 2 [0, 3, 4] (K' := [(0, .string a0), (3, .int .i64 s7), (4, .int .i64 (IntKind.wrap .i64 c26))]) (by kernel_rfl) ?_
        refine gl_atE (by kernel_rfl) ?_
        refine ge_seq ?_
        refine gk_seq (by kernel_rfl) ?_
        refine gk_region (by kernel_rfl) ?_
        refine gl_pure 1 [0, 3, 4] (K' := [(0, .string a0), (3, .int .i64 s7), (4, .int .i64 (IntKind.wrap .i64 c26))]) (by kernel_rfl) ?_
        refine gl_atE (by kernel_rfl) ?_
        refine ge_seq ?_
        refine gk_seq (by kernel_rfl) ?_
        refine gk_region (by kernel_rfl) ?_
        refine gl_pure 1 [0, 3, 4] (K' := [(0, .string a0), (3, .int .i64 s7), (4, .int .i64 (IntKind.wrap .i64 c26))]) (by kernel_rfl) ?_
        refine gl_atE (by kernel_rfl) ?_
        refine ge_seq ?_
        refine gk_seq (by kernel_rfl) ?_
        refine gk_region (by kernel_rfl) ?_
        refine gl_pure 1 [0, 3, 4] (K' := [(0, .string a0), (3, .int .i64 s7), (4, .int .i64 (IntKind.wrap .i64 c26))]) (by kernel_rfl) ?_
        refine gl_atE (by kernel_rfl) ?_
        refine ge_seq ?_
        refine gk_seq (by kernel_rfl) ?_
        refine gk_block (by kernel_rfl) ?_
        refine gk_seq (by kernel_rfl) ?_
        refine gk_region (by kernel_rfl) ?_
        refine gl_pure 3 [0, 3, 4, 17] (K' := [(0, .string a0), (3, .int .i64 s7), (4, .int .i64 (IntKind.wrap .i64 c26)), (17, .bool (decide ((IntKind.wrap .i64 c26) < 128)))]) (by kernel_rfl) ?_
        refine gl_atE (by kernel_rfl) ?_
        refine ge_seq ?_
        refine gk_cond (b := (decide ((IntKind.wrap .i64 c26) < 128))) (by kernel_rfl) (by kernel_rfl) (fun hc28 => ?_) (fun hc28 => ?_)
        · have hj21 := cond_t hc28 hj21
          refine gk_seq (by kernel_rfl) ?_
          refine gk_region (by kernel_rfl) ?_
          refine gl_pure 3 [0, 3] (K' := [(0, .string a0), (3, .int .i64 (IntKind.wrap .i64 (s7 + 1)))]) (by kernel_rfl) ?_
          refine gl_atE (by kernel_rfl) ?_
          refine ge_seq ?_
          refine gk_exit (by kernel_rfl) ?_
          refine ge_block_miss (by kernel_rfl) ?_
          refine ge_seq_exit ?_
          refine ge_block_hit (by kernel_rfl) ?_
          obtain rfl := some_inj hj21
          exact ge_mid fun t ht => ⟨_, rfl, (Imm.refl _), rfl, ht.pick (l := [0, 3]) (by kernel_rfl)⟩
        · have hj21 := cond_f hc28 hj21
          refine gk_seq (by kernel_rfl) ?_
          obtain ⟨b31, hb32⟩ : ∃ z, z = ((decide ((IntKind.wrap .i64 c26) ≥ 194)) && (decide ((IntKind.wrap .i64 c26) < 224))) := ⟨_, rfl⟩
          refine gk_join (fun t I' L' => I12 ≤ I' ∧ L = L' ∧ Knows 98 [(0, .string a0), (3, .int .i64 s7), (4, .int .i64 (IntKind.wrap .i64 c26)), (22, .bool b31)] t) ?_ ?_
          · refine gk_region (by kernel_rfl) ?_
            refine gl_pure 3 [0, 3, 4, 25] (K' := [(0, .string a0), (3, .int .i64 s7), (4, .int .i64 (IntKind.wrap .i64 c26)), (25, .bool (decide ((IntKind.wrap .i64 c26) ≥ 194)))]) (by kernel_rfl) ?_
            refine gl_case 25 (b := (decide ((IntKind.wrap .i64 c26) ≥ 194))) (by kernel_rfl) (fun hc34 => ?_) (fun hc34 => ?_)
            · refine gl_pure 4 [0, 3, 4, 22] (K' := [(0, .string a0), (3, .int .i64 s7), (4, .int .i64 (IntKind.wrap .i64 c26)), (22, .bool (decide ((IntKind.wrap .i64 c26) < 224)))]) (by kernel_rfl) ?_
              refine gl_atE (by kernel_rfl) ?_
              exact ge_mid fun t ht => ⟨(Imm.refl _), rfl, by rw [(show b31 = (decide ((IntKind.wrap .i64 c26) < 224)) from hb32.trans (by rw [hc34]; try rfl))]; exact ht.pick (l := [0, 3, 4, 22]) (by kernel_rfl)⟩
            · refine gl_pure 4 [0, 3, 4, 22] (K' := [(0, .string a0), (3, .int .i64 s7), (4, .int .i64 (IntKind.wrap .i64 c26)), (22, .bool false)]) (by kernel_rfl) ?_
              refine gl_atE (by kernel_rfl) ?_
              exact ge_mid fun t ht => ⟨(Imm.refl _), rfl, by rw [(show b31 = false from hb32.trans (by rw [hc34]; try rfl))]; exact ht.pick (l := [0, 3, 4, 22]) (by kernel_rfl)⟩
          · rintro t I33 L' ⟨hI29, rfl, hK30⟩
            subst hb32
            refine ge_at hK30 ?_
            refine ge_seq ?_
            obtain ⟨j35, hj36, hj21⟩ := bind_some hj21
            refine gk_join (fun t I' L' => ∃ j37, j35 = Sum.inl j37 ∧ I33 ≤ I' ∧ L = L' ∧ Knows 98 [(0, .string a0), (3, .int .i64 s7), (5, .int .i64 j37.1), (6, .int .i64 j37.2.1), (7, .int .i64 j37.2.2)] t) ?_ ?_
            · refine gk_cond (b := ((decide ((IntKind.wrap .i64 c26) ≥ 194)) && (decide ((IntKind.wrap .i64 c26) < 224)))) (by kernel_rfl) (by kernel_rfl) (fun hc41 => ?_) (fun hc41 => ?_)
              · have hj36 := cond_t hc41 hj36
                refine gk_seq (by kernel_rfl) ?_
                refine gk_region (by kernel_rfl) ?_
                refine gl_pure 1 [0, 3, 4, 5] (K' := [(0, .string a0), (3, .int .i64 s7), (4, .int .i64 (IntKind.wrap .i64 c26)), (5, .int .i64 1)]) (by kernel_rfl) ?_
                refine gl_atE (by kernel_rfl) ?_
                refine ge_seq ?_
                refine gk_seq (by kernel_rfl) ?_
                refine gk_region (by kernel_rfl) ?_
                refine gl_pure 1 [0, 3, 4, 5, 6] (K' := [(0, .string a0), (3, .int .i64 s7), (4, .int .i64 (IntKind.wrap .i64 c26)), (5, .int .i64 1), (6, .int .i64 128)]) (by kernel_rfl) ?_
                refine gl_atE (by kernel_rfl) ?_
                refine ge_seq ?_
                refine gk_region (by kernel_rfl) ?_
                refine gl_pure 3 [0, 3, 5, 6, 7] (K' := [(0, .string a0), (3, .int .i64 s7), (5, .int .i64 1), (6, .int .i64 128), (7, .int .i64 (bitAnd .i64 (IntKind.wrap .i64 c26) 31))]) (by kernel_rfl) ?_
                refine gl_atE (by kernel_rfl) ?_
                obtain rfl := some_inj hj36
                exact ge_mid fun t ht => ⟨_, rfl, (Imm.refl _), rfl, ht.pick (l := [0, 3, 5, 6, 7]) (by kernel_rfl)⟩
              · have hj36 := cond_f hc41 hj36
                refine gk_seq (by kernel_rfl) ?_
                obtain ⟨b44, hb45⟩ : ∃ z, z = ((decide ((IntKind.wrap .i64 c26) ≥ 224)) && (decide ((IntKind.wrap .i64 c26) < 240))) := ⟨_, rfl⟩
                refine gk_join (fun t I' L' => I33 ≤ I' ∧ L = L' ∧ Knows 98 [(0, .string a0), (3, .int .i64 s7), (4, .int .i64 (IntKind.wrap .i64 c26)), (31, .bool b44)] t) ?_ ?_
                · refine gk_region (by kernel_rfl) ?_
                  refine gl_pure 3 [0, 3, 4, 34] (K' := [(0, .string a0), (3, .int .i64 s7), (4, .int .i64 (IntKind.wrap .i64 c26)), (34, .bool (decide ((IntKind.wrap .i64 c26) ≥ 224)))]) (by kernel_rfl) ?_
                  refine gl_case 34 (b := (decide ((IntKind.wrap .i64 c26) ≥ 224))) (by kernel_rfl) (fun hc47 => ?_) (fun hc47 => ?_)
                  · refine gl_pure 4 [0, 3, 4, 31] (K' := [(0, .string a0), (3, .int .i64 s7), (4, .int .i64 (IntKind.wrap .i64 c26)), (31, .bool (decide ((IntKind.wrap .i64 c26) < 240)))]) (by kernel_rfl) ?_
                    refine gl_atE (by kernel_rfl) ?_
                    exact ge_mid fun t ht => ⟨(Imm.refl _), rfl, by rw [(show b44 = (decide ((IntKind.wrap .i64 c26) < 240)) from hb45.trans (by rw [hc47]; try rfl))]; exact ht.pick (l := [0, 3, 4, 31]) (by kernel_rfl)⟩
                  · refine gl_pure 4 [0, 3, 4, 31] (K' := [(0, .string a0), (3, .int .i64 s7), (4, .int .i64 (IntKind.wrap .i64 c26)), (31, .bool false)]) (by kernel_rfl) ?_
                    refine gl_atE (by kernel_rfl) ?_
                    exact ge_mid fun t ht => ⟨(Imm.refl _), rfl, by rw [(show b44 = false from hb45.trans (by rw [hc47]; try rfl))]; exact ht.pick (l := [0, 3, 4, 31]) (by kernel_rfl)⟩
                · rintro t I46 L' ⟨hI42, rfl, hK43⟩
                  subst hb45
                  refine ge_at hK43 ?_
                  refine ge_seq ?_
                  obtain ⟨j48, hj49, hj36⟩ := bind_some hj36
                  refine gk_join (fun t I' L' => ∃ j50, j48 = Sum.inl j50 ∧ I46 ≤ I' ∧ L = L' ∧ Knows 98 [(0, .string a0), (3, .int .i64 s7), (5, .int .i64 j50.1), (6, .int .i64 j50.2.1), (7, .int .i64 j50.2.2)] t) ?_ ?_
                  · refine gk_cond (b := ((decide ((IntKind.wrap .i64 c26) ≥ 224)) && (decide ((IntKind.wrap .i64 c26) < 240)))) (by kernel_rfl) (by kernel_rfl) (fun hc54 => ?_) (fun hc54 => ?_)
                    · have hj49 := cond_t hc54 hj49
                      refine gk_seq (by kernel_rfl) ?_
                      refine gk_region (by kernel_rfl) ?_
                      refine gl_pure 1 [0, 3, 4, 5] (K' := [(0, .string a0), (3, .int .i64 s7), (4, .int .i64 (IntKind.wrap .i64 c26)), (5, .int .i64 2)]) (by kernel_rfl) ?_
                      refine gl_atE (by kernel_rfl) ?_
                      refine ge_seq ?_
                      refine gk_seq (by kernel_rfl) ?_
                      refine gk_region (by kernel_rfl) ?_
                      refine gl_pure 1 [0, 3, 4, 5, 6] (K' := [(0, .string a0), (3, .int .i64 s7), (4, .int .i64 (IntKind.wrap .i64 c26)), (5, .int .i64 2), (6, .int .i64 2048)]) (by kernel_rfl) ?_
                      refine gl_atE (by kernel_rfl) ?_
                      refine ge_seq ?_
                      refine gk_region (by kernel_rfl) ?_
                      refine gl_pure 3 [0, 3, 5, 6, 7] (K' := [(0, .string a0), (3, .int .i64 s7), (5, .int .i64 2), (6, .int .i64 2048), (7, .int .i64 (bitAnd .i64 (IntKind.wrap .i64 c26) 15))]) (by kernel_rfl) ?_
                      refine gl_atE (by kernel_rfl) ?_
                      obtain rfl := some_inj hj49
                      exact ge_mid fun t ht => ⟨_, rfl, (Imm.refl _), rfl, ht.pick (l := [0, 3, 5, 6, 7]) (by kernel_rfl)⟩
                    · have hj49 := cond_f hc54 hj49
                      refine gk_seq (by kernel_rfl) ?_
                      obtain ⟨b57, hb58⟩ : ∃ z, z = ((decide ((IntKind.wrap .i64 c26) ≥ 240)) && (decide ((IntKind.wrap .i64 c26) < 245))) := ⟨_, rfl⟩
                      refine gk_join (fun t I' L' => I46 ≤ I' ∧ L = L' ∧ Knows 98 [(0, .string a0), (3, .int .i64 s7), (4, .int .i64 (IntKind.wrap .i64 c26)), (40, .bool b57)] t) ?_ ?_
                      · refine gk_region (by kernel_rfl) ?_
                        refine gl_pure 3 [0, 3, 4, 43] (K' := [(0, .string a0), (3, .int .i64 s7), (4, .int .i64 (IntKind.wrap .i64 c26)), (43, .bool (decide ((IntKind.wrap .i64 c26) ≥ 240)))]) (by kernel_rfl) ?_
                        refine gl_case 43 (b := (decide ((IntKind.wrap .i64 c26) ≥ 240))) (by kernel_rfl) (fun hc60 => ?_) (fun hc60 => ?_)
                        · refine gl_pure 4 [0, 3, 4, 40] (K' := [(0, .string a0), (3, .int .i64 s7), (4, .int .i64 (IntKind.wrap .i64 c26)), (40, .bool (decide ((IntKind.wrap .i64 c26) < 245)))]) (by kernel_rfl) ?_
                          refine gl_atE (by kernel_rfl) ?_
                          exact ge_mid fun t ht => ⟨(Imm.refl _), rfl, by rw [(show b57 = (decide ((IntKind.wrap .i64 c26) < 245)) from hb58.trans (by rw [hc60]; try rfl))]; exact ht.pick (l := [0, 3, 4, 40]) (by kernel_rfl)⟩
                        · refine gl_pure 4 [0, 3, 4, 40] (K' := [(0, .string a0), (3, .int .i64 s7), (4, .int .i64 (IntKind.wrap .i64 c26)), (40, .bool false)]) (by kernel_rfl) ?_
                          refine gl_atE (by kernel_rfl) ?_
                          exact ge_mid fun t ht => ⟨(Imm.refl _), rfl, by rw [(show b57 = false from hb58.trans (by rw [hc60]; try rfl))]; exact ht.pick (l := [0, 3, 4, 40]) (by kernel_rfl)⟩
                      · rintro t I59 L' ⟨hI55, rfl, hK56⟩
                        subst hb58
                        refine ge_at hK56 ?_
                        refine ge_seq ?_
                        refine gk_cond (b := ((decide ((IntKind.wrap .i64 c26) ≥ 240)) && (decide ((IntKind.wrap .i64 c26) < 245)))) (by kernel_rfl) (by kernel_rfl) (fun hc61 => ?_) (fun hc61 => ?_)
                        · have hj49 := cond_t hc61 hj49
                          refine gk_seq (by kernel_rfl) ?_
                          refine gk_region (by kernel_rfl) ?_
                          refine gl_pure 1 [0, 3, 4, 5] (K' := [(0, .string a0), (3, .int .i64 s7), (4, .int .i64 (IntKind.wrap .i64 c26)), (5, .int .i64 3)]) (by kernel_rfl) ?_
                          refine gl_atE (by kernel_rfl) ?_
                          refine ge_seq ?_
                          refine gk_seq (by kernel_rfl) ?_
                          refine gk_region (by kernel_rfl) ?_
                          refine gl_pure 1 [0, 3, 4, 5, 6] (K' := [(0, .string a0), (3, .int .i64 s7), (4, .int .i64 (IntKind.wrap .i64 c26)), (5, .int .i64 3), (6, .int .i64 65536)]) (by kernel_rfl) ?_
                          refine gl_atE (by kernel_rfl) ?_
                          refine ge_seq ?_
                          refine gk_region (by kernel_rfl) ?_
                          refine gl_pure 3 [0, 3, 5, 6, 7] (K' := [(0, .string a0), (3, .int .i64 s7), (5, .int .i64 3), (6, .int .i64 65536), (7, .int .i64 (bitAnd .i64 (IntKind.wrap .i64 c26) 7))]) (by kernel_rfl) ?_
                          refine gl_atE (by kernel_rfl) ?_
                          obtain rfl := some_inj hj49
                          exact ge_mid fun t ht => ⟨_, rfl, hI55, rfl, ht.pick (l := [0, 3, 5, 6, 7]) (by kernel_rfl)⟩
                        · have hj49 := cond_f hc61 hj49
                          refine gk_seq (by kernel_rfl) ?_
                          refine gk_region (by kernel_rfl) ?_
                          refine gl_pure 1 [2] (K' := [(2, .bool false)]) (by kernel_rfl) ?_
                          refine gl_atE (by kernel_rfl) ?_
                          refine ge_seq ?_
                          refine gk_ret (by kernel_rfl) ?_
                          refine ge_seq_ret ?_
                          obtain rfl := some_inj hj49
                          refine ge_seq_ret ?_
                          obtain rfl := some_inj hj36
                          refine ge_block_ret ?_
                          refine ge_seq_ret ?_
                          refine ge_block_ret ?_
                          refine ge_seq_ret ?_
                          obtain rfl := some_inj hj21
                          obtain rfl := some_inj hb9
                          refine ge_round_out (fun hrr => ?_) (by intro h; cases h)
                          obtain rfl := hrr
                          refine ge_block_ret ?_
                          refine ge_seq_ret ?_
                          refine ge_seq_ret ?_
                          obtain rfl := some_inj hr
                          exact ge_result trivial (ResOk.tmp (by kernel_rfl) ResOk.nil) (Imm.trans (Imm.trans (Imm.trans hI10 hI29) hI42) hI55) ⟨rfl, rfl⟩
                  · rintro t I53 L' ⟨j50, rfl, hI51, rfl, hK52⟩
                    refine ge_at hK52 ?_
                    obtain rfl := some_inj hj36
                    exact ge_mid fun t ht => ⟨_, rfl, (Imm.trans hI42 hI51), rfl, ht.pick (l := [0, 3, 5, 6, 7]) (by kernel_rfl)⟩
            · rintro t I40 L' ⟨j37, rfl, hI38, rfl, hK39⟩
              refine ge_at hK39 ?_
              refine ge_block_normal ?_
              refine ge_seq ?_
              refine gk_seq (by kernel_rfl) ?_
              refine gk_seq (by kernel_rfl) ?_
              refine gk_region (by kernel_rfl) ?_
              refine gl_pure 1 [0, 3, 5, 6, 7, 8] (K' := [(0, .string a0), (3, .int .i64 s7), (5, .int .i64 j37.1), (6, .int .i64 j37.2.1), (7, .int .i64 j37.2.2), (8, .int .i64 1)]) (by kernel_rfl) ?_
              refine gl_atE (by kernel_rfl) ?_
              refine ge_seq ?_
              obtain ⟨r67, hl68, hj21⟩ := bind_some hj21
              refine gk_join (fun t I' L' => ∃ r75, r67 = Sum.inl r75 ∧ I40 ≤ I' ∧ L = L' ∧ Knows 98 [(0, .string a0), (3, .int .i64 s7), (5, .int .i64 j37.1), (6, .int .i64 j37.2.1), (7, .int .i64 r75)] t) ?_ ?_
              · refine gk_block (by kernel_rfl) ?_
                refine gk_pick [0, 3, 5, 6, 7, 8] (K' := [(0, .string a0), (3, .int .i64 s7), (5, .int .i64 j37.1), (6, .int .i64 j37.2.1), (7, .int .i64 j37.2.2), (8, .int .i64 1)]) (by kernel_rfl) ?_
                intro t hK
                refine gc_loop (tocsinref01_Utf8_l79 a0 s7 j37) (fun s69 t I' L' => I40 ≤ I' ∧ L = L' ∧ Knows 98 [(0, .string a0), (3, .int .i64 s7), (5, .int .i64 j37.1), (6, .int .i64 j37.2.1), (7, .int .i64 s69.1), (8, .int .i64 s69.2)] t) (by kernel_rfl) ?_ hl68 ⟨(Imm.refl _), rfl, hK⟩
                rintro s69 o70 t I74 L' hb71 ⟨hI72, rfl, hK73⟩
                unfold tocsinref01_Utf8_l79 at hb71
                refine gk_at hK73 ?_
                refine gk_seq (by kernel_rfl) ?_
                refine gk_seq (by kernel_rfl) ?_
                refine gk_region (by kernel_rfl) ?_
                refine gl_pure 3 [0, 3, 5, 6, 7, 8, 51] (K' := [(0, .string a0), (3, .int .i64 s7), (5, .int .i64 j37.1), (6, .int .i64 j37.2.1), (7, .int .i64 s69.1), (8, .int .i64 s69.2), (51, .bool (decide (s69.2 ≤ j37.1)))]) (by kernel_rfl) ?_
                refine gl_atE (by kernel_rfl) ?_
                refine ge_seq ?_
                refine gk_cond (b := (decide (s69.2 ≤ j37.1))) (by kernel_rfl) (by kernel_rfl) (fun hc81 => ?_) (fun hc81 => ?_)
                · have hb71 := cond_t hc81 hb71
                  refine gk_skip (by kernel_rfl) ?_
                  refine ge_seq ?_
                  refine gk_seq (by kernel_rfl) ?_
                  refine gk_block (by kernel_rfl) ?_
                  refine gk_seq (by kernel_rfl) ?_
                  refine gk_seq (by kernel_rfl) ?_
                  obtain ⟨j82, hj83, hb71⟩ := bind_some hb71
                  refine gk_join (fun t I' L' => I74 ≤ I' ∧ L = L' ∧ Knows 98 [(0, .string a0), (3, .int .i64 s7), (5, .int .i64 j37.1), (6, .int .i64 j37.2.1), (7, .int .i64 s69.1), (8, .int .i64 s69.2), (68, .bool j82)] t) ?_ ?_
                  · refine gk_region (by kernel_rfl) ?_
                    refine gl_pure 7 [0, 3, 5, 6, 7, 8, 60] (K' := [(0, .string a0), (3, .int .i64 s7), (5, .int .i64 j37.1), (6, .int .i64 j37.2.1), (7, .int .i64 s69.1), (8, .int .i64 s69.2), (60, .bool (decide ((IntKind.wrap .i64 (s7 + s69.2)) ≥ (a0.size : Int))))]) (by kernel_rfl) ?_
                    refine gl_case 60 (b := (decide ((IntKind.wrap .i64 (s7 + s69.2)) ≥ (a0.size : Int)))) (by kernel_rfl) (fun hc87 => ?_) (fun hc87 => ?_)
                    · have hj83 := cond_t hc87 hj83
                      refine gl_pure 8 [0, 3, 5, 6, 7, 8, 68] (K' := [(0, .string a0), (3, .int .i64 s7), (5, .int .i64 j37.1), (6, .int .i64 j37.2.1), (7, .int .i64 s69.1), (8, .int .i64 s69.2), (68, .bool true)]) (by kernel_rfl) ?_
                      refine gl_atE (by kernel_rfl) ?_
                      obtain rfl := some_inj hj83
                      exact ge_mid fun t ht => ⟨(Imm.refl _), rfl, ht.pick (l := [0, 3, 5, 6, 7, 8, 68]) (by kernel_rfl)⟩
                    · have hj83 := cond_f hc87 hj83
                      refine gl_pure 4 [0, 3, 5, 6, 7, 8, 60, 61, 64] (K' := [(0, .string a0), (3, .int .i64 s7), (5, .int .i64 j37.1), (6, .int .i64 j37.2.1), (7, .int .i64 s69.1), (8, .int .i64 s69.2), (60, .bool false), (61, .string a0), (64, .int .i64 (IntKind.wrap .i64 (s7 + s69.2)))]) (by kernel_rfl) ?_
                      obtain ⟨c88, hx89, hj83⟩ := bind_some hj83
                      refine gl_index' (T' := 9) (xs := (.tmp 61)) (xi := (.tmp 64)) (kd := .i64) hx89 (by kernel_rfl) (by kernel_rfl) (by kernel_rfl) (by kernel_rfl) (by kernel_rfl) ?_
                      refine gl_pure 3 [0, 3, 5, 6, 7, 8, 68] (K' := [(0, .string a0), (3, .int .i64 s7), (5, .int .i64 j37.1), (6, .int .i64 j37.2.1), (7, .int .i64 s69.1), (8, .int .i64 s69.2), (68, .bool ((bitAnd .u8 c88 192) != 128))]) (by kernel_rfl) ?_
                      refine gl_atE (by kernel_rfl) ?_
                      obtain rfl := some_inj hj83
                      exact ge_mid fun t ht => ⟨(Imm.refl _), rfl, ht.pick (l := [0, 3, 5, 6, 7, 8, 68]) (by kernel_rfl)⟩
                  · rintro t I86 L' ⟨hI84, rfl, hK85⟩
                    refine ge_at hK85 ?_
                    refine ge_seq ?_
                    refine gk_cond (b := j82) (by kernel_rfl) (by kernel_rfl) (fun hc90 => ?_) (fun hc90 => ?_)
                    · have hb71 := cond_t hc90 hb71
                      refine gk_seq (by kernel_rfl) ?_
                      refine gk_region (by kernel_rfl) ?_
                      refine gl_pure 1 [2] (K' := [(2, .bool false)]) (by kernel_rfl) ?_
                      refine gl_atE (by kernel_rfl) ?_
                      refine ge_seq ?_
                      refine gk_ret (by kernel_rfl) ?_
                      refine ge_seq_ret ?_
                      refine ge_block_ret ?_
                      refine ge_seq_ret ?_
                      obtain rfl := some_inj hb71
                      refine ge_round_out (fun hrr => ?_) (by intro h; cases h)
                      obtain rfl := hrr
                      refine ge_block_ret ?_
                      refine ge_seq_ret ?_
                      refine ge_seq_ret ?_
                      refine ge_block_ret ?_
                      refine ge_seq_ret ?_
                      obtain rfl := some_inj hj21
                      obtain rfl := some_inj hb9
                      refine ge_round_out (fun hrr => ?_) (by intro h; cases h)
                      obtain rfl := hrr
                      refine ge_block_ret ?_
                      refine ge_seq_ret ?_
                      refine ge_seq_ret ?_
                      obtain rfl := some_inj hr
                      exact ge_result trivial (ResOk.tmp (by kernel_rfl) ResOk.nil) (Imm.trans (Imm.trans (Imm.trans (Imm.trans hI10 hI29) hI38) hI72) hI84) ⟨rfl, rfl⟩
                    · have hb71 := cond_f hc90 hb71
                      refine gk_skip (by kernel_rfl) ?_
                      refine ge_seq ?_
                      refine gk_region (by kernel_rfl) ?_
                      refine gl_pure 6 [0, 3, 5, 6, 8, 70, 71, 74] (K' := [(0, .string a0), (3, .int .i64 s7), (5, .int .i64 j37.1), (6, .int .i64 j37.2.1), (8, .int .i64 s69.2), (70, .int .i64 (IntKind.wrap .i64 (s69.1 * 64))), (71, .string a0), (74, .int .i64 (IntKind.wrap .i64 (s7 + s69.2)))]) (by kernel_rfl) ?_
                      obtain ⟨c91, hx92, hb71⟩ := bind_some hb71
                      refine gl_index' (T' := 9) (xs := (.tmp 71)) (xi := (.tmp 74)) (kd := .i64) hx92 (by kernel_rfl) (by kernel_rfl) (by kernel_rfl) (by kernel_rfl) (by kernel_rfl) ?_
                      refine gl_pure 4 [0, 3, 5, 6, 7, 8] (K' := [(0, .string a0), (3, .int .i64 s7), (5, .int .i64 j37.1), (6, .int .i64 j37.2.1), (7, .int .i64 (IntKind.wrap .i64 ((IntKind.wrap .i64 (s69.1 * 64)) + (IntKind.wrap .i64 (bitAnd .u8 c91 63))))), (8, .int .i64 s69.2)]) (by kernel_rfl) ?_
                      refine gl_atE (by kernel_rfl) ?_
                      refine ge_block_normal ?_
                      refine ge_seq ?_
                      refine gk_region (by kernel_rfl) ?_
                      refine gl_pure 3 [0, 3, 5, 6, 7, 8] (K' := [(0, .string a0), (3, .int .i64 s7), (5, .int .i64 j37.1), (6, .int .i64 j37.2.1), (7, .int .i64 (IntKind.wrap .i64 ((IntKind.wrap .i64 (s69.1 * 64)) + (IntKind.wrap .i64 (bitAnd .u8 c91 63))))), (8, .int .i64 (IntKind.wrap .i64 (s69.2 + 1)))]) (by kernel_rfl) ?_
                      refine gl_atE (by kernel_rfl) ?_
                      obtain rfl := some_inj hb71
                      exact ge_round fun t ht => ⟨(Imm.trans hI72 hI84), rfl, ht.pick (l := [0, 3, 5, 6, 7, 8]) (by kernel_rfl)⟩
                · have hb71 := cond_f hc81 hb71
                  refine gk_exit (by kernel_rfl) ?_
                  refine ge_seq_exit ?_
                  obtain rfl := some_inj hb71
                  refine ge_round_out (fun hrr => ?_) (by intro h; cases h)
                  obtain rfl := hrr
                  refine ge_block_hit (by kernel_rfl) ?_
                  exact ge_mid fun t ht => ⟨_, rfl, hI72, rfl, ht.pick (l := [0, 3, 5, 6, 7]) (by kernel_rfl)⟩
              · rintro t I78 L' ⟨r75, rfl, hI76, rfl, hK77⟩
                refine ge_at hK77 ?_
                refine ge_seq ?_
                refine gk_seq (by kernel_rfl) ?_
                refine gk_seq (by kernel_rfl) ?_
                obtain ⟨b95, hb96⟩ : ∃ z, z = (((decide (r75 < j37.2.1)) || (decide (r75 > 1114111))) || ((decide (r75 ≥ 55296)) && (decide (r75 < 57344)))) := ⟨_, rfl⟩
                refine gk_join (fun t I' L' => I78 ≤ I' ∧ L = L' ∧ Knows 98 [(0, .string a0), (3, .int .i64 s7), (5, .int .i64 j37.1), (93, .bool b95)] t) ?_ ?_
                · refine gk_region (by kernel_rfl) ?_
                  refine gl_pure 4 [0, 3, 5, 7, 82] (K' := [(0, .string a0), (3, .int .i64 s7), (5, .int .i64 j37.1), (7, .int .i64 r75), (82, .bool (decide (r75 < j37.2.1)))]) (by kernel_rfl) ?_
                  refine gl_case 82 (b := (decide (r75 < j37.2.1))) (by kernel_rfl) (fun hc98 => ?_) (fun hc98 => ?_)
                  · refine gl_pure 11 [0, 3, 5, 93] (K' := [(0, .string a0), (3, .int .i64 s7), (5, .int .i64 j37.1), (93, .bool true)]) (by kernel_rfl) ?_
                    refine gl_atE (by kernel_rfl) ?_
                    exact ge_mid fun t ht => ⟨(Imm.refl _), rfl, by rw [(show b95 = true from hb96.trans (by rw [hc98]; try rfl))]; exact ht.pick (l := [0, 3, 5, 93]) (by kernel_rfl)⟩
                  · refine gl_pure 4 [0, 3, 5, 7, 86] (K' := [(0, .string a0), (3, .int .i64 s7), (5, .int .i64 j37.1), (7, .int .i64 r75), (86, .bool (decide (r75 > 1114111)))]) (by kernel_rfl) ?_
                    refine gl_case 86 (b := (decide (r75 > 1114111))) (by kernel_rfl) (fun hc99 => ?_) (fun hc99 => ?_)
                    · refine gl_pure 7 [0, 3, 5, 93] (K' := [(0, .string a0), (3, .int .i64 s7), (5, .int .i64 j37.1), (93, .bool true)]) (by kernel_rfl) ?_
                      refine gl_atE (by kernel_rfl) ?_
                      exact ge_mid fun t ht => ⟨(Imm.refl _), rfl, by rw [(show b95 = true from hb96.trans (by rw [hc98, hc99]; try rfl))]; exact ht.pick (l := [0, 3, 5, 93]) (by kernel_rfl)⟩
                    · refine gl_pure 3 [0, 3, 5, 7, 86, 89] (K' := [(0, .string a0), (3, .int .i64 s7), (5, .int .i64 j37.1), (7, .int .i64 r75), (86, .bool false), (89, .bool (decide (r75 ≥ 55296)))]) (by kernel_rfl) ?_
                      refine gl_case 89 (b := (decide (r75 ≥ 55296))) (by kernel_rfl) (fun hc100 => ?_) (fun hc100 => ?_)
                      · refine gl_pure 4 [0, 3, 5, 93] (K' := [(0, .string a0), (3, .int .i64 s7), (5, .int .i64 j37.1), (93, .bool (decide (r75 < 57344)))]) (by kernel_rfl) ?_
                        refine gl_atE (by kernel_rfl) ?_
                        exact ge_mid fun t ht => ⟨(Imm.refl _), rfl, by rw [(show b95 = (decide (r75 < 57344)) from hb96.trans (by rw [hc98, hc99, hc100]; try rfl))]; exact ht.pick (l := [0, 3, 5, 93]) (by kernel_rfl)⟩
                      · refine gl_pure 4 [0, 3, 5, 93] (K' := [(0, .string a0), (3, .int .i64 s7), (5, .int .i64 j37.1), (93, .bool false)]) (by kernel_rfl) ?_
                        refine gl_atE (by kernel_rfl) ?_
                        exact ge_mid fun t ht => ⟨(Imm.refl _), rfl, by rw [(show b95 = false from hb96.trans (by rw [hc98, hc99, hc100]; try rfl))]; exact ht.pick (l := [0, 3, 5, 93]) (by kernel_rfl)⟩
                · rintro t I97 L' ⟨hI93, rfl, hK94⟩
                  subst hb96
                  refine ge_at hK94 ?_
                  refine ge_seq ?_
                  refine gk_cond (b := (((decide (r75 < j37.2.1)) || (decide (r75 > 1114111))) || ((decide (r75 ≥ 55296)) && (decide (r75 < 57344))))) (by kernel_rfl) (by kernel_rfl) (fun hc101 => ?_) (fun hc101 => ?_)
                  · have hj21 := cond_t hc101 hj21
                    refine gk_seq (by kernel_rfl) ?_
                    refine gk_region (by kernel_rfl) ?_
                    refine gl_pure 1 [2] (K' := [(2, .bool false)]) (by kernel_rfl) ?_
                    refine gl_atE (by kernel_rfl) ?_
                    refine ge_seq ?_
                    refine gk_ret (by kernel_rfl) ?_
                    refine ge_seq_ret ?_
                    refine ge_block_ret ?_
                    refine ge_seq_ret ?_
                    obtain rfl := some_inj hj21
                    obtain rfl := some_inj hb9
                    refine ge_round_out (fun hrr => ?_) (by intro h; cases h)
                    obtain rfl := hrr
                    refine ge_block_ret ?_
                    refine ge_seq_ret ?_
                    refine ge_seq_ret ?_
                    obtain rfl := some_inj hr
                    exact ge_result trivial (ResOk.tmp (by kernel_rfl) ResOk.nil) (Imm.trans (Imm.trans (Imm.trans (Imm.trans hI10 hI29) hI38) hI76) hI93) ⟨rfl, rfl⟩
                  · have hj21 := cond_f hc101 hj21
                    refine gk_skip (by kernel_rfl) ?_
                    refine ge_seq ?_
                    refine gk_region (by kernel_rfl) ?_
                    refine gl_pure 5 [0, 3] (K' := [(0, .string a0), (3, .int .i64 (IntKind.wrap .i64 ((IntKind.wrap .i64 (s7 + j37.1)) + 1)))]) (by kernel_rfl) ?_
                    refine gl_atE (by kernel_rfl) ?_
                    refine ge_block_normal ?_
                    obtain rfl := some_inj hj21
                    exact ge_mid fun t ht => ⟨_, rfl, (Imm.trans (Imm.trans (Imm.trans hI29 hI38) hI76) hI93), rfl, ht.pick (l := [0, 3]) (by kernel_rfl)⟩
      · rintro t I25 L' ⟨j22, rfl, hI23, rfl, hK24⟩
        refine ge_at hK24 ?_
        obtain rfl := some_inj hb9
        exact ge_round fun t ht => ⟨(Imm.trans hI10 hI23), rfl, ht.pick (l := [0, 3]) (by kernel_rfl)⟩
    · have hb9 := cond_f hc19 hb9
      refine gk_exit (by kernel_rfl) ?_
      refine ge_seq_exit ?_
      obtain rfl := some_inj hb9
      refine ge_round_out (fun hrr => ?_) (by intro h; cases h)
      obtain rfl := hrr
      refine ge_block_hit (by kernel_rfl) ?_
      exact ge_mid fun t ht => ⟨_, rfl, hI10, rfl, ht.pick (l := []) (by kernel_rfl)⟩
  · rintro t I16 L' ⟨r13, rfl, hI14, rfl, hK15⟩
    refine ge_at hK15 ?_
    refine ge_seq ?_
    refine gk_seq (by kernel_rfl) ?_
    refine gk_region (by kernel_rfl) ?_
    refine gl_pure 1 [2] (K' := [(2, .bool true)]) (by kernel_rfl) ?_
    refine gl_atE (by kernel_rfl) ?_
    refine ge_seq ?_
    refine gk_ret (by kernel_rfl) ?_
    obtain rfl := some_inj hr
    exact ge_result trivial (ResOk.tmp (by kernel_rfl) ResOk.nil) hI14 ⟨rfl, rfl⟩
/-! 68 tocsinref26_time  -/
noncomputable def tocsinref26_time (a0 : Int) : Bool :=
  ((decide (a0 ≥ 0)) && (decide (a0 ≤ 1125899906842624)))
theorem tocsinref26_time_walk {a0 : Int} {I : Imm} {r : Bool}  (hr : tocsinref26_time a0 = r) (L : Own) :
    CallsTo Tryd.prog 68 #[.int .i64 a0] I L (fun v I' L' => v = .bool r ∧ L = L') := by
  replace hr : some (tocsinref26_time a0) = some r := congrArg some hr
  unfold tocsinref26_time at hr
  refine callsTo_body (N := 9) Tryd.func68 (by kernel_rfl) (by kernel_rfl) (by kernel_rfl) ?_
  refine gk_pick [0] (K' := [(0, .int .i64 a0)]) (by kernel_rfl) ?_
  refine gk_seq (by kernel_rfl) ?_
  refine gk_region (by kernel_rfl) ?_
  refine gl_pure 1 [0] (K' := [(0, .int .i64 a0)]) (by kernel_rfl) ?_
  refine gl_atE (by kernel_rfl) ?_
  refine ge_seq ?_
  refine gk_seq (by kernel_rfl) ?_
  obtain ⟨b3, hb4⟩ : ∃ z, z = ((decide (a0 ≥ 0)) && (decide (a0 ≤ 1125899906842624))) := ⟨_, rfl⟩
  refine gk_join (fun t I' L' => I ≤ I' ∧ L = L' ∧ Knows 9 [(2, .bool b3)] t) ?_ ?_
  · refine gk_region (by kernel_rfl) ?_
    refine gl_pure 3 [0, 5] (K' := [(0, .int .i64 a0), (5, .bool (decide (a0 ≥ 0)))]) (by kernel_rfl) ?_
    refine gl_case 5 (b := (decide (a0 ≥ 0))) (by kernel_rfl) (fun hc6 => ?_) (fun hc6 => ?_)
    · refine gl_pure 4 [2] (K' := [(2, .bool (decide (a0 ≤ 1125899906842624)))]) (by kernel_rfl) ?_
      refine gl_atE (by kernel_rfl) ?_
      exact ge_mid fun t ht => ⟨(Imm.refl _), rfl, by rw [(show b3 = (decide (a0 ≤ 1125899906842624)) from hb4.trans (by rw [hc6]; try rfl))]; exact ht.pick (l := [2]) (by kernel_rfl)⟩
    · refine gl_pure 4 [2] (K' := [(2, .bool false)]) (by kernel_rfl) ?_
      refine gl_atE (by kernel_rfl) ?_
      exact ge_mid fun t ht => ⟨(Imm.refl _), rfl, by rw [(show b3 = false from hb4.trans (by rw [hc6]; try rfl))]; exact ht.pick (l := [2]) (by kernel_rfl)⟩
  · rintro t I5 L' ⟨hI1, rfl, hK2⟩
    subst hb4
    refine ge_at hK2 ?_
    refine ge_seq ?_
    refine gk_ret (by kernel_rfl) ?_
    obtain rfl := some_inj hr
    exact ge_result trivial (ResOk.tmp (by kernel_rfl) ResOk.nil) hI1 ⟨rfl, rfl⟩
/-! 88 tocsinref04_letter  -/
noncomputable def tocsinref04_letter (a0 : Int) : Bool :=
  ((((decide (a0 ≥ 97)) && (decide (a0 ≤ 122))) || ((decide (a0 ≥ 65)) && (decide (a0 ≤ 90)))) || (a0 == 95))
theorem tocsinref04_letter_walk {a0 : Int} {I : Imm} {r : Bool}  (hr : tocsinref04_letter a0 = r) (L : Own) :
    CallsTo Tryd.prog 88 #[.int .u8 a0] I L (fun v I' L' => v = .bool r ∧ L = L') := by
  replace hr : some (tocsinref04_letter a0) = some r := congrArg some hr
  unfold tocsinref04_letter at hr
  refine callsTo_body (N := 21) Tryd.func88 (by kernel_rfl) (by kernel_rfl) (by kernel_rfl) ?_
  refine gk_pick [0] (K' := [(0, .int .u8 a0)]) (by kernel_rfl) ?_
  refine gk_seq (by kernel_rfl) ?_
  refine gk_region (by kernel_rfl) ?_
  refine gl_pure 1 [0] (K' := [(0, .int .u8 a0)]) (by kernel_rfl) ?_
  refine gl_atE (by kernel_rfl) ?_
  refine ge_seq ?_
  refine gk_seq (by kernel_rfl) ?_
  obtain ⟨b3, hb4⟩ : ∃ z, z = ((((decide (a0 ≥ 97)) && (decide (a0 ≤ 122))) || ((decide (a0 ≥ 65)) && (decide (a0 ≤ 90)))) || (a0 == 95)) := ⟨_, rfl⟩
  refine gk_join (fun t I' L' => I ≤ I' ∧ L = L' ∧ Knows 21 [(2, .bool b3)] t) ?_ ?_
  · refine gk_region (by kernel_rfl) ?_
    refine gl_pure 3 [0, 5] (K' := [(0, .int .u8 a0), (5, .bool (decide (a0 ≥ 97)))]) (by kernel_rfl) ?_
    refine gl_case 5 (b := (decide (a0 ≥ 97))) (by kernel_rfl) (fun hc6 => ?_) (fun hc6 => ?_)
    · refine gl_pure 4 [0, 9] (K' := [(0, .int .u8 a0), (9, .bool (decide (a0 ≤ 122)))]) (by kernel_rfl) ?_
      refine gl_case 9 (b := (decide (a0 ≤ 122))) (by kernel_rfl) (fun hc7 => ?_) (fun hc7 => ?_)
      · refine gl_pure 12 [2] (K' := [(2, .bool true)]) (by kernel_rfl) ?_
        refine gl_atE (by kernel_rfl) ?_
        exact ge_mid fun t ht => ⟨(Imm.refl _), rfl, by rw [(show b3 = true from hb4.trans (by rw [hc6, hc7]; try rfl))]; exact ht.pick (l := [2]) (by kernel_rfl)⟩
      · refine gl_pure 3 [0, 9, 12] (K' := [(0, .int .u8 a0), (9, .bool false), (12, .bool (decide (a0 ≥ 65)))]) (by kernel_rfl) ?_
        refine gl_case 12 (b := (decide (a0 ≥ 65))) (by kernel_rfl) (fun hc8 => ?_) (fun hc8 => ?_)
        · refine gl_pure 5 [0, 17] (K' := [(0, .int .u8 a0), (17, .bool (decide (a0 ≤ 90)))]) (by kernel_rfl) ?_
          refine gl_case 17 (b := (decide (a0 ≤ 90))) (by kernel_rfl) (fun hc9 => ?_) (fun hc9 => ?_)
          · refine gl_pure 4 [2] (K' := [(2, .bool true)]) (by kernel_rfl) ?_
            refine gl_atE (by kernel_rfl) ?_
            exact ge_mid fun t ht => ⟨(Imm.refl _), rfl, by rw [(show b3 = true from hb4.trans (by rw [hc6, hc7, hc8, hc9]; try rfl))]; exact ht.pick (l := [2]) (by kernel_rfl)⟩
          · refine gl_pure 4 [2] (K' := [(2, .bool (a0 == 95))]) (by kernel_rfl) ?_
            refine gl_atE (by kernel_rfl) ?_
            exact ge_mid fun t ht => ⟨(Imm.refl _), rfl, by rw [(show b3 = (a0 == 95) from hb4.trans (by rw [hc6, hc7, hc8, hc9]; try rfl))]; exact ht.pick (l := [2]) (by kernel_rfl)⟩
        · refine gl_pure 9 [2] (K' := [(2, .bool (a0 == 95))]) (by kernel_rfl) ?_
          refine gl_atE (by kernel_rfl) ?_
          exact ge_mid fun t ht => ⟨(Imm.refl _), rfl, by rw [(show b3 = (a0 == 95) from hb4.trans (by rw [hc6, hc7, hc8]; try rfl))]; exact ht.pick (l := [2]) (by kernel_rfl)⟩
    · refine gl_pure 7 [0, 9, 12] (K' := [(0, .int .u8 a0), (9, .bool false), (12, .bool (decide (a0 ≥ 65)))]) (by kernel_rfl) ?_
      refine gl_case 12 (b := (decide (a0 ≥ 65))) (by kernel_rfl) (fun hc10 => ?_) (fun hc10 => ?_)
      · refine gl_pure 5 [0, 17] (K' := [(0, .int .u8 a0), (17, .bool (decide (a0 ≤ 90)))]) (by kernel_rfl) ?_
        refine gl_case 17 (b := (decide (a0 ≤ 90))) (by kernel_rfl) (fun hc11 => ?_) (fun hc11 => ?_)
        · refine gl_pure 4 [2] (K' := [(2, .bool true)]) (by kernel_rfl) ?_
          refine gl_atE (by kernel_rfl) ?_
          exact ge_mid fun t ht => ⟨(Imm.refl _), rfl, by rw [(show b3 = true from hb4.trans (by rw [hc6, hc10, hc11]; try rfl))]; exact ht.pick (l := [2]) (by kernel_rfl)⟩
        · refine gl_pure 4 [2] (K' := [(2, .bool (a0 == 95))]) (by kernel_rfl) ?_
          refine gl_atE (by kernel_rfl) ?_
          exact ge_mid fun t ht => ⟨(Imm.refl _), rfl, by rw [(show b3 = (a0 == 95) from hb4.trans (by rw [hc6, hc10, hc11]; try rfl))]; exact ht.pick (l := [2]) (by kernel_rfl)⟩
      · refine gl_pure 9 [2] (K' := [(2, .bool (a0 == 95))]) (by kernel_rfl) ?_
        refine gl_atE (by kernel_rfl) ?_
        exact ge_mid fun t ht => ⟨(Imm.refl _), rfl, by rw [(show b3 = (a0 == 95) from hb4.trans (by rw [hc6, hc10]; try rfl))]; exact ht.pick (l := [2]) (by kernel_rfl)⟩
  · rintro t I5 L' ⟨hI1, rfl, hK2⟩
    subst hb4
    refine ge_at hK2 ?_
    refine ge_seq ?_
    refine gk_ret (by kernel_rfl) ?_
    obtain rfl := some_inj hr
    exact ge_result trivial (ResOk.tmp (by kernel_rfl) ResOk.nil) hI1 ⟨rfl, rfl⟩
/-! 89 tocsinref04_digit  -/
noncomputable def tocsinref04_digit (a0 : Int) : Bool :=
  ((decide (a0 ≥ 48)) && (decide (a0 ≤ 57)))
theorem tocsinref04_digit_walk {a0 : Int} {I : Imm} {r : Bool}  (hr : tocsinref04_digit a0 = r) (L : Own) :
    CallsTo Tryd.prog 89 #[.int .u8 a0] I L (fun v I' L' => v = .bool r ∧ L = L') := by
  replace hr : some (tocsinref04_digit a0) = some r := congrArg some hr
  unfold tocsinref04_digit at hr
  refine callsTo_body (N := 9) Tryd.func89 (by kernel_rfl) (by kernel_rfl) (by kernel_rfl) ?_
  refine gk_pick [0] (K' := [(0, .int .u8 a0)]) (by kernel_rfl) ?_
  refine gk_seq (by kernel_rfl) ?_
  refine gk_region (by kernel_rfl) ?_
  refine gl_pure 1 [0] (K' := [(0, .int .u8 a0)]) (by kernel_rfl) ?_
  refine gl_atE (by kernel_rfl) ?_
  refine ge_seq ?_
  refine gk_seq (by kernel_rfl) ?_
  obtain ⟨b3, hb4⟩ : ∃ z, z = ((decide (a0 ≥ 48)) && (decide (a0 ≤ 57))) := ⟨_, rfl⟩
  refine gk_join (fun t I' L' => I ≤ I' ∧ L = L' ∧ Knows 9 [(2, .bool b3)] t) ?_ ?_
  · refine gk_region (by kernel_rfl) ?_
    refine gl_pure 3 [0, 5] (K' := [(0, .int .u8 a0), (5, .bool (decide (a0 ≥ 48)))]) (by kernel_rfl) ?_
    refine gl_case 5 (b := (decide (a0 ≥ 48))) (by kernel_rfl) (fun hc6 => ?_) (fun hc6 => ?_)
    · refine gl_pure 4 [2] (K' := [(2, .bool (decide (a0 ≤ 57)))]) (by kernel_rfl) ?_
      refine gl_atE (by kernel_rfl) ?_
      exact ge_mid fun t ht => ⟨(Imm.refl _), rfl, by rw [(show b3 = (decide (a0 ≤ 57)) from hb4.trans (by rw [hc6]; try rfl))]; exact ht.pick (l := [2]) (by kernel_rfl)⟩
    · refine gl_pure 4 [2] (K' := [(2, .bool false)]) (by kernel_rfl) ?_
      refine gl_atE (by kernel_rfl) ?_
      exact ge_mid fun t ht => ⟨(Imm.refl _), rfl, by rw [(show b3 = false from hb4.trans (by rw [hc6]; try rfl))]; exact ht.pick (l := [2]) (by kernel_rfl)⟩
  · rintro t I5 L' ⟨hI1, rfl, hK2⟩
    subst hb4
    refine ge_at hK2 ?_
    refine ge_seq ?_
    refine gk_ret (by kernel_rfl) ?_
    obtain rfl := some_inj hr
    exact ge_result trivial (ResOk.tmp (by kernel_rfl) ResOk.nil) hI1 ⟨rfl, rfl⟩
end Go.Proofs.YtlkmfhccpcncnaaDoor
