import Derived.Test.YtjkkmbjkndageaaDoorProg
import Derived.Test.YtjkkmbjkndageaaDoorChecked
import Derived.Test.YtjkkmbjkndageaaDoorGB26
import Derived.Test.YtjkkmbjkndageaaDoorSpX
import Derived.Lib.LaidU8T
import Derived.Shelf.Unicode.ValidAny
set_option linter.unusedVariables false
set_option linter.unusedSimpArgs false
set_option maxRecDepth 100000
namespace Go.Proofs.YtjkkmbjkndageaaDoor
open Go.GB
structure S97 where
  f0 : Int
  f1 : Int
def kS97 : Kd S97 := Kd.iso (Kd.pair (Kd.int .u8) (Kd.int .u8)) (fun x => (x.f0, x.f1))
def wS97 (x : S97) (n : Nat) : Prop := ∃ n0 n1, n0 + n1 + 1 ≤ n ∧ (wInt .u8) x.f0 n0 ∧ (wInt .u8) x.f1 n1
theorem kS97_open {I : Imm} {x : S97} {cs : List Value} (h : kS97.R I x cs) : cs = [.int .u8 x.f0, .int .u8 x.f1] := by
  obtain ⟨_, _, rfl, h_0, h_1⟩ := h
  obtain rfl := h_0
  obtain rfl := h_1
  exact rfl
theorem kS97_mk {I : Imm} {x : S97}   : kS97.R I x [.int .u8 x.f0, .int .u8 x.f1] :=
  ⟨[.int .u8 x.f0], [.int .u8 x.f1], rfl, rfl, rfl⟩
def tab0 : List Int := (List.range 256).map fun c => (Go.Lib.firstT c : Int)
def tab1 : List S97 := (List.range 16).map fun i => ⟨(Go.Lib.accLo i : Int), (Go.Lib.accHi i : Int)⟩
structure Gl (I : Imm) : Prop where
  dr : I.dr = 0
  g0 : RepS (Kd.int .u8) I (some ⟨0, 0, none⟩) 256 tab0
  g1 : RepS kS97 I (some ⟨1, 0, none⟩) 16 tab1
theorem Gl.mono {I J : Imm} (h : Gl I) (hI : I ≤ J) : Gl J := ⟨hI.dr.trans h.dr, h.g0.mono hI, h.g1.mono hI⟩
structure S53 where
  f0 : ByteArray
  f1 : ByteArray
def kS53 : Kd S53 := Kd.iso (Kd.pair Kd.str Kd.str) (fun x => (x.f0, x.f1))
def wS53 (x : S53) (n : Nat) : Prop := ∃ n0 n1, n0 + n1 + 1 ≤ n ∧ wStr x.f0 n0 ∧ wStr x.f1 n1
theorem kS53_open {I : Imm} {x : S53} {cs : List Value} (h : kS53.R I x cs) : cs = [.string x.f0, .string x.f1] := by
  obtain ⟨_, _, rfl, h_0, h_1⟩ := h
  obtain rfl := h_0
  obtain rfl := h_1
  exact rfl
theorem kS53_mk {I : Imm} {x : S53}   : kS53.R I x [.string x.f0, .string x.f1] :=
  ⟨[.string x.f0], [.string x.f1], rfl, rfl, rfl⟩
structure S23 where
  f0 : ByteArray
  f1 : ByteArray
  f2 : Int
  f3 : List (List S53)
  f4 : List (List S53)
def kS23 : Kd S23 := Kd.iso (Kd.pair Kd.str (Kd.pair Kd.str (Kd.pair (Kd.int .i64) (Kd.pair (Kd.sl (Kd.sl kS53)) (Kd.sl (Kd.sl kS53)))))) (fun x => (x.f0, x.f1, x.f2, x.f3, x.f4))
def wS23 (x : S23) (n : Nat) : Prop := ∃ n0 n1 n2 n3 n4, n0 + n1 + n2 + n3 + n4 + 1 ≤ n ∧ wStr x.f0 n0 ∧ wStr x.f1 n1 ∧ (wInt .i64) x.f2 n2 ∧ (wSl (wSl wS53)) x.f3 n3 ∧ (wSl (wSl wS53)) x.f4 n4
theorem kS23_open {I : Imm} {x : S23} {cs : List Value} (h : kS23.R I x cs) : ∃ A3 c3 A4 c4, RepS (Kd.sl kS53) I A3 c3 x.f3 ∧ RepS (Kd.sl kS53) I A4 c4 x.f4 ∧ cs = [.string x.f0, .string x.f1, .int .i64 x.f2, .slice A3 x.f3.length c3, .slice A4 x.f4.length c4] := by
  obtain ⟨_, _, rfl, h_0, ⟨_, _, rfl, h_1, ⟨_, _, rfl, h_2, ⟨_, _, rfl, ⟨A_3, c_3, rfl, h_3⟩, ⟨A_4, c_4, rfl, h_4⟩⟩⟩⟩⟩ := h
  obtain rfl := h_0
  obtain rfl := h_1
  obtain rfl := h_2
  exact ⟨A_3, c_3, A_4, c_4, h_3, h_4, rfl⟩
theorem kS23_mk {I : Imm} {x : S23} {A3 : Option Addr} {c3 : Nat} {A4 : Option Addr} {c4 : Nat} (h3 : RepS (Kd.sl kS53) I A3 c3 x.f3) (h4 : RepS (Kd.sl kS53) I A4 c4 x.f4) : kS23.R I x [.string x.f0, .string x.f1, .int .i64 x.f2, .slice A3 x.f3.length c3, .slice A4 x.f4.length c4] :=
  ⟨[.string x.f0], [.string x.f1, .int .i64 x.f2, .slice A3 x.f3.length c3, .slice A4 x.f4.length c4], rfl, rfl, ⟨[.string x.f1], [.int .i64 x.f2, .slice A3 x.f3.length c3, .slice A4 x.f4.length c4], rfl, rfl, ⟨[.int .i64 x.f2], [.slice A3 x.f3.length c3, .slice A4 x.f4.length c4], rfl, rfl, ⟨[.slice A3 x.f3.length c3], [.slice A4 x.f4.length c4], rfl, ⟨_, _, rfl, h3⟩, ⟨_, _, rfl, h4⟩⟩⟩⟩⟩
structure S59 where
  f0 : ByteArray
  f1 : ByteArray
def kS59 : Kd S59 := Kd.iso (Kd.pair Kd.str Kd.str) (fun x => (x.f0, x.f1))
def wS59 (x : S59) (n : Nat) : Prop := ∃ n0 n1, n0 + n1 + 1 ≤ n ∧ wStr x.f0 n0 ∧ wStr x.f1 n1
theorem kS59_open {I : Imm} {x : S59} {cs : List Value} (h : kS59.R I x cs) : cs = [.string x.f0, .string x.f1] := by
  obtain ⟨_, _, rfl, h_0, h_1⟩ := h
  obtain rfl := h_0
  obtain rfl := h_1
  exact rfl
theorem kS59_mk {I : Imm} {x : S59}   : kS59.R I x [.string x.f0, .string x.f1] :=
  ⟨[.string x.f0], [.string x.f1], rfl, rfl, rfl⟩
structure S76 where
  f0 : S59
  f1 : S23
def kS76 : Kd S76 := Kd.iso (Kd.pair kS59 kS23) (fun x => (x.f0, x.f1))
def wS76 (x : S76) (n : Nat) : Prop := ∃ n0 n1, n0 + n1 + 1 ≤ n ∧ wS59 x.f0 n0 ∧ wS23 x.f1 n1
theorem kS76_open {I : Imm} {x : S76} {cs : List Value} (h : kS76.R I x cs) : ∃ A5 c5 A6 c6, RepS (Kd.sl kS53) I A5 c5 x.f1.f3 ∧ RepS (Kd.sl kS53) I A6 c6 x.f1.f4 ∧ cs = [.string x.f0.f0, .string x.f0.f1, .string x.f1.f0, .string x.f1.f1, .int .i64 x.f1.f2, .slice A5 x.f1.f3.length c5, .slice A6 x.f1.f4.length c6] := by
  obtain ⟨_, _, rfl, h_0, h_1⟩ := h
  obtain rfl := kS59_open h_0
  obtain ⟨A_1_3, c_1_3, A_1_4, c_1_4, h_1_3, h_1_4, rfl⟩ := kS23_open h_1
  exact ⟨A_1_3, c_1_3, A_1_4, c_1_4, h_1_3, h_1_4, rfl⟩
theorem kS76_mk {I : Imm} {x : S76} {A5 : Option Addr} {c5 : Nat} {A6 : Option Addr} {c6 : Nat} (h5 : RepS (Kd.sl kS53) I A5 c5 x.f1.f3) (h6 : RepS (Kd.sl kS53) I A6 c6 x.f1.f4) : kS76.R I x [.string x.f0.f0, .string x.f0.f1, .string x.f1.f0, .string x.f1.f1, .int .i64 x.f1.f2, .slice A5 x.f1.f3.length c5, .slice A6 x.f1.f4.length c6] :=
  ⟨[.string x.f0.f0, .string x.f0.f1], [.string x.f1.f0, .string x.f1.f1, .int .i64 x.f1.f2, .slice A5 x.f1.f3.length c5, .slice A6 x.f1.f4.length c6], rfl, kS59_mk , kS23_mk h5 h6⟩
structure S43 where
  f0 : List S76
def kS43 : Kd S43 := Kd.iso (Kd.sl kS76) (fun x => x.f0)
def wS43 (x : S43) (n : Nat) : Prop := ∃ n0, n0 + 1 ≤ n ∧ (wSl wS76) x.f0 n0
theorem kS43_open {I : Imm} {x : S43} {cs : List Value} (h : kS43.R I x cs) : ∃ A0 c0, RepS kS76 I A0 c0 x.f0 ∧ cs = [.slice A0 x.f0.length c0] := by
  obtain ⟨A_0, c_0, rfl, h_0⟩ := h
  exact ⟨A_0, c_0, h_0, rfl⟩
theorem kS43_mk {I : Imm} {x : S43} {A0 : Option Addr} {c0 : Nat} (h0 : RepS kS76 I A0 c0 x.f0) : kS43.R I x [.slice A0 x.f0.length c0] :=
  ⟨_, _, rfl, h0⟩
structure S45 where
  f0 : S43
def kS45 : Kd S45 := Kd.iso kS43 (fun x => x.f0)
def wS45 (x : S45) (n : Nat) : Prop := ∃ n0, n0 + 1 ≤ n ∧ wS43 x.f0 n0
theorem kS45_open {I : Imm} {x : S45} {cs : List Value} (h : kS45.R I x cs) : ∃ A0 c0, RepS kS76 I A0 c0 x.f0.f0 ∧ cs = [.slice A0 x.f0.f0.length c0] := by
  have h_0 := h
  obtain ⟨A_0_0, c_0_0, h_0_0, rfl⟩ := kS43_open h_0
  exact ⟨A_0_0, c_0_0, h_0_0, rfl⟩
theorem kS45_mk {I : Imm} {x : S45} {A0 : Option Addr} {c0 : Nat} (h0 : RepS kS76 I A0 c0 x.f0.f0) : kS45.R I x [.slice A0 x.f0.f0.length c0] :=
  kS43_mk h0
/-! 4 nflog_New  -/
noncomputable def nflog_New : S45 :=
  (⟨(⟨[]⟩ : S43)⟩ : S45)
theorem nflog_New_walk  {I : Imm} {r : S45}  (hr : nflog_New = r) (L : Own) :
    CallsTo Tryd.prog 4 #[] I L (fun v I' L' => ∃ g0 A0_0 c0_0 C0_0, OwnS kS76 77 I' A0_0 c0_0 r.f0.f0 C0_0 ∧ v = .pointer (some ⟨g0, 0, none⟩) ∧ (g0, .cells #[.slice A0_0 r.f0.f0.length c0_0] 46) :: (C0_0 ++ L) = L') := by
  replace hr : some (nflog_New) = some r := congrArg some hr
  unfold nflog_New at hr
  refine callsTo_body (N := 3) Tryd.func4 (by kernel_rfl) (by kernel_rfl) (by kernel_rfl) ?_
  refine gk_pick [] (K' := []) (by kernel_rfl) ?_
  refine gk_seq (by kernel_rfl) ?_
  refine gk_region (by kernel_rfl) ?_
  refine gl_pure 1 [] (K' := []) (by kernel_rfl) ?_
  refine gl_atE (by kernel_rfl) ?_
  refine ge_seq ?_
  refine gk_seq (by kernel_rfl) ?_
  refine gk_region (by kernel_rfl) ?_
  refine gl_pure 1 [1] (K' := [(1, .agg #[.slice none 0 0])]) (by kernel_rfl) ?_
  refine gl_box (T' := 46) (x := (.tmp 1)) (v := .agg #[.slice none 0 0]) (cs := #[.slice none 0 0]) (by kernel_rfl) (by kernel_rfl) (by kernel_rfl) (by kernel_rfl) (fun g1 => ?_)
  refine gl_pure 1 [0] (K' := [(0, .pointer (some ⟨g1, 0, none⟩))]) (by kernel_rfl) ?_
  refine gl_atE (by kernel_rfl) ?_
  refine ge_seq ?_
  refine gk_ret (by kernel_rfl) ?_
  obtain rfl := some_inj hr
  exact ge_result trivial (ResOk.tmp (by kernel_rfl) ResOk.nil) (Imm.refl _) ⟨g1, none, 0, [], OwnS.nil _ _ _ _, rfl, rfl⟩
/-! 29 tocsinref04_letter  -/
noncomputable def tocsinref04_letter (a0 : Int) : Bool :=
  ((((decide (a0 ≥ 97)) && (decide (a0 ≤ 122))) || ((decide (a0 ≥ 65)) && (decide (a0 ≤ 90)))) || (a0 == 95))
theorem tocsinref04_letter_walk {a0 : Int} {I : Imm} {r : Bool}  (hr : tocsinref04_letter a0 = r) (L : Own) :
    CallsTo Tryd.prog 29 #[.int .u8 a0] I L (fun v I' L' => v = .bool r ∧ L = L') := by
  replace hr : some (tocsinref04_letter a0) = some r := congrArg some hr
  unfold tocsinref04_letter at hr
  refine callsTo_body (N := 21) Tryd.func29 (by kernel_rfl) (by kernel_rfl) (by kernel_rfl) ?_
  refine gk_pick [0] (K' := [(0, .int .u8 a0)]) (by kernel_rfl) ?_
  refine gk_seq (by kernel_rfl) ?_
  refine gk_region (by kernel_rfl) ?_
  refine gl_pure 1 [0] (K' := [(0, .int .u8 a0)]) (by kernel_rfl) ?_
  refine gl_atE (by kernel_rfl) ?_
  refine ge_seq ?_
  refine gk_seq (by kernel_rfl) ?_
  obtain ⟨b3, hb4⟩ : ∃ z, z = ((((decide (a0 ≥ 97)) && (decide (a0 ≤ 122))) || ((decide (a0 ≥ 65)) && (decide (a0 ≤ 90)))) || (a0 == 95)) := ⟨_, rfl⟩
  refine gk_join (fun t I' L' => I ≤ I' ∧ L = L' ∧ Knows 21 [(2, .bool b3)] t) ?_ ?_
  · refine gk_region (by kernel_rfl) ?_
    refine gl_pure 3 [0, 5] (K' := [(0, .int .u8 a0), (5, .bool (decide (a0 ≥ 97)))]) (by kernel_rfl) ?_
    refine gl_case 5 (b := (decide (a0 ≥ 97))) (by kernel_rfl) (fun hc6 => ?_) (fun hc6 => ?_)
    · refine gl_pure 4 [0, 9] (K' := [(0, .int .u8 a0), (9, .bool (decide (a0 ≤ 122)))]) (by kernel_rfl) ?_
      refine gl_case 9 (b := (decide (a0 ≤ 122))) (by kernel_rfl) (fun hc7 => ?_) (fun hc7 => ?_)
      · refine gl_pure 12 [2] (K' := [(2, .bool true)]) (by kernel_rfl) ?_
        refine gl_atE (by kernel_rfl) ?_
        exact ge_mid fun t ht => ⟨(Imm.refl _), rfl, by rw [(show b3 = true from hb4.trans (by first | (rw [hc6, hc7]; done) | (rw [hc6, hc7]; rfl) | (simp [hc6, hc7]; done) | (simp only [hc6, hc7]; rfl) | (simp at *; omega)))]; exact ht.pick (l := [2]) (by kernel_rfl)⟩
      · refine gl_pure 3 [0, 9, 12] (K' := [(0, .int .u8 a0), (9, .bool false), (12, .bool (decide (a0 ≥ 65)))]) (by kernel_rfl) ?_
        refine gl_case 12 (b := (decide (a0 ≥ 65))) (by kernel_rfl) (fun hc8 => ?_) (fun hc8 => ?_)
        · refine gl_pure 5 [0, 17] (K' := [(0, .int .u8 a0), (17, .bool (decide (a0 ≤ 90)))]) (by kernel_rfl) ?_
          refine gl_case 17 (b := (decide (a0 ≤ 90))) (by kernel_rfl) (fun hc9 => ?_) (fun hc9 => ?_)
          · refine gl_pure 4 [2] (K' := [(2, .bool true)]) (by kernel_rfl) ?_
            refine gl_atE (by kernel_rfl) ?_
            exact ge_mid fun t ht => ⟨(Imm.refl _), rfl, by rw [(show b3 = true from hb4.trans (by first | (rw [hc6, hc7, hc8, hc9]; done) | (rw [hc6, hc7, hc8, hc9]; rfl) | (simp [hc6, hc7, hc8, hc9]; done) | (simp only [hc6, hc7, hc8, hc9]; rfl) | (simp at *; omega)))]; exact ht.pick (l := [2]) (by kernel_rfl)⟩
          · refine gl_pure 4 [2] (K' := [(2, .bool (a0 == 95))]) (by kernel_rfl) ?_
            refine gl_atE (by kernel_rfl) ?_
            exact ge_mid fun t ht => ⟨(Imm.refl _), rfl, by rw [(show b3 = (a0 == 95) from hb4.trans (by first | (rw [hc6, hc7, hc8, hc9]; done) | (rw [hc6, hc7, hc8, hc9]; rfl) | (simp [hc6, hc7, hc8, hc9]; done) | (simp only [hc6, hc7, hc8, hc9]; rfl) | (simp at *; omega)))]; exact ht.pick (l := [2]) (by kernel_rfl)⟩
        · refine gl_pure 9 [2] (K' := [(2, .bool (a0 == 95))]) (by kernel_rfl) ?_
          refine gl_atE (by kernel_rfl) ?_
          exact ge_mid fun t ht => ⟨(Imm.refl _), rfl, by rw [(show b3 = (a0 == 95) from hb4.trans (by first | (rw [hc6, hc7, hc8]; done) | (rw [hc6, hc7, hc8]; rfl) | (simp [hc6, hc7, hc8]; done) | (simp only [hc6, hc7, hc8]; rfl) | (simp at *; omega)))]; exact ht.pick (l := [2]) (by kernel_rfl)⟩
    · refine gl_pure 7 [0, 9, 12] (K' := [(0, .int .u8 a0), (9, .bool false), (12, .bool (decide (a0 ≥ 65)))]) (by kernel_rfl) ?_
      refine gl_case 12 (b := (decide (a0 ≥ 65))) (by kernel_rfl) (fun hc10 => ?_) (fun hc10 => ?_)
      · refine gl_pure 5 [0, 17] (K' := [(0, .int .u8 a0), (17, .bool (decide (a0 ≤ 90)))]) (by kernel_rfl) ?_
        refine gl_case 17 (b := (decide (a0 ≤ 90))) (by kernel_rfl) (fun hc11 => ?_) (fun hc11 => ?_)
        · refine gl_pure 4 [2] (K' := [(2, .bool true)]) (by kernel_rfl) ?_
          refine gl_atE (by kernel_rfl) ?_
          exact ge_mid fun t ht => ⟨(Imm.refl _), rfl, by rw [(show b3 = true from hb4.trans (by first | (rw [hc6, hc10, hc11]; done) | (rw [hc6, hc10, hc11]; rfl) | (simp [hc6, hc10, hc11]; done) | (simp only [hc6, hc10, hc11]; rfl) | (simp at *; omega)))]; exact ht.pick (l := [2]) (by kernel_rfl)⟩
        · refine gl_pure 4 [2] (K' := [(2, .bool (a0 == 95))]) (by kernel_rfl) ?_
          refine gl_atE (by kernel_rfl) ?_
          exact ge_mid fun t ht => ⟨(Imm.refl _), rfl, by rw [(show b3 = (a0 == 95) from hb4.trans (by first | (rw [hc6, hc10, hc11]; done) | (rw [hc6, hc10, hc11]; rfl) | (simp [hc6, hc10, hc11]; done) | (simp only [hc6, hc10, hc11]; rfl) | (simp at *; omega)))]; exact ht.pick (l := [2]) (by kernel_rfl)⟩
      · refine gl_pure 9 [2] (K' := [(2, .bool (a0 == 95))]) (by kernel_rfl) ?_
        refine gl_atE (by kernel_rfl) ?_
        exact ge_mid fun t ht => ⟨(Imm.refl _), rfl, by rw [(show b3 = (a0 == 95) from hb4.trans (by first | (rw [hc6, hc10]; done) | (rw [hc6, hc10]; rfl) | (simp [hc6, hc10]; done) | (simp only [hc6, hc10]; rfl) | (simp at *; omega)))]; exact ht.pick (l := [2]) (by kernel_rfl)⟩
  · rintro t I5 L' ⟨hI1, rfl, hK2⟩
    subst hb4
    refine ge_at hK2 ?_
    refine ge_seq ?_
    refine gk_ret (by kernel_rfl) ?_
    obtain rfl := some_inj hr
    exact ge_result trivial (ResOk.tmp (by kernel_rfl) ResOk.nil) hI1 ⟨rfl, rfl⟩
/-! 30 tocsinref04_digit  -/
noncomputable def tocsinref04_digit (a0 : Int) : Bool :=
  ((decide (a0 ≥ 48)) && (decide (a0 ≤ 57)))
theorem tocsinref04_digit_walk {a0 : Int} {I : Imm} {r : Bool}  (hr : tocsinref04_digit a0 = r) (L : Own) :
    CallsTo Tryd.prog 30 #[.int .u8 a0] I L (fun v I' L' => v = .bool r ∧ L = L') := by
  replace hr : some (tocsinref04_digit a0) = some r := congrArg some hr
  unfold tocsinref04_digit at hr
  refine callsTo_body (N := 9) Tryd.func30 (by kernel_rfl) (by kernel_rfl) (by kernel_rfl) ?_
  refine gk_pick [0] (K' := [(0, .int .u8 a0)]) (by kernel_rfl) ?_
  refine gk_seq (by kernel_rfl) ?_
  refine gk_region (by kernel_rfl) ?_
  refine gl_pure 1 [0] (K' := [(0, .int .u8 a0)]) (by kernel_rfl) ?_
  refine gl_atE (by kernel_rfl) ?_
  refine ge_seq ?_
  refine gk_seq (by kernel_rfl) ?_
  obtain ⟨b3, hb4⟩ : ∃ z, z = ((decide (a0 ≥ 48)) && (decide (a0 ≤ 57))) := ⟨_, rfl⟩
  refine gk_join (fun t I' L' => I ≤ I' ∧ L = L' ∧ Knows 9 [(2, .bool b3)] t) ?_ ?_
  · refine gk_region (by kernel_rfl) ?_
    refine gl_pure 3 [0, 5] (K' := [(0, .int .u8 a0), (5, .bool (decide (a0 ≥ 48)))]) (by kernel_rfl) ?_
    refine gl_case 5 (b := (decide (a0 ≥ 48))) (by kernel_rfl) (fun hc6 => ?_) (fun hc6 => ?_)
    · refine gl_pure 4 [2] (K' := [(2, .bool (decide (a0 ≤ 57)))]) (by kernel_rfl) ?_
      refine gl_atE (by kernel_rfl) ?_
      exact ge_mid fun t ht => ⟨(Imm.refl _), rfl, by rw [(show b3 = (decide (a0 ≤ 57)) from hb4.trans (by first | (rw [hc6]; done) | (rw [hc6]; rfl) | (simp [hc6]; done) | (simp only [hc6]; rfl) | (simp at *; omega)))]; exact ht.pick (l := [2]) (by kernel_rfl)⟩
    · refine gl_pure 4 [2] (K' := [(2, .bool false)]) (by kernel_rfl) ?_
      refine gl_atE (by kernel_rfl) ?_
      exact ge_mid fun t ht => ⟨(Imm.refl _), rfl, by rw [(show b3 = false from hb4.trans (by first | (rw [hc6]; done) | (rw [hc6]; rfl) | (simp [hc6]; done) | (simp only [hc6]; rfl) | (simp at *; omega)))]; exact ht.pick (l := [2]) (by kernel_rfl)⟩
  · rintro t I5 L' ⟨hI1, rfl, hK2⟩
    subst hb4
    refine ge_at hK2 ?_
    refine ge_seq ?_
    refine gk_ret (by kernel_rfl) ?_
    obtain rfl := some_inj hr
    exact ge_result trivial (ResOk.tmp (by kernel_rfl) ResOk.nil) hI1 ⟨rfl, rfl⟩
/-! 47 tocsinref04_Name  -/
noncomputable def tocsinref04_Name_l24 (a0 : ByteArray) : Int → Option ((Int) ⊕ ((Unit) ⊕ (Bool))) := fun s14 =>
  bif (decide (s14 < (a0.size : Int))) then
  (Option.bind (Option.bind (bx a0 s14) fun (c32 : Int) =>
      bif (!(tocsinref04_letter c32)) then
      (bif (s14 == 0) then
        (some true)
        else
        (Option.bind (bx a0 s14) fun (c36 : Int) =>
          some (!(tocsinref04_digit c36))))
      else
      (some false)) fun (j27 : Bool) =>
    bif j27 then
    (some (Sum.inr (Sum.inr false)))
    else
    (some (Sum.inl (IntKind.wrap .i64 (s14 + 1)))))
  else
  (some (Sum.inr (Sum.inl ())))
noncomputable def tocsinref04_Name (a0 : ByteArray) : Option Bool :=
  bif ((a0.toList == (⟨#[]⟩ : ByteArray).toList) || (decide ((a0.size : Int) > 64))) then
  (some false)
  else
  (Option.bind (loopO (tocsinref04_Name_l24 a0) 0) fun (r12 : (Unit) ⊕ (Bool)) =>
    match r12 with
    | Sum.inl r20 => some true
    | Sum.inr v39 => some v39)
theorem tocsinref04_Name_walk {a0 : ByteArray} {I : Imm} {r : Bool}  (hr : tocsinref04_Name a0 = some r) (L : Own) :
    CallsTo Tryd.prog 47 #[.string a0] I L (fun v I' L' => v = .bool r ∧ L = L') := by
  unfold tocsinref04_Name at hr
  refine callsTo_body (N := 33) Tryd.func47 (by kernel_rfl) (by kernel_rfl) (by kernel_rfl) ?_
  refine gk_pick [0] (K' := [(0, .string a0)]) (by kernel_rfl) ?_
  refine gk_seq (by kernel_rfl) ?_
  refine gk_region (by kernel_rfl) ?_
  refine gl_pure 1 [0] (K' := [(0, .string a0)]) (by kernel_rfl) ?_
  refine gl_atE (by kernel_rfl) ?_
  refine ge_seq ?_
  refine gk_seq (by kernel_rfl) ?_
  refine gk_seq (by kernel_rfl) ?_
  obtain ⟨b3, hb4⟩ : ∃ z, z = ((a0.toList == (⟨#[]⟩ : ByteArray).toList) || (decide ((a0.size : Int) > 64))) := ⟨_, rfl⟩
  refine gk_join (fun t I' L' => I ≤ I' ∧ L = L' ∧ Knows 33 [(0, .string a0), (10, .bool b3)] t) ?_ ?_
  · refine gk_region (by kernel_rfl) ?_
    refine gl_pure 3 [0, 6] (K' := [(0, .string a0), (6, .bool (a0.toList == (⟨#[]⟩ : ByteArray).toList))]) (by kernel_rfl) ?_
    refine gl_case 6 (b := (a0.toList == (⟨#[]⟩ : ByteArray).toList)) (by kernel_rfl) (fun hc6 => ?_) (fun hc6 => ?_)
    · refine gl_pure 4 [0, 10] (K' := [(0, .string a0), (10, .bool true)]) (by kernel_rfl) ?_
      refine gl_atE (by kernel_rfl) ?_
      exact ge_mid fun t ht => ⟨(Imm.refl _), rfl, by rw [(show b3 = true from hb4.trans (by first | (rw [hc6]; done) | (rw [hc6]; rfl) | (simp [hc6]; done) | (simp only [hc6]; rfl) | (simp at *; omega)))]; exact ht.pick (l := [0, 10]) (by kernel_rfl)⟩
    · refine gl_pure 4 [0, 10] (K' := [(0, .string a0), (10, .bool (decide ((a0.size : Int) > 64)))]) (by kernel_rfl) ?_
      refine gl_atE (by kernel_rfl) ?_
      exact ge_mid fun t ht => ⟨(Imm.refl _), rfl, by rw [(show b3 = (decide ((a0.size : Int) > 64)) from hb4.trans (by first | (rw [hc6]; done) | (rw [hc6]; rfl) | (simp [hc6]; done) | (simp only [hc6]; rfl) | (simp at *; omega)))]; exact ht.pick (l := [0, 10]) (by kernel_rfl)⟩
  · rintro t I5 L' ⟨hI1, rfl, hK2⟩
    subst hb4
    refine ge_at hK2 ?_
    refine ge_seq ?_
    refine gk_cond (b := ((a0.toList == (⟨#[]⟩ : ByteArray).toList) || (decide ((a0.size : Int) > 64)))) (by kernel_rfl) (by kernel_rfl) (fun hc7 => ?_) (fun hc7 => ?_)
    · have hr := cond_t hc7 hr
      refine gk_seq (by kernel_rfl) ?_
      refine gk_region (by kernel_rfl) ?_
      refine gl_pure 1 [2] (K' := [(2, .bool false)]) (by kernel_rfl) ?_
      refine gl_atE (by kernel_rfl) ?_
      refine ge_seq ?_
      refine gk_ret (by kernel_rfl) ?_
      refine ge_seq_ret ?_
      obtain rfl := some_inj hr
      exact ge_result trivial (ResOk.tmp (by kernel_rfl) ResOk.nil) hI1 ⟨rfl, rfl⟩
    · have hr := cond_f hc7 hr
      refine gk_skip (by kernel_rfl) ?_
      refine ge_seq ?_
      refine gk_seq (by kernel_rfl) ?_
      refine gk_seq (by kernel_rfl) ?_
      refine gk_region (by kernel_rfl) ?_
      refine gl_pure 3 [0, 12, 13] (K' := [(0, .string a0), (12, .int .i64 (a0.size : Int)), (13, .int .i64 0)]) (by kernel_rfl) ?_
      refine gl_atE (by kernel_rfl) ?_
      refine ge_seq ?_
      obtain ⟨r12, hl13, hr⟩ := bind_some hr
      refine gk_join (fun t I' L' => ∃ r20, r12 = Sum.inl r20 ∧ I5 ≤ I' ∧ L = L' ∧ Knows 33 [] t) ?_ ?_
      · refine gk_block (by kernel_rfl) ?_
        refine gk_pick [0, 12, 13] (K' := [(0, .string a0), (12, .int .i64 (a0.size : Int)), (13, .int .i64 0)]) (by kernel_rfl) ?_
        intro t hK
        refine gc_loop (tocsinref04_Name_l24 a0) (fun s14 t I' L' => I5 ≤ I' ∧ L = L' ∧ Knows 33 [(0, .string a0), (12, .int .i64 (a0.size : Int)), (13, .int .i64 s14)] t) (by kernel_rfl) ?_ hl13 ⟨(Imm.refl _), rfl, hK⟩
        rintro s14 o15 t I19 L' hb16 ⟨hI17, rfl, hK18⟩
        unfold tocsinref04_Name_l24 at hb16
        refine gk_at hK18 ?_
        refine gk_seq (by kernel_rfl) ?_
        refine gk_region (by kernel_rfl) ?_
        refine gl_pure 1 [0, 12, 13, 14] (K' := [(0, .string a0), (12, .int .i64 (a0.size : Int)), (13, .int .i64 s14), (14, .bool (decide (s14 < (a0.size : Int))))]) (by kernel_rfl) ?_
        refine gl_atE (by kernel_rfl) ?_
        refine ge_seq ?_
        refine gk_seq (by kernel_rfl) ?_
        refine gk_cond (b := (decide (s14 < (a0.size : Int)))) (by kernel_rfl) (by kernel_rfl) (fun hc26 => ?_) (fun hc26 => ?_)
        · have hb16 := cond_t hc26 hb16
          refine gk_skip (by kernel_rfl) ?_
          refine ge_seq ?_
          refine gk_seq (by kernel_rfl) ?_
          refine gk_block (by kernel_rfl) ?_
          refine gk_seq (by kernel_rfl) ?_
          refine gk_region (by kernel_rfl) ?_
          refine gl_pure 2 [0, 3, 12, 13] (K' := [(0, .string a0), (3, .int .i64 s14), (12, .int .i64 (a0.size : Int)), (13, .int .i64 s14)]) (by kernel_rfl) ?_
          refine gl_atE (by kernel_rfl) ?_
          refine ge_seq ?_
          refine gk_seq (by kernel_rfl) ?_
          obtain ⟨j27, hj28, hb16⟩ := bind_some hb16
          refine gk_join (fun t I' L' => I19 ≤ I' ∧ L = L' ∧ Knows 33 [(0, .string a0), (12, .int .i64 (a0.size : Int)), (13, .int .i64 s14), (31, .bool j27)] t) ?_ ?_
          · refine gk_region (by kernel_rfl) ?_
            refine gl_pure 2 [0, 3, 12, 13, 16, 17] (K' := [(0, .string a0), (3, .int .i64 s14), (12, .int .i64 (a0.size : Int)), (13, .int .i64 s14), (16, .string a0), (17, .int .i64 s14)]) (by kernel_rfl) ?_
            obtain ⟨c32, hx33, hj28⟩ := bind_some hj28
            refine gl_index' (T' := 9) (xs := (.tmp 16)) (xi := (.tmp 17)) (kd := .i64) hx33 (by kernel_rfl) (by kernel_rfl) (by kernel_rfl) (by kernel_rfl) (by kernel_rfl) ?_
            refine gl_callQ (by kernel_rfl) (tocsinref04_letter_walk (r := (tocsinref04_letter c32))  rfl _) ?_
            refine gl_pure 2 [0, 3, 12, 13, 21] (K' := [(0, .string a0), (3, .int .i64 s14), (12, .int .i64 (a0.size : Int)), (13, .int .i64 s14), (21, .bool (!(tocsinref04_letter c32)))]) (by kernel_rfl) ?_
            refine gl_case 21 (b := (!(tocsinref04_letter c32))) (by kernel_rfl) (fun hc34 => ?_) (fun hc34 => ?_)
            · have hj28 := cond_t hc34 hj28
              refine gl_pure 3 [0, 3, 12, 13, 21, 24] (K' := [(0, .string a0), (3, .int .i64 s14), (12, .int .i64 (a0.size : Int)), (13, .int .i64 s14), (21, .bool true), (24, .bool (s14 == 0))]) (by kernel_rfl) ?_
              refine gl_case 24 (b := (s14 == 0)) (by kernel_rfl) (fun hc35 => ?_) (fun hc35 => ?_)
              · have hj28 := cond_t hc35 hj28
                refine gl_pure 7 [0, 12, 13, 31] (K' := [(0, .string a0), (12, .int .i64 (a0.size : Int)), (13, .int .i64 s14), (31, .bool true)]) (by kernel_rfl) ?_
                refine gl_atE (by kernel_rfl) ?_
                obtain rfl := some_inj hj28
                exact ge_mid fun t ht => ⟨(Imm.refl _), rfl, ht.pick (l := [0, 12, 13, 31]) (by kernel_rfl)⟩
              · have hj28 := cond_f hc35 hj28
                refine gl_pure 2 [0, 12, 13, 21, 24, 25, 26] (K' := [(0, .string a0), (12, .int .i64 (a0.size : Int)), (13, .int .i64 s14), (21, .bool true), (24, .bool false), (25, .string a0), (26, .int .i64 s14)]) (by kernel_rfl) ?_
                obtain ⟨c36, hx37, hj28⟩ := bind_some hj28
                refine gl_index' (T' := 9) (xs := (.tmp 25)) (xi := (.tmp 26)) (kd := .i64) hx37 (by kernel_rfl) (by kernel_rfl) (by kernel_rfl) (by kernel_rfl) (by kernel_rfl) ?_
                refine gl_callQ (by kernel_rfl) (tocsinref04_digit_walk (r := (tocsinref04_digit c36))  rfl _) ?_
                refine gl_pure 3 [0, 12, 13, 31] (K' := [(0, .string a0), (12, .int .i64 (a0.size : Int)), (13, .int .i64 s14), (31, .bool (!(tocsinref04_digit c36)))]) (by kernel_rfl) ?_
                refine gl_atE (by kernel_rfl) ?_
                obtain rfl := some_inj hj28
                exact ge_mid fun t ht => ⟨(Imm.refl _), rfl, ht.pick (l := [0, 12, 13, 31]) (by kernel_rfl)⟩
            · have hj28 := cond_f hc34 hj28
              refine gl_pure 10 [0, 12, 13, 31] (K' := [(0, .string a0), (12, .int .i64 (a0.size : Int)), (13, .int .i64 s14), (31, .bool false)]) (by kernel_rfl) ?_
              refine gl_atE (by kernel_rfl) ?_
              obtain rfl := some_inj hj28
              exact ge_mid fun t ht => ⟨(Imm.refl _), rfl, ht.pick (l := [0, 12, 13, 31]) (by kernel_rfl)⟩
          · rintro t I31 L' ⟨hI29, rfl, hK30⟩
            refine ge_at hK30 ?_
            refine ge_seq ?_
            refine gk_cond (b := j27) (by kernel_rfl) (by kernel_rfl) (fun hc38 => ?_) (fun hc38 => ?_)
            · have hb16 := cond_t hc38 hb16
              refine gk_seq (by kernel_rfl) ?_
              refine gk_region (by kernel_rfl) ?_
              refine gl_pure 1 [2] (K' := [(2, .bool false)]) (by kernel_rfl) ?_
              refine gl_atE (by kernel_rfl) ?_
              refine ge_seq ?_
              refine gk_ret (by kernel_rfl) ?_
              refine ge_block_ret ?_
              refine ge_seq_ret ?_
              obtain rfl := some_inj hb16
              refine ge_round_out (fun hrr => ?_) (by intro h; cases h)
              obtain rfl := hrr
              refine ge_block_ret ?_
              refine ge_seq_ret ?_
              refine ge_seq_ret ?_
              obtain rfl := some_inj hr
              exact ge_result trivial (ResOk.tmp (by kernel_rfl) ResOk.nil) (Imm.trans (Imm.trans hI1 hI17) hI29) ⟨rfl, rfl⟩
            · have hb16 := cond_f hc38 hb16
              refine gk_skip (by kernel_rfl) ?_
              refine ge_block_normal ?_
              refine ge_seq ?_
              refine gk_region (by kernel_rfl) ?_
              refine gl_pure 2 [0, 12, 13] (K' := [(0, .string a0), (12, .int .i64 (a0.size : Int)), (13, .int .i64 (IntKind.wrap .i64 (s14 + 1)))]) (by kernel_rfl) ?_
              refine gl_atE (by kernel_rfl) ?_
              obtain rfl := some_inj hb16
              exact ge_round fun t ht => ⟨(Imm.trans hI17 hI29), rfl, ht.pick (l := [0, 12, 13]) (by kernel_rfl)⟩
        · have hb16 := cond_f hc26 hb16
          refine gk_exit (by kernel_rfl) ?_
          refine ge_seq_exit ?_
          obtain rfl := some_inj hb16
          refine ge_round_out (fun hrr => ?_) (by intro h; cases h)
          obtain rfl := hrr
          refine ge_block_hit (by kernel_rfl) ?_
          exact ge_mid fun t ht => ⟨_, rfl, hI17, rfl, ht.pick (l := []) (by kernel_rfl)⟩
      · rintro t I23 L' ⟨r20, rfl, hI21, rfl, hK22⟩
        refine ge_at hK22 ?_
        refine ge_seq ?_
        refine gk_seq (by kernel_rfl) ?_
        refine gk_region (by kernel_rfl) ?_
        refine gl_pure 1 [2] (K' := [(2, .bool true)]) (by kernel_rfl) ?_
        refine gl_atE (by kernel_rfl) ?_
        refine ge_seq ?_
        refine gk_ret (by kernel_rfl) ?_
        obtain rfl := some_inj hr
        exact ge_result trivial (ResOk.tmp (by kernel_rfl) ResOk.nil) (Imm.trans hI1 hI21) ⟨rfl, rfl⟩
/-! 48 tocsinref01_Utf8  -/
noncomputable def tocsinref01_Utf8_l79 (a0 : ByteArray) (s7 : Int) (j37 : Int × Int × Int) : (Int × Int) → Option ((Int × Int) ⊕ ((Int) ⊕ ((Int) ⊕ ((Int) ⊕ ((Unit) ⊕ (Bool)))))) := fun s69 =>
  bif (decide (s69.2 ≤ j37.1)) then
  (Option.bind (bif (decide ((IntKind.wrap .i64 (s7 + s69.2)) ≥ (a0.size : Int))) then
      (some true)
      else
      (Option.bind (bx a0 (IntKind.wrap .i64 (s7 + s69.2))) fun (c88 : Int) =>
        some ((bitAnd .u8 c88 192) != 128))) fun (j82 : Bool) =>
    bif j82 then
    (some (Sum.inr (Sum.inr (Sum.inr (Sum.inr (Sum.inr false))))))
    else
    (Option.bind (bx a0 (IntKind.wrap .i64 (s7 + s69.2))) fun (c91 : Int) =>
      some (Sum.inl ((IntKind.wrap .i64 ((IntKind.wrap .i64 (s69.1 * 64)) + (IntKind.wrap .i64 (bitAnd .u8 c91 63)))), (IntKind.wrap .i64 (s69.2 + 1))))))
  else
  (some (Sum.inr (Sum.inl s69.1)))
noncomputable def tocsinref01_Utf8_l17 (a0 : ByteArray) : Int → Option ((Int) ⊕ ((Unit) ⊕ (Bool))) := fun s7 =>
  bif (decide (s7 < (a0.size : Int))) then
  (Option.bind ((Option.bind (bx a0 s7) fun (c26 : Int) =>
      bif (decide ((IntKind.wrap .i64 c26) < 128)) then
      (some (Sum.inl (IntKind.wrap .i64 (s7 + 1))))
      else
      (Option.bind ((bif ((decide ((IntKind.wrap .i64 c26) ≥ 194)) && (decide ((IntKind.wrap .i64 c26) < 224))) then
          (some (Sum.inl (1, 128, (bitAnd .i64 (IntKind.wrap .i64 c26) 31))))
          else
          (Option.bind ((bif ((decide ((IntKind.wrap .i64 c26) ≥ 224)) && (decide ((IntKind.wrap .i64 c26) < 240))) then
              (some (Sum.inl (2, 2048, (bitAnd .i64 (IntKind.wrap .i64 c26) 15))))
              else
              (bif ((decide ((IntKind.wrap .i64 c26) ≥ 240)) && (decide ((IntKind.wrap .i64 c26) < 245))) then
                (some (Sum.inl (3, 65536, (bitAnd .i64 (IntKind.wrap .i64 c26) 7))))
                else
                (some (Sum.inr (Sum.inr (Sum.inr (Sum.inr (Sum.inr false))))))) : Option ((Int × Int × Int) ⊕ ((Int × Int × Int) ⊕ ((Int) ⊕ ((Int) ⊕ ((Unit) ⊕ (Bool)))))))) fun (j48 : (Int × Int × Int) ⊕ ((Int × Int × Int) ⊕ ((Int) ⊕ ((Int) ⊕ ((Unit) ⊕ (Bool)))))) =>
            match j48 with
            | Sum.inl j50 => some (Sum.inl (j50.1, j50.2.1, j50.2.2))
            | Sum.inr v62 => some v62) : Option ((Int × Int × Int) ⊕ ((Int) ⊕ ((Int) ⊕ ((Unit) ⊕ (Bool))))))) fun (j35 : (Int × Int × Int) ⊕ ((Int) ⊕ ((Int) ⊕ ((Unit) ⊕ (Bool))))) =>
        match j35 with
        | Sum.inl j37 => Option.bind (loopO (tocsinref01_Utf8_l79 a0 s7 j37) (j37.2.2, 1)) fun (r67 : (Int) ⊕ ((Int) ⊕ ((Int) ⊕ ((Unit) ⊕ (Bool))))) =>
          match r67 with
          | Sum.inl r75 => bif (((decide (r75 < j37.2.1)) || (decide (r75 > 1114111))) || ((decide (r75 ≥ 55296)) && (decide (r75 < 57344)))) then
            (some (Sum.inr (Sum.inr (Sum.inr false))))
            else
            (some (Sum.inl (IntKind.wrap .i64 ((IntKind.wrap .i64 (s7 + j37.1)) + 1))))
          | Sum.inr v102 => some v102
        | Sum.inr v103 => some v103) : Option ((Int) ⊕ ((Int) ⊕ ((Unit) ⊕ (Bool)))))) fun (j20 : (Int) ⊕ ((Int) ⊕ ((Unit) ⊕ (Bool)))) =>
    match j20 with
    | Sum.inl j22 => some (Sum.inl j22)
    | Sum.inr v104 => some v104)
  else
  (some (Sum.inr (Sum.inl ())))
noncomputable def tocsinref01_Utf8 (a0 : ByteArray) : Option Bool :=
  Option.bind (loopO (tocsinref01_Utf8_l17 a0) 0) fun (r5 : (Unit) ⊕ (Bool)) =>
  match r5 with
  | Sum.inl r13 => some true
  | Sum.inr v105 => some v105
theorem tocsinref01_Utf8_walk {a0 : ByteArray} {I : Imm} {r : Bool}  (hr : tocsinref01_Utf8 a0 = some r) (L : Own) :
    CallsTo Tryd.prog 48 #[.string a0] I L (fun v I' L' => v = .bool r ∧ L = L') := by
  unfold tocsinref01_Utf8 at hr
  refine callsTo_body (N := 98) Tryd.func48 (by kernel_rfl) (by kernel_rfl) (by kernel_rfl) ?_
  refine gk_pick [0] (K' := [(0, .string a0)]) (by kernel_rfl) ?_
  refine gk_seq (by kernel_rfl) ?_
  refine gk_region (by kernel_rfl) ?_
  refine gl_pure 1 [0] (K' := [(0, .string a0)]) (by kernel_rfl) ?_
  refine gl_atE (by kernel_rfl) ?_
  refine ge_seq ?_
  refine gk_seq (by kernel_rfl) ?_
  refine gk_seq (by kernel_rfl) ?_
  refine gk_region (by kernel_rfl) ?_
  refine gl_pure 1 [0, 3] (K' := [(0, .string a0), (3, .int .i64 0)]) (by kernel_rfl) ?_
  refine gl_atE (by kernel_rfl) ?_
  refine ge_seq ?_
  obtain ⟨r5, hl6, hr⟩ := bind_some hr
  refine gk_join (fun t I' L' => ∃ r13, r5 = Sum.inl r13 ∧ I ≤ I' ∧ L = L' ∧ Knows 98 [] t) ?_ ?_
  · refine gk_block (by kernel_rfl) ?_
    refine gk_pick [0, 3] (K' := [(0, .string a0), (3, .int .i64 0)]) (by kernel_rfl) ?_
    intro t hK
    refine gc_loop (tocsinref01_Utf8_l17 a0) (fun s7 t I' L' => I ≤ I' ∧ L = L' ∧ Knows 98 [(0, .string a0), (3, .int .i64 s7)] t) (by kernel_rfl) ?_ hl6 ⟨(Imm.refl _), rfl, hK⟩
    rintro s7 o8 t I12 L' hb9 ⟨hI10, rfl, hK11⟩
    unfold tocsinref01_Utf8_l17 at hb9
    refine gk_at hK11 ?_
    refine gk_seq (by kernel_rfl) ?_
    refine gk_seq (by kernel_rfl) ?_
    refine gk_region (by kernel_rfl) ?_
    refine gl_pure 4 [0, 3, 12] (K' := [(0, .string a0), (3, .int .i64 s7), (12, .bool (decide (s7 < (a0.size : Int))))]) (by kernel_rfl) ?_
    refine gl_atE (by kernel_rfl) ?_
    refine ge_seq ?_
    refine gk_cond (b := (decide (s7 < (a0.size : Int)))) (by kernel_rfl) (by kernel_rfl) (fun hc19 => ?_) (fun hc19 => ?_)
    · have hb9 := cond_t hc19 hb9
      refine gk_skip (by kernel_rfl) ?_
      refine ge_seq ?_
      obtain ⟨j20, hj21, hb9⟩ := bind_some hb9
      refine gk_join (fun t I' L' => ∃ j22, j20 = Sum.inl j22 ∧ I12 ≤ I' ∧ L = L' ∧ Knows 98 [(0, .string a0), (3, .int .i64 j22)] t) ?_ ?_
      · refine gk_block (by kernel_rfl) ?_
        refine gk_seq (by kernel_rfl) ?_
        refine gk_region (by kernel_rfl) ?_
        refine gl_pure 2 [0, 3, 13, 14] (K' := [(0, .string a0), (3, .int .i64 s7), (13, .string a0), (14, .int .i64 s7)]) (by kernel_rfl) ?_
        obtain ⟨c26, hx27, hj21⟩ := bind_some hj21
        refine gl_index' (T' := 9) (xs := (.tmp 13)) (xi := (.tmp 14)) (kd := .i64) hx27 (by kernel_rfl) (by kernel_rfl) (by kernel_rfl) (by kernel_rfl) (by kernel_rfl) ?_
        refine gl_pure 2 [0, 3, 4] (K' := [(0, .string a0), (3, .int .i64 s7), (4, .int .i64 (IntKind.wrap .i64 c26))]) (by kernel_rfl) ?_
        refine gl_atE (by kernel_rfl) ?_
        refine ge_seq ?_
        refine gk_seq (by kernel_rfl) ?_
        refine gk_region (by kernel_rfl) ?_
        refine gl_pure 1 [0, 3, 4] (K' := [(0, .string a0), (3, .int .i64 s7), (4, .int .i64 (IntKind.wrap .i64 c26))]) (by kernel_rfl) ?_
        refine gl_atE (by kernel_rfl) ?_
        refine ge_seq ?_
        refine gk_seq (by kernel_rfl) ?_
        refine gk_region (by kernel_rfl) ?_
        refine gl_pure 1 [0, 3, 4] (K' := [(0, .string a0), (3, .int .i64 s7), (4, .int .i64 (IntKind.wrap .i64 c26))]) (by kernel_rfl) ?_
        refine gl_atE (by kernel_rfl) ?_
        refine ge_seq ?_
        refine gk_seq (by kernel_rfl) ?_
        refine gk_region (by kernel_rfl) ?_
        refine gl_pure 1 [0, 3, 4] (K' := [(0, .string a0), (3, .int .i64 s7), (4, .int .i64 (IntKind.wrap .i64 c26))]) (by kernel_rfl) ?_
        refine gl_atE (by kernel_rfl) ?_
        refine ge_seq ?_
        refine gk_seq (by kernel_rfl) ?_
        refine gk_block (by kernel_rfl) ?_
        refine gk_seq (by kernel_rfl) ?_
        refine gk_region (by kernel_rfl) ?_
        refine gl_pure 3 [0, 3, 4, 17] (K' := [(0, .string a0), (3, .int .i64 s7), (4, .int .i64 (IntKind.wrap .i64 c26)), (17, .bool (decide ((IntKind.wrap .i64 c26) < 128)))]) (by kernel_rfl) ?_
        refine gl_atE (by kernel_rfl) ?_
        refine ge_seq ?_
        refine gk_cond (b := (decide ((IntKind.wrap .i64 c26) < 128))) (by kernel_rfl) (by kernel_rfl) (fun hc28 => ?_) (fun hc28 => ?_)
        · have hj21 := cond_t hc28 hj21
          refine gk_seq (by kernel_rfl) ?_
          refine gk_region (by kernel_rfl) ?_
          refine gl_pure 3 [0, 3] (K' := [(0, .string a0), (3, .int .i64 (IntKind.wrap .i64 (s7 + 1)))]) (by kernel_rfl) ?_
          refine gl_atE (by kernel_rfl) ?_
          refine ge_seq ?_
          refine gk_exit (by kernel_rfl) ?_
          refine ge_block_miss (by kernel_rfl) ?_
          refine ge_seq_exit ?_
          refine ge_block_hit (by kernel_rfl) ?_
          obtain rfl := some_inj hj21
          exact ge_mid fun t ht => ⟨_, rfl, (Imm.refl _), rfl, ht.pick (l := [0, 3]) (by kernel_rfl)⟩
        · have hj21 := cond_f hc28 hj21
          refine gk_seq (by kernel_rfl) ?_
          obtain ⟨b31, hb32⟩ : ∃ z, z = ((decide ((IntKind.wrap .i64 c26) ≥ 194)) && (decide ((IntKind.wrap .i64 c26) < 224))) := ⟨_, rfl⟩
          refine gk_join (fun t I' L' => I12 ≤ I' ∧ L = L' ∧ Knows 98 [(0, .string a0), (3, .int .i64 s7), (4, .int .i64 (IntKind.wrap .i64 c26)), (22, .bool b31)] t) ?_ ?_
          · refine gk_region (by kernel_rfl) ?_
            refine gl_pure 3 [0, 3, 4, 25] (K' := [(0, .string a0), (3, .int .i64 s7), (4, .int .i64 (IntKind.wrap .i64 c26)), (25, .bool (decide ((IntKind.wrap .i64 c26) ≥ 194)))]) (by kernel_rfl) ?_
            refine gl_case 25 (b := (decide ((IntKind.wrap .i64 c26) ≥ 194))) (by kernel_rfl) (fun hc34 => ?_) (fun hc34 => ?_)
            · refine gl_pure 4 [0, 3, 4, 22] (K' := [(0, .string a0), (3, .int .i64 s7), (4, .int .i64 (IntKind.wrap .i64 c26)), (22, .bool (decide ((IntKind.wrap .i64 c26) < 224)))]) (by kernel_rfl) ?_
              refine gl_atE (by kernel_rfl) ?_
              exact ge_mid fun t ht => ⟨(Imm.refl _), rfl, by rw [(show b31 = (decide ((IntKind.wrap .i64 c26) < 224)) from hb32.trans (by first | (rw [hc34]; done) | (rw [hc34]; rfl) | (simp [hc34]; done) | (simp only [hc34]; rfl) | (simp at *; omega)))]; exact ht.pick (l := [0, 3, 4, 22]) (by kernel_rfl)⟩
            · refine gl_pure 4 [0, 3, 4, 22] (K' := [(0, .string a0), (3, .int .i64 s7), (4, .int .i64 (IntKind.wrap .i64 c26)), (22, .bool false)]) (by kernel_rfl) ?_
              refine gl_atE (by kernel_rfl) ?_
              exact ge_mid fun t ht => ⟨(Imm.refl _), rfl, by rw [(show b31 = false from hb32.trans (by first | (rw [hc34]; done) | (rw [hc34]; rfl) | (simp [hc34]; done) | (simp only [hc34]; rfl) | (simp at *; omega)))]; exact ht.pick (l := [0, 3, 4, 22]) (by kernel_rfl)⟩
          · rintro t I33 L' ⟨hI29, rfl, hK30⟩
            subst hb32
            refine ge_at hK30 ?_
            refine ge_seq ?_
            obtain ⟨j35, hj36, hj21⟩ := bind_some hj21
            refine gk_join (fun t I' L' => ∃ j37, j35 = Sum.inl j37 ∧ I33 ≤ I' ∧ L = L' ∧ Knows 98 [(0, .string a0), (3, .int .i64 s7), (5, .int .i64 j37.1), (6, .int .i64 j37.2.1), (7, .int .i64 j37.2.2)] t) ?_ ?_
            · refine gk_cond (b := ((decide ((IntKind.wrap .i64 c26) ≥ 194)) && (decide ((IntKind.wrap .i64 c26) < 224)))) (by kernel_rfl) (by kernel_rfl) (fun hc41 => ?_) (fun hc41 => ?_)
              · have hj36 := cond_t hc41 hj36
                refine gk_seq (by kernel_rfl) ?_
                refine gk_region (by kernel_rfl) ?_
                refine gl_pure 1 [0, 3, 4, 5] (K' := [(0, .string a0), (3, .int .i64 s7), (4, .int .i64 (IntKind.wrap .i64 c26)), (5, .int .i64 1)]) (by kernel_rfl) ?_
                refine gl_atE (by kernel_rfl) ?_
                refine ge_seq ?_
                refine gk_seq (by kernel_rfl) ?_
                refine gk_region (by kernel_rfl) ?_
                refine gl_pure 1 [0, 3, 4, 5, 6] (K' := [(0, .string a0), (3, .int .i64 s7), (4, .int .i64 (IntKind.wrap .i64 c26)), (5, .int .i64 1), (6, .int .i64 128)]) (by kernel_rfl) ?_
                refine gl_atE (by kernel_rfl) ?_
                refine ge_seq ?_
                refine gk_region (by kernel_rfl) ?_
                refine gl_pure 3 [0, 3, 5, 6, 7] (K' := [(0, .string a0), (3, .int .i64 s7), (5, .int .i64 1), (6, .int .i64 128), (7, .int .i64 (bitAnd .i64 (IntKind.wrap .i64 c26) 31))]) (by kernel_rfl) ?_
                refine gl_atE (by kernel_rfl) ?_
                obtain rfl := some_inj hj36
                exact ge_mid fun t ht => ⟨_, rfl, (Imm.refl _), rfl, ht.pick (l := [0, 3, 5, 6, 7]) (by kernel_rfl)⟩
              · have hj36 := cond_f hc41 hj36
                refine gk_seq (by kernel_rfl) ?_
                obtain ⟨b44, hb45⟩ : ∃ z, z = ((decide ((IntKind.wrap .i64 c26) ≥ 224)) && (decide ((IntKind.wrap .i64 c26) < 240))) := ⟨_, rfl⟩
                refine gk_join (fun t I' L' => I33 ≤ I' ∧ L = L' ∧ Knows 98 [(0, .string a0), (3, .int .i64 s7), (4, .int .i64 (IntKind.wrap .i64 c26)), (31, .bool b44)] t) ?_ ?_
                · refine gk_region (by kernel_rfl) ?_
                  refine gl_pure 3 [0, 3, 4, 34] (K' := [(0, .string a0), (3, .int .i64 s7), (4, .int .i64 (IntKind.wrap .i64 c26)), (34, .bool (decide ((IntKind.wrap .i64 c26) ≥ 224)))]) (by kernel_rfl) ?_
                  refine gl_case 34 (b := (decide ((IntKind.wrap .i64 c26) ≥ 224))) (by kernel_rfl) (fun hc47 => ?_) (fun hc47 => ?_)
                  · refine gl_pure 4 [0, 3, 4, 31] (K' := [(0, .string a0), (3, .int .i64 s7), (4, .int .i64 (IntKind.wrap .i64 c26)), (31, .bool (decide ((IntKind.wrap .i64 c26) < 240)))]) (by kernel_rfl) ?_
                    refine gl_atE (by kernel_rfl) ?_
                    exact ge_mid fun t ht => ⟨(Imm.refl _), rfl, by rw [(show b44 = (decide ((IntKind.wrap .i64 c26) < 240)) from hb45.trans (by first | (rw [hc47]; done) | (rw [hc47]; rfl) | (simp [hc47]; done) | (simp only [hc47]; rfl) | (simp at *; omega)))]; exact ht.pick (l := [0, 3, 4, 31]) (by kernel_rfl)⟩
                  · refine gl_pure 4 [0, 3, 4, 31] (K' := [(0, .string a0), (3, .int .i64 s7), (4, .int .i64 (IntKind.wrap .i64 c26)), (31, .bool false)]) (by kernel_rfl) ?_
                    refine gl_atE (by kernel_rfl) ?_
                    exact ge_mid fun t ht => ⟨(Imm.refl _), rfl, by rw [(show b44 = false from hb45.trans (by first | (rw [hc47]; done) | (rw [hc47]; rfl) | (simp [hc47]; done) | (simp only [hc47]; rfl) | (simp at *; omega)))]; exact ht.pick (l := [0, 3, 4, 31]) (by kernel_rfl)⟩
                · rintro t I46 L' ⟨hI42, rfl, hK43⟩
                  subst hb45
                  refine ge_at hK43 ?_
                  refine ge_seq ?_
                  obtain ⟨j48, hj49, hj36⟩ := bind_some hj36
                  refine gk_join (fun t I' L' => ∃ j50, j48 = Sum.inl j50 ∧ I46 ≤ I' ∧ L = L' ∧ Knows 98 [(0, .string a0), (3, .int .i64 s7), (5, .int .i64 j50.1), (6, .int .i64 j50.2.1), (7, .int .i64 j50.2.2)] t) ?_ ?_
                  · refine gk_cond (b := ((decide ((IntKind.wrap .i64 c26) ≥ 224)) && (decide ((IntKind.wrap .i64 c26) < 240)))) (by kernel_rfl) (by kernel_rfl) (fun hc54 => ?_) (fun hc54 => ?_)
                    · have hj49 := cond_t hc54 hj49
                      refine gk_seq (by kernel_rfl) ?_
                      refine gk_region (by kernel_rfl) ?_
                      refine gl_pure 1 [0, 3, 4, 5] (K' := [(0, .string a0), (3, .int .i64 s7), (4, .int .i64 (IntKind.wrap .i64 c26)), (5, .int .i64 2)]) (by kernel_rfl) ?_
                      refine gl_atE (by kernel_rfl) ?_
                      refine ge_seq ?_
                      refine gk_seq (by kernel_rfl) ?_
                      refine gk_region (by kernel_rfl) ?_
                      refine gl_pure 1 [0, 3, 4, 5, 6] (K' := [(0, .string a0), (3, .int .i64 s7), (4, .int .i64 (IntKind.wrap .i64 c26)), (5, .int .i64 2), (6, .int .i64 2048)]) (by kernel_rfl) ?_
                      refine gl_atE (by kernel_rfl) ?_
                      refine ge_seq ?_
                      refine gk_region (by kernel_rfl) ?_
                      refine gl_pure 3 [0, 3, 5, 6, 7] (K' := [(0, .string a0), (3, .int .i64 s7), (5, .int .i64 2), (6, .int .i64 2048), (7, .int .i64 (bitAnd .i64 (IntKind.wrap .i64 c26) 15))]) (by kernel_rfl) ?_
                      refine gl_atE (by kernel_rfl) ?_
                      obtain rfl := some_inj hj49
                      exact ge_mid fun t ht => ⟨_, rfl, (Imm.refl _), rfl, ht.pick (l := [0, 3, 5, 6, 7]) (by kernel_rfl)⟩
                    · have hj49 := cond_f hc54 hj49
                      refine gk_seq (by kernel_rfl) ?_
                      obtain ⟨b57, hb58⟩ : ∃ z, z = ((decide ((IntKind.wrap .i64 c26) ≥ 240)) && (decide ((IntKind.wrap .i64 c26) < 245))) := ⟨_, rfl⟩
                      refine gk_join (fun t I' L' => I46 ≤ I' ∧ L = L' ∧ Knows 98 [(0, .string a0), (3, .int .i64 s7), (4, .int .i64 (IntKind.wrap .i64 c26)), (40, .bool b57)] t) ?_ ?_
                      · refine gk_region (by kernel_rfl) ?_
                        refine gl_pure 3 [0, 3, 4, 43] (K' := [(0, .string a0), (3, .int .i64 s7), (4, .int .i64 (IntKind.wrap .i64 c26)), (43, .bool (decide ((IntKind.wrap .i64 c26) ≥ 240)))]) (by kernel_rfl) ?_
                        refine gl_case 43 (b := (decide ((IntKind.wrap .i64 c26) ≥ 240))) (by kernel_rfl) (fun hc60 => ?_) (fun hc60 => ?_)
                        · refine gl_pure 4 [0, 3, 4, 40] (K' := [(0, .string a0), (3, .int .i64 s7), (4, .int .i64 (IntKind.wrap .i64 c26)), (40, .bool (decide ((IntKind.wrap .i64 c26) < 245)))]) (by kernel_rfl) ?_
                          refine gl_atE (by kernel_rfl) ?_
                          exact ge_mid fun t ht => ⟨(Imm.refl _), rfl, by rw [(show b57 = (decide ((IntKind.wrap .i64 c26) < 245)) from hb58.trans (by first | (rw [hc60]; done) | (rw [hc60]; rfl) | (simp [hc60]; done) | (simp only [hc60]; rfl) | (simp at *; omega)))]; exact ht.pick (l := [0, 3, 4, 40]) (by kernel_rfl)⟩
                        · refine gl_pure 4 [0, 3, 4, 40] (K' := [(0, .string a0), (3, .int .i64 s7), (4, .int .i64 (IntKind.wrap .i64 c26)), (40, .bool false)]) (by kernel_rfl) ?_
                          refine gl_atE (by kernel_rfl) ?_
                          exact ge_mid fun t ht => ⟨(Imm.refl _), rfl, by rw [(show b57 = false from hb58.trans (by first | (rw [hc60]; done) | (rw [hc60]; rfl) | (simp [hc60]; done) | (simp only [hc60]; rfl) | (simp at *; omega)))]; exact ht.pick (l := [0, 3, 4, 40]) (by kernel_rfl)⟩
                      · rintro t I59 L' ⟨hI55, rfl, hK56⟩
                        subst hb58
                        refine ge_at hK56 ?_
                        refine ge_seq ?_
                        refine gk_cond (b := ((decide ((IntKind.wrap .i64 c26) ≥ 240)) && (decide ((IntKind.wrap .i64 c26) < 245)))) (by kernel_rfl) (by kernel_rfl) (fun hc61 => ?_) (fun hc61 => ?_)
                        · have hj49 := cond_t hc61 hj49
                          refine gk_seq (by kernel_rfl) ?_
                          refine gk_region (by kernel_rfl) ?_
                          refine gl_pure 1 [0, 3, 4, 5] (K' := [(0, .string a0), (3, .int .i64 s7), (4, .int .i64 (IntKind.wrap .i64 c26)), (5, .int .i64 3)]) (by kernel_rfl) ?_
                          refine gl_atE (by kernel_rfl) ?_
                          refine ge_seq ?_
                          refine gk_seq (by kernel_rfl) ?_
                          refine gk_region (by kernel_rfl) ?_
                          refine gl_pure 1 [0, 3, 4, 5, 6] (K' := [(0, .string a0), (3, .int .i64 s7), (4, .int .i64 (IntKind.wrap .i64 c26)), (5, .int .i64 3), (6, .int .i64 65536)]) (by kernel_rfl) ?_
                          refine gl_atE (by kernel_rfl) ?_
                          refine ge_seq ?_
                          refine gk_region (by kernel_rfl) ?_
                          refine gl_pure 3 [0, 3, 5, 6, 7] (K' := [(0, .string a0), (3, .int .i64 s7), (5, .int .i64 3), (6, .int .i64 65536), (7, .int .i64 (bitAnd .i64 (IntKind.wrap .i64 c26) 7))]) (by kernel_rfl) ?_
                          refine gl_atE (by kernel_rfl) ?_
                          obtain rfl := some_inj hj49
                          exact ge_mid fun t ht => ⟨_, rfl, hI55, rfl, ht.pick (l := [0, 3, 5, 6, 7]) (by kernel_rfl)⟩
                        · have hj49 := cond_f hc61 hj49
                          refine gk_seq (by kernel_rfl) ?_
                          refine gk_region (by kernel_rfl) ?_
                          refine gl_pure 1 [2] (K' := [(2, .bool false)]) (by kernel_rfl) ?_
                          refine gl_atE (by kernel_rfl) ?_
                          refine ge_seq ?_
                          refine gk_ret (by kernel_rfl) ?_
                          refine ge_seq_ret ?_
                          obtain rfl := some_inj hj49
                          refine ge_seq_ret ?_
                          obtain rfl := some_inj hj36
                          refine ge_block_ret ?_
                          refine ge_seq_ret ?_
                          refine ge_block_ret ?_
                          refine ge_seq_ret ?_
                          obtain rfl := some_inj hj21
                          obtain rfl := some_inj hb9
                          refine ge_round_out (fun hrr => ?_) (by intro h; cases h)
                          obtain rfl := hrr
                          refine ge_block_ret ?_
                          refine ge_seq_ret ?_
                          refine ge_seq_ret ?_
                          obtain rfl := some_inj hr
                          exact ge_result trivial (ResOk.tmp (by kernel_rfl) ResOk.nil) (Imm.trans (Imm.trans (Imm.trans hI10 hI29) hI42) hI55) ⟨rfl, rfl⟩
                  · rintro t I53 L' ⟨j50, rfl, hI51, rfl, hK52⟩
                    refine ge_at hK52 ?_
                    obtain rfl := some_inj hj36
                    exact ge_mid fun t ht => ⟨_, rfl, (Imm.trans hI42 hI51), rfl, ht.pick (l := [0, 3, 5, 6, 7]) (by kernel_rfl)⟩
            · rintro t I40 L' ⟨j37, rfl, hI38, rfl, hK39⟩
              refine ge_at hK39 ?_
              refine ge_block_normal ?_
              refine ge_seq ?_
              refine gk_seq (by kernel_rfl) ?_
              refine gk_seq (by kernel_rfl) ?_
              refine gk_region (by kernel_rfl) ?_
              refine gl_pure 1 [0, 3, 5, 6, 7, 8] (K' := [(0, .string a0), (3, .int .i64 s7), (5, .int .i64 j37.1), (6, .int .i64 j37.2.1), (7, .int .i64 j37.2.2), (8, .int .i64 1)]) (by kernel_rfl) ?_
              refine gl_atE (by kernel_rfl) ?_
              refine ge_seq ?_
              obtain ⟨r67, hl68, hj21⟩ := bind_some hj21
              refine gk_join (fun t I' L' => ∃ r75, r67 = Sum.inl r75 ∧ I40 ≤ I' ∧ L = L' ∧ Knows 98 [(0, .string a0), (3, .int .i64 s7), (5, .int .i64 j37.1), (6, .int .i64 j37.2.1), (7, .int .i64 r75)] t) ?_ ?_
              · refine gk_block (by kernel_rfl) ?_
                refine gk_pick [0, 3, 5, 6, 7, 8] (K' := [(0, .string a0), (3, .int .i64 s7), (5, .int .i64 j37.1), (6, .int .i64 j37.2.1), (7, .int .i64 j37.2.2), (8, .int .i64 1)]) (by kernel_rfl) ?_
                intro t hK
                refine gc_loop (tocsinref01_Utf8_l79 a0 s7 j37) (fun s69 t I' L' => I40 ≤ I' ∧ L = L' ∧ Knows 98 [(0, .string a0), (3, .int .i64 s7), (5, .int .i64 j37.1), (6, .int .i64 j37.2.1), (7, .int .i64 s69.1), (8, .int .i64 s69.2)] t) (by kernel_rfl) ?_ hl68 ⟨(Imm.refl _), rfl, hK⟩
                rintro s69 o70 t I74 L' hb71 ⟨hI72, rfl, hK73⟩
                unfold tocsinref01_Utf8_l79 at hb71
                refine gk_at hK73 ?_
                refine gk_seq (by kernel_rfl) ?_
                refine gk_seq (by kernel_rfl) ?_
                refine gk_region (by kernel_rfl) ?_
                refine gl_pure 3 [0, 3, 5, 6, 7, 8, 51] (K' := [(0, .string a0), (3, .int .i64 s7), (5, .int .i64 j37.1), (6, .int .i64 j37.2.1), (7, .int .i64 s69.1), (8, .int .i64 s69.2), (51, .bool (decide (s69.2 ≤ j37.1)))]) (by kernel_rfl) ?_
                refine gl_atE (by kernel_rfl) ?_
                refine ge_seq ?_
                refine gk_cond (b := (decide (s69.2 ≤ j37.1))) (by kernel_rfl) (by kernel_rfl) (fun hc81 => ?_) (fun hc81 => ?_)
                · have hb71 := cond_t hc81 hb71
                  refine gk_skip (by kernel_rfl) ?_
                  refine ge_seq ?_
                  refine gk_seq (by kernel_rfl) ?_
                  refine gk_block (by kernel_rfl) ?_
                  refine gk_seq (by kernel_rfl) ?_
                  refine gk_seq (by kernel_rfl) ?_
                  obtain ⟨j82, hj83, hb71⟩ := bind_some hb71
                  refine gk_join (fun t I' L' => I74 ≤ I' ∧ L = L' ∧ Knows 98 [(0, .string a0), (3, .int .i64 s7), (5, .int .i64 j37.1), (6, .int .i64 j37.2.1), (7, .int .i64 s69.1), (8, .int .i64 s69.2), (68, .bool j82)] t) ?_ ?_
                  · refine gk_region (by kernel_rfl) ?_
                    refine gl_pure 7 [0, 3, 5, 6, 7, 8, 60] (K' := [(0, .string a0), (3, .int .i64 s7), (5, .int .i64 j37.1), (6, .int .i64 j37.2.1), (7, .int .i64 s69.1), (8, .int .i64 s69.2), (60, .bool (decide ((IntKind.wrap .i64 (s7 + s69.2)) ≥ (a0.size : Int))))]) (by kernel_rfl) ?_
                    refine gl_case 60 (b := (decide ((IntKind.wrap .i64 (s7 + s69.2)) ≥ (a0.size : Int)))) (by kernel_rfl) (fun hc87 => ?_) (fun hc87 => ?_)
                    · have hj83 := cond_t hc87 hj83
                      refine gl_pure 8 [0, 3, 5, 6, 7, 8, 68] (K' := [(0, .string a0), (3, .int .i64 s7), (5, .int .i64 j37.1), (6, .int .i64 j37.2.1), (7, .int .i64 s69.1), (8, .int .i64 s69.2), (68, .bool true)]) (by kernel_rfl) ?_
                      refine gl_atE (by kernel_rfl) ?_
                      obtain rfl := some_inj hj83
                      exact ge_mid fun t ht => ⟨(Imm.refl _), rfl, ht.pick (l := [0, 3, 5, 6, 7, 8, 68]) (by kernel_rfl)⟩
                    · have hj83 := cond_f hc87 hj83
                      refine gl_pure 4 [0, 3, 5, 6, 7, 8, 60, 61, 64] (K' := [(0, .string a0), (3, .int .i64 s7), (5, .int .i64 j37.1), (6, .int .i64 j37.2.1), (7, .int .i64 s69.1), (8, .int .i64 s69.2), (60, .bool false), (61, .string a0), (64, .int .i64 (IntKind.wrap .i64 (s7 + s69.2)))]) (by kernel_rfl) ?_
                      obtain ⟨c88, hx89, hj83⟩ := bind_some hj83
                      refine gl_index' (T' := 9) (xs := (.tmp 61)) (xi := (.tmp 64)) (kd := .i64) hx89 (by kernel_rfl) (by kernel_rfl) (by kernel_rfl) (by kernel_rfl) (by kernel_rfl) ?_
                      refine gl_pure 3 [0, 3, 5, 6, 7, 8, 68] (K' := [(0, .string a0), (3, .int .i64 s7), (5, .int .i64 j37.1), (6, .int .i64 j37.2.1), (7, .int .i64 s69.1), (8, .int .i64 s69.2), (68, .bool ((bitAnd .u8 c88 192) != 128))]) (by kernel_rfl) ?_
                      refine gl_atE (by kernel_rfl) ?_
                      obtain rfl := some_inj hj83
                      exact ge_mid fun t ht => ⟨(Imm.refl _), rfl, ht.pick (l := [0, 3, 5, 6, 7, 8, 68]) (by kernel_rfl)⟩
                  · rintro t I86 L' ⟨hI84, rfl, hK85⟩
                    refine ge_at hK85 ?_
                    refine ge_seq ?_
                    refine gk_cond (b := j82) (by kernel_rfl) (by kernel_rfl) (fun hc90 => ?_) (fun hc90 => ?_)
                    · have hb71 := cond_t hc90 hb71
                      refine gk_seq (by kernel_rfl) ?_
                      refine gk_region (by kernel_rfl) ?_
                      refine gl_pure 1 [2] (K' := [(2, .bool false)]) (by kernel_rfl) ?_
                      refine gl_atE (by kernel_rfl) ?_
                      refine ge_seq ?_
                      refine gk_ret (by kernel_rfl) ?_
                      refine ge_seq_ret ?_
                      refine ge_block_ret ?_
                      refine ge_seq_ret ?_
                      obtain rfl := some_inj hb71
                      refine ge_round_out (fun hrr => ?_) (by intro h; cases h)
                      obtain rfl := hrr
                      refine ge_block_ret ?_
                      refine ge_seq_ret ?_
                      refine ge_seq_ret ?_
                      refine ge_block_ret ?_
                      refine ge_seq_ret ?_
                      obtain rfl := some_inj hj21
                      obtain rfl := some_inj hb9
                      refine ge_round_out (fun hrr => ?_) (by intro h; cases h)
                      obtain rfl := hrr
                      refine ge_block_ret ?_
                      refine ge_seq_ret ?_
                      refine ge_seq_ret ?_
                      obtain rfl := some_inj hr
                      exact ge_result trivial (ResOk.tmp (by kernel_rfl) ResOk.nil) (Imm.trans (Imm.trans (Imm.trans (Imm.trans hI10 hI29) hI38) hI72) hI84) ⟨rfl, rfl⟩
                    · have hb71 := cond_f hc90 hb71
                      refine gk_skip (by kernel_rfl) ?_
                      refine ge_seq ?_
                      refine gk_region (by kernel_rfl) ?_
                      refine gl_pure 6 [0, 3, 5, 6, 8, 70, 71, 74] (K' := [(0, .string a0), (3, .int .i64 s7), (5, .int .i64 j37.1), (6, .int .i64 j37.2.1), (8, .int .i64 s69.2), (70, .int .i64 (IntKind.wrap .i64 (s69.1 * 64))), (71, .string a0), (74, .int .i64 (IntKind.wrap .i64 (s7 + s69.2)))]) (by kernel_rfl) ?_
                      obtain ⟨c91, hx92, hb71⟩ := bind_some hb71
                      refine gl_index' (T' := 9) (xs := (.tmp 71)) (xi := (.tmp 74)) (kd := .i64) hx92 (by kernel_rfl) (by kernel_rfl) (by kernel_rfl) (by kernel_rfl) (by kernel_rfl) ?_
                      refine gl_pure 4 [0, 3, 5, 6, 7, 8] (K' := [(0, .string a0), (3, .int .i64 s7), (5, .int .i64 j37.1), (6, .int .i64 j37.2.1), (7, .int .i64 (IntKind.wrap .i64 ((IntKind.wrap .i64 (s69.1 * 64)) + (IntKind.wrap .i64 (bitAnd .u8 c91 63))))), (8, .int .i64 s69.2)]) (by kernel_rfl) ?_
                      refine gl_atE (by kernel_rfl) ?_
                      refine ge_block_normal ?_
                      refine ge_seq ?_
                      refine gk_region (by kernel_rfl) ?_
                      refine gl_pure 3 [0, 3, 5, 6, 7, 8] (K' := [(0, .string a0), (3, .int .i64 s7), (5, .int .i64 j37.1), (6, .int .i64 j37.2.1), (7, .int .i64 (IntKind.wrap .i64 ((IntKind.wrap .i64 (s69.1 * 64)) + (IntKind.wrap .i64 (bitAnd .u8 c91 63))))), (8, .int .i64 (IntKind.wrap .i64 (s69.2 + 1)))]) (by kernel_rfl) ?_
                      refine gl_atE (by kernel_rfl) ?_
                      obtain rfl := some_inj hb71
                      exact ge_round fun t ht => ⟨(Imm.trans hI72 hI84), rfl, ht.pick (l := [0, 3, 5, 6, 7, 8]) (by kernel_rfl)⟩
                · have hb71 := cond_f hc81 hb71
                  refine gk_exit (by kernel_rfl) ?_
                  refine ge_seq_exit ?_
                  obtain rfl := some_inj hb71
                  refine ge_round_out (fun hrr => ?_) (by intro h; cases h)
                  obtain rfl := hrr
                  refine ge_block_hit (by kernel_rfl) ?_
                  exact ge_mid fun t ht => ⟨_, rfl, hI72, rfl, ht.pick (l := [0, 3, 5, 6, 7]) (by kernel_rfl)⟩
              · rintro t I78 L' ⟨r75, rfl, hI76, rfl, hK77⟩
                refine ge_at hK77 ?_
                refine ge_seq ?_
                refine gk_seq (by kernel_rfl) ?_
                refine gk_seq (by kernel_rfl) ?_
                obtain ⟨b95, hb96⟩ : ∃ z, z = (((decide (r75 < j37.2.1)) || (decide (r75 > 1114111))) || ((decide (r75 ≥ 55296)) && (decide (r75 < 57344)))) := ⟨_, rfl⟩
                refine gk_join (fun t I' L' => I78 ≤ I' ∧ L = L' ∧ Knows 98 [(0, .string a0), (3, .int .i64 s7), (5, .int .i64 j37.1), (93, .bool b95)] t) ?_ ?_
                · refine gk_region (by kernel_rfl) ?_
                  refine gl_pure 4 [0, 3, 5, 7, 82] (K' := [(0, .string a0), (3, .int .i64 s7), (5, .int .i64 j37.1), (7, .int .i64 r75), (82, .bool (decide (r75 < j37.2.1)))]) (by kernel_rfl) ?_
                  refine gl_case 82 (b := (decide (r75 < j37.2.1))) (by kernel_rfl) (fun hc98 => ?_) (fun hc98 => ?_)
                  · refine gl_pure 11 [0, 3, 5, 93] (K' := [(0, .string a0), (3, .int .i64 s7), (5, .int .i64 j37.1), (93, .bool true)]) (by kernel_rfl) ?_
                    refine gl_atE (by kernel_rfl) ?_
                    exact ge_mid fun t ht => ⟨(Imm.refl _), rfl, by rw [(show b95 = true from hb96.trans (by first | (rw [hc98]; done) | (rw [hc98]; rfl) | (simp [hc98]; done) | (simp only [hc98]; rfl) | (simp at *; omega)))]; exact ht.pick (l := [0, 3, 5, 93]) (by kernel_rfl)⟩
                  · refine gl_pure 4 [0, 3, 5, 7, 86] (K' := [(0, .string a0), (3, .int .i64 s7), (5, .int .i64 j37.1), (7, .int .i64 r75), (86, .bool (decide (r75 > 1114111)))]) (by kernel_rfl) ?_
                    refine gl_case 86 (b := (decide (r75 > 1114111))) (by kernel_rfl) (fun hc99 => ?_) (fun hc99 => ?_)
                    · refine gl_pure 7 [0, 3, 5, 93] (K' := [(0, .string a0), (3, .int .i64 s7), (5, .int .i64 j37.1), (93, .bool true)]) (by kernel_rfl) ?_
                      refine gl_atE (by kernel_rfl) ?_
                      exact ge_mid fun t ht => ⟨(Imm.refl _), rfl, by rw [(show b95 = true from hb96.trans (by first | (rw [hc98, hc99]; done) | (rw [hc98, hc99]; rfl) | (simp [hc98, hc99]; done) | (simp only [hc98, hc99]; rfl) | (simp at *; omega)))]; exact ht.pick (l := [0, 3, 5, 93]) (by kernel_rfl)⟩
                    · refine gl_pure 3 [0, 3, 5, 7, 86, 89] (K' := [(0, .string a0), (3, .int .i64 s7), (5, .int .i64 j37.1), (7, .int .i64 r75), (86, .bool false), (89, .bool (decide (r75 ≥ 55296)))]) (by kernel_rfl) ?_
                      refine gl_case 89 (b := (decide (r75 ≥ 55296))) (by kernel_rfl) (fun hc100 => ?_) (fun hc100 => ?_)
                      · refine gl_pure 4 [0, 3, 5, 93] (K' := [(0, .string a0), (3, .int .i64 s7), (5, .int .i64 j37.1), (93, .bool (decide (r75 < 57344)))]) (by kernel_rfl) ?_
                        refine gl_atE (by kernel_rfl) ?_
                        exact ge_mid fun t ht => ⟨(Imm.refl _), rfl, by rw [(show b95 = (decide (r75 < 57344)) from hb96.trans (by first | (rw [hc98, hc99, hc100]; done) | (rw [hc98, hc99, hc100]; rfl) | (simp [hc98, hc99, hc100]; done) | (simp only [hc98, hc99, hc100]; rfl) | (simp at *; omega)))]; exact ht.pick (l := [0, 3, 5, 93]) (by kernel_rfl)⟩
                      · refine gl_pure 4 [0, 3, 5, 93] (K' := [(0, .string a0), (3, .int .i64 s7), (5, .int .i64 j37.1), (93, .bool false)]) (by kernel_rfl) ?_
                        refine gl_atE (by kernel_rfl) ?_
                        exact ge_mid fun t ht => ⟨(Imm.refl _), rfl, by rw [(show b95 = false from hb96.trans (by first | (rw [hc98, hc99, hc100]; done) | (rw [hc98, hc99, hc100]; rfl) | (simp [hc98, hc99, hc100]; done) | (simp only [hc98, hc99, hc100]; rfl) | (simp at *; omega)))]; exact ht.pick (l := [0, 3, 5, 93]) (by kernel_rfl)⟩
                · rintro t I97 L' ⟨hI93, rfl, hK94⟩
                  subst hb96
                  refine ge_at hK94 ?_
                  refine ge_seq ?_
                  refine gk_cond (b := (((decide (r75 < j37.2.1)) || (decide (r75 > 1114111))) || ((decide (r75 ≥ 55296)) && (decide (r75 < 57344))))) (by kernel_rfl) (by kernel_rfl) (fun hc101 => ?_) (fun hc101 => ?_)
                  · have hj21 := cond_t hc101 hj21
                    refine gk_seq (by kernel_rfl) ?_
                    refine gk_region (by kernel_rfl) ?_
                    refine gl_pure 1 [2] (K' := [(2, .bool false)]) (by kernel_rfl) ?_
                    refine gl_atE (by kernel_rfl) ?_
                    refine ge_seq ?_
                    refine gk_ret (by kernel_rfl) ?_
                    refine ge_seq_ret ?_
                    refine ge_block_ret ?_
                    refine ge_seq_ret ?_
                    obtain rfl := some_inj hj21
                    obtain rfl := some_inj hb9
                    refine ge_round_out (fun hrr => ?_) (by intro h; cases h)
                    obtain rfl := hrr
                    refine ge_block_ret ?_
                    refine ge_seq_ret ?_
                    refine ge_seq_ret ?_
                    obtain rfl := some_inj hr
                    exact ge_result trivial (ResOk.tmp (by kernel_rfl) ResOk.nil) (Imm.trans (Imm.trans (Imm.trans (Imm.trans hI10 hI29) hI38) hI76) hI93) ⟨rfl, rfl⟩
                  · have hj21 := cond_f hc101 hj21
                    refine gk_skip (by kernel_rfl) ?_
                    refine ge_seq ?_
                    refine gk_region (by kernel_rfl) ?_
                    refine gl_pure 5 [0, 3] (K' := [(0, .string a0), (3, .int .i64 (IntKind.wrap .i64 ((IntKind.wrap .i64 (s7 + j37.1)) + 1)))]) (by kernel_rfl) ?_
                    refine gl_atE (by kernel_rfl) ?_
                    refine ge_block_normal ?_
                    obtain rfl := some_inj hj21
                    exact ge_mid fun t ht => ⟨_, rfl, (Imm.trans (Imm.trans (Imm.trans hI29 hI38) hI76) hI93), rfl, ht.pick (l := [0, 3]) (by kernel_rfl)⟩
      · rintro t I25 L' ⟨j22, rfl, hI23, rfl, hK24⟩
        refine ge_at hK24 ?_
        obtain rfl := some_inj hb9
        exact ge_round fun t ht => ⟨(Imm.trans hI10 hI23), rfl, ht.pick (l := [0, 3]) (by kernel_rfl)⟩
    · have hb9 := cond_f hc19 hb9
      refine gk_exit (by kernel_rfl) ?_
      refine ge_seq_exit ?_
      obtain rfl := some_inj hb9
      refine ge_round_out (fun hrr => ?_) (by intro h; cases h)
      obtain rfl := hrr
      refine ge_block_hit (by kernel_rfl) ?_
      exact ge_mid fun t ht => ⟨_, rfl, hI10, rfl, ht.pick (l := []) (by kernel_rfl)⟩
  · rintro t I16 L' ⟨r13, rfl, hI14, rfl, hK15⟩
    refine ge_at hK15 ?_
    refine ge_seq ?_
    refine gk_seq (by kernel_rfl) ?_
    refine gk_region (by kernel_rfl) ?_
    refine gl_pure 1 [2] (K' := [(2, .bool true)]) (by kernel_rfl) ?_
    refine gl_atE (by kernel_rfl) ?_
    refine ge_seq ?_
    refine gk_ret (by kernel_rfl) ?_
    obtain rfl := some_inj hr
    exact ge_result trivial (ResOk.tmp (by kernel_rfl) ResOk.nil) hI14 ⟨rfl, rfl⟩
/-! 28 tocsinref04_one  -/
noncomputable def tocsinref04_one (a0 : S53) : Option Int :=
  Option.bind (tocsinref04_Name a0.f0) fun (y2 : Bool) =>
  bif (!y2) then
  (some 40)
  else
  (bif (a0.f1.toList == (⟨#[]⟩ : ByteArray).toList) then
    (some 41)
    else
    (bif (decide ((a0.f1.size : Int) > 256)) then
      (some 4)
      else
      (Option.bind (tocsinref01_Utf8 a0.f1) fun (y7 : Bool) =>
        bif (!y7) then
        (some 12)
        else
        (some 0))))
theorem tocsinref04_one_walk {a0 : S53} {I : Imm} {r : Int}  (hr : tocsinref04_one a0 = some r) (L : Own) :
    CallsTo Tryd.prog 28 #[.agg #[.string a0.f0, .string a0.f1]] I L (fun v I' L' => v = .int .i64 r ∧ L = L') := by
  unfold tocsinref04_one at hr
  refine callsTo_body (N := 22) Tryd.func28 (by kernel_rfl) (by kernel_rfl) (by kernel_rfl) ?_
  refine gk_pick [0] (K' := [(0, .agg #[.string a0.f0, .string a0.f1])]) (by kernel_rfl) ?_
  refine gk_seq (by kernel_rfl) ?_
  refine gk_region (by kernel_rfl) ?_
  refine gl_box (T' := 54) (x := (.tmp 0)) (v := .agg #[.string a0.f0, .string a0.f1]) (cs := #[.string a0.f0, .string a0.f1]) (by kernel_rfl) (by kernel_rfl) (by kernel_rfl) (by kernel_rfl) (fun g1 => ?_)
  refine gl_pure 1 [1] (K' := [(1, .pointer (some ⟨g1, 0, none⟩))]) (by kernel_rfl) ?_
  refine gl_atE (by kernel_rfl) ?_
  refine ge_seq ?_
  refine gk_seq (by kernel_rfl) ?_
  refine gk_block (by kernel_rfl) ?_
  refine gk_seq (by kernel_rfl) ?_
  refine gk_region (by kernel_rfl) ?_
  refine gl_pure 1 [1, 4] (K' := [(1, .pointer (some ⟨g1, 0, none⟩)), (4, .pointer (some ⟨g1, 0, none⟩))]) (by kernel_rfl) ?_
  refine gl_loadB (T' := 9) (xp := (.tmp 4)) (v := .string a0.f0) (g := g1) (off := 0) (cs := #[.string a0.f0, .string a0.f1]) (e := 54) (fz := (0, 0)) (by kernel_rfl) (by kernel_rfl) (by kernel_rfl) List.mem_cons_self (by kernel_rfl) ?_
  obtain ⟨y2, hx3, hr⟩ := bind_some hr
  refine gl_callQ (by kernel_rfl) (tocsinref04_Name_walk (r := y2)  hx3 _) ?_
  refine gl_pure 2 [1, 3] (K' := [(1, .pointer (some ⟨g1, 0, none⟩)), (3, .bool (!y2))]) (by kernel_rfl) ?_
  refine gl_atE (by kernel_rfl) ?_
  refine ge_seq ?_
  refine gk_cond (b := (!y2)) (by kernel_rfl) (by kernel_rfl) (fun hc4 => ?_) (fun hc4 => ?_)
  · have hr := cond_t hc4 hr
    refine gk_seq (by kernel_rfl) ?_
    refine gk_region (by kernel_rfl) ?_
    refine gl_pure 1 [2] (K' := [(2, .int .i64 40)]) (by kernel_rfl) ?_
    refine gl_atE (by kernel_rfl) ?_
    refine ge_seq ?_
    refine gk_reord (D := L) (Reord.skip (Reord.refl _)) ?_
    refine gk_ret (by kernel_rfl) ?_
    refine ge_block_ret ?_
    refine ge_seq_ret ?_
    obtain rfl := some_inj hr
    exact ge_result trivial (ResOk.tmp (by kernel_rfl) ResOk.nil) (Imm.refl _) ⟨rfl, rfl⟩
  · have hr := cond_f hc4 hr
    refine gk_seq (by kernel_rfl) ?_
    refine gk_region (by kernel_rfl) ?_
    refine gl_pure 1 [1, 9] (K' := [(1, .pointer (some ⟨g1, 0, none⟩)), (9, .pointer (some ⟨g1, 1, none⟩))]) (by kernel_rfl) ?_
    refine gl_loadB (T' := 9) (xp := (.tmp 9)) (v := .string a0.f1) (g := g1) (off := 1) (cs := #[.string a0.f0, .string a0.f1]) (e := 54) (fz := (0, 0)) (by kernel_rfl) (by kernel_rfl) (by kernel_rfl) List.mem_cons_self (by kernel_rfl) ?_
    refine gl_pure 2 [1, 8] (K' := [(1, .pointer (some ⟨g1, 0, none⟩)), (8, .bool (a0.f1.toList == (⟨#[]⟩ : ByteArray).toList))]) (by kernel_rfl) ?_
    refine gl_atE (by kernel_rfl) ?_
    refine ge_seq ?_
    refine gk_cond (b := (a0.f1.toList == (⟨#[]⟩ : ByteArray).toList)) (by kernel_rfl) (by kernel_rfl) (fun hc5 => ?_) (fun hc5 => ?_)
    · have hr := cond_t hc5 hr
      refine gk_seq (by kernel_rfl) ?_
      refine gk_region (by kernel_rfl) ?_
      refine gl_pure 1 [2] (K' := [(2, .int .i64 41)]) (by kernel_rfl) ?_
      refine gl_atE (by kernel_rfl) ?_
      refine ge_seq ?_
      refine gk_reord (D := L) (Reord.skip (Reord.refl _)) ?_
      refine gk_ret (by kernel_rfl) ?_
      refine ge_block_ret ?_
      refine ge_seq_ret ?_
      obtain rfl := some_inj hr
      exact ge_result trivial (ResOk.tmp (by kernel_rfl) ResOk.nil) (Imm.refl _) ⟨rfl, rfl⟩
    · have hr := cond_f hc5 hr
      refine gk_seq (by kernel_rfl) ?_
      refine gk_region (by kernel_rfl) ?_
      refine gl_pure 1 [1, 13] (K' := [(1, .pointer (some ⟨g1, 0, none⟩)), (13, .pointer (some ⟨g1, 1, none⟩))]) (by kernel_rfl) ?_
      refine gl_loadB (T' := 9) (xp := (.tmp 13)) (v := .string a0.f1) (g := g1) (off := 1) (cs := #[.string a0.f0, .string a0.f1]) (e := 54) (fz := (0, 0)) (by kernel_rfl) (by kernel_rfl) (by kernel_rfl) List.mem_cons_self (by kernel_rfl) ?_
      refine gl_pure 3 [1, 12] (K' := [(1, .pointer (some ⟨g1, 0, none⟩)), (12, .bool (decide ((a0.f1.size : Int) > 256)))]) (by kernel_rfl) ?_
      refine gl_atE (by kernel_rfl) ?_
      refine ge_seq ?_
      refine gk_cond (b := (decide ((a0.f1.size : Int) > 256))) (by kernel_rfl) (by kernel_rfl) (fun hc6 => ?_) (fun hc6 => ?_)
      · have hr := cond_t hc6 hr
        refine gk_seq (by kernel_rfl) ?_
        refine gk_region (by kernel_rfl) ?_
        refine gl_pure 1 [2] (K' := [(2, .int .i64 4)]) (by kernel_rfl) ?_
        refine gl_atE (by kernel_rfl) ?_
        refine ge_seq ?_
        refine gk_reord (D := L) (Reord.skip (Reord.refl _)) ?_
        refine gk_ret (by kernel_rfl) ?_
        refine ge_block_ret ?_
        refine ge_seq_ret ?_
        obtain rfl := some_inj hr
        exact ge_result trivial (ResOk.tmp (by kernel_rfl) ResOk.nil) (Imm.refl _) ⟨rfl, rfl⟩
      · have hr := cond_f hc6 hr
        refine gk_seq (by kernel_rfl) ?_
        refine gk_region (by kernel_rfl) ?_
        refine gl_pure 1 [18] (K' := [(18, .pointer (some ⟨g1, 1, none⟩))]) (by kernel_rfl) ?_
        refine gl_loadB (T' := 9) (xp := (.tmp 18)) (v := .string a0.f1) (g := g1) (off := 1) (cs := #[.string a0.f0, .string a0.f1]) (e := 54) (fz := (0, 0)) (by kernel_rfl) (by kernel_rfl) (by kernel_rfl) List.mem_cons_self (by kernel_rfl) ?_
        obtain ⟨y7, hx8, hr⟩ := bind_some hr
        refine gl_callQ (by kernel_rfl) (tocsinref01_Utf8_walk (r := y7)  hx8 _) ?_
        refine gl_pure 2 [17] (K' := [(17, .bool (!y7))]) (by kernel_rfl) ?_
        refine gl_atE (by kernel_rfl) ?_
        refine ge_seq ?_
        refine gk_cond (b := (!y7)) (by kernel_rfl) (by kernel_rfl) (fun hc9 => ?_) (fun hc9 => ?_)
        · have hr := cond_t hc9 hr
          refine gk_seq (by kernel_rfl) ?_
          refine gk_region (by kernel_rfl) ?_
          refine gl_pure 1 [2] (K' := [(2, .int .i64 12)]) (by kernel_rfl) ?_
          refine gl_atE (by kernel_rfl) ?_
          refine ge_seq ?_
          refine gk_reord (D := L) (Reord.skip (Reord.refl _)) ?_
          refine gk_ret (by kernel_rfl) ?_
          refine ge_block_ret ?_
          refine ge_seq_ret ?_
          obtain rfl := some_inj hr
          exact ge_result trivial (ResOk.tmp (by kernel_rfl) ResOk.nil) (Imm.refl _) ⟨rfl, rfl⟩
        · have hr := cond_f hc9 hr
          refine gk_skip (by kernel_rfl) ?_
          refine ge_block_normal ?_
          refine ge_seq ?_
          refine gk_seq (by kernel_rfl) ?_
          refine gk_region (by kernel_rfl) ?_
          refine gl_pure 1 [2] (K' := [(2, .int .i64 0)]) (by kernel_rfl) ?_
          refine gl_atE (by kernel_rfl) ?_
          refine ge_seq ?_
          refine gk_reord (D := L) (Reord.skip (Reord.refl _)) ?_
          refine gk_ret (by kernel_rfl) ?_
          obtain rfl := some_inj hr
          exact ge_result trivial (ResOk.tmp (by kernel_rfl) ResOk.nil) (Imm.refl _) ⟨rfl, rfl⟩
/-! 10 tocsinref04_Right  -/
noncomputable def tocsinref04_Right_l18 (a0 : List S53) : Int → Option ((Int) ⊕ ((Unit) ⊕ (Int × Int))) := fun s8 =>
  bif (decide (s8 < (a0.length : Int))) then
  (Option.bind (ix a0 s8) fun (x21 : S53) =>
    Option.bind (tocsinref04_one x21) fun (y30 : Int) =>
    bif (y30 != 0) then
    (some (Sum.inr (Sum.inr (y30, s8))))
    else
    (Option.bind (bif (decide (s8 > 0)) then
        (Option.bind (ix a0 (IntKind.wrap .i64 (s8 - 1))) fun (x39 : S53) =>
          some (!(Op.bytesLess x39.f0.toList x21.f0.toList)))
        else
        (some false)) fun (j33 : Bool) =>
      bif j33 then
      (some (Sum.inr (Sum.inr (3, s8))))
      else
      (some (Sum.inl (IntKind.wrap .i64 (s8 + 1))))))
  else
  (some (Sum.inr (Sum.inl ())))
noncomputable def tocsinref04_Right (a0 : List S53) : Option (Int × Int) :=
  bif (decide ((a0.length : Int) > 16)) then
  (some (8, 0))
  else
  (Option.bind (loopO (tocsinref04_Right_l18 a0) 0) fun (r6 : (Unit) ⊕ (Int × Int)) =>
    match r6 with
    | Sum.inl r14 => some (0, 0)
    | Sum.inr v48 => some v48)
theorem tocsinref04_Right_walk {a0 : List S53} {A0_0 : Option Addr} {n0_0 : Nat} {I : Imm} {r : Int × Int}  (hf0_0 : RepS kS53 I A0_0 n0_0 a0) (hr : tocsinref04_Right a0 = some r) (L : Own) :
    CallsTo Tryd.prog 10 #[.slice A0_0 a0.length n0_0] I L (fun v I' L' => v = .tuple #[.int .i64 r.1, .int .i64 r.2] ∧ L = L') := by
  unfold tocsinref04_Right at hr
  refine callsTo_body (N := 38) Tryd.func10 (by kernel_rfl) (by kernel_rfl) (by kernel_rfl) ?_
  refine gk_pick [0] (K' := [(0, .slice A0_0 a0.length n0_0)]) (by kernel_rfl) ?_
  refine gk_seq (by kernel_rfl) ?_
  refine gk_region (by kernel_rfl) ?_
  refine gl_pure 2 [0] (K' := [(0, .slice A0_0 a0.length n0_0)]) (by kernel_rfl) ?_
  refine gl_atE (by kernel_rfl) ?_
  refine ge_seq ?_
  refine gk_seq (by kernel_rfl) ?_
  refine gk_seq (by kernel_rfl) ?_
  refine gk_region (by kernel_rfl) ?_
  refine gl_pure 3 [0, 9] (K' := [(0, .slice A0_0 a0.length n0_0), (9, .bool (decide ((a0.length : Int) > 16)))]) (by kernel_rfl) ?_
  refine gl_atE (by kernel_rfl) ?_
  refine ge_seq ?_
  refine gk_cond (b := (decide ((a0.length : Int) > 16))) (by kernel_rfl) (by kernel_rfl) (fun hc1 => ?_) (fun hc1 => ?_)
  · have hr := cond_t hc1 hr
    refine gk_seq (by kernel_rfl) ?_
    refine gk_region (by kernel_rfl) ?_
    refine gl_pure 2 [2, 3] (K' := [(2, .int .i64 8), (3, .int .i64 0)]) (by kernel_rfl) ?_
    refine gl_atE (by kernel_rfl) ?_
    refine ge_seq ?_
    refine gk_ret (by kernel_rfl) ?_
    refine ge_seq_ret ?_
    obtain rfl := some_inj hr
    exact ge_result trivial (ResOk.tmp (by kernel_rfl) (ResOk.tmp (by kernel_rfl) ResOk.nil)) (Imm.refl _) ⟨rfl, rfl⟩
  · have hr := cond_f hc1 hr
    refine gk_skip (by kernel_rfl) ?_
    refine ge_seq ?_
    refine gk_seq (by kernel_rfl) ?_
    refine gk_seq (by kernel_rfl) ?_
    refine gk_region (by kernel_rfl) ?_
    refine gl_pure 3 [0, 10, 11, 12] (K' := [(0, .slice A0_0 a0.length n0_0), (10, .slice A0_0 a0.length n0_0), (11, .int .i64 (a0.length : Int)), (12, .int .i64 0)]) (by kernel_rfl) ?_
    refine gl_atE (by kernel_rfl) ?_
    refine ge_seq ?_
    obtain ⟨r6, hl7, hr⟩ := bind_some hr
    refine gk_join (fun t I' L' => ∃ r14, r6 = Sum.inl r14 ∧ I ≤ I' ∧ L = L' ∧ Knows 38 [] t) ?_ ?_
    · refine gk_block (by kernel_rfl) ?_
      refine gk_pick [0, 10, 11, 12] (K' := [(0, .slice A0_0 a0.length n0_0), (10, .slice A0_0 a0.length n0_0), (11, .int .i64 (a0.length : Int)), (12, .int .i64 0)]) (by kernel_rfl) ?_
      intro t hK
      refine gc_loop (tocsinref04_Right_l18 a0) (fun s8 t I' L' => I ≤ I' ∧ L = L' ∧ Knows 38 [(0, .slice A0_0 a0.length n0_0), (10, .slice A0_0 a0.length n0_0), (11, .int .i64 (a0.length : Int)), (12, .int .i64 s8)] t) (by kernel_rfl) ?_ hl7 ⟨(Imm.refl _), rfl, hK⟩
      rintro s8 o9 t I13 L' hb10 ⟨hI11, rfl, hK12⟩
      unfold tocsinref04_Right_l18 at hb10
      refine gk_at hK12 ?_
      refine gk_seq (by kernel_rfl) ?_
      refine gk_region (by kernel_rfl) ?_
      refine gl_pure 1 [0, 10, 11, 12, 13] (K' := [(0, .slice A0_0 a0.length n0_0), (10, .slice A0_0 a0.length n0_0), (11, .int .i64 (a0.length : Int)), (12, .int .i64 s8), (13, .bool (decide (s8 < (a0.length : Int))))]) (by kernel_rfl) ?_
      refine gl_atE (by kernel_rfl) ?_
      refine ge_seq ?_
      refine gk_seq (by kernel_rfl) ?_
      refine gk_cond (b := (decide (s8 < (a0.length : Int)))) (by kernel_rfl) (by kernel_rfl) (fun hc20 => ?_) (fun hc20 => ?_)
      · have hb10 := cond_t hc20 hb10
        refine gk_skip (by kernel_rfl) ?_
        refine ge_seq ?_
        refine gk_seq (by kernel_rfl) ?_
        refine gk_block (by kernel_rfl) ?_
        refine gk_seq (by kernel_rfl) ?_
        refine gk_region (by kernel_rfl) ?_
        refine gl_pure 1 [0, 10, 11, 12, 14] (K' := [(0, .slice A0_0 a0.length n0_0), (10, .slice A0_0 a0.length n0_0), (11, .int .i64 (a0.length : Int)), (12, .int .i64 s8), (14, .int .i64 s8)]) (by kernel_rfl) ?_
        obtain ⟨x21, hx22, hb10⟩ := bind_some hb10
        obtain ⟨p23, cs24, hR25, hA26, ha27⟩ := RepS.ixAt hx22 (hf0_0.mono hI11)
        have hi28 := ix_some hx22
        obtain rfl := kS53_open hR25
        refine gl_indexAddrF (c := n0_0) (T' := 25) (e := 54) (xs := (.tmp 10)) (xi := (.tmp 12)) (kd := .i64) ha27 hi28.1 hi28.2.1 (by kernel_rfl) (by kernel_rfl) (by kernel_rfl) (by kernel_rfl) (by kernel_rfl) ?_
        refine gl_loadA (T' := 54) (xp := (.tmp 15)) (p := p23) (cs := [.string x21.f0, .string x21.f1]) (by kernel_rfl) (by kernel_rfl) (by kernel_rfl) (by kernel_rfl) (hA26.take 2) ?_
        refine gl_alloc (T' := 54) (cs := #[.string (⟨#[]⟩ : ByteArray), .string (⟨#[]⟩ : ByteArray)]) (by kernel_rfl) (by kernel_rfl) (by kernel_rfl) (fun g29 => ?_)
        refine gl_pure 1 [0, 4, 5, 10, 11, 12, 16] (K' := [(0, .slice A0_0 a0.length n0_0), (4, .int .i64 s8), (5, .pointer (some ⟨g29, 0, none⟩)), (10, .slice A0_0 a0.length n0_0), (11, .int .i64 (a0.length : Int)), (12, .int .i64 s8), (16, .agg #[.string x21.f0, .string x21.f1])]) (by kernel_rfl) ?_
        refine gl_storeB (T' := 54) (xp := (.tmp 5)) (xv := (.tmp 16)) (v := .agg #[.string x21.f0, .string x21.f1]) (g := g29) (off := 0) (cs := #[.string (⟨#[]⟩ : ByteArray), .string (⟨#[]⟩ : ByteArray)]) (cs' := #[.string x21.f0, .string x21.f1]) (by kernel_rfl) (by kernel_rfl) (by kernel_rfl) (by kernel_rfl) (by kernel_rfl) (Upd.set _ _ _ _) ?_ (by kernel_rfl)
        refine gl_atE (by kernel_rfl) ?_
        refine ge_seq ?_
        refine gk_seq (by kernel_rfl) ?_
        refine gk_seq (by kernel_rfl) ?_
        refine gk_region (by kernel_rfl) ?_
        refine gl_loadB (T' := 54) (xp := (.tmp 5)) (v := .agg #[.string x21.f0, .string x21.f1]) (g := g29) (off := 0) (cs := #[.string x21.f0, .string x21.f1]) (e := 54) (fz := (0, 0)) (by kernel_rfl) (by kernel_rfl) (by kernel_rfl) List.mem_cons_self (by kernel_rfl) ?_
        obtain ⟨y30, hx31, hb10⟩ := bind_some hb10
        refine gl_callQ (by kernel_rfl) (tocsinref04_one_walk (r := y30)  hx31 _) ?_
        refine gl_pure 1 [0, 4, 5, 6, 10, 11, 12] (K' := [(0, .slice A0_0 a0.length n0_0), (4, .int .i64 s8), (5, .pointer (some ⟨g29, 0, none⟩)), (6, .int .i64 y30), (10, .slice A0_0 a0.length n0_0), (11, .int .i64 (a0.length : Int)), (12, .int .i64 s8)]) (by kernel_rfl) ?_
        refine gl_atE (by kernel_rfl) ?_
        refine ge_seq ?_
        refine gk_seq (by kernel_rfl) ?_
        refine gk_region (by kernel_rfl) ?_
        refine gl_pure 2 [0, 4, 5, 6, 10, 11, 12, 20] (K' := [(0, .slice A0_0 a0.length n0_0), (4, .int .i64 s8), (5, .pointer (some ⟨g29, 0, none⟩)), (6, .int .i64 y30), (10, .slice A0_0 a0.length n0_0), (11, .int .i64 (a0.length : Int)), (12, .int .i64 s8), (20, .bool (y30 != 0))]) (by kernel_rfl) ?_
        refine gl_atE (by kernel_rfl) ?_
        refine ge_seq ?_
        refine gk_cond (b := (y30 != 0)) (by kernel_rfl) (by kernel_rfl) (fun hc32 => ?_) (fun hc32 => ?_)
        · have hb10 := cond_t hc32 hb10
          refine gk_seq (by kernel_rfl) ?_
          refine gk_region (by kernel_rfl) ?_
          refine gl_pure 4 [2, 3] (K' := [(2, .int .i64 y30), (3, .int .i64 s8)]) (by kernel_rfl) ?_
          refine gl_atE (by kernel_rfl) ?_
          refine ge_seq ?_
          refine gk_reord (D := L) (Reord.skip (Reord.refl _)) ?_
          refine gk_ret (by kernel_rfl) ?_
          refine ge_seq_ret ?_
          refine ge_block_ret ?_
          refine ge_seq_ret ?_
          obtain rfl := some_inj hb10
          refine ge_round_out (fun hrr => ?_) (by intro h; cases h)
          obtain rfl := hrr
          refine ge_block_ret ?_
          refine ge_seq_ret ?_
          refine ge_seq_ret ?_
          obtain rfl := some_inj hr
          exact ge_result trivial (ResOk.tmp (by kernel_rfl) (ResOk.tmp (by kernel_rfl) ResOk.nil)) hI11 ⟨rfl, rfl⟩
        · have hb10 := cond_f hc32 hb10
          refine gk_skip (by kernel_rfl) ?_
          refine ge_seq ?_
          refine gk_seq (by kernel_rfl) ?_
          obtain ⟨j33, hj34, hb10⟩ := bind_some hb10
          refine gk_join (fun t I' L' => I13 ≤ I' ∧ L = L' ∧ Knows 38 [(0, .slice A0_0 a0.length n0_0), (4, .int .i64 s8), (10, .slice A0_0 a0.length n0_0), (11, .int .i64 (a0.length : Int)), (12, .int .i64 s8), (35, .bool j33)] t) ?_ ?_
          · refine gk_draw 13 [(0, true), (1, true), (2, true), (3, true), (4, true), (5, true), (6, true), (7, true), (8, true), (9, true), (10, true), (11, true), (12, true)] [(g29, .cells #[.string x21.f0, .string x21.f1] 54)] (List.forall_mem_cons.2 ⟨List.mem_cons_self, (fun p hp => by cases hp)⟩) (by kernel_rfl) (by kernel_rfl) (by kernel_rfl) ?_ (by kernel_rfl)
            refine gd_pure 3 [0, 4, 5, 10, 11, 12, 25] (K' := [(0, .slice A0_0 a0.length n0_0), (4, .int .i64 s8), (5, .pointer (some ⟨g29, 0, none⟩)), (10, .slice A0_0 a0.length n0_0), (11, .int .i64 (a0.length : Int)), (12, .int .i64 s8), (25, .bool (decide (s8 > 0)))]) (s' := [(3, true), (4, true), (5, true), (6, true), (7, true), (8, true), (9, true), (10, true), (11, true), (12, true)]) (CC.refl (List.forall_mem_cons.2 ⟨List.mem_cons_self, (fun p hp => by cases hp)⟩)) (by kernel_rfl) ?_
            refine gd_case 25 (b := (decide (s8 > 0))) (by kernel_rfl) (fun hc38 => ?_) (fun hc38 => ?_)
            · have hj34 := cond_t hc38 hj34
              refine gd_pure 3 [0, 4, 5, 10, 11, 12, 25, 26, 28] (K' := [(0, .slice A0_0 a0.length n0_0), (4, .int .i64 s8), (5, .pointer (some ⟨g29, 0, none⟩)), (10, .slice A0_0 a0.length n0_0), (11, .int .i64 (a0.length : Int)), (12, .int .i64 s8), (25, .bool true), (26, .slice A0_0 a0.length n0_0), (28, .int .i64 (IntKind.wrap .i64 (s8 - 1)))]) (s' := [(6, true), (7, true), (8, true), (9, true), (10, true), (11, true), (12, true)]) (CC.refl (List.forall_mem_cons.2 ⟨List.mem_cons_self, (fun p hp => by cases hp)⟩)) (by kernel_rfl) ?_
              obtain ⟨x39, hx40, hj34⟩ := bind_some hj34
              obtain ⟨p41, cs42, hR43, hA44, ha45⟩ := RepS.ixAt hx40 (hf0_0.mono hI11)
              have hi46 := ix_some hx40
              obtain rfl := kS53_open hR43
              refine gd_q (v := .pointer (some p41)) (by kernel_rfl) (by kernel_rfl) (CC.refl (List.forall_mem_cons.2 ⟨List.mem_cons_self, (fun p hp => by cases hp)⟩)) (fun I' L' T hC kk => gl_indexAddrF (c := n0_0) (T' := 25) (e := 54) (xs := (.tmp 26)) (xi := (.tmp 28)) (kd := .i64) ha45 hi46.1 hi46.2.1 (by kernel_rfl) (by kernel_rfl) (by kernel_rfl) (by kernel_rfl) (by kernel_rfl) kk) ?_
              refine gd_pure 1 [0, 4, 5, 10, 11, 12, 25, 30] (K' := [(0, .slice A0_0 a0.length n0_0), (4, .int .i64 s8), (5, .pointer (some ⟨g29, 0, none⟩)), (10, .slice A0_0 a0.length n0_0), (11, .int .i64 (a0.length : Int)), (12, .int .i64 s8), (25, .bool true), (30, .pointer (some (p41.add 0)))]) (s' := [(8, true), (9, true), (10, true), (11, true), (12, true)]) (CC.refl (List.forall_mem_cons.2 ⟨List.mem_cons_self, (fun p hp => by cases hp)⟩)) (by kernel_rfl) ?_
              refine gd_q (v := .string x39.f0) (by kernel_rfl) (by kernel_rfl) (CC.refl (List.forall_mem_cons.2 ⟨List.mem_cons_self, (fun p hp => by cases hp)⟩)) (fun I' L' T hC kk => gl_load (T' := 9) (xp := (.tmp 30)) (p := (p41.add 0)) (c := .string x39.f0) (n := 1) (by kernel_rfl) (by kernel_rfl) (by kernel_rfl) (by kernel_rfl) ((hA44.drop 0).mono hC.le) kk) ?_
              refine gd_pure 1 [0, 4, 10, 11, 12, 25, 31, 32] (K' := [(0, .slice A0_0 a0.length n0_0), (4, .int .i64 s8), (10, .slice A0_0 a0.length n0_0), (11, .int .i64 (a0.length : Int)), (12, .int .i64 s8), (25, .bool true), (31, .string x39.f0), (32, .pointer (some ⟨g29, 0, none⟩))]) (s' := [(10, true), (11, true), (12, true)]) (CC.refl (List.forall_mem_cons.2 ⟨List.mem_cons_self, (fun p hp => by cases hp)⟩)) (by kernel_rfl) ?_
              refine gd_q (v := .string x21.f0) (by kernel_rfl) (by kernel_rfl) (CC.refl (List.forall_mem_cons.2 ⟨List.mem_cons_self, (fun p hp => by cases hp)⟩)) (fun I' L' T hC kk => gl_loadB (T' := 9) (xp := (.tmp 32)) (v := .string x21.f0) (g := g29) (off := 0) (cs := #[.string x21.f0, .string x21.f1]) (e := 54) (fz := (0, 0)) (by kernel_rfl) (by kernel_rfl) (by kernel_rfl) (hC.sub _ List.mem_cons_self) (by kernel_rfl) kk) ?_
              refine gd_pure 2 [0, 4, 10, 11, 12, 35] (K' := [(0, .slice A0_0 a0.length n0_0), (4, .int .i64 s8), (10, .slice A0_0 a0.length n0_0), (11, .int .i64 (a0.length : Int)), (12, .int .i64 s8), (35, .bool (!(Op.bytesLess x39.f0.toList x21.f0.toList)))]) (s' := []) (CC.refl (List.forall_mem_cons.2 ⟨List.mem_cons_self, (fun p hp => by cases hp)⟩)) (by kernel_rfl) ?_
              refine gd_done ?_
              refine gl_reord (D := L) (Reord.skip (Reord.refl _)) ?_
              refine gl_atE (by kernel_rfl) ?_
              obtain rfl := some_inj hj34
              exact ge_mid fun t ht => ⟨(Imm.refl _), rfl, ht.pick (l := [0, 4, 10, 11, 12, 35]) (by kernel_rfl)⟩
            · have hj34 := cond_f hc38 hj34
              refine gd_pure 10 [0, 4, 10, 11, 12, 35] (K' := [(0, .slice A0_0 a0.length n0_0), (4, .int .i64 s8), (10, .slice A0_0 a0.length n0_0), (11, .int .i64 (a0.length : Int)), (12, .int .i64 s8), (35, .bool false)]) (s' := []) (CC.refl (List.forall_mem_cons.2 ⟨List.mem_cons_self, (fun p hp => by cases hp)⟩)) (by kernel_rfl) ?_
              refine gd_done ?_
              refine gl_reord (D := L) (Reord.skip (Reord.refl _)) ?_
              refine gl_atE (by kernel_rfl) ?_
              obtain rfl := some_inj hj34
              exact ge_mid fun t ht => ⟨(Imm.refl _), rfl, ht.pick (l := [0, 4, 10, 11, 12, 35]) (by kernel_rfl)⟩
          · rintro t I37 L' ⟨hI35, rfl, hK36⟩
            refine ge_at hK36 ?_
            refine ge_seq ?_
            refine gk_cond (b := j33) (by kernel_rfl) (by kernel_rfl) (fun hc47 => ?_) (fun hc47 => ?_)
            · have hb10 := cond_t hc47 hb10
              refine gk_seq (by kernel_rfl) ?_
              refine gk_region (by kernel_rfl) ?_
              refine gl_pure 3 [2, 3] (K' := [(2, .int .i64 3), (3, .int .i64 s8)]) (by kernel_rfl) ?_
              refine gl_atE (by kernel_rfl) ?_
              refine ge_seq ?_
              refine gk_ret (by kernel_rfl) ?_
              refine ge_block_ret ?_
              refine ge_seq_ret ?_
              obtain rfl := some_inj hb10
              refine ge_round_out (fun hrr => ?_) (by intro h; cases h)
              obtain rfl := hrr
              refine ge_block_ret ?_
              refine ge_seq_ret ?_
              refine ge_seq_ret ?_
              obtain rfl := some_inj hr
              exact ge_result trivial (ResOk.tmp (by kernel_rfl) (ResOk.tmp (by kernel_rfl) ResOk.nil)) (Imm.trans hI11 hI35) ⟨rfl, rfl⟩
            · have hb10 := cond_f hc47 hb10
              refine gk_skip (by kernel_rfl) ?_
              refine ge_block_normal ?_
              refine ge_seq ?_
              refine gk_region (by kernel_rfl) ?_
              refine gl_pure 2 [0, 10, 11, 12] (K' := [(0, .slice A0_0 a0.length n0_0), (10, .slice A0_0 a0.length n0_0), (11, .int .i64 (a0.length : Int)), (12, .int .i64 (IntKind.wrap .i64 (s8 + 1)))]) (by kernel_rfl) ?_
              refine gl_atE (by kernel_rfl) ?_
              obtain rfl := some_inj hb10
              exact ge_round fun t ht => ⟨(Imm.trans hI11 hI35), rfl, ht.pick (l := [0, 10, 11, 12]) (by kernel_rfl)⟩
      · have hb10 := cond_f hc20 hb10
        refine gk_exit (by kernel_rfl) ?_
        refine ge_seq_exit ?_
        obtain rfl := some_inj hb10
        refine ge_round_out (fun hrr => ?_) (by intro h; cases h)
        obtain rfl := hrr
        refine ge_block_hit (by kernel_rfl) ?_
        exact ge_mid fun t ht => ⟨_, rfl, hI11, rfl, ht.pick (l := []) (by kernel_rfl)⟩
    · rintro t I17 L' ⟨r14, rfl, hI15, rfl, hK16⟩
      refine ge_at hK16 ?_
      refine ge_seq ?_
      refine gk_seq (by kernel_rfl) ?_
      refine gk_region (by kernel_rfl) ?_
      refine gl_pure 2 [2, 3] (K' := [(2, .int .i64 0), (3, .int .i64 0)]) (by kernel_rfl) ?_
      refine gl_atE (by kernel_rfl) ?_
      refine ge_seq ?_
      refine gk_ret (by kernel_rfl) ?_
      obtain rfl := some_inj hr
      exact ge_result trivial (ResOk.tmp (by kernel_rfl) (ResOk.tmp (by kernel_rfl) ResOk.nil)) hI15 ⟨rfl, rfl⟩
/-! 11 tocsinref04_Get  -/
noncomputable def tocsinref04_Get_l17 (a0 : List S53) (a1 : ByteArray) : Int → Option ((Int) ⊕ ((Unit) ⊕ (ByteArray))) := fun s7 =>
  bif (decide (s7 < (a0.length : Int))) then
  (Option.bind (ix a0 s7) fun (x20 : S53) =>
    bif (x20.f0.toList == a1.toList) then
    (some (Sum.inr (Sum.inr x20.f1)))
    else
    (some (Sum.inl (IntKind.wrap .i64 (s7 + 1)))))
  else
  (some (Sum.inr (Sum.inl ())))
noncomputable def tocsinref04_Get (a0 : List S53) (a1 : ByteArray) : Option ByteArray :=
  Option.bind (loopO (tocsinref04_Get_l17 a0 a1) 0) fun (r5 : (Unit) ⊕ (ByteArray)) =>
  match r5 with
  | Sum.inl r13 => some (⟨#[]⟩ : ByteArray)
  | Sum.inr v30 => some v30
theorem tocsinref04_Get_walk {a0 : List S53} {A0_0 : Option Addr} {n0_0 : Nat} {a1 : ByteArray} {I : Imm} {r : ByteArray}  (hf0_0 : RepS kS53 I A0_0 n0_0 a0) (hr : tocsinref04_Get a0 a1 = some r) (L : Own) :
    CallsTo Tryd.prog 11 #[.slice A0_0 a0.length n0_0, .string a1] I L (fun v I' L' => v = .string r ∧ L = L') := by
  unfold tocsinref04_Get at hr
  refine callsTo_body (N := 20) Tryd.func11 (by kernel_rfl) (by kernel_rfl) (by kernel_rfl) ?_
  refine gk_pick [0, 1] (K' := [(0, .slice A0_0 a0.length n0_0), (1, .string a1)]) (by kernel_rfl) ?_
  refine gk_seq (by kernel_rfl) ?_
  refine gk_region (by kernel_rfl) ?_
  refine gl_pure 1 [0, 1] (K' := [(0, .slice A0_0 a0.length n0_0), (1, .string a1)]) (by kernel_rfl) ?_
  refine gl_atE (by kernel_rfl) ?_
  refine ge_seq ?_
  refine gk_seq (by kernel_rfl) ?_
  refine gk_seq (by kernel_rfl) ?_
  refine gk_region (by kernel_rfl) ?_
  refine gl_pure 3 [1, 7, 8, 9] (K' := [(1, .string a1), (7, .slice A0_0 a0.length n0_0), (8, .int .i64 (a0.length : Int)), (9, .int .i64 0)]) (by kernel_rfl) ?_
  refine gl_atE (by kernel_rfl) ?_
  refine ge_seq ?_
  obtain ⟨r5, hl6, hr⟩ := bind_some hr
  refine gk_join (fun t I' L' => ∃ r13, r5 = Sum.inl r13 ∧ I ≤ I' ∧ L = L' ∧ Knows 20 [] t) ?_ ?_
  · refine gk_block (by kernel_rfl) ?_
    refine gk_pick [1, 7, 8, 9] (K' := [(1, .string a1), (7, .slice A0_0 a0.length n0_0), (8, .int .i64 (a0.length : Int)), (9, .int .i64 0)]) (by kernel_rfl) ?_
    intro t hK
    refine gc_loop (tocsinref04_Get_l17 a0 a1) (fun s7 t I' L' => I ≤ I' ∧ L = L' ∧ Knows 20 [(1, .string a1), (7, .slice A0_0 a0.length n0_0), (8, .int .i64 (a0.length : Int)), (9, .int .i64 s7)] t) (by kernel_rfl) ?_ hl6 ⟨(Imm.refl _), rfl, hK⟩
    rintro s7 o8 t I12 L' hb9 ⟨hI10, rfl, hK11⟩
    unfold tocsinref04_Get_l17 at hb9
    refine gk_at hK11 ?_
    refine gk_seq (by kernel_rfl) ?_
    refine gk_region (by kernel_rfl) ?_
    refine gl_pure 1 [1, 7, 8, 9, 10] (K' := [(1, .string a1), (7, .slice A0_0 a0.length n0_0), (8, .int .i64 (a0.length : Int)), (9, .int .i64 s7), (10, .bool (decide (s7 < (a0.length : Int))))]) (by kernel_rfl) ?_
    refine gl_atE (by kernel_rfl) ?_
    refine ge_seq ?_
    refine gk_seq (by kernel_rfl) ?_
    refine gk_cond (b := (decide (s7 < (a0.length : Int)))) (by kernel_rfl) (by kernel_rfl) (fun hc19 => ?_) (fun hc19 => ?_)
    · have hb9 := cond_t hc19 hb9
      refine gk_skip (by kernel_rfl) ?_
      refine ge_seq ?_
      refine gk_seq (by kernel_rfl) ?_
      refine gk_block (by kernel_rfl) ?_
      refine gk_seq (by kernel_rfl) ?_
      refine gk_region (by kernel_rfl) ?_
      obtain ⟨x20, hx21, hb9⟩ := bind_some hb9
      obtain ⟨p22, cs23, hR24, hA25, ha26⟩ := RepS.ixAt hx21 (hf0_0.mono hI10)
      have hi27 := ix_some hx21
      obtain rfl := kS53_open hR24
      refine gl_indexAddrF (c := n0_0) (T' := 25) (e := 54) (xs := (.tmp 7)) (xi := (.tmp 9)) (kd := .i64) ha26 hi27.1 hi27.2.1 (by kernel_rfl) (by kernel_rfl) (by kernel_rfl) (by kernel_rfl) (by kernel_rfl) ?_
      refine gl_loadA (T' := 54) (xp := (.tmp 11)) (p := p22) (cs := [.string x20.f0, .string x20.f1]) (by kernel_rfl) (by kernel_rfl) (by kernel_rfl) (by kernel_rfl) (hA25.take 2) ?_
      refine gl_alloc (T' := 54) (cs := #[.string (⟨#[]⟩ : ByteArray), .string (⟨#[]⟩ : ByteArray)]) (by kernel_rfl) (by kernel_rfl) (by kernel_rfl) (fun g28 => ?_)
      refine gl_storeB (T' := 54) (xp := (.tmp 6)) (xv := (.tmp 12)) (v := .agg #[.string x20.f0, .string x20.f1]) (g := g28) (off := 0) (cs := #[.string (⟨#[]⟩ : ByteArray), .string (⟨#[]⟩ : ByteArray)]) (cs' := #[.string x20.f0, .string x20.f1]) (by kernel_rfl) (by kernel_rfl) (by kernel_rfl) (by kernel_rfl) (by kernel_rfl) (Upd.set _ _ _ _) ?_ (by kernel_rfl)
      refine gl_atE (by kernel_rfl) ?_
      refine ge_seq ?_
      refine gk_seq (by kernel_rfl) ?_
      refine gk_region (by kernel_rfl) ?_
      refine gl_pure 1 [1, 6, 7, 8, 9, 13] (K' := [(1, .string a1), (6, .pointer (some ⟨g28, 0, none⟩)), (7, .slice A0_0 a0.length n0_0), (8, .int .i64 (a0.length : Int)), (9, .int .i64 s7), (13, .pointer (some ⟨g28, 0, none⟩))]) (by kernel_rfl) ?_
      refine gl_loadB (T' := 9) (xp := (.tmp 13)) (v := .string x20.f0) (g := g28) (off := 0) (cs := #[.string x20.f0, .string x20.f1]) (e := 54) (fz := (0, 0)) (by kernel_rfl) (by kernel_rfl) (by kernel_rfl) List.mem_cons_self (by kernel_rfl) ?_
      refine gl_pure 2 [1, 6, 7, 8, 9, 16] (K' := [(1, .string a1), (6, .pointer (some ⟨g28, 0, none⟩)), (7, .slice A0_0 a0.length n0_0), (8, .int .i64 (a0.length : Int)), (9, .int .i64 s7), (16, .bool (x20.f0.toList == a1.toList))]) (by kernel_rfl) ?_
      refine gl_atE (by kernel_rfl) ?_
      refine ge_seq ?_
      refine gk_cond (b := (x20.f0.toList == a1.toList)) (by kernel_rfl) (by kernel_rfl) (fun hc29 => ?_) (fun hc29 => ?_)
      · have hb9 := cond_t hc29 hb9
        refine gk_seq (by kernel_rfl) ?_
        refine gk_region (by kernel_rfl) ?_
        refine gl_pure 1 [17] (K' := [(17, .pointer (some ⟨g28, 1, none⟩))]) (by kernel_rfl) ?_
        refine gl_loadB (T' := 9) (xp := (.tmp 17)) (v := .string x20.f1) (g := g28) (off := 1) (cs := #[.string x20.f0, .string x20.f1]) (e := 54) (fz := (0, 0)) (by kernel_rfl) (by kernel_rfl) (by kernel_rfl) List.mem_cons_self (by kernel_rfl) ?_
        refine gl_pure 1 [4] (K' := [(4, .string x20.f1)]) (by kernel_rfl) ?_
        refine gl_atE (by kernel_rfl) ?_
        refine ge_seq ?_
        refine gk_reord (D := L) (Reord.skip (Reord.refl _)) ?_
        refine gk_ret (by kernel_rfl) ?_
        refine ge_block_ret ?_
        refine ge_seq_ret ?_
        obtain rfl := some_inj hb9
        refine ge_round_out (fun hrr => ?_) (by intro h; cases h)
        obtain rfl := hrr
        refine ge_block_ret ?_
        refine ge_seq_ret ?_
        refine ge_seq_ret ?_
        obtain rfl := some_inj hr
        exact ge_result trivial (ResOk.tmp (by kernel_rfl) ResOk.nil) hI10 ⟨rfl, rfl⟩
      · have hb9 := cond_f hc29 hb9
        refine gk_skip (by kernel_rfl) ?_
        refine ge_block_normal ?_
        refine ge_seq ?_
        refine gk_region (by kernel_rfl) ?_
        refine gl_pure 2 [1, 7, 8, 9] (K' := [(1, .string a1), (7, .slice A0_0 a0.length n0_0), (8, .int .i64 (a0.length : Int)), (9, .int .i64 (IntKind.wrap .i64 (s7 + 1)))]) (by kernel_rfl) ?_
        refine gl_reord (D := L) (Reord.skip (Reord.refl _)) ?_
        refine gl_atE (by kernel_rfl) ?_
        obtain rfl := some_inj hb9
        exact ge_round fun t ht => ⟨hI10, rfl, ht.pick (l := [1, 7, 8, 9]) (by kernel_rfl)⟩
    · have hb9 := cond_f hc19 hb9
      refine gk_exit (by kernel_rfl) ?_
      refine ge_seq_exit ?_
      obtain rfl := some_inj hb9
      refine ge_round_out (fun hrr => ?_) (by intro h; cases h)
      obtain rfl := hrr
      refine ge_block_hit (by kernel_rfl) ?_
      exact ge_mid fun t ht => ⟨_, rfl, hI10, rfl, ht.pick (l := []) (by kernel_rfl)⟩
  · rintro t I16 L' ⟨r13, rfl, hI14, rfl, hK15⟩
    refine ge_at hK15 ?_
    refine ge_seq ?_
    refine gk_seq (by kernel_rfl) ?_
    refine gk_region (by kernel_rfl) ?_
    refine gl_pure 1 [4] (K' := [(4, .string (⟨#[]⟩ : ByteArray))]) (by kernel_rfl) ?_
    refine gl_atE (by kernel_rfl) ?_
    refine ge_seq ?_
    refine gk_ret (by kernel_rfl) ?_
    obtain rfl := some_inj hr
    exact ge_result trivial (ResOk.tmp (by kernel_rfl) ResOk.nil) hI14 ⟨rfl, rfl⟩
/-! 12 tocsinref04_Metric  -/
noncomputable def tocsinref04_Metric_l24 (a0 : ByteArray) : Int → Option ((Int) ⊕ ((Unit) ⊕ (Bool))) := fun s14 =>
  bif (decide (s14 < (a0.size : Int))) then
  (Option.bind (Option.bind (bx a0 s14) fun (c32 : Int) =>
      bif (!(tocsinref04_letter c32)) then
      (Option.bind (bx a0 s14) fun (c35 : Int) =>
        bif (c35 != 58) then
        (bif (s14 == 0) then
          (some true)
          else
          (Option.bind (bx a0 s14) fun (c39 : Int) =>
            some (!(tocsinref04_digit c39))))
        else
        (some false))
      else
      (some false)) fun (j27 : Bool) =>
    bif j27 then
    (some (Sum.inr (Sum.inr false)))
    else
    (some (Sum.inl (IntKind.wrap .i64 (s14 + 1)))))
  else
  (some (Sum.inr (Sum.inl ())))
noncomputable def tocsinref04_Metric (a0 : ByteArray) : Option Bool :=
  bif ((a0.toList == (⟨#[]⟩ : ByteArray).toList) || (decide ((a0.size : Int) > 256))) then
  (some false)
  else
  (Option.bind (loopO (tocsinref04_Metric_l24 a0) 0) fun (r12 : (Unit) ⊕ (Bool)) =>
    match r12 with
    | Sum.inl r20 => some true
    | Sum.inr v42 => some v42)
theorem tocsinref04_Metric_walk {a0 : ByteArray} {I : Imm} {r : Bool}  (hr : tocsinref04_Metric a0 = some r) (L : Own) :
    CallsTo Tryd.prog 12 #[.string a0] I L (fun v I' L' => v = .bool r ∧ L = L') := by
  unfold tocsinref04_Metric at hr
  refine callsTo_body (N := 39) Tryd.func12 (by kernel_rfl) (by kernel_rfl) (by kernel_rfl) ?_
  refine gk_pick [0] (K' := [(0, .string a0)]) (by kernel_rfl) ?_
  refine gk_seq (by kernel_rfl) ?_
  refine gk_region (by kernel_rfl) ?_
  refine gl_pure 1 [0] (K' := [(0, .string a0)]) (by kernel_rfl) ?_
  refine gl_atE (by kernel_rfl) ?_
  refine ge_seq ?_
  refine gk_seq (by kernel_rfl) ?_
  refine gk_seq (by kernel_rfl) ?_
  obtain ⟨b3, hb4⟩ : ∃ z, z = ((a0.toList == (⟨#[]⟩ : ByteArray).toList) || (decide ((a0.size : Int) > 256))) := ⟨_, rfl⟩
  refine gk_join (fun t I' L' => I ≤ I' ∧ L = L' ∧ Knows 39 [(0, .string a0), (10, .bool b3)] t) ?_ ?_
  · refine gk_region (by kernel_rfl) ?_
    refine gl_pure 3 [0, 6] (K' := [(0, .string a0), (6, .bool (a0.toList == (⟨#[]⟩ : ByteArray).toList))]) (by kernel_rfl) ?_
    refine gl_case 6 (b := (a0.toList == (⟨#[]⟩ : ByteArray).toList)) (by kernel_rfl) (fun hc6 => ?_) (fun hc6 => ?_)
    · refine gl_pure 4 [0, 10] (K' := [(0, .string a0), (10, .bool true)]) (by kernel_rfl) ?_
      refine gl_atE (by kernel_rfl) ?_
      exact ge_mid fun t ht => ⟨(Imm.refl _), rfl, by rw [(show b3 = true from hb4.trans (by first | (rw [hc6]; done) | (rw [hc6]; rfl) | (simp [hc6]; done) | (simp only [hc6]; rfl) | (simp at *; omega)))]; exact ht.pick (l := [0, 10]) (by kernel_rfl)⟩
    · refine gl_pure 4 [0, 10] (K' := [(0, .string a0), (10, .bool (decide ((a0.size : Int) > 256)))]) (by kernel_rfl) ?_
      refine gl_atE (by kernel_rfl) ?_
      exact ge_mid fun t ht => ⟨(Imm.refl _), rfl, by rw [(show b3 = (decide ((a0.size : Int) > 256)) from hb4.trans (by first | (rw [hc6]; done) | (rw [hc6]; rfl) | (simp [hc6]; done) | (simp only [hc6]; rfl) | (simp at *; omega)))]; exact ht.pick (l := [0, 10]) (by kernel_rfl)⟩
  · rintro t I5 L' ⟨hI1, rfl, hK2⟩
    subst hb4
    refine ge_at hK2 ?_
    refine ge_seq ?_
    refine gk_cond (b := ((a0.toList == (⟨#[]⟩ : ByteArray).toList) || (decide ((a0.size : Int) > 256)))) (by kernel_rfl) (by kernel_rfl) (fun hc7 => ?_) (fun hc7 => ?_)
    · have hr := cond_t hc7 hr
      refine gk_seq (by kernel_rfl) ?_
      refine gk_region (by kernel_rfl) ?_
      refine gl_pure 1 [2] (K' := [(2, .bool false)]) (by kernel_rfl) ?_
      refine gl_atE (by kernel_rfl) ?_
      refine ge_seq ?_
      refine gk_ret (by kernel_rfl) ?_
      refine ge_seq_ret ?_
      obtain rfl := some_inj hr
      exact ge_result trivial (ResOk.tmp (by kernel_rfl) ResOk.nil) hI1 ⟨rfl, rfl⟩
    · have hr := cond_f hc7 hr
      refine gk_skip (by kernel_rfl) ?_
      refine ge_seq ?_
      refine gk_seq (by kernel_rfl) ?_
      refine gk_seq (by kernel_rfl) ?_
      refine gk_region (by kernel_rfl) ?_
      refine gl_pure 3 [0, 12, 13] (K' := [(0, .string a0), (12, .int .i64 (a0.size : Int)), (13, .int .i64 0)]) (by kernel_rfl) ?_
      refine gl_atE (by kernel_rfl) ?_
      refine ge_seq ?_
      obtain ⟨r12, hl13, hr⟩ := bind_some hr
      refine gk_join (fun t I' L' => ∃ r20, r12 = Sum.inl r20 ∧ I5 ≤ I' ∧ L = L' ∧ Knows 39 [] t) ?_ ?_
      · refine gk_block (by kernel_rfl) ?_
        refine gk_pick [0, 12, 13] (K' := [(0, .string a0), (12, .int .i64 (a0.size : Int)), (13, .int .i64 0)]) (by kernel_rfl) ?_
        intro t hK
        refine gc_loop (tocsinref04_Metric_l24 a0) (fun s14 t I' L' => I5 ≤ I' ∧ L = L' ∧ Knows 39 [(0, .string a0), (12, .int .i64 (a0.size : Int)), (13, .int .i64 s14)] t) (by kernel_rfl) ?_ hl13 ⟨(Imm.refl _), rfl, hK⟩
        rintro s14 o15 t I19 L' hb16 ⟨hI17, rfl, hK18⟩
        unfold tocsinref04_Metric_l24 at hb16
        refine gk_at hK18 ?_
        refine gk_seq (by kernel_rfl) ?_
        refine gk_region (by kernel_rfl) ?_
        refine gl_pure 1 [0, 12, 13, 14] (K' := [(0, .string a0), (12, .int .i64 (a0.size : Int)), (13, .int .i64 s14), (14, .bool (decide (s14 < (a0.size : Int))))]) (by kernel_rfl) ?_
        refine gl_atE (by kernel_rfl) ?_
        refine ge_seq ?_
        refine gk_seq (by kernel_rfl) ?_
        refine gk_cond (b := (decide (s14 < (a0.size : Int)))) (by kernel_rfl) (by kernel_rfl) (fun hc26 => ?_) (fun hc26 => ?_)
        · have hb16 := cond_t hc26 hb16
          refine gk_skip (by kernel_rfl) ?_
          refine ge_seq ?_
          refine gk_seq (by kernel_rfl) ?_
          refine gk_block (by kernel_rfl) ?_
          refine gk_seq (by kernel_rfl) ?_
          refine gk_region (by kernel_rfl) ?_
          refine gl_pure 2 [0, 3, 12, 13] (K' := [(0, .string a0), (3, .int .i64 s14), (12, .int .i64 (a0.size : Int)), (13, .int .i64 s14)]) (by kernel_rfl) ?_
          refine gl_atE (by kernel_rfl) ?_
          refine ge_seq ?_
          refine gk_seq (by kernel_rfl) ?_
          obtain ⟨j27, hj28, hb16⟩ := bind_some hb16
          refine gk_join (fun t I' L' => I19 ≤ I' ∧ L = L' ∧ Knows 39 [(0, .string a0), (12, .int .i64 (a0.size : Int)), (13, .int .i64 s14), (37, .bool j27)] t) ?_ ?_
          · refine gk_region (by kernel_rfl) ?_
            refine gl_pure 2 [0, 3, 12, 13, 16, 17] (K' := [(0, .string a0), (3, .int .i64 s14), (12, .int .i64 (a0.size : Int)), (13, .int .i64 s14), (16, .string a0), (17, .int .i64 s14)]) (by kernel_rfl) ?_
            obtain ⟨c32, hx33, hj28⟩ := bind_some hj28
            refine gl_index' (T' := 9) (xs := (.tmp 16)) (xi := (.tmp 17)) (kd := .i64) hx33 (by kernel_rfl) (by kernel_rfl) (by kernel_rfl) (by kernel_rfl) (by kernel_rfl) ?_
            refine gl_callQ (by kernel_rfl) (tocsinref04_letter_walk (r := (tocsinref04_letter c32))  rfl _) ?_
            refine gl_pure 2 [0, 3, 12, 13, 21] (K' := [(0, .string a0), (3, .int .i64 s14), (12, .int .i64 (a0.size : Int)), (13, .int .i64 s14), (21, .bool (!(tocsinref04_letter c32)))]) (by kernel_rfl) ?_
            refine gl_case 21 (b := (!(tocsinref04_letter c32))) (by kernel_rfl) (fun hc34 => ?_) (fun hc34 => ?_)
            · have hj28 := cond_t hc34 hj28
              refine gl_pure 2 [0, 3, 12, 13, 21, 22, 23] (K' := [(0, .string a0), (3, .int .i64 s14), (12, .int .i64 (a0.size : Int)), (13, .int .i64 s14), (21, .bool true), (22, .string a0), (23, .int .i64 s14)]) (by kernel_rfl) ?_
              obtain ⟨c35, hx36, hj28⟩ := bind_some hj28
              refine gl_index' (T' := 9) (xs := (.tmp 22)) (xi := (.tmp 23)) (kd := .i64) hx36 (by kernel_rfl) (by kernel_rfl) (by kernel_rfl) (by kernel_rfl) (by kernel_rfl) ?_
              refine gl_pure 3 [0, 3, 12, 13, 27] (K' := [(0, .string a0), (3, .int .i64 s14), (12, .int .i64 (a0.size : Int)), (13, .int .i64 s14), (27, .bool (c35 != 58))]) (by kernel_rfl) ?_
              refine gl_case 27 (b := (c35 != 58)) (by kernel_rfl) (fun hc37 => ?_) (fun hc37 => ?_)
              · have hj28 := cond_t hc37 hj28
                refine gl_pure 3 [0, 3, 12, 13, 27, 30] (K' := [(0, .string a0), (3, .int .i64 s14), (12, .int .i64 (a0.size : Int)), (13, .int .i64 s14), (27, .bool true), (30, .bool (s14 == 0))]) (by kernel_rfl) ?_
                refine gl_case 30 (b := (s14 == 0)) (by kernel_rfl) (fun hc38 => ?_) (fun hc38 => ?_)
                · have hj28 := cond_t hc38 hj28
                  refine gl_pure 7 [0, 12, 13, 37] (K' := [(0, .string a0), (12, .int .i64 (a0.size : Int)), (13, .int .i64 s14), (37, .bool true)]) (by kernel_rfl) ?_
                  refine gl_atE (by kernel_rfl) ?_
                  obtain rfl := some_inj hj28
                  exact ge_mid fun t ht => ⟨(Imm.refl _), rfl, ht.pick (l := [0, 12, 13, 37]) (by kernel_rfl)⟩
                · have hj28 := cond_f hc38 hj28
                  refine gl_pure 2 [0, 12, 13, 27, 30, 31, 32] (K' := [(0, .string a0), (12, .int .i64 (a0.size : Int)), (13, .int .i64 s14), (27, .bool true), (30, .bool false), (31, .string a0), (32, .int .i64 s14)]) (by kernel_rfl) ?_
                  obtain ⟨c39, hx40, hj28⟩ := bind_some hj28
                  refine gl_index' (T' := 9) (xs := (.tmp 31)) (xi := (.tmp 32)) (kd := .i64) hx40 (by kernel_rfl) (by kernel_rfl) (by kernel_rfl) (by kernel_rfl) (by kernel_rfl) ?_
                  refine gl_callQ (by kernel_rfl) (tocsinref04_digit_walk (r := (tocsinref04_digit c39))  rfl _) ?_
                  refine gl_pure 3 [0, 12, 13, 37] (K' := [(0, .string a0), (12, .int .i64 (a0.size : Int)), (13, .int .i64 s14), (37, .bool (!(tocsinref04_digit c39)))]) (by kernel_rfl) ?_
                  refine gl_atE (by kernel_rfl) ?_
                  obtain rfl := some_inj hj28
                  exact ge_mid fun t ht => ⟨(Imm.refl _), rfl, ht.pick (l := [0, 12, 13, 37]) (by kernel_rfl)⟩
              · have hj28 := cond_f hc37 hj28
                refine gl_pure 10 [0, 12, 13, 37] (K' := [(0, .string a0), (12, .int .i64 (a0.size : Int)), (13, .int .i64 s14), (37, .bool false)]) (by kernel_rfl) ?_
                refine gl_atE (by kernel_rfl) ?_
                obtain rfl := some_inj hj28
                exact ge_mid fun t ht => ⟨(Imm.refl _), rfl, ht.pick (l := [0, 12, 13, 37]) (by kernel_rfl)⟩
            · have hj28 := cond_f hc34 hj28
              refine gl_pure 16 [0, 12, 13, 37] (K' := [(0, .string a0), (12, .int .i64 (a0.size : Int)), (13, .int .i64 s14), (37, .bool false)]) (by kernel_rfl) ?_
              refine gl_atE (by kernel_rfl) ?_
              obtain rfl := some_inj hj28
              exact ge_mid fun t ht => ⟨(Imm.refl _), rfl, ht.pick (l := [0, 12, 13, 37]) (by kernel_rfl)⟩
          · rintro t I31 L' ⟨hI29, rfl, hK30⟩
            refine ge_at hK30 ?_
            refine ge_seq ?_
            refine gk_cond (b := j27) (by kernel_rfl) (by kernel_rfl) (fun hc41 => ?_) (fun hc41 => ?_)
            · have hb16 := cond_t hc41 hb16
              refine gk_seq (by kernel_rfl) ?_
              refine gk_region (by kernel_rfl) ?_
              refine gl_pure 1 [2] (K' := [(2, .bool false)]) (by kernel_rfl) ?_
              refine gl_atE (by kernel_rfl) ?_
              refine ge_seq ?_
              refine gk_ret (by kernel_rfl) ?_
              refine ge_block_ret ?_
              refine ge_seq_ret ?_
              obtain rfl := some_inj hb16
              refine ge_round_out (fun hrr => ?_) (by intro h; cases h)
              obtain rfl := hrr
              refine ge_block_ret ?_
              refine ge_seq_ret ?_
              refine ge_seq_ret ?_
              obtain rfl := some_inj hr
              exact ge_result trivial (ResOk.tmp (by kernel_rfl) ResOk.nil) (Imm.trans (Imm.trans hI1 hI17) hI29) ⟨rfl, rfl⟩
            · have hb16 := cond_f hc41 hb16
              refine gk_skip (by kernel_rfl) ?_
              refine ge_block_normal ?_
              refine ge_seq ?_
              refine gk_region (by kernel_rfl) ?_
              refine gl_pure 2 [0, 12, 13] (K' := [(0, .string a0), (12, .int .i64 (a0.size : Int)), (13, .int .i64 (IntKind.wrap .i64 (s14 + 1)))]) (by kernel_rfl) ?_
              refine gl_atE (by kernel_rfl) ?_
              obtain rfl := some_inj hb16
              exact ge_round fun t ht => ⟨(Imm.trans hI17 hI29), rfl, ht.pick (l := [0, 12, 13]) (by kernel_rfl)⟩
        · have hb16 := cond_f hc26 hb16
          refine gk_exit (by kernel_rfl) ?_
          refine ge_seq_exit ?_
          obtain rfl := some_inj hb16
          refine ge_round_out (fun hrr => ?_) (by intro h; cases h)
          obtain rfl := hrr
          refine ge_block_hit (by kernel_rfl) ?_
          exact ge_mid fun t ht => ⟨_, rfl, hI17, rfl, ht.pick (l := []) (by kernel_rfl)⟩
      · rintro t I23 L' ⟨r20, rfl, hI21, rfl, hK22⟩
        refine ge_at hK22 ?_
        refine ge_seq ?_
        refine gk_seq (by kernel_rfl) ?_
        refine gk_region (by kernel_rfl) ?_
        refine gl_pure 1 [2] (K' := [(2, .bool true)]) (by kernel_rfl) ?_
        refine gl_atE (by kernel_rfl) ?_
        refine ge_seq ?_
        refine gk_ret (by kernel_rfl) ?_
        obtain rfl := some_inj hr
        exact ge_result trivial (ResOk.tmp (by kernel_rfl) ResOk.nil) (Imm.trans hI1 hI21) ⟨rfl, rfl⟩
/-! 31 tocsinref04_has  -/
noncomputable def tocsinref04_has_l17 (a0 : List ByteArray) (a1 : ByteArray) : Int → Option ((Int) ⊕ ((Unit) ⊕ (Bool))) := fun s7 =>
  bif (decide (s7 < (a0.length : Int))) then
  (Option.bind (ix a0 s7) fun (x20 : ByteArray) =>
    bif (x20.toList == a1.toList) then
    (some (Sum.inr (Sum.inr true)))
    else
    (some (Sum.inl (IntKind.wrap .i64 (s7 + 1)))))
  else
  (some (Sum.inr (Sum.inl ())))
noncomputable def tocsinref04_has (a0 : List ByteArray) (a1 : ByteArray) : Option Bool :=
  Option.bind (loopO (tocsinref04_has_l17 a0 a1) 0) fun (r5 : (Unit) ⊕ (Bool)) =>
  match r5 with
  | Sum.inl r13 => some false
  | Sum.inr v29 => some v29
theorem tocsinref04_has_walk {a0 : List ByteArray} {A0_0 : Option Addr} {n0_0 : Nat} {a1 : ByteArray} {I : Imm} {r : Bool}  (hf0_0 : RepS Kd.str I A0_0 n0_0 a0) (hr : tocsinref04_has a0 a1 = some r) (L : Own) :
    CallsTo Tryd.prog 31 #[.slice A0_0 a0.length n0_0, .string a1] I L (fun v I' L' => v = .bool r ∧ L = L') := by
  unfold tocsinref04_has at hr
  refine callsTo_body (N := 17) Tryd.func31 (by kernel_rfl) (by kernel_rfl) (by kernel_rfl) ?_
  refine gk_pick [0, 1] (K' := [(0, .slice A0_0 a0.length n0_0), (1, .string a1)]) (by kernel_rfl) ?_
  refine gk_seq (by kernel_rfl) ?_
  refine gk_region (by kernel_rfl) ?_
  refine gl_pure 1 [0, 1] (K' := [(0, .slice A0_0 a0.length n0_0), (1, .string a1)]) (by kernel_rfl) ?_
  refine gl_atE (by kernel_rfl) ?_
  refine ge_seq ?_
  refine gk_seq (by kernel_rfl) ?_
  refine gk_seq (by kernel_rfl) ?_
  refine gk_region (by kernel_rfl) ?_
  refine gl_pure 3 [1, 7, 8, 9] (K' := [(1, .string a1), (7, .slice A0_0 a0.length n0_0), (8, .int .i64 (a0.length : Int)), (9, .int .i64 0)]) (by kernel_rfl) ?_
  refine gl_atE (by kernel_rfl) ?_
  refine ge_seq ?_
  obtain ⟨r5, hl6, hr⟩ := bind_some hr
  refine gk_join (fun t I' L' => ∃ r13, r5 = Sum.inl r13 ∧ I ≤ I' ∧ L = L' ∧ Knows 17 [] t) ?_ ?_
  · refine gk_block (by kernel_rfl) ?_
    refine gk_pick [1, 7, 8, 9] (K' := [(1, .string a1), (7, .slice A0_0 a0.length n0_0), (8, .int .i64 (a0.length : Int)), (9, .int .i64 0)]) (by kernel_rfl) ?_
    intro t hK
    refine gc_loop (tocsinref04_has_l17 a0 a1) (fun s7 t I' L' => I ≤ I' ∧ L = L' ∧ Knows 17 [(1, .string a1), (7, .slice A0_0 a0.length n0_0), (8, .int .i64 (a0.length : Int)), (9, .int .i64 s7)] t) (by kernel_rfl) ?_ hl6 ⟨(Imm.refl _), rfl, hK⟩
    rintro s7 o8 t I12 L' hb9 ⟨hI10, rfl, hK11⟩
    unfold tocsinref04_has_l17 at hb9
    refine gk_at hK11 ?_
    refine gk_seq (by kernel_rfl) ?_
    refine gk_region (by kernel_rfl) ?_
    refine gl_pure 1 [1, 7, 8, 9, 10] (K' := [(1, .string a1), (7, .slice A0_0 a0.length n0_0), (8, .int .i64 (a0.length : Int)), (9, .int .i64 s7), (10, .bool (decide (s7 < (a0.length : Int))))]) (by kernel_rfl) ?_
    refine gl_atE (by kernel_rfl) ?_
    refine ge_seq ?_
    refine gk_seq (by kernel_rfl) ?_
    refine gk_cond (b := (decide (s7 < (a0.length : Int)))) (by kernel_rfl) (by kernel_rfl) (fun hc19 => ?_) (fun hc19 => ?_)
    · have hb9 := cond_t hc19 hb9
      refine gk_skip (by kernel_rfl) ?_
      refine ge_seq ?_
      refine gk_seq (by kernel_rfl) ?_
      refine gk_block (by kernel_rfl) ?_
      refine gk_seq (by kernel_rfl) ?_
      refine gk_region (by kernel_rfl) ?_
      obtain ⟨x20, hx21, hb9⟩ := bind_some hb9
      obtain ⟨p22, cs23, hR24, hA25, ha26⟩ := RepS.ixAt hx21 (hf0_0.mono hI10)
      have hi27 := ix_some hx21
      obtain rfl := hR24
      refine gl_indexAddrF (c := n0_0) (T' := 52) (e := 9) (xs := (.tmp 7)) (xi := (.tmp 9)) (kd := .i64) ha26 hi27.1 hi27.2.1 (by kernel_rfl) (by kernel_rfl) (by kernel_rfl) (by kernel_rfl) (by kernel_rfl) ?_
      refine gl_load (T' := 9) (xp := (.tmp 11)) (p := p22) (c := .string x20) (n := 1) (by kernel_rfl) (by kernel_rfl) (by kernel_rfl) (by kernel_rfl) hA25 ?_
      refine gl_pure 1 [1, 6, 7, 8, 9] (K' := [(1, .string a1), (6, .string x20), (7, .slice A0_0 a0.length n0_0), (8, .int .i64 (a0.length : Int)), (9, .int .i64 s7)]) (by kernel_rfl) ?_
      refine gl_atE (by kernel_rfl) ?_
      refine ge_seq ?_
      refine gk_seq (by kernel_rfl) ?_
      refine gk_region (by kernel_rfl) ?_
      refine gl_pure 3 [1, 7, 8, 9, 15] (K' := [(1, .string a1), (7, .slice A0_0 a0.length n0_0), (8, .int .i64 (a0.length : Int)), (9, .int .i64 s7), (15, .bool (x20.toList == a1.toList))]) (by kernel_rfl) ?_
      refine gl_atE (by kernel_rfl) ?_
      refine ge_seq ?_
      refine gk_cond (b := (x20.toList == a1.toList)) (by kernel_rfl) (by kernel_rfl) (fun hc28 => ?_) (fun hc28 => ?_)
      · have hb9 := cond_t hc28 hb9
        refine gk_seq (by kernel_rfl) ?_
        refine gk_region (by kernel_rfl) ?_
        refine gl_pure 1 [4] (K' := [(4, .bool true)]) (by kernel_rfl) ?_
        refine gl_atE (by kernel_rfl) ?_
        refine ge_seq ?_
        refine gk_ret (by kernel_rfl) ?_
        refine ge_block_ret ?_
        refine ge_seq_ret ?_
        obtain rfl := some_inj hb9
        refine ge_round_out (fun hrr => ?_) (by intro h; cases h)
        obtain rfl := hrr
        refine ge_block_ret ?_
        refine ge_seq_ret ?_
        refine ge_seq_ret ?_
        obtain rfl := some_inj hr
        exact ge_result trivial (ResOk.tmp (by kernel_rfl) ResOk.nil) hI10 ⟨rfl, rfl⟩
      · have hb9 := cond_f hc28 hb9
        refine gk_skip (by kernel_rfl) ?_
        refine ge_block_normal ?_
        refine ge_seq ?_
        refine gk_region (by kernel_rfl) ?_
        refine gl_pure 2 [1, 7, 8, 9] (K' := [(1, .string a1), (7, .slice A0_0 a0.length n0_0), (8, .int .i64 (a0.length : Int)), (9, .int .i64 (IntKind.wrap .i64 (s7 + 1)))]) (by kernel_rfl) ?_
        refine gl_atE (by kernel_rfl) ?_
        obtain rfl := some_inj hb9
        exact ge_round fun t ht => ⟨hI10, rfl, ht.pick (l := [1, 7, 8, 9]) (by kernel_rfl)⟩
    · have hb9 := cond_f hc19 hb9
      refine gk_exit (by kernel_rfl) ?_
      refine ge_seq_exit ?_
      obtain rfl := some_inj hb9
      refine ge_round_out (fun hrr => ?_) (by intro h; cases h)
      obtain rfl := hrr
      refine ge_block_hit (by kernel_rfl) ?_
      exact ge_mid fun t ht => ⟨_, rfl, hI10, rfl, ht.pick (l := []) (by kernel_rfl)⟩
  · rintro t I16 L' ⟨r13, rfl, hI14, rfl, hK15⟩
    refine ge_at hK15 ?_
    refine ge_seq ?_
    refine gk_seq (by kernel_rfl) ?_
    refine gk_region (by kernel_rfl) ?_
    refine gl_pure 1 [4] (K' := [(4, .bool false)]) (by kernel_rfl) ?_
    refine gl_atE (by kernel_rfl) ?_
    refine ge_seq ?_
    refine gk_ret (by kernel_rfl) ?_
    obtain rfl := some_inj hr
    exact ge_result trivial (ResOk.tmp (by kernel_rfl) ResOk.nil) hI14 ⟨rfl, rfl⟩
/-! 13 tocsinref04_Pick  -/
noncomputable def tocsinref04_Pick_l28 (a0 : List S53) (a1 : List ByteArray) (a2 : Bool) : ((List S53) × Int) → Option (((List S53) × Int) ⊕ ((List S53))) := fun s11 =>
  bif (decide (s11.2 < (a0.length : Int))) then
  (Option.bind (ix a0 s11.2) fun (x31 : S53) =>
    Option.bind (tocsinref04_has a1 x31.f0) fun (y40 : Bool) =>
    Option.bind (bif (y40 == a2) then
      (Option.bind (app s11.1 [x31]) fun (zs56 : List S53) =>
        some zs56)
      else
      (some s11.1)) fun (j42 : (List S53)) =>
    some (Sum.inl (j42, (IntKind.wrap .i64 (s11.2 + 1)))))
  else
  (some (Sum.inr s11.1))
noncomputable def tocsinref04_Pick (a0 : List S53) (a1 : List ByteArray) (a2 : Bool) : Option (List S53) :=
  Option.bind (loopO (tocsinref04_Pick_l28 a0 a1 a2) ([], 0)) fun (r9 : (List S53)) =>
  some r9
theorem tocsinref04_Pick_walk {a0 : List S53} {A0_0 : Option Addr} {n0_0 : Nat} {a1 : List ByteArray} {A1_0 : Option Addr} {n1_0 : Nat} {a2 : Bool} {I : Imm} {r : (List S53)}  (hf0_0 : RepS kS53 I A0_0 n0_0 a0)  (hf1_0 : RepS Kd.str I A1_0 n1_0 a1) (hr : tocsinref04_Pick a0 a1 a2 = some r) (L : Own) :
    CallsTo Tryd.prog 13 #[.slice A0_0 a0.length n0_0, .slice A1_0 a1.length n1_0, .bool a2] I L (fun v I' L' => ∃ A0 c0 C0, OwnS kS53 54 I' A0 c0 r C0 ∧ v = .slice A0 r.length c0 ∧ C0 ++ L = L') := by
  unfold tocsinref04_Pick at hr
  refine callsTo_body (N := 28) Tryd.func13 (by kernel_rfl) (by kernel_rfl) (by kernel_rfl) ?_
  refine gk_pick [0, 1, 2] (K' := [(0, .slice A0_0 a0.length n0_0), (1, .slice A1_0 a1.length n1_0), (2, .bool a2)]) (by kernel_rfl) ?_
  refine gk_seq (by kernel_rfl) ?_
  refine gk_region (by kernel_rfl) ?_
  refine gl_pure 1 [0, 1, 2] (K' := [(0, .slice A0_0 a0.length n0_0), (1, .slice A1_0 a1.length n1_0), (2, .bool a2)]) (by kernel_rfl) ?_
  refine gl_atE (by kernel_rfl) ?_
  refine ge_seq ?_
  refine gk_seq (by kernel_rfl) ?_
  refine gk_region (by kernel_rfl) ?_
  refine gl_pure 1 [0, 1, 2, 7] (K' := [(0, .slice A0_0 a0.length n0_0), (1, .slice A1_0 a1.length n1_0), (2, .bool a2), (7, .slice none 0 0)]) (by kernel_rfl) ?_
  refine gl_atE (by kernel_rfl) ?_
  refine ge_seq ?_
  refine gk_seq (by kernel_rfl) ?_
  refine gk_seq (by kernel_rfl) ?_
  refine gk_region (by kernel_rfl) ?_
  refine gl_pure 3 [1, 2, 7, 10, 11, 12] (K' := [(1, .slice A1_0 a1.length n1_0), (2, .bool a2), (7, .slice none 0 0), (10, .slice A0_0 a0.length n0_0), (11, .int .i64 (a0.length : Int)), (12, .int .i64 0)]) (by kernel_rfl) ?_
  refine gl_atE (by kernel_rfl) ?_
  refine ge_seq ?_
  obtain ⟨r9, hl10, hr⟩ := bind_some hr
  refine gk_join (fun t I' L' => ∃ A22 n23 C24, OwnS kS53 54 I' A22 n23 r9 C24 ∧ I ≤ I' ∧ C24 ++ L = L' ∧ Knows 28 [(7, .slice A22 r9.length n23)] t) ?_ ?_
  · refine gk_block (by kernel_rfl) ?_
    refine gk_pick [1, 2, 7, 10, 11, 12] (K' := [(1, .slice A1_0 a1.length n1_0), (2, .bool a2), (7, .slice none 0 0), (10, .slice A0_0 a0.length n0_0), (11, .int .i64 (a0.length : Int)), (12, .int .i64 0)]) (by kernel_rfl) ?_
    intro t hK
    refine gc_loop (tocsinref04_Pick_l28 a0 a1 a2) (fun s11 t I' L' => ∃ A15 n16 C17, OwnS kS53 54 I' A15 n16 s11.1 C17 ∧ I ≤ I' ∧ C17 ++ L = L' ∧ Knows 28 [(1, .slice A1_0 a1.length n1_0), (2, .bool a2), (7, .slice A15 s11.1.length n16), (10, .slice A0_0 a0.length n0_0), (11, .int .i64 (a0.length : Int)), (12, .int .i64 s11.2)] t) (by kernel_rfl) ?_ hl10 ⟨none, 0, [], OwnS.nil _ _ _ _, (Imm.refl _), rfl, hK⟩
    rintro s11 o12 t I20 L' hb13 ⟨A15, n16, C17, hO18, hI14, rfl, hK19⟩
    unfold tocsinref04_Pick_l28 at hb13
    refine gk_at hK19 ?_
    refine gk_seq (by kernel_rfl) ?_
    refine gk_region (by kernel_rfl) ?_
    refine gl_pure 1 [1, 2, 7, 10, 11, 12, 13] (K' := [(1, .slice A1_0 a1.length n1_0), (2, .bool a2), (7, .slice A15 s11.1.length n16), (10, .slice A0_0 a0.length n0_0), (11, .int .i64 (a0.length : Int)), (12, .int .i64 s11.2), (13, .bool (decide (s11.2 < (a0.length : Int))))]) (by kernel_rfl) ?_
    refine gl_atE (by kernel_rfl) ?_
    refine ge_seq ?_
    refine gk_seq (by kernel_rfl) ?_
    refine gk_cond (b := (decide (s11.2 < (a0.length : Int)))) (by kernel_rfl) (by kernel_rfl) (fun hc30 => ?_) (fun hc30 => ?_)
    · have hb13 := cond_t hc30 hb13
      refine gk_skip (by kernel_rfl) ?_
      refine ge_seq ?_
      refine gk_seq (by kernel_rfl) ?_
      refine gk_block (by kernel_rfl) ?_
      refine gk_seq (by kernel_rfl) ?_
      refine gk_region (by kernel_rfl) ?_
      obtain ⟨x31, hx32, hb13⟩ := bind_some hb13
      obtain ⟨p33, cs34, hR35, hA36, ha37⟩ := RepS.ixAt hx32 (hf0_0.mono hI14)
      have hi38 := ix_some hx32
      obtain rfl := kS53_open hR35
      refine gl_indexAddrF (c := n0_0) (T' := 25) (e := 54) (xs := (.tmp 10)) (xi := (.tmp 12)) (kd := .i64) ha37 hi38.1 hi38.2.1 (by kernel_rfl) (by kernel_rfl) (by kernel_rfl) (by kernel_rfl) (by kernel_rfl) ?_
      refine gl_loadA (T' := 54) (xp := (.tmp 14)) (p := p33) (cs := [.string x31.f0, .string x31.f1]) (by kernel_rfl) (by kernel_rfl) (by kernel_rfl) (by kernel_rfl) (hA36.take 2) ?_
      refine gl_alloc (T' := 54) (cs := #[.string (⟨#[]⟩ : ByteArray), .string (⟨#[]⟩ : ByteArray)]) (by kernel_rfl) (by kernel_rfl) (by kernel_rfl) (fun g39 => ?_)
      refine gl_storeB (T' := 54) (xp := (.tmp 9)) (xv := (.tmp 15)) (v := .agg #[.string x31.f0, .string x31.f1]) (g := g39) (off := 0) (cs := #[.string (⟨#[]⟩ : ByteArray), .string (⟨#[]⟩ : ByteArray)]) (cs' := #[.string x31.f0, .string x31.f1]) (by kernel_rfl) (by kernel_rfl) (by kernel_rfl) (by kernel_rfl) (by kernel_rfl) (Upd.set _ _ _ _) ?_ (by kernel_rfl)
      refine gl_atE (by kernel_rfl) ?_
      refine ge_seq ?_
      refine gk_seq (by kernel_rfl) ?_
      refine gk_region (by kernel_rfl) ?_
      refine gl_pure 2 [1, 2, 7, 9, 10, 11, 12, 16, 17] (K' := [(1, .slice A1_0 a1.length n1_0), (2, .bool a2), (7, .slice A15 s11.1.length n16), (9, .pointer (some ⟨g39, 0, none⟩)), (10, .slice A0_0 a0.length n0_0), (11, .int .i64 (a0.length : Int)), (12, .int .i64 s11.2), (16, .slice A1_0 a1.length n1_0), (17, .pointer (some ⟨g39, 0, none⟩))]) (by kernel_rfl) ?_
      refine gl_loadB (T' := 9) (xp := (.tmp 17)) (v := .string x31.f0) (g := g39) (off := 0) (cs := #[.string x31.f0, .string x31.f1]) (e := 54) (fz := (0, 0)) (by kernel_rfl) (by kernel_rfl) (by kernel_rfl) List.mem_cons_self (by kernel_rfl) ?_
      obtain ⟨y40, hx41, hb13⟩ := bind_some hb13
      refine gl_callQ (by kernel_rfl) (tocsinref04_has_walk (r := y40) (hf1_0.mono hI14) hx41 _) ?_
      refine gl_pure 2 [1, 2, 7, 9, 10, 11, 12, 21] (K' := [(1, .slice A1_0 a1.length n1_0), (2, .bool a2), (7, .slice A15 s11.1.length n16), (9, .pointer (some ⟨g39, 0, none⟩)), (10, .slice A0_0 a0.length n0_0), (11, .int .i64 (a0.length : Int)), (12, .int .i64 s11.2), (21, .bool (y40 == a2))]) (by kernel_rfl) ?_
      refine gl_atE (by kernel_rfl) ?_
      refine ge_seq ?_
      obtain ⟨j42, hj43, hb13⟩ := bind_some hb13
      refine gk_join (fun t I' L' => ∃ A45 n46 C47, OwnS kS53 54 I' A45 n46 j42 C47 ∧ I20 ≤ I' ∧ C47 ++ L = L' ∧ Knows 28 [(1, .slice A1_0 a1.length n1_0), (2, .bool a2), (7, .slice A45 j42.length n46), (10, .slice A0_0 a0.length n0_0), (11, .int .i64 (a0.length : Int)), (12, .int .i64 s11.2)] t) ?_ ?_
      · refine gk_cond (b := (y40 == a2)) (by kernel_rfl) (by kernel_rfl) (fun hc51 => ?_) (fun hc51 => ?_)
        · have hj43 := cond_t hc51 hj43
          refine gk_region (by kernel_rfl) ?_
          refine gl_pure 1 [1, 2, 9, 10, 11, 12, 22] (K' := [(1, .slice A1_0 a1.length n1_0), (2, .bool a2), (9, .pointer (some ⟨g39, 0, none⟩)), (10, .slice A0_0 a0.length n0_0), (11, .int .i64 (a0.length : Int)), (12, .int .i64 s11.2), (22, .slice A15 s11.1.length n16)]) (by kernel_rfl) ?_
          refine gl_loadB (T' := 54) (xp := (.tmp 9)) (v := .agg #[.string x31.f0, .string x31.f1]) (g := g39) (off := 0) (cs := #[.string x31.f0, .string x31.f1]) (e := 54) (fz := (0, 0)) (by kernel_rfl) (by kernel_rfl) (by kernel_rfl) List.mem_cons_self (by kernel_rfl) ?_
          refine gl_buildSlice (T' := 25) (e := 54) (n := 2) (len := 1) (parts := #[(0, (.tmp 23))]) (l := [(0, .agg #[.string x31.f0, .string x31.f1])]) (cs := #[.string x31.f0, .string x31.f1]) (by kernel_rfl) (by kernel_rfl) (by kernel_rfl) (by kernel_rfl) (by kernel_rfl) (fun g52 => ?_)
          have hO53 : OwnS kS53 54 I20 (some ⟨g52, 0, none⟩) 1 [x31] [(g52, .cells #[.string x31.f0, .string x31.f1] 54)] := OwnS.lit (row_cons (l := [.string x31.f0, .string x31.f1]) (kS53_mk (x := x31) ) (row_nil _ _)) rfl rfl rfl
          refine gl_reord (D := [(g52, .cells #[.string x31.f0, .string x31.f1] 54)] ++ ((g39, .cells #[.string x31.f0, .string x31.f1] 54) :: (C17 ++ L))) (Reord.refl _) ?_
          obtain ⟨zs56, hz57, hj43⟩ := bind_some hj43
          refine gl_append (xv := .slice (some ⟨g52, 0, none⟩) [x31].length 1) (d := kS53) (t := 25) (tx := 25) (e := 54) (s := (.tmp 22)) (x := (.tmp 24)) (xs := s11.1) (fun X => [(g52, .cells #[.string x31.f0, .string x31.f1] 54)] ++ ((g39, .cells #[.string x31.f0, .string x31.f1] 54) :: (X ++ L))) hz57 (by kernel_rfl) (by kernel_rfl) (by kernel_rfl) (by kernel_rfl) (by kernel_rfl) (by kernel_rfl) (fun X => (Upd.app _ (Upd.one _ (Upd.head _ X _)))) hO18 (SrcOk.slice (c := 1) (e := 54) (n := 2) (OwnS.rd hO53 (Upd.selfC _ _)) (by kernel_rfl)) (fun A58 n59 C60 hO61 => ?_)
          refine gl_pure 1 [1, 2, 7, 10, 11, 12] (K' := [(1, .slice A1_0 a1.length n1_0), (2, .bool a2), (7, .slice A58 zs56.length n59), (10, .slice A0_0 a0.length n0_0), (11, .int .i64 (a0.length : Int)), (12, .int .i64 s11.2)]) (by kernel_rfl) ?_
          refine gl_reord (D := C60 ++ L) (Reord.step (Upd.app _ (Upd.one _ (Upd.rmC _ _))) (Reord.skipC (Reord.skip (Reord.refl _)))) ?_
          refine gl_atE (by kernel_rfl) ?_
          obtain rfl := some_inj hj43
          exact ge_mid fun t ht => ⟨A58, n59, C60, hO61, (Imm.refl _), rfl, ht.pick (l := [1, 2, 7, 10, 11, 12]) (by kernel_rfl)⟩
        · have hj43 := cond_f hc51 hj43
          refine gk_reord (D := C17 ++ L) (Reord.step (Upd.one _ (Upd.rmC _ _)) (Reord.skip (Reord.refl _))) ?_
          refine gk_skip (by kernel_rfl) ?_
          obtain rfl := some_inj hj43
          exact ge_mid fun t ht => ⟨A15, n16, C17, hO18, (Imm.refl _), rfl, ht.pick (l := [1, 2, 7, 10, 11, 12]) (by kernel_rfl)⟩
      · rintro t I50 L' ⟨A45, n46, C47, hO48, hI44, rfl, hK49⟩
        refine ge_at hK49 ?_
        refine ge_block_normal ?_
        refine ge_seq ?_
        refine gk_region (by kernel_rfl) ?_
        refine gl_pure 2 [1, 2, 7, 10, 11, 12] (K' := [(1, .slice A1_0 a1.length n1_0), (2, .bool a2), (7, .slice A45 j42.length n46), (10, .slice A0_0 a0.length n0_0), (11, .int .i64 (a0.length : Int)), (12, .int .i64 (IntKind.wrap .i64 (s11.2 + 1)))]) (by kernel_rfl) ?_
        refine gl_atE (by kernel_rfl) ?_
        obtain rfl := some_inj hb13
        exact ge_round fun t ht => ⟨A45, n46, C47, hO48, (Imm.trans hI14 hI44), rfl, ht.pick (l := [1, 2, 7, 10, 11, 12]) (by kernel_rfl)⟩
    · have hb13 := cond_f hc30 hb13
      refine gk_exit (by kernel_rfl) ?_
      refine ge_seq_exit ?_
      obtain rfl := some_inj hb13
      refine ge_round_out (fun hrr => ?_) (by intro h; cases h)
      obtain rfl := hrr
      refine ge_block_hit (by kernel_rfl) ?_
      exact ge_mid fun t ht => ⟨A15, n16, C17, hO18, hI14, rfl, ht.pick (l := [7]) (by kernel_rfl)⟩
  · rintro t I27 L' ⟨A22, n23, C24, hO25, hI21, rfl, hK26⟩
    refine ge_at hK26 ?_
    refine ge_seq ?_
    refine gk_seq (by kernel_rfl) ?_
    refine gk_region (by kernel_rfl) ?_
    refine gl_pure 2 [6] (K' := [(6, .slice A22 r9.length n23)]) (by kernel_rfl) ?_
    refine gl_atE (by kernel_rfl) ?_
    refine ge_seq ?_
    refine gk_ret (by kernel_rfl) ?_
    obtain rfl := some_inj hr
    exact ge_result trivial (ResOk.tmp (by kernel_rfl) ResOk.nil) hI21 ⟨A22, n23, C24, hO25, rfl, rfl⟩
/-! 14 tocsinref04_Quoted  -/
noncomputable def tocsinref04_Quoted_l32 (a0 : ByteArray) : ((List Int) × Int) → Option (((List Int) × Int) ⊕ ((List Int))) := fun s15 =>
  bif (decide (s15.2 < (a0.size : Int))) then
  (Option.bind (bx a0 s15.2) fun (c35 : Int) =>
    Option.bind (bif (c35 == 92) then
      (some (c35 == 92))
      else
      (some (c35 == 34))) fun (j37 : Bool) =>
    Option.bind (bif j37 then
      (Option.bind (bx a0 s15.2) fun (c53 : Int) =>
        Option.bind (app s15.1 [92, c53]) fun (zs59 : List Int) =>
        some zs59)
      else
      (Option.bind (bif (c35 == 10) then
          (Option.bind (app s15.1 [92, 110]) fun (zs79 : List Int) =>
            some zs79)
          else
          (Option.bind (bx a0 s15.2) fun (c85 : Int) =>
            Option.bind (app s15.1 [c85]) fun (zs91 : List Int) =>
            some zs91)) fun (j65 : (List Int)) =>
        some j65)) fun (j43 : (List Int)) =>
    some (Sum.inl (j43, (IntKind.wrap .i64 (s15.2 + 1)))))
  else
  (some (Sum.inr s15.1))
noncomputable def tocsinref04_Quoted (a0 : ByteArray) : Option ByteArray :=
  Option.bind (loopO (tocsinref04_Quoted_l32 a0) ([34], 0)) fun (r13 : (List Int)) =>
  Option.bind (app r13 [34]) fun (zs101 : List Int) =>
  some (ofBytes zs101)
theorem tocsinref04_Quoted_walk {a0 : ByteArray} {I : Imm} {r : ByteArray}  (hr : tocsinref04_Quoted a0 = some r) (L : Own) :
    CallsTo Tryd.prog 14 #[.string a0] I L (fun v I' L' => v = .string r ∧ L = L') := by
  unfold tocsinref04_Quoted at hr
  refine callsTo_body (N := 40) Tryd.func14 (by kernel_rfl) (by kernel_rfl) (by kernel_rfl) ?_
  refine gk_pick [0] (K' := [(0, .string a0)]) (by kernel_rfl) ?_
  refine gk_seq (by kernel_rfl) ?_
  refine gk_region (by kernel_rfl) ?_
  refine gl_pure 1 [0] (K' := [(0, .string a0)]) (by kernel_rfl) ?_
  refine gl_atE (by kernel_rfl) ?_
  refine ge_seq ?_
  refine gk_seq (by kernel_rfl) ?_
  refine gk_region (by kernel_rfl) ?_
  refine gl_buildSlice (T' := 71) (e := 5) (n := 1) (len := 1) (parts := #[(0, (.const (.int .u8 34)))]) (l := [(0, .int .u8 34)]) (cs := #[.int .u8 34]) (by kernel_rfl) (by kernel_rfl) (by kernel_rfl) (by kernel_rfl) (by kernel_rfl) (fun g1 => ?_)
  have hO2 : OwnS (Kd.int .u8) 5 I (some ⟨g1, 0, none⟩) 1 [34] [(g1, .cells #[.int .u8 34] 5)] := OwnS.lit (row_cons (l := [.int .u8 34]) rfl (row_nil _ _)) rfl rfl rfl
  refine gl_reord (D := [(g1, .cells #[.int .u8 34] 5)] ++ L) (Reord.refl _) ?_
  refine gl_pure 1 [0, 3] (K' := [(0, .string a0), (3, .slice (some ⟨g1, 0, none⟩) [34].length 1)]) (by kernel_rfl) ?_
  refine gl_atE (by kernel_rfl) ?_
  refine ge_seq ?_
  refine gk_seq (by kernel_rfl) ?_
  refine gk_seq (by kernel_rfl) ?_
  refine gk_region (by kernel_rfl) ?_
  refine gl_pure 3 [0, 3, 7, 8] (K' := [(0, .string a0), (3, .slice (some ⟨g1, 0, none⟩) [34].length 1), (7, .int .i64 (a0.size : Int)), (8, .int .i64 0)]) (by kernel_rfl) ?_
  refine gl_atE (by kernel_rfl) ?_
  refine ge_seq ?_
  obtain ⟨r13, hl14, hr⟩ := bind_some hr
  refine gk_join (fun t I' L' => ∃ A26 n27 C28, OwnS (Kd.int .u8) 5 I' A26 n27 r13 C28 ∧ I ≤ I' ∧ C28 ++ L = L' ∧ Knows 40 [(3, .slice A26 r13.length n27)] t) ?_ ?_
  · refine gk_block (by kernel_rfl) ?_
    refine gk_pick [0, 3, 7, 8] (K' := [(0, .string a0), (3, .slice (some ⟨g1, 0, none⟩) [34].length 1), (7, .int .i64 (a0.size : Int)), (8, .int .i64 0)]) (by kernel_rfl) ?_
    intro t hK
    refine gc_loop (tocsinref04_Quoted_l32 a0) (fun s15 t I' L' => ∃ A19 n20 C21, OwnS (Kd.int .u8) 5 I' A19 n20 s15.1 C21 ∧ I ≤ I' ∧ C21 ++ L = L' ∧ Knows 40 [(0, .string a0), (3, .slice A19 s15.1.length n20), (7, .int .i64 (a0.size : Int)), (8, .int .i64 s15.2)] t) (by kernel_rfl) ?_ hl14 ⟨(some ⟨g1, 0, none⟩), 1, [(g1, .cells #[.int .u8 34] 5)], hO2, (Imm.refl _), rfl, hK⟩
    rintro s15 o16 t I24 L' hb17 ⟨A19, n20, C21, hO22, hI18, rfl, hK23⟩
    unfold tocsinref04_Quoted_l32 at hb17
    refine gk_at hK23 ?_
    refine gk_seq (by kernel_rfl) ?_
    refine gk_region (by kernel_rfl) ?_
    refine gl_pure 1 [0, 3, 7, 8, 9] (K' := [(0, .string a0), (3, .slice A19 s15.1.length n20), (7, .int .i64 (a0.size : Int)), (8, .int .i64 s15.2), (9, .bool (decide (s15.2 < (a0.size : Int))))]) (by kernel_rfl) ?_
    refine gl_atE (by kernel_rfl) ?_
    refine ge_seq ?_
    refine gk_seq (by kernel_rfl) ?_
    refine gk_cond (b := (decide (s15.2 < (a0.size : Int)))) (by kernel_rfl) (by kernel_rfl) (fun hc34 => ?_) (fun hc34 => ?_)
    · have hb17 := cond_t hc34 hb17
      refine gk_skip (by kernel_rfl) ?_
      refine ge_seq ?_
      refine gk_seq (by kernel_rfl) ?_
      refine gk_block (by kernel_rfl) ?_
      refine gk_seq (by kernel_rfl) ?_
      refine gk_region (by kernel_rfl) ?_
      refine gl_pure 2 [0, 3, 4, 7, 8] (K' := [(0, .string a0), (3, .slice A19 s15.1.length n20), (4, .int .i64 s15.2), (7, .int .i64 (a0.size : Int)), (8, .int .i64 s15.2)]) (by kernel_rfl) ?_
      refine gl_atE (by kernel_rfl) ?_
      refine ge_seq ?_
      refine gk_seq (by kernel_rfl) ?_
      refine gk_region (by kernel_rfl) ?_
      refine gl_pure 2 [0, 3, 4, 7, 8, 11, 12] (K' := [(0, .string a0), (3, .slice A19 s15.1.length n20), (4, .int .i64 s15.2), (7, .int .i64 (a0.size : Int)), (8, .int .i64 s15.2), (11, .string a0), (12, .int .i64 s15.2)]) (by kernel_rfl) ?_
      obtain ⟨c35, hx36, hb17⟩ := bind_some hb17
      refine gl_index' (T' := 9) (xs := (.tmp 11)) (xi := (.tmp 12)) (kd := .i64) hx36 (by kernel_rfl) (by kernel_rfl) (by kernel_rfl) (by kernel_rfl) (by kernel_rfl) ?_
      refine gl_atE (by kernel_rfl) ?_
      refine ge_seq ?_
      refine gk_block (by kernel_rfl) ?_
      refine gk_seq (by kernel_rfl) ?_
      refine gk_seq (by kernel_rfl) ?_
      refine gk_region (by kernel_rfl) ?_
      refine gl_pure 2 [0, 3, 4, 7, 8, 13, 20] (K' := [(0, .string a0), (3, .slice A19 s15.1.length n20), (4, .int .i64 s15.2), (7, .int .i64 (a0.size : Int)), (8, .int .i64 s15.2), (13, .int .u8 c35), (20, .bool (c35 == 92))]) (by kernel_rfl) ?_
      refine gl_atE (by kernel_rfl) ?_
      refine ge_seq ?_
      obtain ⟨j37, hj38, hb17⟩ := bind_some hb17
      refine gk_join (fun t I' L' => I24 ≤ I' ∧ C21 ++ L = L' ∧ Knows 40 [(0, .string a0), (3, .slice A19 s15.1.length n20), (4, .int .i64 s15.2), (7, .int .i64 (a0.size : Int)), (8, .int .i64 s15.2), (13, .int .u8 c35), (20, .bool j37)] t) ?_ ?_
      · refine gk_cond (b := (c35 == 92)) (by kernel_rfl) (by kernel_rfl) (fun hc42 => ?_) (fun hc42 => ?_)
        · have hj38 := cond_t hc42 hj38
          refine gk_skip (by kernel_rfl) ?_
          obtain rfl := some_inj hj38
          exact ge_mid fun t ht => ⟨(Imm.refl _), rfl, ht.pick (l := [0, 3, 4, 7, 8, 13, 20]) (by kernel_rfl)⟩
        · have hj38 := cond_f hc42 hj38
          refine gk_region (by kernel_rfl) ?_
          refine gl_pure 2 [0, 3, 4, 7, 8, 13, 20] (K' := [(0, .string a0), (3, .slice A19 s15.1.length n20), (4, .int .i64 s15.2), (7, .int .i64 (a0.size : Int)), (8, .int .i64 s15.2), (13, .int .u8 c35), (20, .bool (c35 == 34))]) (by kernel_rfl) ?_
          refine gl_atE (by kernel_rfl) ?_
          obtain rfl := some_inj hj38
          exact ge_mid fun t ht => ⟨(Imm.refl _), rfl, ht.pick (l := [0, 3, 4, 7, 8, 13, 20]) (by kernel_rfl)⟩
      · rintro t I41 L' ⟨hI39, rfl, hK40⟩
        refine ge_at hK40 ?_
        refine ge_seq ?_
        obtain ⟨j43, hj44, hb17⟩ := bind_some hb17
        refine gk_join (fun t I' L' => ∃ A46 n47 C48, OwnS (Kd.int .u8) 5 I' A46 n47 j43 C48 ∧ I41 ≤ I' ∧ C48 ++ L = L' ∧ Knows 40 [(0, .string a0), (3, .slice A46 j43.length n47), (7, .int .i64 (a0.size : Int)), (8, .int .i64 s15.2)] t) ?_ ?_
        · refine gk_cond (b := j37) (by kernel_rfl) (by kernel_rfl) (fun hc52 => ?_) (fun hc52 => ?_)
          · have hj44 := cond_t hc52 hj44
            refine gk_region (by kernel_rfl) ?_
            refine gl_pure 3 [0, 7, 8, 23, 24, 25] (K' := [(0, .string a0), (7, .int .i64 (a0.size : Int)), (8, .int .i64 s15.2), (23, .slice A19 s15.1.length n20), (24, .string a0), (25, .int .i64 s15.2)]) (by kernel_rfl) ?_
            obtain ⟨c53, hx54, hj44⟩ := bind_some hj44
            refine gl_index' (T' := 9) (xs := (.tmp 24)) (xi := (.tmp 25)) (kd := .i64) hx54 (by kernel_rfl) (by kernel_rfl) (by kernel_rfl) (by kernel_rfl) (by kernel_rfl) ?_
            refine gl_buildSlice (T' := 71) (e := 5) (n := 1) (len := 2) (parts := #[(0, (.const (.int .u8 92))), (1, (.tmp 26))]) (l := [(0, .int .u8 92), (1, .int .u8 c53)]) (cs := #[.int .u8 92, .int .u8 c53]) (by kernel_rfl) (by kernel_rfl) (by kernel_rfl) (by kernel_rfl) (by kernel_rfl) (fun g55 => ?_)
            have hO56 : OwnS (Kd.int .u8) 5 I41 (some ⟨g55, 0, none⟩) 2 [92, c53] [(g55, .cells #[.int .u8 92, .int .u8 c53] 5)] := OwnS.lit (row_cons (l := [.int .u8 92]) rfl (row_cons (l := [.int .u8 c53]) rfl (row_nil _ _))) rfl rfl rfl
            refine gl_reord (D := [(g55, .cells #[.int .u8 92, .int .u8 c53] 5)] ++ (C21 ++ L)) (Reord.refl _) ?_
            obtain ⟨zs59, hz60, hj44⟩ := bind_some hj44
            refine gl_append (xv := .slice (some ⟨g55, 0, none⟩) [92, c53].length 2) (d := (Kd.int .u8)) (t := 71) (tx := 71) (e := 5) (s := (.tmp 23)) (x := (.tmp 27)) (xs := s15.1) (fun X => [(g55, .cells #[.int .u8 92, .int .u8 c53] 5)] ++ (X ++ L)) hz60 (by kernel_rfl) (by kernel_rfl) (by kernel_rfl) (by kernel_rfl) (by kernel_rfl) (by kernel_rfl) (fun X => (Upd.app _ (Upd.head _ X _))) (hO22.mono hI39) (SrcOk.slice (c := 2) (e := 5) (n := 1) (OwnS.rd hO56 (Upd.selfC _ _)) (by kernel_rfl)) (fun A61 n62 C63 hO64 => ?_)
            refine gl_pure 1 [0, 3, 7, 8] (K' := [(0, .string a0), (3, .slice A61 zs59.length n62), (7, .int .i64 (a0.size : Int)), (8, .int .i64 s15.2)]) (by kernel_rfl) ?_
            refine gl_reord (D := C63 ++ L) (Reord.step (Upd.app _ (Upd.rmC _ _)) (Reord.skipC (Reord.refl _))) ?_
            refine gl_atE (by kernel_rfl) ?_
            obtain rfl := some_inj hj44
            exact ge_mid fun t ht => ⟨A61, n62, C63, hO64, (Imm.refl _), rfl, ht.pick (l := [0, 3, 7, 8]) (by kernel_rfl)⟩
          · have hj44 := cond_f hc52 hj44
            refine gk_seq (by kernel_rfl) ?_
            refine gk_region (by kernel_rfl) ?_
            refine gl_pure 2 [0, 3, 4, 7, 8, 29] (K' := [(0, .string a0), (3, .slice A19 s15.1.length n20), (4, .int .i64 s15.2), (7, .int .i64 (a0.size : Int)), (8, .int .i64 s15.2), (29, .bool (c35 == 10))]) (by kernel_rfl) ?_
            refine gl_atE (by kernel_rfl) ?_
            refine ge_seq ?_
            obtain ⟨j65, hj66, hj44⟩ := bind_some hj44
            refine gk_join (fun t I' L' => ∃ A68 n69 C70, OwnS (Kd.int .u8) 5 I' A68 n69 j65 C70 ∧ I41 ≤ I' ∧ C70 ++ L = L' ∧ Knows 40 [(0, .string a0), (3, .slice A68 j65.length n69), (7, .int .i64 (a0.size : Int)), (8, .int .i64 s15.2)] t) ?_ ?_
            · refine gk_cond (b := (c35 == 10)) (by kernel_rfl) (by kernel_rfl) (fun hc74 => ?_) (fun hc74 => ?_)
              · have hj66 := cond_t hc74 hj66
                refine gk_region (by kernel_rfl) ?_
                refine gl_pure 1 [0, 7, 8, 31] (K' := [(0, .string a0), (7, .int .i64 (a0.size : Int)), (8, .int .i64 s15.2), (31, .slice A19 s15.1.length n20)]) (by kernel_rfl) ?_
                refine gl_buildSlice (T' := 71) (e := 5) (n := 1) (len := 2) (parts := #[(0, (.const (.int .u8 92))), (1, (.const (.int .u8 110)))]) (l := [(0, .int .u8 92), (1, .int .u8 110)]) (cs := #[.int .u8 92, .int .u8 110]) (by kernel_rfl) (by kernel_rfl) (by kernel_rfl) (by kernel_rfl) (by kernel_rfl) (fun g75 => ?_)
                have hO76 : OwnS (Kd.int .u8) 5 I41 (some ⟨g75, 0, none⟩) 2 [92, 110] [(g75, .cells #[.int .u8 92, .int .u8 110] 5)] := OwnS.lit (row_cons (l := [.int .u8 92]) rfl (row_cons (l := [.int .u8 110]) rfl (row_nil _ _))) rfl rfl rfl
                refine gl_reord (D := [(g75, .cells #[.int .u8 92, .int .u8 110] 5)] ++ (C21 ++ L)) (Reord.refl _) ?_
                obtain ⟨zs79, hz80, hj66⟩ := bind_some hj66
                refine gl_append (xv := .slice (some ⟨g75, 0, none⟩) [92, 110].length 2) (d := (Kd.int .u8)) (t := 71) (tx := 71) (e := 5) (s := (.tmp 31)) (x := (.tmp 32)) (xs := s15.1) (fun X => [(g75, .cells #[.int .u8 92, .int .u8 110] 5)] ++ (X ++ L)) hz80 (by kernel_rfl) (by kernel_rfl) (by kernel_rfl) (by kernel_rfl) (by kernel_rfl) (by kernel_rfl) (fun X => (Upd.app _ (Upd.head _ X _))) (hO22.mono hI39) (SrcOk.slice (c := 2) (e := 5) (n := 1) (OwnS.rd hO76 (Upd.selfC _ _)) (by kernel_rfl)) (fun A81 n82 C83 hO84 => ?_)
                refine gl_pure 1 [0, 3, 7, 8] (K' := [(0, .string a0), (3, .slice A81 zs79.length n82), (7, .int .i64 (a0.size : Int)), (8, .int .i64 s15.2)]) (by kernel_rfl) ?_
                refine gl_reord (D := C83 ++ L) (Reord.step (Upd.app _ (Upd.rmC _ _)) (Reord.skipC (Reord.refl _))) ?_
                refine gl_atE (by kernel_rfl) ?_
                obtain rfl := some_inj hj66
                exact ge_mid fun t ht => ⟨A81, n82, C83, hO84, (Imm.refl _), rfl, ht.pick (l := [0, 3, 7, 8]) (by kernel_rfl)⟩
              · have hj66 := cond_f hc74 hj66
                refine gk_region (by kernel_rfl) ?_
                refine gl_pure 3 [0, 7, 8, 14, 15, 16] (K' := [(0, .string a0), (7, .int .i64 (a0.size : Int)), (8, .int .i64 s15.2), (14, .slice A19 s15.1.length n20), (15, .string a0), (16, .int .i64 s15.2)]) (by kernel_rfl) ?_
                obtain ⟨c85, hx86, hj66⟩ := bind_some hj66
                refine gl_index' (T' := 9) (xs := (.tmp 15)) (xi := (.tmp 16)) (kd := .i64) hx86 (by kernel_rfl) (by kernel_rfl) (by kernel_rfl) (by kernel_rfl) (by kernel_rfl) ?_
                refine gl_buildSlice (T' := 71) (e := 5) (n := 1) (len := 1) (parts := #[(0, (.tmp 17))]) (l := [(0, .int .u8 c85)]) (cs := #[.int .u8 c85]) (by kernel_rfl) (by kernel_rfl) (by kernel_rfl) (by kernel_rfl) (by kernel_rfl) (fun g87 => ?_)
                have hO88 : OwnS (Kd.int .u8) 5 I41 (some ⟨g87, 0, none⟩) 1 [c85] [(g87, .cells #[.int .u8 c85] 5)] := OwnS.lit (row_cons (l := [.int .u8 c85]) rfl (row_nil _ _)) rfl rfl rfl
                refine gl_reord (D := [(g87, .cells #[.int .u8 c85] 5)] ++ (C21 ++ L)) (Reord.refl _) ?_
                obtain ⟨zs91, hz92, hj66⟩ := bind_some hj66
                refine gl_append (xv := .slice (some ⟨g87, 0, none⟩) [c85].length 1) (d := (Kd.int .u8)) (t := 71) (tx := 71) (e := 5) (s := (.tmp 14)) (x := (.tmp 18)) (xs := s15.1) (fun X => [(g87, .cells #[.int .u8 c85] 5)] ++ (X ++ L)) hz92 (by kernel_rfl) (by kernel_rfl) (by kernel_rfl) (by kernel_rfl) (by kernel_rfl) (by kernel_rfl) (fun X => (Upd.app _ (Upd.head _ X _))) (hO22.mono hI39) (SrcOk.slice (c := 1) (e := 5) (n := 1) (OwnS.rd hO88 (Upd.selfC _ _)) (by kernel_rfl)) (fun A93 n94 C95 hO96 => ?_)
                refine gl_pure 1 [0, 3, 7, 8] (K' := [(0, .string a0), (3, .slice A93 zs91.length n94), (7, .int .i64 (a0.size : Int)), (8, .int .i64 s15.2)]) (by kernel_rfl) ?_
                refine gl_reord (D := C95 ++ L) (Reord.step (Upd.app _ (Upd.rmC _ _)) (Reord.skipC (Reord.refl _))) ?_
                refine gl_atE (by kernel_rfl) ?_
                obtain rfl := some_inj hj66
                exact ge_mid fun t ht => ⟨A93, n94, C95, hO96, (Imm.refl _), rfl, ht.pick (l := [0, 3, 7, 8]) (by kernel_rfl)⟩
            · rintro t I73 L' ⟨A68, n69, C70, hO71, hI67, rfl, hK72⟩
              refine ge_at hK72 ?_
              obtain rfl := some_inj hj44
              exact ge_mid fun t ht => ⟨A68, n69, C70, hO71, hI67, rfl, ht.pick (l := [0, 3, 7, 8]) (by kernel_rfl)⟩
        · rintro t I51 L' ⟨A46, n47, C48, hO49, hI45, rfl, hK50⟩
          refine ge_at hK50 ?_
          refine ge_block_normal ?_
          refine ge_block_normal ?_
          refine ge_seq ?_
          refine gk_region (by kernel_rfl) ?_
          refine gl_pure 2 [0, 3, 7, 8] (K' := [(0, .string a0), (3, .slice A46 j43.length n47), (7, .int .i64 (a0.size : Int)), (8, .int .i64 (IntKind.wrap .i64 (s15.2 + 1)))]) (by kernel_rfl) ?_
          refine gl_atE (by kernel_rfl) ?_
          obtain rfl := some_inj hb17
          exact ge_round fun t ht => ⟨A46, n47, C48, hO49, (Imm.trans (Imm.trans hI18 hI39) hI45), rfl, ht.pick (l := [0, 3, 7, 8]) (by kernel_rfl)⟩
    · have hb17 := cond_f hc34 hb17
      refine gk_exit (by kernel_rfl) ?_
      refine ge_seq_exit ?_
      obtain rfl := some_inj hb17
      refine ge_round_out (fun hrr => ?_) (by intro h; cases h)
      obtain rfl := hrr
      refine ge_block_hit (by kernel_rfl) ?_
      exact ge_mid fun t ht => ⟨A19, n20, C21, hO22, hI18, rfl, ht.pick (l := [3]) (by kernel_rfl)⟩
  · rintro t I31 L' ⟨A26, n27, C28, hO29, hI25, rfl, hK30⟩
    refine ge_at hK30 ?_
    refine ge_seq ?_
    refine gk_seq (by kernel_rfl) ?_
    refine gk_region (by kernel_rfl) ?_
    refine gl_pure 1 [35] (K' := [(35, .slice A26 r13.length n27)]) (by kernel_rfl) ?_
    refine gl_buildSlice (T' := 71) (e := 5) (n := 1) (len := 1) (parts := #[(0, (.const (.int .u8 34)))]) (l := [(0, .int .u8 34)]) (cs := #[.int .u8 34]) (by kernel_rfl) (by kernel_rfl) (by kernel_rfl) (by kernel_rfl) (by kernel_rfl) (fun g97 => ?_)
    have hO98 : OwnS (Kd.int .u8) 5 I31 (some ⟨g97, 0, none⟩) 1 [34] [(g97, .cells #[.int .u8 34] 5)] := OwnS.lit (row_cons (l := [.int .u8 34]) rfl (row_nil _ _)) rfl rfl rfl
    refine gl_reord (D := [(g97, .cells #[.int .u8 34] 5)] ++ (C28 ++ L)) (Reord.refl _) ?_
    obtain ⟨zs101, hz102, hr⟩ := bind_some hr
    refine gl_append (xv := .slice (some ⟨g97, 0, none⟩) [34].length 1) (d := (Kd.int .u8)) (t := 71) (tx := 71) (e := 5) (s := (.tmp 35)) (x := (.tmp 36)) (xs := r13) (fun X => [(g97, .cells #[.int .u8 34] 5)] ++ (X ++ L)) hz102 (by kernel_rfl) (by kernel_rfl) (by kernel_rfl) (by kernel_rfl) (by kernel_rfl) (by kernel_rfl) (fun X => (Upd.app _ (Upd.head _ X _))) hO29 (SrcOk.slice (c := 1) (e := 5) (n := 1) (OwnS.rd hO98 (Upd.selfC _ _)) (by kernel_rfl)) (fun A103 n104 C105 hO106 => ?_)
    refine gl_pure 1 [3] (K' := [(3, .slice A103 zs101.length n104)]) (by kernel_rfl) ?_
    refine gl_atE (by kernel_rfl) ?_
    refine ge_seq ?_
    refine gk_seq (by kernel_rfl) ?_
    refine gk_region (by kernel_rfl) ?_
    refine gl_pure 1 [38] (K' := [(38, .slice A103 zs101.length n104)]) (by kernel_rfl) ?_
    refine gl_bytesStr (c := n104) (src := 71) (dst := 9) (e := 5) (n := 1) (x := (.tmp 38)) (by kernel_rfl) (by kernel_rfl) (by kernel_rfl) (by kernel_rfl) (by kernel_rfl) (by kernel_rfl) (OwnS.rd hO106 (Upd.app _ (Upd.selfC _ _))) ?_
    refine gl_pure 1 [2] (K' := [(2, .string (ofBytes zs101))]) (by kernel_rfl) ?_
    refine gl_atE (by kernel_rfl) ?_
    refine ge_seq ?_
    refine gk_reord (D := L) (Reord.skipC (Reord.skipC (Reord.refl _))) ?_
    refine gk_ret (by kernel_rfl) ?_
    obtain rfl := some_inj hr
    exact ge_result trivial (ResOk.tmp (by kernel_rfl) ResOk.nil) hI25 ⟨rfl, rfl⟩
/-! 5 tocsinref04_Print  -/
noncomputable def tocsinref04_Print_l57 (j10 : ByteArray × (List S53)) : (ByteArray × Int) → Option ((ByteArray × Int) ⊕ (ByteArray)) := fun s48 =>
  bif (decide (s48.2 < (j10.2.length : Int))) then
  (Option.bind (ix j10.2 s48.2) fun (x60 : S53) =>
    Option.bind (bif (decide (s48.2 > 0)) then
      (Option.bind (sadd s48.1 (⟨#[44]⟩ : ByteArray)) fun (s75 : ByteArray) =>
        some s75)
      else
      (some s48.1)) fun (j69 : ByteArray) =>
    Option.bind (sadd j69 x60.f0) fun (s77 : ByteArray) =>
    Option.bind (sadd s77 (⟨#[61]⟩ : ByteArray)) fun (s79 : ByteArray) =>
    Option.bind (tocsinref04_Quoted x60.f1) fun (y81 : ByteArray) =>
    Option.bind (sadd s79 y81) fun (s83 : ByteArray) =>
    some (Sum.inl (s83, (IntKind.wrap .i64 (s48.2 + 1)))))
  else
  (some (Sum.inr s48.1))
noncomputable def tocsinref04_Print (a0 : List S53) : Option (ByteArray × Int) :=
  Option.bind (tocsinref04_Right a0) fun (y1 : Int × Int) =>
  bif (y1.1 != 0) then
  (some ((⟨#[]⟩ : ByteArray), y1.1))
  else
  (Option.bind (tocsinref04_Get a0 (⟨#[95, 95, 110, 97, 109, 101, 95, 95]⟩ : ByteArray)) fun (y4 : ByteArray) =>
    Option.bind (tocsinref04_Metric y4) fun (y6 : Bool) =>
    Option.bind ((bif y6 then
      (Option.bind (tocsinref04_Pick a0 [(⟨#[95, 95, 110, 97, 109, 101, 95, 95]⟩ : ByteArray)] false) fun (y26 : (List S53)) =>
        bif ((y26.length : Int) == 0) then
        (some (Sum.inr (y4, 0)))
        else
        (some (Sum.inl (y4, y26))))
      else
      (some (Sum.inl ((⟨#[]⟩ : ByteArray), a0))) : Option ((ByteArray × (List S53)) ⊕ (ByteArray × Int)))) fun (j8 : (ByteArray × (List S53)) ⊕ (ByteArray × Int)) =>
    match j8 with
    | Sum.inl j10 => Option.bind (sadd j10.1 (⟨#[123]⟩ : ByteArray)) fun (s40 : ByteArray) =>
      Option.bind (loopO (tocsinref04_Print_l57 j10) (s40, 0)) fun (r46 : ByteArray) =>
      Option.bind (sadd r46 (⟨#[125]⟩ : ByteArray)) fun (s85 : ByteArray) =>
      some (s85, 0)
    | Sum.inr v87 => some v87)
theorem tocsinref04_Print_walk {a0 : List S53} {A0_0 : Option Addr} {n0_0 : Nat} {I : Imm} {r : ByteArray × Int}  (hf0_0 : RepS kS53 I A0_0 n0_0 a0) (hr : tocsinref04_Print a0 = some r) (L : Own) :
    CallsTo Tryd.prog 5 #[.slice A0_0 a0.length n0_0] I L (fun v I' L' => v = .tuple #[.string r.1, .int .i64 r.2] ∧ L = L') := by
  unfold tocsinref04_Print at hr
  refine callsTo_body (N := 56) Tryd.func5 (by kernel_rfl) (by kernel_rfl) (by kernel_rfl) ?_
  refine gk_pick [0] (K' := [(0, .slice A0_0 a0.length n0_0)]) (by kernel_rfl) ?_
  refine gk_seq (by kernel_rfl) ?_
  refine gk_region (by kernel_rfl) ?_
  refine gl_pure 2 [0] (K' := [(0, .slice A0_0 a0.length n0_0)]) (by kernel_rfl) ?_
  refine gl_atE (by kernel_rfl) ?_
  refine ge_seq ?_
  refine gk_seq (by kernel_rfl) ?_
  refine gk_seq (by kernel_rfl) ?_
  refine gk_region (by kernel_rfl) ?_
  refine gl_pure 1 [0, 12] (K' := [(0, .slice A0_0 a0.length n0_0), (12, .slice A0_0 a0.length n0_0)]) (by kernel_rfl) ?_
  obtain ⟨y1, hx2, hr⟩ := bind_some hr
  refine gl_callQ (by kernel_rfl) (tocsinref04_Right_walk (r := y1) hf0_0 hx2 _) ?_
  refine gl_pure 5 [0, 4] (K' := [(0, .slice A0_0 a0.length n0_0), (4, .int .i64 y1.1)]) (by kernel_rfl) ?_
  refine gl_atE (by kernel_rfl) ?_
  refine ge_seq ?_
  refine gk_seq (by kernel_rfl) ?_
  refine gk_region (by kernel_rfl) ?_
  refine gl_pure 2 [0, 4, 17] (K' := [(0, .slice A0_0 a0.length n0_0), (4, .int .i64 y1.1), (17, .bool (y1.1 != 0))]) (by kernel_rfl) ?_
  refine gl_atE (by kernel_rfl) ?_
  refine ge_seq ?_
  refine gk_cond (b := (y1.1 != 0)) (by kernel_rfl) (by kernel_rfl) (fun hc3 => ?_) (fun hc3 => ?_)
  · have hr := cond_t hc3 hr
    refine gk_seq (by kernel_rfl) ?_
    refine gk_region (by kernel_rfl) ?_
    refine gl_pure 3 [2, 3] (K' := [(2, .string (⟨#[]⟩ : ByteArray)), (3, .int .i64 y1.1)]) (by kernel_rfl) ?_
    refine gl_atE (by kernel_rfl) ?_
    refine ge_seq ?_
    refine gk_ret (by kernel_rfl) ?_
    refine ge_seq_ret ?_
    obtain rfl := some_inj hr
    exact ge_result trivial (ResOk.tmp (by kernel_rfl) (ResOk.tmp (by kernel_rfl) ResOk.nil)) (Imm.refl _) ⟨rfl, rfl⟩
  · have hr := cond_f hc3 hr
    refine gk_skip (by kernel_rfl) ?_
    refine ge_seq ?_
    refine gk_seq (by kernel_rfl) ?_
    refine gk_region (by kernel_rfl) ?_
    refine gl_pure 1 [0, 19] (K' := [(0, .slice A0_0 a0.length n0_0), (19, .slice A0_0 a0.length n0_0)]) (by kernel_rfl) ?_
    obtain ⟨y4, hx5, hr⟩ := bind_some hr
    refine gl_callQ (by kernel_rfl) (tocsinref04_Get_walk (r := y4) hf0_0 hx5 _) ?_
    refine gl_pure 1 [0, 6] (K' := [(0, .slice A0_0 a0.length n0_0), (6, .string y4)]) (by kernel_rfl) ?_
    refine gl_atE (by kernel_rfl) ?_
    refine ge_seq ?_
    refine gk_seq (by kernel_rfl) ?_
    refine gk_region (by kernel_rfl) ?_
    refine gl_pure 2 [0, 6, 7] (K' := [(0, .slice A0_0 a0.length n0_0), (6, .string y4), (7, .slice A0_0 a0.length n0_0)]) (by kernel_rfl) ?_
    refine gl_atE (by kernel_rfl) ?_
    refine ge_seq ?_
    refine gk_seq (by kernel_rfl) ?_
    refine gk_seq (by kernel_rfl) ?_
    refine gk_region (by kernel_rfl) ?_
    refine gl_pure 1 [0, 6, 7, 22] (K' := [(0, .slice A0_0 a0.length n0_0), (6, .string y4), (7, .slice A0_0 a0.length n0_0), (22, .string y4)]) (by kernel_rfl) ?_
    obtain ⟨y6, hx7, hr⟩ := bind_some hr
    refine gl_callQ (by kernel_rfl) (tocsinref04_Metric_walk (r := y6)  hx7 _) ?_
    refine gl_atE (by kernel_rfl) ?_
    refine ge_seq ?_
    obtain ⟨j8, hj9, hr⟩ := bind_some hr
    refine gk_join (fun t I' L' => ∃ j10, j8 = Sum.inl j10 ∧ ∃ A12 n13, RepS kS53 I' A12 n13 j10.2 ∧ I ≤ I' ∧ L = L' ∧ Knows 56 [(6, .string j10.1), (7, .slice A12 j10.2.length n13)] t) ?_ ?_
    · refine gk_cond (b := y6) (by kernel_rfl) (by kernel_rfl) (fun hc17 => ?_) (fun hc17 => ?_)
      · have hj9 := cond_t hc17 hj9
        refine gk_seq (by kernel_rfl) ?_
        refine gk_region (by kernel_rfl) ?_
        refine gl_pure 1 [6, 24] (K' := [(6, .string y4), (24, .slice A0_0 a0.length n0_0)]) (by kernel_rfl) ?_
        refine gl_buildSlice (T' := 52) (e := 9) (n := 1) (len := 1) (parts := #[(0, (.const (.string (⟨#[95, 95, 110, 97, 109, 101, 95, 95]⟩ : ByteArray))))]) (l := [(0, .string (⟨#[95, 95, 110, 97, 109, 101, 95, 95]⟩ : ByteArray))]) (cs := #[.string (⟨#[95, 95, 110, 97, 109, 101, 95, 95]⟩ : ByteArray)]) (by kernel_rfl) (by kernel_rfl) (by kernel_rfl) (by kernel_rfl) (by kernel_rfl) (fun g18 => ?_)
        have hO19 : OwnS Kd.str 9 I (some ⟨g18, 0, none⟩) 1 [(⟨#[95, 95, 110, 97, 109, 101, 95, 95]⟩ : ByteArray)] [(g18, .cells #[.string (⟨#[95, 95, 110, 97, 109, 101, 95, 95]⟩ : ByteArray)] 9)] := OwnS.lit (row_cons (l := [.string (⟨#[95, 95, 110, 97, 109, 101, 95, 95]⟩ : ByteArray)]) rfl (row_nil _ _)) rfl rfl rfl
        refine gl_reord (D := [(g18, .cells #[.string (⟨#[95, 95, 110, 97, 109, 101, 95, 95]⟩ : ByteArray)] 9)] ++ L) (Reord.refl _) ?_
        refine gl_rest (Tk.step (Upd.rmC _ _) (Tk.nil _)) (fun J22 hJ23 hC24 => ?_)
        have hf25 := (OwnS.rest hO19 hJ23 hC24.left)
        obtain ⟨y26, hx27, hj9⟩ := bind_some hj9
        refine gl_call (by kernel_rfl) (tocsinref04_Pick_walk (r := y26) (hf0_0.mono hJ23) hf25 hx27 _) ?_
        rintro v I28 L29 hI30 ⟨A31, c32, C33, hO34, rfl, rfl⟩
        refine gl_pure 1 [6, 7] (K' := [(6, .string y4), (7, .slice A31 y26.length c32)]) (by kernel_rfl) ?_
        refine gl_atE (by kernel_rfl) ?_
        refine ge_seq ?_
        refine gk_seq (by kernel_rfl) ?_
        refine gk_region (by kernel_rfl) ?_
        refine gl_pure 3 [6, 7, 29] (K' := [(6, .string y4), (7, .slice A31 y26.length c32), (29, .bool ((y26.length : Int) == 0))]) (by kernel_rfl) ?_
        refine gl_atE (by kernel_rfl) ?_
        refine ge_seq ?_
        refine gk_cond (b := ((y26.length : Int) == 0)) (by kernel_rfl) (by kernel_rfl) (fun hc35 => ?_) (fun hc35 => ?_)
        · have hj9 := cond_t hc35 hj9
          refine gk_seq (by kernel_rfl) ?_
          refine gk_region (by kernel_rfl) ?_
          refine gl_pure 3 [2, 3] (K' := [(2, .string y4), (3, .int .i64 0)]) (by kernel_rfl) ?_
          refine gl_atE (by kernel_rfl) ?_
          refine ge_seq ?_
          refine gk_reord (D := L) (Reord.skipC (Reord.refl _)) ?_
          refine gk_ret (by kernel_rfl) ?_
          refine ge_seq_ret ?_
          obtain rfl := some_inj hj9
          refine ge_seq_ret ?_
          obtain rfl := some_inj hr
          exact ge_result trivial (ResOk.tmp (by kernel_rfl) (ResOk.tmp (by kernel_rfl) ResOk.nil)) (Imm.trans hJ23 hI30) ⟨rfl, rfl⟩
        · have hj9 := cond_f hc35 hj9
          refine gk_rest (Tk.step (Upd.rmC _ _) (Tk.nil _)) (fun J36 hJ37 hC38 => ?_)
          have hf39 := (OwnS.rest hO34 hJ37 hC38.left)
          refine gk_skip (by kernel_rfl) ?_
          obtain rfl := some_inj hj9
          exact ge_mid fun t ht => ⟨_, rfl, A31, c32, hf39, (Imm.trans (Imm.trans hJ23 hI30) hJ37), rfl, ht.pick (l := [6, 7]) (by kernel_rfl)⟩
      · have hj9 := cond_f hc17 hj9
        refine gk_region (by kernel_rfl) ?_
        refine gl_pure 1 [6, 7] (K' := [(6, .string (⟨#[]⟩ : ByteArray)), (7, .slice A0_0 a0.length n0_0)]) (by kernel_rfl) ?_
        refine gl_atE (by kernel_rfl) ?_
        obtain rfl := some_inj hj9
        exact ge_mid fun t ht => ⟨_, rfl, A0_0, n0_0, hf0_0, (Imm.refl _), rfl, ht.pick (l := [6, 7]) (by kernel_rfl)⟩
    · rintro t I16 L' ⟨j10, rfl, A12, n13, hf14, hI11, rfl, hK15⟩
      refine ge_at hK15 ?_
      refine ge_seq ?_
      refine gk_seq (by kernel_rfl) ?_
      refine gk_region (by kernel_rfl) ?_
      refine gl_pure 1 [7, 31] (K' := [(7, .slice A12 j10.2.length n13), (31, .string j10.1)]) (by kernel_rfl) ?_
      obtain ⟨s40, hx41, hr⟩ := bind_some hr
      refine gl_sadd (t := 9) (t' := 9) (x := (.tmp 31)) (y := (.const (.string (⟨#[123]⟩ : ByteArray)))) hx41 (by kernel_rfl) (by kernel_rfl) (by kernel_rfl) (by kernel_rfl) ?_
      refine gl_pure 1 [7, 8] (K' := [(7, .slice A12 j10.2.length n13), (8, .string s40)]) (by kernel_rfl) ?_
      refine gl_atE (by kernel_rfl) ?_
      refine ge_seq ?_
      refine gk_seq (by kernel_rfl) ?_
      refine gk_seq (by kernel_rfl) ?_
      refine gk_region (by kernel_rfl) ?_
      refine gl_pure 3 [8, 33, 34, 35] (K' := [(8, .string s40), (33, .slice A12 j10.2.length n13), (34, .int .i64 (j10.2.length : Int)), (35, .int .i64 0)]) (by kernel_rfl) ?_
      refine gl_atE (by kernel_rfl) ?_
      refine ge_seq ?_
      obtain ⟨r46, hl47, hr⟩ := bind_some hr
      refine gk_join (fun t I' L' => I16 ≤ I' ∧ L = L' ∧ Knows 56 [(8, .string r46)] t) ?_ ?_
      · refine gk_block (by kernel_rfl) ?_
        refine gk_pick [8, 33, 34, 35] (K' := [(8, .string s40), (33, .slice A12 j10.2.length n13), (34, .int .i64 (j10.2.length : Int)), (35, .int .i64 0)]) (by kernel_rfl) ?_
        intro t hK
        refine gc_loop (tocsinref04_Print_l57 j10) (fun s48 t I' L' => I16 ≤ I' ∧ L = L' ∧ Knows 56 [(8, .string s48.1), (33, .slice A12 j10.2.length n13), (34, .int .i64 (j10.2.length : Int)), (35, .int .i64 s48.2)] t) (by kernel_rfl) ?_ hl47 ⟨(Imm.refl _), rfl, hK⟩
        rintro s48 o49 t I53 L' hb50 ⟨hI51, rfl, hK52⟩
        unfold tocsinref04_Print_l57 at hb50
        refine gk_at hK52 ?_
        refine gk_seq (by kernel_rfl) ?_
        refine gk_region (by kernel_rfl) ?_
        refine gl_pure 1 [8, 33, 34, 35, 36] (K' := [(8, .string s48.1), (33, .slice A12 j10.2.length n13), (34, .int .i64 (j10.2.length : Int)), (35, .int .i64 s48.2), (36, .bool (decide (s48.2 < (j10.2.length : Int))))]) (by kernel_rfl) ?_
        refine gl_atE (by kernel_rfl) ?_
        refine ge_seq ?_
        refine gk_seq (by kernel_rfl) ?_
        refine gk_cond (b := (decide (s48.2 < (j10.2.length : Int)))) (by kernel_rfl) (by kernel_rfl) (fun hc59 => ?_) (fun hc59 => ?_)
        · have hb50 := cond_t hc59 hb50
          refine gk_skip (by kernel_rfl) ?_
          refine ge_seq ?_
          refine gk_seq (by kernel_rfl) ?_
          refine gk_block (by kernel_rfl) ?_
          refine gk_seq (by kernel_rfl) ?_
          refine gk_region (by kernel_rfl) ?_
          refine gl_pure 1 [8, 33, 34, 35, 37] (K' := [(8, .string s48.1), (33, .slice A12 j10.2.length n13), (34, .int .i64 (j10.2.length : Int)), (35, .int .i64 s48.2), (37, .int .i64 s48.2)]) (by kernel_rfl) ?_
          obtain ⟨x60, hx61, hb50⟩ := bind_some hb50
          obtain ⟨p62, cs63, hR64, hA65, ha66⟩ := RepS.ixAt hx61 (hf14.mono hI51)
          have hi67 := ix_some hx61
          obtain rfl := kS53_open hR64
          refine gl_indexAddrF (c := n13) (T' := 25) (e := 54) (xs := (.tmp 33)) (xi := (.tmp 35)) (kd := .i64) ha66 hi67.1 hi67.2.1 (by kernel_rfl) (by kernel_rfl) (by kernel_rfl) (by kernel_rfl) (by kernel_rfl) ?_
          refine gl_loadA (T' := 54) (xp := (.tmp 38)) (p := p62) (cs := [.string x60.f0, .string x60.f1]) (by kernel_rfl) (by kernel_rfl) (by kernel_rfl) (by kernel_rfl) (hA65.take 2) ?_
          refine gl_alloc (T' := 54) (cs := #[.string (⟨#[]⟩ : ByteArray), .string (⟨#[]⟩ : ByteArray)]) (by kernel_rfl) (by kernel_rfl) (by kernel_rfl) (fun g68 => ?_)
          refine gl_pure 1 [8, 9, 10, 33, 34, 35, 39] (K' := [(8, .string s48.1), (9, .int .i64 s48.2), (10, .pointer (some ⟨g68, 0, none⟩)), (33, .slice A12 j10.2.length n13), (34, .int .i64 (j10.2.length : Int)), (35, .int .i64 s48.2), (39, .agg #[.string x60.f0, .string x60.f1])]) (by kernel_rfl) ?_
          refine gl_storeB (T' := 54) (xp := (.tmp 10)) (xv := (.tmp 39)) (v := .agg #[.string x60.f0, .string x60.f1]) (g := g68) (off := 0) (cs := #[.string (⟨#[]⟩ : ByteArray), .string (⟨#[]⟩ : ByteArray)]) (cs' := #[.string x60.f0, .string x60.f1]) (by kernel_rfl) (by kernel_rfl) (by kernel_rfl) (by kernel_rfl) (by kernel_rfl) (Upd.set _ _ _ _) ?_ (by kernel_rfl)
          refine gl_atE (by kernel_rfl) ?_
          refine ge_seq ?_
          refine gk_seq (by kernel_rfl) ?_
          refine gk_seq (by kernel_rfl) ?_
          refine gk_region (by kernel_rfl) ?_
          refine gl_pure 2 [8, 10, 33, 34, 35, 41] (K' := [(8, .string s48.1), (10, .pointer (some ⟨g68, 0, none⟩)), (33, .slice A12 j10.2.length n13), (34, .int .i64 (j10.2.length : Int)), (35, .int .i64 s48.2), (41, .bool (decide (s48.2 > 0)))]) (by kernel_rfl) ?_
          refine gl_atE (by kernel_rfl) ?_
          refine ge_seq ?_
          obtain ⟨j69, hj70, hb50⟩ := bind_some hb50
          refine gk_join (fun t I' L' => I53 ≤ I' ∧ (g68, .cells #[.string x60.f0, .string x60.f1] 54) :: L = L' ∧ Knows 56 [(8, .string j69), (10, .pointer (some ⟨g68, 0, none⟩)), (33, .slice A12 j10.2.length n13), (34, .int .i64 (j10.2.length : Int)), (35, .int .i64 s48.2)] t) ?_ ?_
          · refine gk_cond (b := (decide (s48.2 > 0))) (by kernel_rfl) (by kernel_rfl) (fun hc74 => ?_) (fun hc74 => ?_)
            · have hj70 := cond_t hc74 hj70
              refine gk_region (by kernel_rfl) ?_
              refine gl_pure 1 [10, 33, 34, 35, 42] (K' := [(10, .pointer (some ⟨g68, 0, none⟩)), (33, .slice A12 j10.2.length n13), (34, .int .i64 (j10.2.length : Int)), (35, .int .i64 s48.2), (42, .string s48.1)]) (by kernel_rfl) ?_
              obtain ⟨s75, hx76, hj70⟩ := bind_some hj70
              refine gl_sadd (t := 9) (t' := 9) (x := (.tmp 42)) (y := (.const (.string (⟨#[44]⟩ : ByteArray)))) hx76 (by kernel_rfl) (by kernel_rfl) (by kernel_rfl) (by kernel_rfl) ?_
              refine gl_pure 1 [8, 10, 33, 34, 35] (K' := [(8, .string s75), (10, .pointer (some ⟨g68, 0, none⟩)), (33, .slice A12 j10.2.length n13), (34, .int .i64 (j10.2.length : Int)), (35, .int .i64 s48.2)]) (by kernel_rfl) ?_
              refine gl_atE (by kernel_rfl) ?_
              obtain rfl := some_inj hj70
              exact ge_mid fun t ht => ⟨(Imm.refl _), rfl, ht.pick (l := [8, 10, 33, 34, 35]) (by kernel_rfl)⟩
            · have hj70 := cond_f hc74 hj70
              refine gk_skip (by kernel_rfl) ?_
              obtain rfl := some_inj hj70
              exact ge_mid fun t ht => ⟨(Imm.refl _), rfl, ht.pick (l := [8, 10, 33, 34, 35]) (by kernel_rfl)⟩
          · rintro t I73 L' ⟨hI71, rfl, hK72⟩
            refine ge_at hK72 ?_
            refine ge_seq ?_
            refine gk_draw 10 [(0, true), (1, true), (2, true), (3, true), (4, true), (5, true), (6, true), (7, true), (8, true), (9, true)] [(g68, .cells #[.string x60.f0, .string x60.f1] 54)] (List.forall_mem_cons.2 ⟨List.mem_cons_self, (fun p hp => by cases hp)⟩) (by kernel_rfl) (by kernel_rfl) (by kernel_rfl) ?_ (by kernel_rfl)
            refine gd_pure 2 [8, 10, 33, 34, 35, 44, 45] (K' := [(8, .string j69), (10, .pointer (some ⟨g68, 0, none⟩)), (33, .slice A12 j10.2.length n13), (34, .int .i64 (j10.2.length : Int)), (35, .int .i64 s48.2), (44, .string j69), (45, .pointer (some ⟨g68, 0, none⟩))]) (s' := [(2, true), (3, true), (4, true), (5, true), (6, true), (7, true), (8, true), (9, true)]) (CC.refl (List.forall_mem_cons.2 ⟨List.mem_cons_self, (fun p hp => by cases hp)⟩)) (by kernel_rfl) ?_
            refine gd_q (v := .string x60.f0) (by kernel_rfl) (by kernel_rfl) (CC.refl (List.forall_mem_cons.2 ⟨List.mem_cons_self, (fun p hp => by cases hp)⟩)) (fun I' L' T hC kk => gl_loadB (T' := 9) (xp := (.tmp 45)) (v := .string x60.f0) (g := g68) (off := 0) (cs := #[.string x60.f0, .string x60.f1]) (e := 54) (fz := (0, 0)) (by kernel_rfl) (by kernel_rfl) (by kernel_rfl) (hC.sub _ List.mem_cons_self) (by kernel_rfl) kk) ?_
            obtain ⟨s77, hx78, hb50⟩ := bind_some hb50
            refine gd_q (v := .string s77) (by kernel_rfl) (by kernel_rfl) (CC.refl (List.forall_mem_cons.2 ⟨List.mem_cons_self, (fun p hp => by cases hp)⟩)) (fun I' L' T hC kk => gl_sadd (t := 9) (t' := 9) (x := (.tmp 44)) (y := (.tmp 46)) hx78 (by kernel_rfl) (by kernel_rfl) (by kernel_rfl) (by kernel_rfl) kk) ?_
            obtain ⟨s79, hx80, hb50⟩ := bind_some hb50
            refine gd_q (v := .string s79) (by kernel_rfl) (by kernel_rfl) (CC.refl (List.forall_mem_cons.2 ⟨List.mem_cons_self, (fun p hp => by cases hp)⟩)) (fun I' L' T hC kk => gl_sadd (t := 9) (t' := 9) (x := (.tmp 47)) (y := (.const (.string (⟨#[61]⟩ : ByteArray)))) hx80 (by kernel_rfl) (by kernel_rfl) (by kernel_rfl) (by kernel_rfl) kk) ?_
            refine gd_pure 1 [8, 33, 34, 35, 48, 49] (K' := [(8, .string j69), (33, .slice A12 j10.2.length n13), (34, .int .i64 (j10.2.length : Int)), (35, .int .i64 s48.2), (48, .string s79), (49, .pointer (some ⟨g68, 1, none⟩))]) (s' := [(6, true), (7, true), (8, true), (9, true)]) (CC.refl (List.forall_mem_cons.2 ⟨List.mem_cons_self, (fun p hp => by cases hp)⟩)) (by kernel_rfl) ?_
            refine gd_q (v := .string x60.f1) (by kernel_rfl) (by kernel_rfl) (CC.refl (List.forall_mem_cons.2 ⟨List.mem_cons_self, (fun p hp => by cases hp)⟩)) (fun I' L' T hC kk => gl_loadB (T' := 9) (xp := (.tmp 49)) (v := .string x60.f1) (g := g68) (off := 1) (cs := #[.string x60.f0, .string x60.f1]) (e := 54) (fz := (0, 0)) (by kernel_rfl) (by kernel_rfl) (by kernel_rfl) (hC.sub _ List.mem_cons_self) (by kernel_rfl) kk) ?_
            obtain ⟨y81, hx82, hb50⟩ := bind_some hb50
            refine gd_q (v := .string y81) (by kernel_rfl) (by kernel_rfl) (CC.refl (List.forall_mem_cons.2 ⟨List.mem_cons_self, (fun p hp => by cases hp)⟩)) (fun I' L' T hC kk => gl_callQ (by kernel_rfl) (tocsinref04_Quoted_walk (r := y81)  hx82 _) kk) ?_
            obtain ⟨s83, hx84, hb50⟩ := bind_some hb50
            refine gd_q (v := .string s83) (by kernel_rfl) (by kernel_rfl) (CC.refl (List.forall_mem_cons.2 ⟨List.mem_cons_self, (fun p hp => by cases hp)⟩)) (fun I' L' T hC kk => gl_sadd (t := 9) (t' := 9) (x := (.tmp 48)) (y := (.tmp 51)) hx84 (by kernel_rfl) (by kernel_rfl) (by kernel_rfl) (by kernel_rfl) kk) ?_
            refine gd_pure 1 [8, 33, 34, 35] (K' := [(8, .string s83), (33, .slice A12 j10.2.length n13), (34, .int .i64 (j10.2.length : Int)), (35, .int .i64 s48.2)]) (s' := []) (CC.refl (List.forall_mem_cons.2 ⟨List.mem_cons_self, (fun p hp => by cases hp)⟩)) (by kernel_rfl) ?_
            refine gd_done ?_
            refine gl_atE (by kernel_rfl) ?_
            refine ge_block_normal ?_
            refine ge_seq ?_
            refine gk_region (by kernel_rfl) ?_
            refine gl_pure 2 [8, 33, 34, 35] (K' := [(8, .string s83), (33, .slice A12 j10.2.length n13), (34, .int .i64 (j10.2.length : Int)), (35, .int .i64 (IntKind.wrap .i64 (s48.2 + 1)))]) (by kernel_rfl) ?_
            refine gl_reord (D := L) (Reord.skip (Reord.refl _)) ?_
            refine gl_atE (by kernel_rfl) ?_
            obtain rfl := some_inj hb50
            exact ge_round fun t ht => ⟨(Imm.trans hI51 hI71), rfl, ht.pick (l := [8, 33, 34, 35]) (by kernel_rfl)⟩
        · have hb50 := cond_f hc59 hb50
          refine gk_exit (by kernel_rfl) ?_
          refine ge_seq_exit ?_
          obtain rfl := some_inj hb50
          refine ge_round_out (fun hrr => ?_) (by intro h; cases h)
          obtain rfl := hrr
          refine ge_block_hit (by kernel_rfl) ?_
          exact ge_mid fun t ht => ⟨hI51, rfl, ht.pick (l := [8]) (by kernel_rfl)⟩
      · rintro t I56 L' ⟨hI54, rfl, hK55⟩
        refine ge_at hK55 ?_
        refine ge_seq ?_
        refine gk_seq (by kernel_rfl) ?_
        refine gk_region (by kernel_rfl) ?_
        refine gl_pure 1 [54] (K' := [(54, .string r46)]) (by kernel_rfl) ?_
        obtain ⟨s85, hx86, hr⟩ := bind_some hr
        refine gl_sadd (t := 9) (t' := 9) (x := (.tmp 54)) (y := (.const (.string (⟨#[125]⟩ : ByteArray)))) hx86 (by kernel_rfl) (by kernel_rfl) (by kernel_rfl) (by kernel_rfl) ?_
        refine gl_pure 2 [2, 3] (K' := [(2, .string s85), (3, .int .i64 0)]) (by kernel_rfl) ?_
        refine gl_atE (by kernel_rfl) ?_
        refine ge_seq ?_
        refine gk_ret (by kernel_rfl) ?_
        obtain rfl := some_inj hr
        exact ge_result trivial (ResOk.tmp (by kernel_rfl) (ResOk.tmp (by kernel_rfl) ResOk.nil)) (Imm.trans hI11 hI54) ⟨rfl, rfl⟩
theorem gl_tabs {I : Imm} {L : Own} {W : World} (hG : Gl I) (hW : Holds I L W) : Go.Lib.Utf8Tabs 0 1 W := by
  refine ⟨fun c hc => ?_, fun i hi => ?_⟩
  · obtain ⟨a, cs, ha, hR, hr⟩ := hG.g0.at_ c (Go.Lib.firstT c : Int) (by simp [tab0, List.getElem?_range hc])
    cases ha
    obtain rfl : cs = [.int .u8 (Go.Lib.firstT c : Int)] := hR
    have := hW.cell (hr 0 _ rfl)
    rw [addr_add, show c * (Kd.int .u8).n + 0 = c from by show c * 1 + 0 = c; omega] at this
    exact this
  · obtain ⟨a, cs, ha, hR, hr⟩ := hG.g1.at_ i ⟨(Go.Lib.accLo i : Int), (Go.Lib.accHi i : Int)⟩ (by simp [tab1, List.getElem?_range hi])
    cases ha
    obtain rfl := kS97_open hR
    have h0 := hW.cell (hr 0 _ rfl)
    have h1 := hW.cell (hr 1 _ rfl)
    rw [addr_add] at h0 h1
    rw [show i * kS97.n + 0 = 2 * i from by show i * 2 + 0 = 2 * i; omega] at h0
    rw [show i * kS97.n + 1 = 2 * i + 1 from by show i * 2 + 1 = 2 * i + 1; omega] at h1
    exact ⟨h0, h1⟩

def lays196_ren : Go.Shelf.Ren := ⟨fun x => if x = 196 then 49 else if x = 259 then 65 else x, fun x => if x = 119 then 96 else if x = 46 then 100 else if x = 139 then 99 else if x = 138 then 98 else if x = 53 then 106 else x, fun x => if x = 3 then 0 else if x = 4 then 1 else x⟩
theorem lays196 : Go.Proofs.Lays.n196 Tryd.prog lays196_ren := {
  mixed := by kernel_rfl,
  f196 := Tryd.func49.trans (congrArg some (by kernel_rfl)),
  f259 := Tryd.func65.trans (congrArg some (by kernel_rfl)),
  t0 := Tryd.underlying0,
  a0 := Tryd.isAgg0,
  z0 := Tryd.sizeOf0,
  v0 := Tryd.zeroValue0,
  t3 := Tryd.underlying3,
  a3 := Tryd.isAgg3,
  z3 := Tryd.sizeOf3,
  v3 := Tryd.zeroValue3,
  t4 := Tryd.underlying4,
  a4 := Tryd.isAgg4,
  z4 := Tryd.sizeOf4,
  v4 := Tryd.zeroValue4,
  t5 := Tryd.underlying5,
  a5 := Tryd.isAgg5,
  z5 := Tryd.sizeOf5,
  v5 := Tryd.zeroValue5,
  t9 := Tryd.underlying9,
  a9 := Tryd.isAgg9,
  z9 := Tryd.sizeOf9,
  v9 := Tryd.zeroValue9,
  t12 := Tryd.underlying12,
  a12 := Tryd.isAgg12,
  z12 := Tryd.sizeOf12,
  v12 := Tryd.zeroValue12,
  t46 := Tryd.underlying100,
  a46 := Tryd.isAgg100,
  z46 := Tryd.sizeOf100,
  v46 := Tryd.zeroValue100,
  t53 := Tryd.underlying106,
  a53 := Tryd.isAgg106,
  z53 := Tryd.sizeOf106,
  v53 := Tryd.zeroValue106,
  t119 := Tryd.underlying96,
  a119 := Tryd.isAgg96,
  z119 := Tryd.sizeOf96,
  t138 := Tryd.underlying98,
  a138 := Tryd.isAgg98,
  z138 := Tryd.sizeOf98,
  v138 := Tryd.zeroValue98,
  t139 := Tryd.underlying99,
  a139 := Tryd.isAgg99,
  z139 := Tryd.sizeOf99,
  v139 := Tryd.zeroValue99,
  g3 := by kernel_rfl,
  g4 := by kernel_rfl }

def utf8_ValidString (a0 : ByteArray) : Option Bool := if a0.size ≤ 9223372036854775807 then some (Go.Lib.validD a0.data.toList) else none
theorem utf8_ValidString_walk {a0 : ByteArray} {I : Imm} {r : Bool} (hG : Gl I) (hr : utf8_ValidString a0 = some r) (L : Own) :
    CallsTo Tryd.prog 49 #[.string a0] I L (fun v I' L' => v = .bool r ∧ L = L') := by
  unfold utf8_ValidString at hr
  split at hr <;> cases hr
  rename_i hs
  exact callsTo_below hG.dr (fun W hW => Go.Proofs.Any.utf8_ValidString lays196 a0 W hs (gl_tabs hG hW))

/-! 32 nflog_text  -/
noncomputable def nflog_text (a0 : ByteArray) (a1 : Int) : Option Bool :=
  Option.bind (bif (decide ((a0.size : Int) ≥ 1)) then
    (bif (decide ((a0.size : Int) ≤ a1)) then
      (Option.bind (utf8_ValidString a0) fun (y8 : Bool) =>
        some y8)
      else
      (some false))
    else
    (some false)) fun (j1 : Bool) =>
  some j1
theorem nflog_text_walk {a0 : ByteArray} {a1 : Int} {I : Imm} {r : Bool} (hG : Gl I) (hr : nflog_text a0 a1 = some r) (L : Own) :
    CallsTo Tryd.prog 32 #[.string a0, .int .i64 a1] I L (fun v I' L' => v = .bool r ∧ L = L') := by
  unfold nflog_text at hr
  refine callsTo_body (N := 18) Tryd.func32 (by kernel_rfl) (by kernel_rfl) (by kernel_rfl) ?_
  refine gk_pick [0, 1] (K' := [(0, .string a0), (1, .int .i64 a1)]) (by kernel_rfl) ?_
  refine gk_seq (by kernel_rfl) ?_
  refine gk_region (by kernel_rfl) ?_
  refine gl_pure 1 [0, 1] (K' := [(0, .string a0), (1, .int .i64 a1)]) (by kernel_rfl) ?_
  refine gl_atE (by kernel_rfl) ?_
  refine ge_seq ?_
  refine gk_seq (by kernel_rfl) ?_
  obtain ⟨j1, hj2, hr⟩ := bind_some hr
  refine gk_join (fun t I' L' => I ≤ I' ∧ L = L' ∧ Knows 18 [(4, .bool j1)] t) ?_ ?_
  · refine gk_region (by kernel_rfl) ?_
    refine gl_pure 4 [0, 1, 8] (K' := [(0, .string a0), (1, .int .i64 a1), (8, .bool (decide ((a0.size : Int) ≥ 1)))]) (by kernel_rfl) ?_
    refine gl_case 8 (b := (decide ((a0.size : Int) ≥ 1))) (by kernel_rfl) (fun hc6 => ?_) (fun hc6 => ?_)
    · have hj2 := cond_t hc6 hj2
      refine gl_pure 6 [0, 14] (K' := [(0, .string a0), (14, .bool (decide ((a0.size : Int) ≤ a1)))]) (by kernel_rfl) ?_
      refine gl_case 14 (b := (decide ((a0.size : Int) ≤ a1))) (by kernel_rfl) (fun hc7 => ?_) (fun hc7 => ?_)
      · have hj2 := cond_t hc7 hj2
        refine gl_pure 1 [14, 15] (K' := [(14, .bool true), (15, .string a0)]) (by kernel_rfl) ?_
        obtain ⟨y8, hx9, hj2⟩ := bind_some hj2
        refine gl_callQ (by kernel_rfl) (utf8_ValidString_walk (r := y8) hG hx9 _) ?_
        refine gl_pure 2 [4] (K' := [(4, .bool y8)]) (by kernel_rfl) ?_
        refine gl_atE (by kernel_rfl) ?_
        obtain rfl := some_inj hj2
        exact ge_mid fun t ht => ⟨(Imm.refl _), rfl, ht.pick (l := [4]) (by kernel_rfl)⟩
      · have hj2 := cond_f hc7 hj2
        refine gl_pure 4 [4] (K' := [(4, .bool false)]) (by kernel_rfl) ?_
        refine gl_atE (by kernel_rfl) ?_
        obtain rfl := some_inj hj2
        exact ge_mid fun t ht => ⟨(Imm.refl _), rfl, ht.pick (l := [4]) (by kernel_rfl)⟩
    · have hj2 := cond_f hc6 hj2
      refine gl_pure 10 [4] (K' := [(4, .bool false)]) (by kernel_rfl) ?_
      refine gl_atE (by kernel_rfl) ?_
      obtain rfl := some_inj hj2
      exact ge_mid fun t ht => ⟨(Imm.refl _), rfl, ht.pick (l := [4]) (by kernel_rfl)⟩
  · rintro t I5 L' ⟨hI3, rfl, hK4⟩
    refine ge_at hK4 ?_
    refine ge_seq ?_
    refine gk_ret (by kernel_rfl) ?_
    obtain rfl := some_inj hr
    exact ge_result trivial (ResOk.tmp (by kernel_rfl) ResOk.nil) hI3 ⟨rfl, rfl⟩
/-! 81 labels_digit  -/
noncomputable def labels_digit (a0 : Int) : Bool :=
  ((decide (a0 ≥ 48)) && (decide (a0 ≤ 57)))
theorem labels_digit_walk {a0 : Int} {I : Imm} {r : Bool}  (hr : labels_digit a0 = r) (L : Own) :
    CallsTo Tryd.prog 81 #[.int .u8 a0] I L (fun v I' L' => v = .bool r ∧ L = L') := by
  replace hr : some (labels_digit a0) = some r := congrArg some hr
  unfold labels_digit at hr
  refine callsTo_body (N := 9) Tryd.func81 (by kernel_rfl) (by kernel_rfl) (by kernel_rfl) ?_
  refine gk_pick [0] (K' := [(0, .int .u8 a0)]) (by kernel_rfl) ?_
  refine gk_seq (by kernel_rfl) ?_
  refine gk_region (by kernel_rfl) ?_
  refine gl_pure 1 [0] (K' := [(0, .int .u8 a0)]) (by kernel_rfl) ?_
  refine gl_atE (by kernel_rfl) ?_
  refine ge_seq ?_
  refine gk_seq (by kernel_rfl) ?_
  obtain ⟨b3, hb4⟩ : ∃ z, z = ((decide (a0 ≥ 48)) && (decide (a0 ≤ 57))) := ⟨_, rfl⟩
  refine gk_join (fun t I' L' => I ≤ I' ∧ L = L' ∧ Knows 9 [(2, .bool b3)] t) ?_ ?_
  · refine gk_region (by kernel_rfl) ?_
    refine gl_pure 3 [0, 5] (K' := [(0, .int .u8 a0), (5, .bool (decide (a0 ≥ 48)))]) (by kernel_rfl) ?_
    refine gl_case 5 (b := (decide (a0 ≥ 48))) (by kernel_rfl) (fun hc6 => ?_) (fun hc6 => ?_)
    · refine gl_pure 4 [2] (K' := [(2, .bool (decide (a0 ≤ 57)))]) (by kernel_rfl) ?_
      refine gl_atE (by kernel_rfl) ?_
      exact ge_mid fun t ht => ⟨(Imm.refl _), rfl, by rw [(show b3 = (decide (a0 ≤ 57)) from hb4.trans (by first | (rw [hc6]; done) | (rw [hc6]; rfl) | (simp [hc6]; done) | (simp only [hc6]; rfl) | (simp at *; omega)))]; exact ht.pick (l := [2]) (by kernel_rfl)⟩
    · refine gl_pure 4 [2] (K' := [(2, .bool false)]) (by kernel_rfl) ?_
      refine gl_atE (by kernel_rfl) ?_
      exact ge_mid fun t ht => ⟨(Imm.refl _), rfl, by rw [(show b3 = false from hb4.trans (by first | (rw [hc6]; done) | (rw [hc6]; rfl) | (simp [hc6]; done) | (simp only [hc6]; rfl) | (simp at *; omega)))]; exact ht.pick (l := [2]) (by kernel_rfl)⟩
  · rintro t I5 L' ⟨hI1, rfl, hK2⟩
    subst hb4
    refine ge_at hK2 ?_
    refine ge_seq ?_
    refine gk_ret (by kernel_rfl) ?_
    obtain rfl := some_inj hr
    exact ge_result trivial (ResOk.tmp (by kernel_rfl) ResOk.nil) hI1 ⟨rfl, rfl⟩
/-! 82 labels_letter  -/
noncomputable def labels_letter (a0 : Int) : Bool :=
  ((((decide (a0 ≥ 97)) && (decide (a0 ≤ 122))) || ((decide (a0 ≥ 65)) && (decide (a0 ≤ 90)))) || (a0 == 95))
theorem labels_letter_walk {a0 : Int} {I : Imm} {r : Bool}  (hr : labels_letter a0 = r) (L : Own) :
    CallsTo Tryd.prog 82 #[.int .u8 a0] I L (fun v I' L' => v = .bool r ∧ L = L') := by
  replace hr : some (labels_letter a0) = some r := congrArg some hr
  unfold labels_letter at hr
  refine callsTo_body (N := 21) Tryd.func82 (by kernel_rfl) (by kernel_rfl) (by kernel_rfl) ?_
  refine gk_pick [0] (K' := [(0, .int .u8 a0)]) (by kernel_rfl) ?_
  refine gk_seq (by kernel_rfl) ?_
  refine gk_region (by kernel_rfl) ?_
  refine gl_pure 1 [0] (K' := [(0, .int .u8 a0)]) (by kernel_rfl) ?_
  refine gl_atE (by kernel_rfl) ?_
  refine ge_seq ?_
  refine gk_seq (by kernel_rfl) ?_
  obtain ⟨b3, hb4⟩ : ∃ z, z = ((((decide (a0 ≥ 97)) && (decide (a0 ≤ 122))) || ((decide (a0 ≥ 65)) && (decide (a0 ≤ 90)))) || (a0 == 95)) := ⟨_, rfl⟩
  refine gk_join (fun t I' L' => I ≤ I' ∧ L = L' ∧ Knows 21 [(2, .bool b3)] t) ?_ ?_
  · refine gk_region (by kernel_rfl) ?_
    refine gl_pure 3 [0, 5] (K' := [(0, .int .u8 a0), (5, .bool (decide (a0 ≥ 97)))]) (by kernel_rfl) ?_
    refine gl_case 5 (b := (decide (a0 ≥ 97))) (by kernel_rfl) (fun hc6 => ?_) (fun hc6 => ?_)
    · refine gl_pure 4 [0, 9] (K' := [(0, .int .u8 a0), (9, .bool (decide (a0 ≤ 122)))]) (by kernel_rfl) ?_
      refine gl_case 9 (b := (decide (a0 ≤ 122))) (by kernel_rfl) (fun hc7 => ?_) (fun hc7 => ?_)
      · refine gl_pure 12 [2] (K' := [(2, .bool true)]) (by kernel_rfl) ?_
        refine gl_atE (by kernel_rfl) ?_
        exact ge_mid fun t ht => ⟨(Imm.refl _), rfl, by rw [(show b3 = true from hb4.trans (by first | (rw [hc6, hc7]; done) | (rw [hc6, hc7]; rfl) | (simp [hc6, hc7]; done) | (simp only [hc6, hc7]; rfl) | (simp at *; omega)))]; exact ht.pick (l := [2]) (by kernel_rfl)⟩
      · refine gl_pure 3 [0, 9, 12] (K' := [(0, .int .u8 a0), (9, .bool false), (12, .bool (decide (a0 ≥ 65)))]) (by kernel_rfl) ?_
        refine gl_case 12 (b := (decide (a0 ≥ 65))) (by kernel_rfl) (fun hc8 => ?_) (fun hc8 => ?_)
        · refine gl_pure 5 [0, 17] (K' := [(0, .int .u8 a0), (17, .bool (decide (a0 ≤ 90)))]) (by kernel_rfl) ?_
          refine gl_case 17 (b := (decide (a0 ≤ 90))) (by kernel_rfl) (fun hc9 => ?_) (fun hc9 => ?_)
          · refine gl_pure 4 [2] (K' := [(2, .bool true)]) (by kernel_rfl) ?_
            refine gl_atE (by kernel_rfl) ?_
            exact ge_mid fun t ht => ⟨(Imm.refl _), rfl, by rw [(show b3 = true from hb4.trans (by first | (rw [hc6, hc7, hc8, hc9]; done) | (rw [hc6, hc7, hc8, hc9]; rfl) | (simp [hc6, hc7, hc8, hc9]; done) | (simp only [hc6, hc7, hc8, hc9]; rfl) | (simp at *; omega)))]; exact ht.pick (l := [2]) (by kernel_rfl)⟩
          · refine gl_pure 4 [2] (K' := [(2, .bool (a0 == 95))]) (by kernel_rfl) ?_
            refine gl_atE (by kernel_rfl) ?_
            exact ge_mid fun t ht => ⟨(Imm.refl _), rfl, by rw [(show b3 = (a0 == 95) from hb4.trans (by first | (rw [hc6, hc7, hc8, hc9]; done) | (rw [hc6, hc7, hc8, hc9]; rfl) | (simp [hc6, hc7, hc8, hc9]; done) | (simp only [hc6, hc7, hc8, hc9]; rfl) | (simp at *; omega)))]; exact ht.pick (l := [2]) (by kernel_rfl)⟩
        · refine gl_pure 9 [2] (K' := [(2, .bool (a0 == 95))]) (by kernel_rfl) ?_
          refine gl_atE (by kernel_rfl) ?_
          exact ge_mid fun t ht => ⟨(Imm.refl _), rfl, by rw [(show b3 = (a0 == 95) from hb4.trans (by first | (rw [hc6, hc7, hc8]; done) | (rw [hc6, hc7, hc8]; rfl) | (simp [hc6, hc7, hc8]; done) | (simp only [hc6, hc7, hc8]; rfl) | (simp at *; omega)))]; exact ht.pick (l := [2]) (by kernel_rfl)⟩
    · refine gl_pure 7 [0, 9, 12] (K' := [(0, .int .u8 a0), (9, .bool false), (12, .bool (decide (a0 ≥ 65)))]) (by kernel_rfl) ?_
      refine gl_case 12 (b := (decide (a0 ≥ 65))) (by kernel_rfl) (fun hc10 => ?_) (fun hc10 => ?_)
      · refine gl_pure 5 [0, 17] (K' := [(0, .int .u8 a0), (17, .bool (decide (a0 ≤ 90)))]) (by kernel_rfl) ?_
        refine gl_case 17 (b := (decide (a0 ≤ 90))) (by kernel_rfl) (fun hc11 => ?_) (fun hc11 => ?_)
        · refine gl_pure 4 [2] (K' := [(2, .bool true)]) (by kernel_rfl) ?_
          refine gl_atE (by kernel_rfl) ?_
          exact ge_mid fun t ht => ⟨(Imm.refl _), rfl, by rw [(show b3 = true from hb4.trans (by first | (rw [hc6, hc10, hc11]; done) | (rw [hc6, hc10, hc11]; rfl) | (simp [hc6, hc10, hc11]; done) | (simp only [hc6, hc10, hc11]; rfl) | (simp at *; omega)))]; exact ht.pick (l := [2]) (by kernel_rfl)⟩
        · refine gl_pure 4 [2] (K' := [(2, .bool (a0 == 95))]) (by kernel_rfl) ?_
          refine gl_atE (by kernel_rfl) ?_
          exact ge_mid fun t ht => ⟨(Imm.refl _), rfl, by rw [(show b3 = (a0 == 95) from hb4.trans (by first | (rw [hc6, hc10, hc11]; done) | (rw [hc6, hc10, hc11]; rfl) | (simp [hc6, hc10, hc11]; done) | (simp only [hc6, hc10, hc11]; rfl) | (simp at *; omega)))]; exact ht.pick (l := [2]) (by kernel_rfl)⟩
      · refine gl_pure 9 [2] (K' := [(2, .bool (a0 == 95))]) (by kernel_rfl) ?_
        refine gl_atE (by kernel_rfl) ?_
        exact ge_mid fun t ht => ⟨(Imm.refl _), rfl, by rw [(show b3 = (a0 == 95) from hb4.trans (by first | (rw [hc6, hc10]; done) | (rw [hc6, hc10]; rfl) | (simp [hc6, hc10]; done) | (simp only [hc6, hc10]; rfl) | (simp at *; omega)))]; exact ht.pick (l := [2]) (by kernel_rfl)⟩
  · rintro t I5 L' ⟨hI1, rfl, hK2⟩
    subst hb4
    refine ge_at hK2 ?_
    refine ge_seq ?_
    refine gk_ret (by kernel_rfl) ?_
    obtain rfl := some_inj hr
    exact ge_result trivial (ResOk.tmp (by kernel_rfl) ResOk.nil) hI1 ⟨rfl, rfl⟩
/-! 76 labels_named  -/
noncomputable def labels_named_l33 (a2 : Bool) (l11 : List Int) : Int → Option ((Int) ⊕ ((Unit) ⊕ (Bool))) := fun s23 =>
  bif (decide (s23 < (l11.length : Int))) then
  (Option.bind (ix l11 s23) fun (x36 : Int) =>
    bif (((!(labels_letter x36)) && (!(labels_digit x36))) && (!(a2 && (x36 == 58)))) then
    (some (Sum.inr (Sum.inr false)))
    else
    (some (Sum.inl (IntKind.wrap .i64 (s23 + 1)))))
  else
  (some (Sum.inr (Sum.inl ())))
noncomputable def labels_named (a0 : ByteArray) (a1 : Int) (a2 : Bool) : Option Bool :=
  Option.bind (bif (a0.toList == (⟨#[]⟩ : ByteArray).toList) then
    (some true)
    else
    (bif (decide ((a0.size : Int) > a1)) then
      (some true)
      else
      (Option.bind (bx a0 0) fun (c8 : Int) =>
        some (labels_digit c8)))) fun (j1 : Bool) =>
  bif j1 then
  (some false)
  else
  (Option.bind (sb a0) fun (l11 : List Int) =>
    Option.bind (loopO (labels_named_l33 a2 l11) 0) fun (r21 : (Unit) ⊕ (Bool)) =>
    match r21 with
    | Sum.inl r29 => some true
    | Sum.inr v54 => some v54)
theorem labels_named_walk {a0 : ByteArray} {a1 : Int} {a2 : Bool} {I : Imm} {r : Bool}  (hr : labels_named a0 a1 a2 = some r) (L : Own) :
    CallsTo Tryd.prog 76 #[.string a0, .int .i64 a1, .bool a2] I L (fun v I' L' => v = .bool r ∧ L = L') := by
  unfold labels_named at hr
  refine callsTo_body (N := 46) Tryd.func76 (by kernel_rfl) (by kernel_rfl) (by kernel_rfl) ?_
  refine gk_pick [0, 1, 2] (K' := [(0, .string a0), (1, .int .i64 a1), (2, .bool a2)]) (by kernel_rfl) ?_
  refine gk_seq (by kernel_rfl) ?_
  refine gk_region (by kernel_rfl) ?_
  refine gl_pure 1 [0, 1, 2] (K' := [(0, .string a0), (1, .int .i64 a1), (2, .bool a2)]) (by kernel_rfl) ?_
  refine gl_atE (by kernel_rfl) ?_
  refine ge_seq ?_
  refine gk_seq (by kernel_rfl) ?_
  refine gk_seq (by kernel_rfl) ?_
  obtain ⟨j1, hj2, hr⟩ := bind_some hr
  refine gk_join (fun t I' L' => I ≤ I' ∧ L = L' ∧ Knows 46 [(0, .string a0), (2, .bool a2), (21, .bool j1)] t) ?_ ?_
  · refine gk_region (by kernel_rfl) ?_
    refine gl_pure 3 [0, 1, 2, 11] (K' := [(0, .string a0), (1, .int .i64 a1), (2, .bool a2), (11, .bool (a0.toList == (⟨#[]⟩ : ByteArray).toList))]) (by kernel_rfl) ?_
    refine gl_case 11 (b := (a0.toList == (⟨#[]⟩ : ByteArray).toList)) (by kernel_rfl) (fun hc6 => ?_) (fun hc6 => ?_)
    · have hj2 := cond_t hc6 hj2
      refine gl_pure 10 [0, 2, 21] (K' := [(0, .string a0), (2, .bool a2), (21, .bool true)]) (by kernel_rfl) ?_
      refine gl_atE (by kernel_rfl) ?_
      obtain rfl := some_inj hj2
      exact ge_mid fun t ht => ⟨(Imm.refl _), rfl, ht.pick (l := [0, 2, 21]) (by kernel_rfl)⟩
    · have hj2 := cond_f hc6 hj2
      refine gl_pure 6 [0, 2, 17] (K' := [(0, .string a0), (2, .bool a2), (17, .bool (decide ((a0.size : Int) > a1)))]) (by kernel_rfl) ?_
      refine gl_case 17 (b := (decide ((a0.size : Int) > a1))) (by kernel_rfl) (fun hc7 => ?_) (fun hc7 => ?_)
      · have hj2 := cond_t hc7 hj2
        refine gl_pure 4 [0, 2, 21] (K' := [(0, .string a0), (2, .bool a2), (21, .bool true)]) (by kernel_rfl) ?_
        refine gl_atE (by kernel_rfl) ?_
        obtain rfl := some_inj hj2
        exact ge_mid fun t ht => ⟨(Imm.refl _), rfl, ht.pick (l := [0, 2, 21]) (by kernel_rfl)⟩
      · have hj2 := cond_f hc7 hj2
        refine gl_pure 1 [0, 2, 17, 18] (K' := [(0, .string a0), (2, .bool a2), (17, .bool false), (18, .string a0)]) (by kernel_rfl) ?_
        obtain ⟨c8, hx9, hj2⟩ := bind_some hj2
        refine gl_index' (T' := 9) (xs := (.tmp 18)) (xi := (.const (.int .i64 0))) (kd := .i64) hx9 (by kernel_rfl) (by kernel_rfl) (by kernel_rfl) (by kernel_rfl) (by kernel_rfl) ?_
        refine gl_callQ (by kernel_rfl) (labels_digit_walk (r := (labels_digit c8))  rfl _) ?_
        refine gl_pure 1 [0, 2, 21] (K' := [(0, .string a0), (2, .bool a2), (21, .bool (labels_digit c8))]) (by kernel_rfl) ?_
        refine gl_atE (by kernel_rfl) ?_
        obtain rfl := some_inj hj2
        exact ge_mid fun t ht => ⟨(Imm.refl _), rfl, ht.pick (l := [0, 2, 21]) (by kernel_rfl)⟩
  · rintro t I5 L' ⟨hI3, rfl, hK4⟩
    refine ge_at hK4 ?_
    refine ge_seq ?_
    refine gk_cond (b := j1) (by kernel_rfl) (by kernel_rfl) (fun hc10 => ?_) (fun hc10 => ?_)
    · have hr := cond_t hc10 hr
      refine gk_seq (by kernel_rfl) ?_
      refine gk_region (by kernel_rfl) ?_
      refine gl_pure 1 [6] (K' := [(6, .bool false)]) (by kernel_rfl) ?_
      refine gl_atE (by kernel_rfl) ?_
      refine ge_seq ?_
      refine gk_ret (by kernel_rfl) ?_
      refine ge_seq_ret ?_
      obtain rfl := some_inj hr
      exact ge_result trivial (ResOk.tmp (by kernel_rfl) ResOk.nil) hI3 ⟨rfl, rfl⟩
    · have hr := cond_f hc10 hr
      refine gk_skip (by kernel_rfl) ?_
      refine ge_seq ?_
      refine gk_seq (by kernel_rfl) ?_
      refine gk_seq (by kernel_rfl) ?_
      refine gk_region (by kernel_rfl) ?_
      refine gl_pure 1 [2, 22] (K' := [(2, .bool a2), (22, .string a0)]) (by kernel_rfl) ?_
      obtain ⟨l11, hx12, hr⟩ := bind_some hr
      refine gl_strBytes (src := 9) (dst := 71) (e := 5) (n := 1) (x := (.tmp 22)) hx12 (by kernel_rfl) (by kernel_rfl) (by kernel_rfl) (by kernel_rfl) (by kernel_rfl) (by kernel_rfl) (fun A13 n14 C15 hO16 => ?_)
      refine gl_pure 2 [2, 23, 24, 25] (K' := [(2, .bool a2), (23, .slice A13 l11.length n14), (24, .int .i64 (l11.length : Int)), (25, .int .i64 0)]) (by kernel_rfl) ?_
      refine gl_atE (by kernel_rfl) ?_
      refine ge_seq ?_
      obtain ⟨r21, hl22, hr⟩ := bind_some hr
      refine gk_join (fun t I' L' => ∃ r29, r21 = Sum.inl r29 ∧ I5 ≤ I' ∧ L = L' ∧ Knows 46 [] t) ?_ ?_
      · refine gk_block (by kernel_rfl) ?_
        refine gk_pick [2, 23, 24, 25] (K' := [(2, .bool a2), (23, .slice A13 l11.length n14), (24, .int .i64 (l11.length : Int)), (25, .int .i64 0)]) (by kernel_rfl) ?_
        intro t hK
        refine gc_loop (labels_named_l33 a2 l11) (fun s23 t I' L' => I5 ≤ I' ∧ C15 ++ L = L' ∧ Knows 46 [(2, .bool a2), (23, .slice A13 l11.length n14), (24, .int .i64 (l11.length : Int)), (25, .int .i64 s23)] t) (by kernel_rfl) ?_ hl22 ⟨(Imm.refl _), rfl, hK⟩
        rintro s23 o24 t I28 L' hb25 ⟨hI26, rfl, hK27⟩
        unfold labels_named_l33 at hb25
        refine gk_at hK27 ?_
        refine gk_seq (by kernel_rfl) ?_
        refine gk_region (by kernel_rfl) ?_
        refine gl_pure 1 [2, 23, 24, 25, 26] (K' := [(2, .bool a2), (23, .slice A13 l11.length n14), (24, .int .i64 (l11.length : Int)), (25, .int .i64 s23), (26, .bool (decide (s23 < (l11.length : Int))))]) (by kernel_rfl) ?_
        refine gl_atE (by kernel_rfl) ?_
        refine ge_seq ?_
        refine gk_seq (by kernel_rfl) ?_
        refine gk_cond (b := (decide (s23 < (l11.length : Int)))) (by kernel_rfl) (by kernel_rfl) (fun hc35 => ?_) (fun hc35 => ?_)
        · have hb25 := cond_t hc35 hb25
          refine gk_skip (by kernel_rfl) ?_
          refine ge_seq ?_
          refine gk_seq (by kernel_rfl) ?_
          refine gk_block (by kernel_rfl) ?_
          refine gk_seq (by kernel_rfl) ?_
          refine gk_region (by kernel_rfl) ?_
          obtain ⟨x36, hx37, hb25⟩ := bind_some hb25
          refine gl_indexAddrW (d := (Kd.int .u8)) (c := n14) (T' := 71) (e := 5) (xs := (.tmp 23)) (xi := (.tmp 25)) (kd := .i64) hx37 (hO16.mono hI26) (Upd.selfC _ _) (by kernel_rfl) (by kernel_rfl) (by kernel_rfl) (by kernel_rfl) (by kernel_rfl) (fun p38 cs39 hR40 hA41 hp44 => ?_)
          obtain rfl := hR40
          refine gl_loadO (T' := 5) (xp := (.tmp 27)) (p := p38) (c := .int .u8 x36) (n := 1) (by kernel_rfl) (by kernel_rfl) (by kernel_rfl) (by kernel_rfl) hA41 ?_
          refine gl_pure 1 [2, 8, 23, 24, 25] (K' := [(2, .bool a2), (8, .int .u8 x36), (23, .slice A13 l11.length n14), (24, .int .i64 (l11.length : Int)), (25, .int .i64 s23)]) (by kernel_rfl) ?_
          refine gl_atE (by kernel_rfl) ?_
          refine ge_seq ?_
          refine gk_seq (by kernel_rfl) ?_
          obtain ⟨b47, hb48⟩ : ∃ z, z = (((!(labels_letter x36)) && (!(labels_digit x36))) && (!(a2 && (x36 == 58)))) := ⟨_, rfl⟩
          refine gk_join (fun t I' L' => I28 ≤ I' ∧ C15 ++ L = L' ∧ Knows 46 [(2, .bool a2), (23, .slice A13 l11.length n14), (24, .int .i64 (l11.length : Int)), (25, .int .i64 s23), (44, .bool b47)] t) ?_ ?_
          · refine gk_region (by kernel_rfl) ?_
            refine gl_pure 1 [2, 8, 23, 24, 25, 29] (K' := [(2, .bool a2), (8, .int .u8 x36), (23, .slice A13 l11.length n14), (24, .int .i64 (l11.length : Int)), (25, .int .i64 s23), (29, .int .u8 x36)]) (by kernel_rfl) ?_
            refine gl_callQ (by kernel_rfl) (labels_letter_walk (r := (labels_letter x36))  rfl _) ?_
            refine gl_pure 2 [2, 8, 23, 24, 25, 32] (K' := [(2, .bool a2), (8, .int .u8 x36), (23, .slice A13 l11.length n14), (24, .int .i64 (l11.length : Int)), (25, .int .i64 s23), (32, .bool (!(labels_letter x36)))]) (by kernel_rfl) ?_
            refine gl_case 32 (b := (!(labels_letter x36))) (by kernel_rfl) (fun hc50 => ?_) (fun hc50 => ?_)
            · refine gl_pure 1 [2, 8, 23, 24, 25, 32, 33] (K' := [(2, .bool a2), (8, .int .u8 x36), (23, .slice A13 l11.length n14), (24, .int .i64 (l11.length : Int)), (25, .int .i64 s23), (32, .bool true), (33, .int .u8 x36)]) (by kernel_rfl) ?_
              refine gl_callQ (by kernel_rfl) (labels_digit_walk (r := (labels_digit x36))  rfl _) ?_
              refine gl_pure 3 [2, 8, 23, 24, 25, 37] (K' := [(2, .bool a2), (8, .int .u8 x36), (23, .slice A13 l11.length n14), (24, .int .i64 (l11.length : Int)), (25, .int .i64 s23), (37, .bool (!(labels_digit x36)))]) (by kernel_rfl) ?_
              refine gl_case 37 (b := (!(labels_digit x36))) (by kernel_rfl) (fun hc51 => ?_) (fun hc51 => ?_)
              · refine gl_pure 2 [2, 8, 23, 24, 25, 37, 39] (K' := [(2, .bool a2), (8, .int .u8 x36), (23, .slice A13 l11.length n14), (24, .int .i64 (l11.length : Int)), (25, .int .i64 s23), (37, .bool true), (39, .bool a2)]) (by kernel_rfl) ?_
                refine gl_case 39 (b := a2) (by kernel_rfl) (fun hc52 => ?_) (fun hc52 => ?_)
                · refine gl_pure 5 [2, 23, 24, 25, 44] (K' := [(2, .bool a2), (23, .slice A13 l11.length n14), (24, .int .i64 (l11.length : Int)), (25, .int .i64 s23), (44, .bool (!(x36 == 58)))]) (by kernel_rfl) ?_
                  refine gl_atE (by kernel_rfl) ?_
                  exact ge_mid fun t ht => ⟨(Imm.refl _), rfl, by rw [(show b47 = (!(x36 == 58)) from hb48.trans (by first | (rw [hc50, hc51, hc52]; done) | (rw [hc50, hc51, hc52]; rfl) | (simp [hc50, hc51, hc52]; done) | (simp only [hc50, hc51, hc52]; rfl) | (simp at *; omega)))]; exact ht.pick (l := [2, 23, 24, 25, 44]) (by kernel_rfl)⟩
                · refine gl_pure 5 [2, 23, 24, 25, 44] (K' := [(2, .bool a2), (23, .slice A13 l11.length n14), (24, .int .i64 (l11.length : Int)), (25, .int .i64 s23), (44, .bool true)]) (by kernel_rfl) ?_
                  refine gl_atE (by kernel_rfl) ?_
                  exact ge_mid fun t ht => ⟨(Imm.refl _), rfl, by rw [(show b47 = true from hb48.trans (by first | (rw [hc50, hc51, hc52]; done) | (rw [hc50, hc51, hc52]; rfl) | (simp [hc50, hc51, hc52]; done) | (simp only [hc50, hc51, hc52]; rfl) | (simp at *; omega)))]; exact ht.pick (l := [2, 23, 24, 25, 44]) (by kernel_rfl)⟩
              · refine gl_pure 7 [2, 23, 24, 25, 44] (K' := [(2, .bool a2), (23, .slice A13 l11.length n14), (24, .int .i64 (l11.length : Int)), (25, .int .i64 s23), (44, .bool false)]) (by kernel_rfl) ?_
                refine gl_atE (by kernel_rfl) ?_
                exact ge_mid fun t ht => ⟨(Imm.refl _), rfl, by rw [(show b47 = false from hb48.trans (by first | (rw [hc50, hc51]; done) | (rw [hc50, hc51]; rfl) | (simp [hc50, hc51]; done) | (simp only [hc50, hc51]; rfl) | (simp at *; omega)))]; exact ht.pick (l := [2, 23, 24, 25, 44]) (by kernel_rfl)⟩
            · refine gl_pure 12 [2, 23, 24, 25, 44] (K' := [(2, .bool a2), (23, .slice A13 l11.length n14), (24, .int .i64 (l11.length : Int)), (25, .int .i64 s23), (44, .bool false)]) (by kernel_rfl) ?_
              refine gl_atE (by kernel_rfl) ?_
              exact ge_mid fun t ht => ⟨(Imm.refl _), rfl, by rw [(show b47 = false from hb48.trans (by first | (rw [hc50]; done) | (rw [hc50]; rfl) | (simp [hc50]; done) | (simp only [hc50]; rfl) | (simp at *; omega)))]; exact ht.pick (l := [2, 23, 24, 25, 44]) (by kernel_rfl)⟩
          · rintro t I49 L' ⟨hI45, rfl, hK46⟩
            subst hb48
            refine ge_at hK46 ?_
            refine ge_seq ?_
            refine gk_cond (b := (((!(labels_letter x36)) && (!(labels_digit x36))) && (!(a2 && (x36 == 58))))) (by kernel_rfl) (by kernel_rfl) (fun hc53 => ?_) (fun hc53 => ?_)
            · have hb25 := cond_t hc53 hb25
              refine gk_seq (by kernel_rfl) ?_
              refine gk_region (by kernel_rfl) ?_
              refine gl_pure 1 [6] (K' := [(6, .bool false)]) (by kernel_rfl) ?_
              refine gl_atE (by kernel_rfl) ?_
              refine ge_seq ?_
              refine gk_reord (D := L) (Reord.skipC (Reord.refl _)) ?_
              refine gk_ret (by kernel_rfl) ?_
              refine ge_block_ret ?_
              refine ge_seq_ret ?_
              obtain rfl := some_inj hb25
              refine ge_round_out (fun hrr => ?_) (by intro h; cases h)
              obtain rfl := hrr
              refine ge_block_ret ?_
              refine ge_seq_ret ?_
              refine ge_seq_ret ?_
              obtain rfl := some_inj hr
              exact ge_result trivial (ResOk.tmp (by kernel_rfl) ResOk.nil) (Imm.trans (Imm.trans hI3 hI26) hI45) ⟨rfl, rfl⟩
            · have hb25 := cond_f hc53 hb25
              refine gk_skip (by kernel_rfl) ?_
              refine ge_block_normal ?_
              refine ge_seq ?_
              refine gk_region (by kernel_rfl) ?_
              refine gl_pure 2 [2, 23, 24, 25] (K' := [(2, .bool a2), (23, .slice A13 l11.length n14), (24, .int .i64 (l11.length : Int)), (25, .int .i64 (IntKind.wrap .i64 (s23 + 1)))]) (by kernel_rfl) ?_
              refine gl_atE (by kernel_rfl) ?_
              obtain rfl := some_inj hb25
              exact ge_round fun t ht => ⟨(Imm.trans hI26 hI45), rfl, ht.pick (l := [2, 23, 24, 25]) (by kernel_rfl)⟩
        · have hb25 := cond_f hc35 hb25
          refine gk_reord (D := L) (Reord.skipC (Reord.refl _)) ?_
          refine gk_exit (by kernel_rfl) ?_
          refine ge_seq_exit ?_
          obtain rfl := some_inj hb25
          refine ge_round_out (fun hrr => ?_) (by intro h; cases h)
          obtain rfl := hrr
          refine ge_block_hit (by kernel_rfl) ?_
          exact ge_mid fun t ht => ⟨_, rfl, hI26, rfl, ht.pick (l := []) (by kernel_rfl)⟩
      · rintro t I32 L' ⟨r29, rfl, hI30, rfl, hK31⟩
        refine ge_at hK31 ?_
        refine ge_seq ?_
        refine gk_seq (by kernel_rfl) ?_
        refine gk_region (by kernel_rfl) ?_
        refine gl_pure 1 [6] (K' := [(6, .bool true)]) (by kernel_rfl) ?_
        refine gl_atE (by kernel_rfl) ?_
        refine ge_seq ?_
        refine gk_ret (by kernel_rfl) ?_
        obtain rfl := some_inj hr
        exact ge_result trivial (ResOk.tmp (by kernel_rfl) ResOk.nil) (Imm.trans hI3 hI30) ⟨rfl, rfl⟩
/-! 66 labels_Name  -/
noncomputable def labels_Name (a0 : ByteArray) : Option Bool :=
  Option.bind (labels_named a0 64 false) fun (y1 : Bool) =>
  some y1
theorem labels_Name_walk {a0 : ByteArray} {I : Imm} {r : Bool}  (hr : labels_Name a0 = some r) (L : Own) :
    CallsTo Tryd.prog 66 #[.string a0] I L (fun v I' L' => v = .bool r ∧ L = L') := by
  unfold labels_Name at hr
  refine callsTo_body (N := 5) Tryd.func66 (by kernel_rfl) (by kernel_rfl) (by kernel_rfl) ?_
  refine gk_pick [0] (K' := [(0, .string a0)]) (by kernel_rfl) ?_
  refine gk_seq (by kernel_rfl) ?_
  refine gk_region (by kernel_rfl) ?_
  refine gl_pure 1 [0] (K' := [(0, .string a0)]) (by kernel_rfl) ?_
  refine gl_atE (by kernel_rfl) ?_
  refine ge_seq ?_
  refine gk_seq (by kernel_rfl) ?_
  refine gk_region (by kernel_rfl) ?_
  refine gl_pure 1 [3] (K' := [(3, .string a0)]) (by kernel_rfl) ?_
  obtain ⟨y1, hx2, hr⟩ := bind_some hr
  refine gl_callQ (by kernel_rfl) (labels_named_walk (r := y1)  hx2 _) ?_
  refine gl_pure 1 [2] (K' := [(2, .bool y1)]) (by kernel_rfl) ?_
  refine gl_atE (by kernel_rfl) ?_
  refine ge_seq ?_
  refine gk_ret (by kernel_rfl) ?_
  obtain rfl := some_inj hr
  exact ge_result trivial (ResOk.tmp (by kernel_rfl) ResOk.nil) (Imm.refl _) ⟨rfl, rfl⟩
/-! 67 labels_value  -/
noncomputable def labels_value (a0 : ByteArray) : Option Int :=
  bif (a0.toList == (⟨#[]⟩ : ByteArray).toList) then
  (some 41)
  else
  (bif (decide ((a0.size : Int) > 256)) then
    (some 4)
    else
    (Option.bind (utf8_ValidString a0) fun (y3 : Bool) =>
      bif (!y3) then
      (some 12)
      else
      (some 0)))
theorem labels_value_walk {a0 : ByteArray} {I : Imm} {r : Int} (hG : Gl I) (hr : labels_value a0 = some r) (L : Own) :
    CallsTo Tryd.prog 67 #[.string a0] I L (fun v I' L' => v = .int .i64 r ∧ L = L') := by
  unfold labels_value at hr
  refine callsTo_body (N := 14) Tryd.func67 (by kernel_rfl) (by kernel_rfl) (by kernel_rfl) ?_
  refine gk_pick [0] (K' := [(0, .string a0)]) (by kernel_rfl) ?_
  refine gk_seq (by kernel_rfl) ?_
  refine gk_region (by kernel_rfl) ?_
  refine gl_pure 1 [0] (K' := [(0, .string a0)]) (by kernel_rfl) ?_
  refine gl_atE (by kernel_rfl) ?_
  refine ge_seq ?_
  refine gk_seq (by kernel_rfl) ?_
  refine gk_block (by kernel_rfl) ?_
  refine gk_seq (by kernel_rfl) ?_
  refine gk_region (by kernel_rfl) ?_
  refine gl_pure 3 [0, 3] (K' := [(0, .string a0), (3, .bool (a0.toList == (⟨#[]⟩ : ByteArray).toList))]) (by kernel_rfl) ?_
  refine gl_atE (by kernel_rfl) ?_
  refine ge_seq ?_
  refine gk_cond (b := (a0.toList == (⟨#[]⟩ : ByteArray).toList)) (by kernel_rfl) (by kernel_rfl) (fun hc1 => ?_) (fun hc1 => ?_)
  · have hr := cond_t hc1 hr
    refine gk_seq (by kernel_rfl) ?_
    refine gk_region (by kernel_rfl) ?_
    refine gl_pure 1 [2] (K' := [(2, .int .i64 41)]) (by kernel_rfl) ?_
    refine gl_atE (by kernel_rfl) ?_
    refine ge_seq ?_
    refine gk_ret (by kernel_rfl) ?_
    refine ge_block_ret ?_
    refine ge_seq_ret ?_
    obtain rfl := some_inj hr
    exact ge_result trivial (ResOk.tmp (by kernel_rfl) ResOk.nil) (Imm.refl _) ⟨rfl, rfl⟩
  · have hr := cond_f hc1 hr
    refine gk_seq (by kernel_rfl) ?_
    refine gk_region (by kernel_rfl) ?_
    refine gl_pure 4 [0, 6] (K' := [(0, .string a0), (6, .bool (decide ((a0.size : Int) > 256)))]) (by kernel_rfl) ?_
    refine gl_atE (by kernel_rfl) ?_
    refine ge_seq ?_
    refine gk_cond (b := (decide ((a0.size : Int) > 256))) (by kernel_rfl) (by kernel_rfl) (fun hc2 => ?_) (fun hc2 => ?_)
    · have hr := cond_t hc2 hr
      refine gk_seq (by kernel_rfl) ?_
      refine gk_region (by kernel_rfl) ?_
      refine gl_pure 1 [2] (K' := [(2, .int .i64 4)]) (by kernel_rfl) ?_
      refine gl_atE (by kernel_rfl) ?_
      refine ge_seq ?_
      refine gk_ret (by kernel_rfl) ?_
      refine ge_block_ret ?_
      refine ge_seq_ret ?_
      obtain rfl := some_inj hr
      exact ge_result trivial (ResOk.tmp (by kernel_rfl) ResOk.nil) (Imm.refl _) ⟨rfl, rfl⟩
    · have hr := cond_f hc2 hr
      refine gk_seq (by kernel_rfl) ?_
      refine gk_region (by kernel_rfl) ?_
      refine gl_pure 1 [11] (K' := [(11, .string a0)]) (by kernel_rfl) ?_
      obtain ⟨y3, hx4, hr⟩ := bind_some hr
      refine gl_callQ (by kernel_rfl) (utf8_ValidString_walk (r := y3) hG hx4 _) ?_
      refine gl_pure 2 [10] (K' := [(10, .bool (!y3))]) (by kernel_rfl) ?_
      refine gl_atE (by kernel_rfl) ?_
      refine ge_seq ?_
      refine gk_cond (b := (!y3)) (by kernel_rfl) (by kernel_rfl) (fun hc5 => ?_) (fun hc5 => ?_)
      · have hr := cond_t hc5 hr
        refine gk_seq (by kernel_rfl) ?_
        refine gk_region (by kernel_rfl) ?_
        refine gl_pure 1 [2] (K' := [(2, .int .i64 12)]) (by kernel_rfl) ?_
        refine gl_atE (by kernel_rfl) ?_
        refine ge_seq ?_
        refine gk_ret (by kernel_rfl) ?_
        refine ge_block_ret ?_
        refine ge_seq_ret ?_
        obtain rfl := some_inj hr
        exact ge_result trivial (ResOk.tmp (by kernel_rfl) ResOk.nil) (Imm.refl _) ⟨rfl, rfl⟩
      · have hr := cond_f hc5 hr
        refine gk_skip (by kernel_rfl) ?_
        refine ge_block_normal ?_
        refine ge_seq ?_
        refine gk_seq (by kernel_rfl) ?_
        refine gk_region (by kernel_rfl) ?_
        refine gl_pure 1 [2] (K' := [(2, .int .i64 0)]) (by kernel_rfl) ?_
        refine gl_atE (by kernel_rfl) ?_
        refine ge_seq ?_
        refine gk_ret (by kernel_rfl) ?_
        obtain rfl := some_inj hr
        exact ge_result trivial (ResOk.tmp (by kernel_rfl) ResOk.nil) (Imm.refl _) ⟨rfl, rfl⟩
/-! 50 labels_Right  -/
noncomputable def labels_Right_l18 (a0 : List S53) : Int → Option ((Int) ⊕ ((Unit) ⊕ (Int × Int))) := fun s8 =>
  bif (decide (s8 < (a0.length : Int))) then
  (Option.bind (ix a0 s8) fun (x21 : S53) =>
    Option.bind (labels_Name x21.f0) fun (y30 : Bool) =>
    bif (!y30) then
    (some (Sum.inr (Sum.inr (40, s8))))
    else
    (Option.bind (labels_value x21.f1) fun (y33 : Int) =>
      bif (y33 != 0) then
      (some (Sum.inr (Sum.inr (y33, s8))))
      else
      (Option.bind (bif (decide (s8 > 0)) then
          (Option.bind (ix a0 (IntKind.wrap .i64 (s8 - 1))) fun (x42 : S53) =>
            some ((Op.bytesLess x21.f0.toList x42.f0.toList) || (x21.f0.toList == x42.f0.toList)))
          else
          (some false)) fun (j36 : Bool) =>
        bif j36 then
        (some (Sum.inr (Sum.inr (3, s8))))
        else
        (some (Sum.inl (IntKind.wrap .i64 (s8 + 1)))))))
  else
  (some (Sum.inr (Sum.inl ())))
noncomputable def labels_Right (a0 : List S53) : Option (Int × Int) :=
  bif (decide ((a0.length : Int) > 16)) then
  (some (8, 0))
  else
  (Option.bind (loopO (labels_Right_l18 a0) 0) fun (r6 : (Unit) ⊕ (Int × Int)) =>
    match r6 with
    | Sum.inl r14 => some (0, 0)
    | Sum.inr v51 => some v51)
theorem labels_Right_walk {a0 : List S53} {A0_0 : Option Addr} {n0_0 : Nat} {I : Imm} {r : Int × Int} (hG : Gl I)  (hf0_0 : RepS kS53 I A0_0 n0_0 a0) (hr : labels_Right a0 = some r) (L : Own) :
    CallsTo Tryd.prog 50 #[.slice A0_0 a0.length n0_0] I L (fun v I' L' => v = .tuple #[.int .i64 r.1, .int .i64 r.2] ∧ L = L') := by
  unfold labels_Right at hr
  refine callsTo_body (N := 44) Tryd.func50 (by kernel_rfl) (by kernel_rfl) (by kernel_rfl) ?_
  refine gk_pick [0] (K' := [(0, .slice A0_0 a0.length n0_0)]) (by kernel_rfl) ?_
  refine gk_seq (by kernel_rfl) ?_
  refine gk_region (by kernel_rfl) ?_
  refine gl_pure 2 [0] (K' := [(0, .slice A0_0 a0.length n0_0)]) (by kernel_rfl) ?_
  refine gl_atE (by kernel_rfl) ?_
  refine ge_seq ?_
  refine gk_seq (by kernel_rfl) ?_
  refine gk_seq (by kernel_rfl) ?_
  refine gk_region (by kernel_rfl) ?_
  refine gl_pure 3 [0, 9] (K' := [(0, .slice A0_0 a0.length n0_0), (9, .bool (decide ((a0.length : Int) > 16)))]) (by kernel_rfl) ?_
  refine gl_atE (by kernel_rfl) ?_
  refine ge_seq ?_
  refine gk_cond (b := (decide ((a0.length : Int) > 16))) (by kernel_rfl) (by kernel_rfl) (fun hc1 => ?_) (fun hc1 => ?_)
  · have hr := cond_t hc1 hr
    refine gk_seq (by kernel_rfl) ?_
    refine gk_region (by kernel_rfl) ?_
    refine gl_pure 2 [2, 3] (K' := [(2, .int .i64 8), (3, .int .i64 0)]) (by kernel_rfl) ?_
    refine gl_atE (by kernel_rfl) ?_
    refine ge_seq ?_
    refine gk_ret (by kernel_rfl) ?_
    refine ge_seq_ret ?_
    obtain rfl := some_inj hr
    exact ge_result trivial (ResOk.tmp (by kernel_rfl) (ResOk.tmp (by kernel_rfl) ResOk.nil)) (Imm.refl _) ⟨rfl, rfl⟩
  · have hr := cond_f hc1 hr
    refine gk_skip (by kernel_rfl) ?_
    refine ge_seq ?_
    refine gk_seq (by kernel_rfl) ?_
    refine gk_seq (by kernel_rfl) ?_
    refine gk_region (by kernel_rfl) ?_
    refine gl_pure 3 [0, 10, 11, 12] (K' := [(0, .slice A0_0 a0.length n0_0), (10, .slice A0_0 a0.length n0_0), (11, .int .i64 (a0.length : Int)), (12, .int .i64 0)]) (by kernel_rfl) ?_
    refine gl_atE (by kernel_rfl) ?_
    refine ge_seq ?_
    obtain ⟨r6, hl7, hr⟩ := bind_some hr
    refine gk_join (fun t I' L' => ∃ r14, r6 = Sum.inl r14 ∧ I ≤ I' ∧ L = L' ∧ Knows 44 [] t) ?_ ?_
    · refine gk_block (by kernel_rfl) ?_
      refine gk_pick [0, 10, 11, 12] (K' := [(0, .slice A0_0 a0.length n0_0), (10, .slice A0_0 a0.length n0_0), (11, .int .i64 (a0.length : Int)), (12, .int .i64 0)]) (by kernel_rfl) ?_
      intro t hK
      refine gc_loop (labels_Right_l18 a0) (fun s8 t I' L' => I ≤ I' ∧ L = L' ∧ Knows 44 [(0, .slice A0_0 a0.length n0_0), (10, .slice A0_0 a0.length n0_0), (11, .int .i64 (a0.length : Int)), (12, .int .i64 s8)] t) (by kernel_rfl) ?_ hl7 ⟨(Imm.refl _), rfl, hK⟩
      rintro s8 o9 t I13 L' hb10 ⟨hI11, rfl, hK12⟩
      unfold labels_Right_l18 at hb10
      refine gk_at hK12 ?_
      refine gk_seq (by kernel_rfl) ?_
      refine gk_region (by kernel_rfl) ?_
      refine gl_pure 1 [0, 10, 11, 12, 13] (K' := [(0, .slice A0_0 a0.length n0_0), (10, .slice A0_0 a0.length n0_0), (11, .int .i64 (a0.length : Int)), (12, .int .i64 s8), (13, .bool (decide (s8 < (a0.length : Int))))]) (by kernel_rfl) ?_
      refine gl_atE (by kernel_rfl) ?_
      refine ge_seq ?_
      refine gk_seq (by kernel_rfl) ?_
      refine gk_cond (b := (decide (s8 < (a0.length : Int)))) (by kernel_rfl) (by kernel_rfl) (fun hc20 => ?_) (fun hc20 => ?_)
      · have hb10 := cond_t hc20 hb10
        refine gk_skip (by kernel_rfl) ?_
        refine ge_seq ?_
        refine gk_seq (by kernel_rfl) ?_
        refine gk_block (by kernel_rfl) ?_
        refine gk_seq (by kernel_rfl) ?_
        refine gk_region (by kernel_rfl) ?_
        refine gl_pure 1 [0, 10, 11, 12, 14] (K' := [(0, .slice A0_0 a0.length n0_0), (10, .slice A0_0 a0.length n0_0), (11, .int .i64 (a0.length : Int)), (12, .int .i64 s8), (14, .int .i64 s8)]) (by kernel_rfl) ?_
        obtain ⟨x21, hx22, hb10⟩ := bind_some hb10
        obtain ⟨p23, cs24, hR25, hA26, ha27⟩ := RepS.ixAt hx22 (hf0_0.mono hI11)
        have hi28 := ix_some hx22
        obtain rfl := kS53_open hR25
        refine gl_indexAddrF (c := n0_0) (T' := 25) (e := 54) (xs := (.tmp 10)) (xi := (.tmp 12)) (kd := .i64) ha27 hi28.1 hi28.2.1 (by kernel_rfl) (by kernel_rfl) (by kernel_rfl) (by kernel_rfl) (by kernel_rfl) ?_
        refine gl_loadA (T' := 54) (xp := (.tmp 15)) (p := p23) (cs := [.string x21.f0, .string x21.f1]) (by kernel_rfl) (by kernel_rfl) (by kernel_rfl) (by kernel_rfl) (hA26.take 2) ?_
        refine gl_alloc (T' := 54) (cs := #[.string (⟨#[]⟩ : ByteArray), .string (⟨#[]⟩ : ByteArray)]) (by kernel_rfl) (by kernel_rfl) (by kernel_rfl) (fun g29 => ?_)
        refine gl_pure 1 [0, 4, 5, 10, 11, 12, 16] (K' := [(0, .slice A0_0 a0.length n0_0), (4, .int .i64 s8), (5, .pointer (some ⟨g29, 0, none⟩)), (10, .slice A0_0 a0.length n0_0), (11, .int .i64 (a0.length : Int)), (12, .int .i64 s8), (16, .agg #[.string x21.f0, .string x21.f1])]) (by kernel_rfl) ?_
        refine gl_storeB (T' := 54) (xp := (.tmp 5)) (xv := (.tmp 16)) (v := .agg #[.string x21.f0, .string x21.f1]) (g := g29) (off := 0) (cs := #[.string (⟨#[]⟩ : ByteArray), .string (⟨#[]⟩ : ByteArray)]) (cs' := #[.string x21.f0, .string x21.f1]) (by kernel_rfl) (by kernel_rfl) (by kernel_rfl) (by kernel_rfl) (by kernel_rfl) (Upd.set _ _ _ _) ?_ (by kernel_rfl)
        refine gl_atE (by kernel_rfl) ?_
        refine ge_seq ?_
        refine gk_seq (by kernel_rfl) ?_
        refine gk_seq (by kernel_rfl) ?_
        refine gk_region (by kernel_rfl) ?_
        refine gl_pure 1 [0, 4, 5, 10, 11, 12, 17] (K' := [(0, .slice A0_0 a0.length n0_0), (4, .int .i64 s8), (5, .pointer (some ⟨g29, 0, none⟩)), (10, .slice A0_0 a0.length n0_0), (11, .int .i64 (a0.length : Int)), (12, .int .i64 s8), (17, .pointer (some ⟨g29, 0, none⟩))]) (by kernel_rfl) ?_
        refine gl_loadB (T' := 9) (xp := (.tmp 17)) (v := .string x21.f0) (g := g29) (off := 0) (cs := #[.string x21.f0, .string x21.f1]) (e := 54) (fz := (0, 0)) (by kernel_rfl) (by kernel_rfl) (by kernel_rfl) List.mem_cons_self (by kernel_rfl) ?_
        obtain ⟨y30, hx31, hb10⟩ := bind_some hb10
        refine gl_callQ (by kernel_rfl) (labels_Name_walk (r := y30)  hx31 _) ?_
        refine gl_pure 1 [0, 4, 5, 10, 11, 12, 20] (K' := [(0, .slice A0_0 a0.length n0_0), (4, .int .i64 s8), (5, .pointer (some ⟨g29, 0, none⟩)), (10, .slice A0_0 a0.length n0_0), (11, .int .i64 (a0.length : Int)), (12, .int .i64 s8), (20, .bool (!y30))]) (by kernel_rfl) ?_
        refine gl_atE (by kernel_rfl) ?_
        refine ge_seq ?_
        refine gk_cond (b := (!y30)) (by kernel_rfl) (by kernel_rfl) (fun hc32 => ?_) (fun hc32 => ?_)
        · have hb10 := cond_t hc32 hb10
          refine gk_seq (by kernel_rfl) ?_
          refine gk_region (by kernel_rfl) ?_
          refine gl_pure 3 [2, 3] (K' := [(2, .int .i64 40), (3, .int .i64 s8)]) (by kernel_rfl) ?_
          refine gl_atE (by kernel_rfl) ?_
          refine ge_seq ?_
          refine gk_reord (D := L) (Reord.skip (Reord.refl _)) ?_
          refine gk_ret (by kernel_rfl) ?_
          refine ge_seq_ret ?_
          refine ge_block_ret ?_
          refine ge_seq_ret ?_
          obtain rfl := some_inj hb10
          refine ge_round_out (fun hrr => ?_) (by intro h; cases h)
          obtain rfl := hrr
          refine ge_block_ret ?_
          refine ge_seq_ret ?_
          refine ge_seq_ret ?_
          obtain rfl := some_inj hr
          exact ge_result trivial (ResOk.tmp (by kernel_rfl) (ResOk.tmp (by kernel_rfl) ResOk.nil)) hI11 ⟨rfl, rfl⟩
        · have hb10 := cond_f hc32 hb10
          refine gk_skip (by kernel_rfl) ?_
          refine ge_seq ?_
          refine gk_seq (by kernel_rfl) ?_
          refine gk_seq (by kernel_rfl) ?_
          refine gk_region (by kernel_rfl) ?_
          refine gl_pure 1 [0, 4, 5, 10, 11, 12, 22] (K' := [(0, .slice A0_0 a0.length n0_0), (4, .int .i64 s8), (5, .pointer (some ⟨g29, 0, none⟩)), (10, .slice A0_0 a0.length n0_0), (11, .int .i64 (a0.length : Int)), (12, .int .i64 s8), (22, .pointer (some ⟨g29, 1, none⟩))]) (by kernel_rfl) ?_
          refine gl_loadB (T' := 9) (xp := (.tmp 22)) (v := .string x21.f1) (g := g29) (off := 1) (cs := #[.string x21.f0, .string x21.f1]) (e := 54) (fz := (0, 0)) (by kernel_rfl) (by kernel_rfl) (by kernel_rfl) List.mem_cons_self (by kernel_rfl) ?_
          obtain ⟨y33, hx34, hb10⟩ := bind_some hb10
          refine gl_callQ (by kernel_rfl) (labels_value_walk (r := y33) (hG.mono hI11) hx34 _) ?_
          refine gl_pure 1 [0, 4, 5, 6, 10, 11, 12] (K' := [(0, .slice A0_0 a0.length n0_0), (4, .int .i64 s8), (5, .pointer (some ⟨g29, 0, none⟩)), (6, .int .i64 y33), (10, .slice A0_0 a0.length n0_0), (11, .int .i64 (a0.length : Int)), (12, .int .i64 s8)]) (by kernel_rfl) ?_
          refine gl_atE (by kernel_rfl) ?_
          refine ge_seq ?_
          refine gk_seq (by kernel_rfl) ?_
          refine gk_region (by kernel_rfl) ?_
          refine gl_pure 2 [0, 4, 5, 6, 10, 11, 12, 26] (K' := [(0, .slice A0_0 a0.length n0_0), (4, .int .i64 s8), (5, .pointer (some ⟨g29, 0, none⟩)), (6, .int .i64 y33), (10, .slice A0_0 a0.length n0_0), (11, .int .i64 (a0.length : Int)), (12, .int .i64 s8), (26, .bool (y33 != 0))]) (by kernel_rfl) ?_
          refine gl_atE (by kernel_rfl) ?_
          refine ge_seq ?_
          refine gk_cond (b := (y33 != 0)) (by kernel_rfl) (by kernel_rfl) (fun hc35 => ?_) (fun hc35 => ?_)
          · have hb10 := cond_t hc35 hb10
            refine gk_seq (by kernel_rfl) ?_
            refine gk_region (by kernel_rfl) ?_
            refine gl_pure 4 [2, 3] (K' := [(2, .int .i64 y33), (3, .int .i64 s8)]) (by kernel_rfl) ?_
            refine gl_atE (by kernel_rfl) ?_
            refine ge_seq ?_
            refine gk_reord (D := L) (Reord.skip (Reord.refl _)) ?_
            refine gk_ret (by kernel_rfl) ?_
            refine ge_seq_ret ?_
            refine ge_block_ret ?_
            refine ge_seq_ret ?_
            obtain rfl := some_inj hb10
            refine ge_round_out (fun hrr => ?_) (by intro h; cases h)
            obtain rfl := hrr
            refine ge_block_ret ?_
            refine ge_seq_ret ?_
            refine ge_seq_ret ?_
            obtain rfl := some_inj hr
            exact ge_result trivial (ResOk.tmp (by kernel_rfl) (ResOk.tmp (by kernel_rfl) ResOk.nil)) hI11 ⟨rfl, rfl⟩
          · have hb10 := cond_f hc35 hb10
            refine gk_skip (by kernel_rfl) ?_
            refine ge_seq ?_
            refine gk_seq (by kernel_rfl) ?_
            obtain ⟨j36, hj37, hb10⟩ := bind_some hb10
            refine gk_join (fun t I' L' => I13 ≤ I' ∧ L = L' ∧ Knows 44 [(0, .slice A0_0 a0.length n0_0), (4, .int .i64 s8), (10, .slice A0_0 a0.length n0_0), (11, .int .i64 (a0.length : Int)), (12, .int .i64 s8), (41, .bool j36)] t) ?_ ?_
            · refine gk_draw 13 [(0, true), (1, true), (2, true), (3, true), (4, true), (5, true), (6, true), (7, true), (8, true), (9, true), (10, true), (11, true), (12, true)] [(g29, .cells #[.string x21.f0, .string x21.f1] 54)] (List.forall_mem_cons.2 ⟨List.mem_cons_self, (fun p hp => by cases hp)⟩) (by kernel_rfl) (by kernel_rfl) (by kernel_rfl) ?_ (by kernel_rfl)
              refine gd_pure 3 [0, 4, 5, 10, 11, 12, 31] (K' := [(0, .slice A0_0 a0.length n0_0), (4, .int .i64 s8), (5, .pointer (some ⟨g29, 0, none⟩)), (10, .slice A0_0 a0.length n0_0), (11, .int .i64 (a0.length : Int)), (12, .int .i64 s8), (31, .bool (decide (s8 > 0)))]) (s' := [(3, true), (4, true), (5, true), (6, true), (7, true), (8, true), (9, true), (10, true), (11, true), (12, true)]) (CC.refl (List.forall_mem_cons.2 ⟨List.mem_cons_self, (fun p hp => by cases hp)⟩)) (by kernel_rfl) ?_
              refine gd_case 31 (b := (decide (s8 > 0))) (by kernel_rfl) (fun hc41 => ?_) (fun hc41 => ?_)
              · have hj37 := cond_t hc41 hj37
                refine gd_pure 1 [0, 4, 10, 11, 12, 31, 32] (K' := [(0, .slice A0_0 a0.length n0_0), (4, .int .i64 s8), (10, .slice A0_0 a0.length n0_0), (11, .int .i64 (a0.length : Int)), (12, .int .i64 s8), (31, .bool true), (32, .pointer (some ⟨g29, 0, none⟩))]) (s' := [(4, true), (5, true), (6, true), (7, true), (8, true), (9, true), (10, true), (11, true), (12, true)]) (CC.refl (List.forall_mem_cons.2 ⟨List.mem_cons_self, (fun p hp => by cases hp)⟩)) (by kernel_rfl) ?_
                refine gd_q (v := .string x21.f0) (by kernel_rfl) (by kernel_rfl) (CC.refl (List.forall_mem_cons.2 ⟨List.mem_cons_self, (fun p hp => by cases hp)⟩)) (fun I' L' T hC kk => gl_loadB (T' := 9) (xp := (.tmp 32)) (v := .string x21.f0) (g := g29) (off := 0) (cs := #[.string x21.f0, .string x21.f1]) (e := 54) (fz := (0, 0)) (by kernel_rfl) (by kernel_rfl) (by kernel_rfl) (hC.sub _ List.mem_cons_self) (by kernel_rfl) kk) ?_
                refine gd_pure 3 [0, 4, 10, 11, 12, 31, 33, 34, 36] (K' := [(0, .slice A0_0 a0.length n0_0), (4, .int .i64 s8), (10, .slice A0_0 a0.length n0_0), (11, .int .i64 (a0.length : Int)), (12, .int .i64 s8), (31, .bool true), (33, .string x21.f0), (34, .slice A0_0 a0.length n0_0), (36, .int .i64 (IntKind.wrap .i64 (s8 - 1)))]) (s' := [(8, true), (9, true), (10, true), (11, true), (12, true)]) (CC.refl (List.forall_mem_cons.2 ⟨List.mem_cons_self, (fun p hp => by cases hp)⟩)) (by kernel_rfl) ?_
                obtain ⟨x42, hx43, hj37⟩ := bind_some hj37
                obtain ⟨p44, cs45, hR46, hA47, ha48⟩ := RepS.ixAt hx43 (hf0_0.mono hI11)
                have hi49 := ix_some hx43
                obtain rfl := kS53_open hR46
                refine gd_q (v := .pointer (some p44)) (by kernel_rfl) (by kernel_rfl) (CC.refl (List.forall_mem_cons.2 ⟨List.mem_cons_self, (fun p hp => by cases hp)⟩)) (fun I' L' T hC kk => gl_indexAddrF (c := n0_0) (T' := 25) (e := 54) (xs := (.tmp 34)) (xi := (.tmp 36)) (kd := .i64) ha48 hi49.1 hi49.2.1 (by kernel_rfl) (by kernel_rfl) (by kernel_rfl) (by kernel_rfl) (by kernel_rfl) kk) ?_
                refine gd_pure 1 [0, 4, 10, 11, 12, 31, 33, 38] (K' := [(0, .slice A0_0 a0.length n0_0), (4, .int .i64 s8), (10, .slice A0_0 a0.length n0_0), (11, .int .i64 (a0.length : Int)), (12, .int .i64 s8), (31, .bool true), (33, .string x21.f0), (38, .pointer (some (p44.add 0)))]) (s' := [(10, true), (11, true), (12, true)]) (CC.refl (List.forall_mem_cons.2 ⟨List.mem_cons_self, (fun p hp => by cases hp)⟩)) (by kernel_rfl) ?_
                refine gd_q (v := .string x42.f0) (by kernel_rfl) (by kernel_rfl) (CC.refl (List.forall_mem_cons.2 ⟨List.mem_cons_self, (fun p hp => by cases hp)⟩)) (fun I' L' T hC kk => gl_load (T' := 9) (xp := (.tmp 38)) (p := (p44.add 0)) (c := .string x42.f0) (n := 1) (by kernel_rfl) (by kernel_rfl) (by kernel_rfl) (by kernel_rfl) ((hA47.drop 0).mono hC.le) kk) ?_
                refine gd_pure 2 [0, 4, 10, 11, 12, 41] (K' := [(0, .slice A0_0 a0.length n0_0), (4, .int .i64 s8), (10, .slice A0_0 a0.length n0_0), (11, .int .i64 (a0.length : Int)), (12, .int .i64 s8), (41, .bool ((Op.bytesLess x21.f0.toList x42.f0.toList) || (x21.f0.toList == x42.f0.toList)))]) (s' := []) (CC.refl (List.forall_mem_cons.2 ⟨List.mem_cons_self, (fun p hp => by cases hp)⟩)) (by kernel_rfl) ?_
                refine gd_done ?_
                refine gl_reord (D := L) (Reord.skip (Reord.refl _)) ?_
                refine gl_atE (by kernel_rfl) ?_
                obtain rfl := some_inj hj37
                exact ge_mid fun t ht => ⟨(Imm.refl _), rfl, ht.pick (l := [0, 4, 10, 11, 12, 41]) (by kernel_rfl)⟩
              · have hj37 := cond_f hc41 hj37
                refine gd_pure 10 [0, 4, 10, 11, 12, 41] (K' := [(0, .slice A0_0 a0.length n0_0), (4, .int .i64 s8), (10, .slice A0_0 a0.length n0_0), (11, .int .i64 (a0.length : Int)), (12, .int .i64 s8), (41, .bool false)]) (s' := []) (CC.refl (List.forall_mem_cons.2 ⟨List.mem_cons_self, (fun p hp => by cases hp)⟩)) (by kernel_rfl) ?_
                refine gd_done ?_
                refine gl_reord (D := L) (Reord.skip (Reord.refl _)) ?_
                refine gl_atE (by kernel_rfl) ?_
                obtain rfl := some_inj hj37
                exact ge_mid fun t ht => ⟨(Imm.refl _), rfl, ht.pick (l := [0, 4, 10, 11, 12, 41]) (by kernel_rfl)⟩
            · rintro t I40 L' ⟨hI38, rfl, hK39⟩
              refine ge_at hK39 ?_
              refine ge_seq ?_
              refine gk_cond (b := j36) (by kernel_rfl) (by kernel_rfl) (fun hc50 => ?_) (fun hc50 => ?_)
              · have hb10 := cond_t hc50 hb10
                refine gk_seq (by kernel_rfl) ?_
                refine gk_region (by kernel_rfl) ?_
                refine gl_pure 3 [2, 3] (K' := [(2, .int .i64 3), (3, .int .i64 s8)]) (by kernel_rfl) ?_
                refine gl_atE (by kernel_rfl) ?_
                refine ge_seq ?_
                refine gk_ret (by kernel_rfl) ?_
                refine ge_block_ret ?_
                refine ge_seq_ret ?_
                obtain rfl := some_inj hb10
                refine ge_round_out (fun hrr => ?_) (by intro h; cases h)
                obtain rfl := hrr
                refine ge_block_ret ?_
                refine ge_seq_ret ?_
                refine ge_seq_ret ?_
                obtain rfl := some_inj hr
                exact ge_result trivial (ResOk.tmp (by kernel_rfl) (ResOk.tmp (by kernel_rfl) ResOk.nil)) (Imm.trans hI11 hI38) ⟨rfl, rfl⟩
              · have hb10 := cond_f hc50 hb10
                refine gk_skip (by kernel_rfl) ?_
                refine ge_block_normal ?_
                refine ge_seq ?_
                refine gk_region (by kernel_rfl) ?_
                refine gl_pure 2 [0, 10, 11, 12] (K' := [(0, .slice A0_0 a0.length n0_0), (10, .slice A0_0 a0.length n0_0), (11, .int .i64 (a0.length : Int)), (12, .int .i64 (IntKind.wrap .i64 (s8 + 1)))]) (by kernel_rfl) ?_
                refine gl_atE (by kernel_rfl) ?_
                obtain rfl := some_inj hb10
                exact ge_round fun t ht => ⟨(Imm.trans hI11 hI38), rfl, ht.pick (l := [0, 10, 11, 12]) (by kernel_rfl)⟩
      · have hb10 := cond_f hc20 hb10
        refine gk_exit (by kernel_rfl) ?_
        refine ge_seq_exit ?_
        obtain rfl := some_inj hb10
        refine ge_round_out (fun hrr => ?_) (by intro h; cases h)
        obtain rfl := hrr
        refine ge_block_hit (by kernel_rfl) ?_
        exact ge_mid fun t ht => ⟨_, rfl, hI11, rfl, ht.pick (l := []) (by kernel_rfl)⟩
    · rintro t I17 L' ⟨r14, rfl, hI15, rfl, hK16⟩
      refine ge_at hK16 ?_
      refine ge_seq ?_
      refine gk_seq (by kernel_rfl) ?_
      refine gk_region (by kernel_rfl) ?_
      refine gl_pure 2 [2, 3] (K' := [(2, .int .i64 0), (3, .int .i64 0)]) (by kernel_rfl) ?_
      refine gl_atE (by kernel_rfl) ?_
      refine ge_seq ?_
      refine gk_ret (by kernel_rfl) ?_
      obtain rfl := some_inj hr
      exact ge_result trivial (ResOk.tmp (by kernel_rfl) (ResOk.tmp (by kernel_rfl) ResOk.nil)) hI15 ⟨rfl, rfl⟩
structure Fn103 (I : Imm) (fv : Value) (f : S53 → S53 → Option Int) : Prop where
  out : ∀ I', I ≤ I' → ∀ (x0 : S53) (x1 : S53) (r : Int), f x0 x1 = some r → ∀ L, CallsV Tryd.prog fv [.agg #[.string x0.f0, .string x0.f1], .agg #[.string x1.f0, .string x1.f1]] I' L (fun v I' L' => v = .int .i64 r ∧ L = L')
theorem Fn103.mono {I J : Imm} {fv : Value} {f : S53 → S53 → Option Int} (h : Fn103 I fv f) (hI : I ≤ J) : Fn103 J fv f := ⟨fun I' hI' => h.out I' (Imm.trans hI hI')⟩
end Go.Proofs.YtjkkmbjkndageaaDoor
