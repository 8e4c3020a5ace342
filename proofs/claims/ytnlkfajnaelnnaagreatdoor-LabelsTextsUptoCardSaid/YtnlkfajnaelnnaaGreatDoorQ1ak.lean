/- Parts: Q1a. -/
import Derived.Test.YtnlkfajnaelnnaaGreatDoorProg
import Derived.Test.YtnlkfajnaelnnaaGreatDoorChecked
import Derived.Test.YtnlkfajnaelnnaaGreatDoorGB30k
import Derived.Test.YtnlkfajnaelnnaaGreatDoorT7k
import Derived.Lib.LaidU8T
import Derived.Shelf.Unicode.ValidAny
import Derived.Shelf.Strings.OnBuilder
import Derived.Shelf.Strings.Count
set_option linter.unusedVariables false
set_option linter.unusedSimpArgs false
set_option maxRecDepth 100000
namespace Go.Proofs.YtnlkfajnaelnnaaGreatDoor
open Go.GB
structure S145 where
 f0 : Int
 f1 : Int
def kS145 : Kd S145 := Kd.iso (Kd.pair (Kd.int .u8) (Kd.int .u8)) (fun x => (x.f0, x.f1))
theorem kS145_open {I : Imm} {x : S145} {cs : List Value} (h : kS145.R I x cs) : cs = [.int .u8 x.f0, .int .u8 x.f1] := by
 obtain ⟨_, _, rfl, h_0, h_1⟩ := h
 obtain rfl := h_0
 obtain rfl := h_1
 exact rfl
theorem kS145_mk {I : Imm} {x : S145}   : kS145.R I x [.int .u8 x.f0, .int .u8 x.f1] :=
 ⟨[.int .u8 x.f0], [.int .u8 x.f1], rfl, rfl, rfl⟩
def tab0 : List Int := (List.range 256).map fun c => (Go.Lib.firstT c : Int)
def tab1 : List S145 := (List.range 16).map fun i => ⟨(Go.Lib.accLo i : Int), (Go.Lib.accHi i : Int)⟩
structure Gl (I : Imm) : Prop where
 dr : I.dr = 0
 g0 : RepS (Kd.int .u8) I (some ⟨0, 0, none⟩) 256 tab0
 g1 : RepS kS145 I (some ⟨1, 0, none⟩) 16 tab1
theorem Gl.mono {I J : Imm} (h : Gl I) (hI : I ≤ J) : Gl J := ⟨hI.dr.trans h.dr, h.g0.mono hI, h.g1.mono hI⟩
structure S49 where
 f0 : ByteArray
 f1 : ByteArray
def kS49 : Kd S49 := Kd.iso (Kd.pair Kd.str Kd.str) (fun x => (x.f0, x.f1))
def wS49 (x : S49) (n : Nat) : Prop := ∃ n0 n1, n0 + n1 + 1 ≤ n ∧ wStr x.f0 n0 ∧ wStr x.f1 n1
theorem kS49_open {I : Imm} {x : S49} {cs : List Value} (h : kS49.R I x cs) : cs = [.string x.f0, .string x.f1] := by
 obtain ⟨_, _, rfl, h_0, h_1⟩ := h
 obtain rfl := h_0
 obtain rfl := h_1
 exact rfl
theorem kS49_mk {I : Imm} {x : S49}   : kS49.R I x [.string x.f0, .string x.f1] :=
 ⟨[.string x.f0], [.string x.f1], rfl, rfl, rfl⟩
/-! 14 tocsinlaw04_Lent  -/
noncomputable def tocsinlaw04_Lent (a0 : List S49) : Option (List S49 × List S49) :=
 Option.bind (app ([] : List S49) a0) fun (zs1 : List S49) =>
 Option.bind (app zs1 [(⟨(⟨#[98, 101, 104, 105, 110, 100]⟩ : ByteArray), (⟨#[119, 104, 97, 116, 32, 119, 97, 115, 32, 104, 97, 110, 100, 101, 100, 32, 105, 110]⟩ : ByteArray)⟩ : S49)]) fun (zs11 : List S49) =>
 Option.bind (lx zs11 0 (a0.length : Int)) fun (l18 : List S49) =>
 some (l18, zs11)
theorem tocsinlaw04_Lent_walk {a0 : List S49} {A0_0 : Option Addr} {n0_0 : Nat} {I : Imm} {r : (List S49 × List S49)}  (hf0_0 : RepS kS49 I A0_0 n0_0 a0) (hr : tocsinlaw04_Lent a0 = some r) (L : Own) :
  CallsTo Tryz.prog 14 #[.slice A0_0 a0.length n0_0] I L (fun v I' L' => ∃ A0 c0 C0, OwnS kS49 50 I' A0 c0 r.2 C0 ∧ r.1 = r.2.take r.1.length ∧ v = .slice A0 r.1.length c0 ∧ C0 ++ L = L') := by
 unfold tocsinlaw04_Lent at hr
 refine callsTo_body (N := 15) Tryz.func14 (by kernel_rfl) (by kernel_rfl) (by kernel_rfl) ?_
 refine qq [0] [(0, .slice A0_0 a0.length n0_0)] (qk (qR (qp 1 [0] [(0, .slice A0_0 a0.length n0_0)] (qE (qs (qk (qR (qp 1 [0, 3] [(0, .slice A0_0 a0.length n0_0), (3, .slice none 0 0)] (qE (qs (qk ?_)))))))))))
 refine qR (qp 2 [0, 4, 5] [(0, .slice A0_0 a0.length n0_0), (4, .slice none 0 0), (5, .slice A0_0 a0.length n0_0)] ?_)
 obtain ⟨zs1, hz2, hr⟩ := bind_some hr
 refine gl_append (xv := .slice A0_0 a0.length n0_0) (d := kS49) (t := 22) (tx := 22) (e := 50) (s := (.tmp 4)) (x := (.tmp 5)) (xs := []) (A := none) (c := 0) (C := []) (fun X => X ++ L) hz2 (by kernel_rfl) (by kernel_rfl) (by kernel_rfl) (by kernel_rfl) (by kernel_rfl) (by kernel_rfl) (fun X => Upd.new X _) (OwnS.nil _ _ _ none) (SrcOk.slice (c := n0_0) (e := 50) (n := 2) (RepS.rd hf0_0 _) (by kernel_rfl)) (fun A3 n4 C5 hO6 => ?_)
 refine qp 1 [0, 3] [(0, .slice A0_0 a0.length n0_0), (3, .slice A3 zs1.length n4)] (qE (qs (qk (qR (qp 2 [0, 7, 8] [(0, .slice A0_0 a0.length n0_0), (7, .slice A3 zs1.length n4), (8, .agg #[.string (⟨#[98, 101, 104, 105, 110, 100]⟩ : ByteArray), .string (⟨#[119, 104, 97, 116, 32, 119, 97, 115, 32, 104, 97, 110, 100, 101, 100, 32, 105, 110]⟩ : ByteArray)])] ?_)))))
 refine gl_buildSlice (T' := 22) (e := 50) (n := 2) (len := 1) (parts := #[(0, (.tmp 8))]) (l := [(0, .agg #[.string (⟨#[98, 101, 104, 105, 110, 100]⟩ : ByteArray), .string (⟨#[119, 104, 97, 116, 32, 119, 97, 115, 32, 104, 97, 110, 100, 101, 100, 32, 105, 110]⟩ : ByteArray)])]) (cs := #[.string (⟨#[98, 101, 104, 105, 110, 100]⟩ : ByteArray), .string (⟨#[119, 104, 97, 116, 32, 119, 97, 115, 32, 104, 97, 110, 100, 101, 100, 32, 105, 110]⟩ : ByteArray)]) (by kernel_rfl) (by kernel_rfl) (by kernel_rfl) (by kernel_rfl) (by kernel_rfl) (fun g7 => ?_)
 have hO8 : OwnS kS49 50 I (some ⟨g7, 0, none⟩) 1 [(⟨(⟨#[98, 101, 104, 105, 110, 100]⟩ : ByteArray), (⟨#[119, 104, 97, 116, 32, 119, 97, 115, 32, 104, 97, 110, 100, 101, 100, 32, 105, 110]⟩ : ByteArray)⟩ : S49)] [(g7, .cells #[.string (⟨#[98, 101, 104, 105, 110, 100]⟩ : ByteArray), .string (⟨#[119, 104, 97, 116, 32, 119, 97, 115, 32, 104, 97, 110, 100, 101, 100, 32, 105, 110]⟩ : ByteArray)] 50)] := OwnS.lit (row_cons (l := [.string (⟨#[98, 101, 104, 105, 110, 100]⟩ : ByteArray), .string (⟨#[119, 104, 97, 116, 32, 119, 97, 115, 32, 104, 97, 110, 100, 101, 100, 32, 105, 110]⟩ : ByteArray)]) (kS49_mk (x := (⟨(⟨#[98, 101, 104, 105, 110, 100]⟩ : ByteArray), (⟨#[119, 104, 97, 116, 32, 119, 97, 115, 32, 104, 97, 110, 100, 101, 100, 32, 105, 110]⟩ : ByteArray)⟩ : S49)) ) (row_nil _ _)) rfl rfl rfl
 refine gl_reord (D := [(g7, .cells #[.string (⟨#[98, 101, 104, 105, 110, 100]⟩ : ByteArray), .string (⟨#[119, 104, 97, 116, 32, 119, 97, 115, 32, 104, 97, 110, 100, 101, 100, 32, 105, 110]⟩ : ByteArray)] 50)] ++ (C5 ++ L)) (Reord.refl _) ?_
 obtain ⟨zs11, hz12, hr⟩ := bind_some hr
 refine gl_append (xv := .slice (some ⟨g7, 0, none⟩) [(⟨(⟨#[98, 101, 104, 105, 110, 100]⟩ : ByteArray), (⟨#[119, 104, 97, 116, 32, 119, 97, 115, 32, 104, 97, 110, 100, 101, 100, 32, 105, 110]⟩ : ByteArray)⟩ : S49)].length 1) (d := kS49) (t := 22) (tx := 22) (e := 50) (s := (.tmp 7)) (x := (.tmp 9)) (xs := zs1) (fun X => [(g7, .cells #[.string (⟨#[98, 101, 104, 105, 110, 100]⟩ : ByteArray), .string (⟨#[119, 104, 97, 116, 32, 119, 97, 115, 32, 104, 97, 110, 100, 101, 100, 32, 105, 110]⟩ : ByteArray)] 50)] ++ (X ++ L)) hz12 (by kernel_rfl) (by kernel_rfl) (by kernel_rfl) (by kernel_rfl) (by kernel_rfl) (by kernel_rfl) (fun X => (Upd.app _ (Upd.head _ X _))) hO6 (SrcOk.slice (c := 1) (e := 50) (n := 2) (OwnS.rd hO8 (Upd.selfC _ _)) (by kernel_rfl)) (fun A13 n14 C15 hO16 => ?_)
 refine qp 1 [0, 3] [(0, .slice A0_0 a0.length n0_0), (3, .slice A13 zs11.length n14)] (qE (qs (qk (qR (qp 3 [11, 13] [(11, .slice A13 zs11.length n14), (13, .int .i64 (a0.length : Int))] ?_)))))
 obtain ⟨l18, hx17, hr⟩ := bind_some hr
 have hlc19 := OwnS.lenc hO16
 have hd20 := lx_take hx17
 refine gl_sliceH (A := A13) (c := n14) (n := 2) (T' := 22) (e := 50) (xs := (.tmp 11)) (lo := none) (hi := (some (.tmp 13))) hx17 hlc19 (by kernel_rfl) (by kernel_rfl) (by kernel_rfl) (by kernel_rfl) (by kernel_rfl) (by kernel_rfl) ?_
 refine qp 1 [2] [(2, .slice A13 l18.length n14)] (qE (qs ?_))
 refine gk_reord (D := C15 ++ L) (Reord.step (Upd.app _ (Upd.rmC _ _)) (Reord.skipC (Reord.refl _))) ?_
 refine qt ?_
 obtain rfl := some_inj hr
 exact ge_result trivial (ResOk.tmp (by kernel_rfl) ResOk.nil) (Imm.refl _) ⟨A13, n14, C15, hO16, (hd_len hd20), rfl, rfl⟩
/-! 104 labels_digit  -/
noncomputable def labels_digit (a0 : Int) : Bool :=
 ((decide (a0 ≥ 48)) && (decide (a0 ≤ 57)))
theorem labels_digit_walk {a0 : Int} {I : Imm} {r : Bool}  (hr : labels_digit a0 = r) (L : Own) :
  CallsTo Tryz.prog 104 #[.int .u8 a0] I L (fun v I' L' => v = .bool r ∧ L = L') := by
 replace hr : some (labels_digit a0) = some r := congrArg some hr
 unfold labels_digit at hr
 refine callsTo_body (N := 9) Tryz.func104 (by kernel_rfl) (by kernel_rfl) (by kernel_rfl) ?_
 refine qq [0] [(0, .int .u8 a0)] (qk (qR (qp 1 [0] [(0, .int .u8 a0)] (qE (qs (qk ?_))))))
 obtain ⟨b3, hb4⟩ : ∃ z, z = ((decide (a0 ≥ 48)) && (decide (a0 ≤ 57))) := ⟨_, rfl⟩
 refine gk_join (fun t I' L' => I ≤ I' ∧ L = L' ∧ Knows 9 [(2, .bool b3)] t) ?_ ?_
 ·refine qR (qp 3 [0, 5] [(0, .int .u8 a0), (5, .bool (decide (a0 ≥ 48)))] ?_)
  refine gl_case 5 (b := (decide (a0 ≥ 48))) (by kernel_rfl) (fun hc6 => ?_) (fun hc6 => ?_)
  ·refine qp 4 [2] [(2, .bool (decide (a0 ≤ 57)))] (qE ?_)
   exact ge_mid fun t ht => ⟨(Imm.refl _), rfl, by rw [(show b3 = (decide (a0 ≤ 57)) from hb4.trans (by first | (rw [hc6]; done) | (rw [hc6]; rfl) | (simp [hc6]; done) | (simp only [hc6]; rfl) | (simp at *; omega)))]; exact ht.pick (l := [2]) (by kernel_rfl)⟩
  ·refine qp 4 [2] [(2, .bool false)] (qE ?_)
   exact ge_mid fun t ht => ⟨(Imm.refl _), rfl, by rw [(show b3 = false from hb4.trans (by first | (rw [hc6]; done) | (rw [hc6]; rfl) | (simp [hc6]; done) | (simp only [hc6]; rfl) | (simp at *; omega)))]; exact ht.pick (l := [2]) (by kernel_rfl)⟩
 ·rintro t I5 L' ⟨hI1, rfl, hK2⟩
  subst hb4
  refine ge_at hK2 ?_
  refine qs (qt ?_)
  obtain rfl := some_inj hr
  exact ge_result trivial (ResOk.tmp (by kernel_rfl) ResOk.nil) hI1 ⟨rfl, rfl⟩
/-! 105 labels_letter  -/
noncomputable def labels_letter (a0 : Int) : Bool :=
 ((((decide (a0 ≥ 97)) && (decide (a0 ≤ 122))) || ((decide (a0 ≥ 65)) && (decide (a0 ≤ 90)))) || (a0 == 95))
theorem labels_letter_walk {a0 : Int} {I : Imm} {r : Bool}  (hr : labels_letter a0 = r) (L : Own) :
  CallsTo Tryz.prog 105 #[.int .u8 a0] I L (fun v I' L' => v = .bool r ∧ L = L') := by
 replace hr : some (labels_letter a0) = some r := congrArg some hr
 unfold labels_letter at hr
 refine callsTo_body (N := 21) Tryz.func105 (by kernel_rfl) (by kernel_rfl) (by kernel_rfl) ?_
 refine qq [0] [(0, .int .u8 a0)] (qk (qR (qp 1 [0] [(0, .int .u8 a0)] (qE (qs (qk ?_))))))
 obtain ⟨b3, hb4⟩ : ∃ z, z = ((((decide (a0 ≥ 97)) && (decide (a0 ≤ 122))) || ((decide (a0 ≥ 65)) && (decide (a0 ≤ 90)))) || (a0 == 95)) := ⟨_, rfl⟩
 refine gk_join (fun t I' L' => I ≤ I' ∧ L = L' ∧ Knows 21 [(2, .bool b3)] t) ?_ ?_
 ·refine qR (qp 3 [0, 5] [(0, .int .u8 a0), (5, .bool (decide (a0 ≥ 97)))] ?_)
  refine gl_case 5 (b := (decide (a0 ≥ 97))) (by kernel_rfl) (fun hc6 => ?_) (fun hc6 => ?_)
  ·refine qp 4 [0, 9] [(0, .int .u8 a0), (9, .bool (decide (a0 ≤ 122)))] ?_
   refine gl_case 9 (b := (decide (a0 ≤ 122))) (by kernel_rfl) (fun hc7 => ?_) (fun hc7 => ?_)
   ·refine qp 12 [2] [(2, .bool true)] (qE ?_)
    exact ge_mid fun t ht => ⟨(Imm.refl _), rfl, by rw [(show b3 = true from hb4.trans (by first | (rw [hc6, hc7]; done) | (rw [hc6, hc7]; rfl) | (simp [hc6, hc7]; done) | (simp only [hc6, hc7]; rfl) | (simp at *; omega)))]; exact ht.pick (l := [2]) (by kernel_rfl)⟩
   ·refine qp 3 [0, 9, 12] [(0, .int .u8 a0), (9, .bool false), (12, .bool (decide (a0 ≥ 65)))] ?_
    refine gl_case 12 (b := (decide (a0 ≥ 65))) (by kernel_rfl) (fun hc8 => ?_) (fun hc8 => ?_)
    ·refine qp 5 [0, 17] [(0, .int .u8 a0), (17, .bool (decide (a0 ≤ 90)))] ?_
     refine gl_case 17 (b := (decide (a0 ≤ 90))) (by kernel_rfl) (fun hc9 => ?_) (fun hc9 => ?_)
     ·refine qp 4 [2] [(2, .bool true)] (qE ?_)
      exact ge_mid fun t ht => ⟨(Imm.refl _), rfl, by rw [(show b3 = true from hb4.trans (by first | (rw [hc6, hc7, hc8, hc9]; done) | (rw [hc6, hc7, hc8, hc9]; rfl) | (simp [hc6, hc7, hc8, hc9]; done) | (simp only [hc6, hc7, hc8, hc9]; rfl) | (simp at *; omega)))]; exact ht.pick (l := [2]) (by kernel_rfl)⟩
     ·refine qp 4 [2] [(2, .bool (a0 == 95))] (qE ?_)
      exact ge_mid fun t ht => ⟨(Imm.refl _), rfl, by rw [(show b3 = (a0 == 95) from hb4.trans (by first | (rw [hc6, hc7, hc8, hc9]; done) | (rw [hc6, hc7, hc8, hc9]; rfl) | (simp [hc6, hc7, hc8, hc9]; done) | (simp only [hc6, hc7, hc8, hc9]; rfl) | (simp at *; omega)))]; exact ht.pick (l := [2]) (by kernel_rfl)⟩
    ·refine qp 9 [2] [(2, .bool (a0 == 95))] (qE ?_)
     exact ge_mid fun t ht => ⟨(Imm.refl _), rfl, by rw [(show b3 = (a0 == 95) from hb4.trans (by first | (rw [hc6, hc7, hc8]; done) | (rw [hc6, hc7, hc8]; rfl) | (simp [hc6, hc7, hc8]; done) | (simp only [hc6, hc7, hc8]; rfl) | (simp at *; omega)))]; exact ht.pick (l := [2]) (by kernel_rfl)⟩
  ·refine qp 7 [0, 9, 12] [(0, .int .u8 a0), (9, .bool false), (12, .bool (decide (a0 ≥ 65)))] ?_
   refine gl_case 12 (b := (decide (a0 ≥ 65))) (by kernel_rfl) (fun hc10 => ?_) (fun hc10 => ?_)
   ·refine qp 5 [0, 17] [(0, .int .u8 a0), (17, .bool (decide (a0 ≤ 90)))] ?_
    refine gl_case 17 (b := (decide (a0 ≤ 90))) (by kernel_rfl) (fun hc11 => ?_) (fun hc11 => ?_)
    ·refine qp 4 [2] [(2, .bool true)] (qE ?_)
     exact ge_mid fun t ht => ⟨(Imm.refl _), rfl, by rw [(show b3 = true from hb4.trans (by first | (rw [hc6, hc10, hc11]; done) | (rw [hc6, hc10, hc11]; rfl) | (simp [hc6, hc10, hc11]; done) | (simp only [hc6, hc10, hc11]; rfl) | (simp at *; omega)))]; exact ht.pick (l := [2]) (by kernel_rfl)⟩
    ·refine qp 4 [2] [(2, .bool (a0 == 95))] (qE ?_)
     exact ge_mid fun t ht => ⟨(Imm.refl _), rfl, by rw [(show b3 = (a0 == 95) from hb4.trans (by first | (rw [hc6, hc10, hc11]; done) | (rw [hc6, hc10, hc11]; rfl) | (simp [hc6, hc10, hc11]; done) | (simp only [hc6, hc10, hc11]; rfl) | (simp at *; omega)))]; exact ht.pick (l := [2]) (by kernel_rfl)⟩
   ·refine qp 9 [2] [(2, .bool (a0 == 95))] (qE ?_)
    exact ge_mid fun t ht => ⟨(Imm.refl _), rfl, by rw [(show b3 = (a0 == 95) from hb4.trans (by first | (rw [hc6, hc10]; done) | (rw [hc6, hc10]; rfl) | (simp [hc6, hc10]; done) | (simp only [hc6, hc10]; rfl) | (simp at *; omega)))]; exact ht.pick (l := [2]) (by kernel_rfl)⟩
 ·rintro t I5 L' ⟨hI1, rfl, hK2⟩
  subst hb4
  refine ge_at hK2 ?_
  refine qs (qt ?_)
  obtain rfl := some_inj hr
  exact ge_result trivial (ResOk.tmp (by kernel_rfl) ResOk.nil) hI1 ⟨rfl, rfl⟩
/-! 58 labels_named  -/
noncomputable def labels_named_l33 (a2 : Bool) (l11 : List Int) : Int → Option ((Int) ⊕ ((Unit) ⊕ (Bool))) := fun s23 =>
 bif (decide (s23 < (l11.length : Int))) then
 (Option.bind (ix l11 s23) fun (x36 : Int) =>
  bif (((!(labels_letter x36)) && (!(labels_digit x36))) && (!(a2 && (x36 == 58)))) then
  (some (Sum.inr (Sum.inr false)))
  else
  (some (Sum.inl (IntKind.wrap .i64 (s23 + 1)))))
 else
 (some (Sum.inr (Sum.inl ())))
noncomputable def labels_named (a0 : ByteArray) (a1 : Int) (a2 : Bool) : Option Bool :=
 Option.bind (bif (a0.toList == (⟨#[]⟩ : ByteArray).toList) then
  (some true)
  else
  (bif (decide ((a0.size : Int) > a1)) then
   (some true)
   else
   (Option.bind (bx a0 0) fun (c8 : Int) =>
    some (labels_digit c8)))) fun (j1 : Bool) =>
 bif j1 then
 (some false)
 else
 (Option.bind (sb a0) fun (l11 : List Int) =>
  Option.bind (loopO (labels_named_l33 a2 l11) 0) fun (r21 : (Unit) ⊕ (Bool)) =>
  match r21 with
  | Sum.inl r29 => some true
  | Sum.inr v54 => some v54)
theorem labels_named_walk {a0 : ByteArray} {a1 : Int} {a2 : Bool} {I : Imm} {r : Bool}  (hr : labels_named a0 a1 a2 = some r) (L : Own) :
  CallsTo Tryz.prog 58 #[.string a0, .int .i64 a1, .bool a2] I L (fun v I' L' => v = .bool r ∧ L = L') := by
 unfold labels_named at hr
 refine callsTo_body (N := 46) Tryz.func58 (by kernel_rfl) (by kernel_rfl) (by kernel_rfl) ?_
 refine qq [0, 1, 2] [(0, .string a0), (1, .int .i64 a1), (2, .bool a2)] (qk (qR (qp 1 [0, 1, 2] [(0, .string a0), (1, .int .i64 a1), (2, .bool a2)] (qE (qs (qk (qk ?_)))))))
 obtain ⟨j1, hj2, hr⟩ := bind_some hr
 refine gk_join (fun t I' L' => I ≤ I' ∧ L = L' ∧ Knows 46 [(0, .string a0), (2, .bool a2), (21, .bool j1)] t) ?_ ?_
 ·refine qR (qp 3 [0, 1, 2, 11] [(0, .string a0), (1, .int .i64 a1), (2, .bool a2), (11, .bool (a0.toList == (⟨#[]⟩ : ByteArray).toList))] ?_)
  refine gl_case 11 (b := (a0.toList == (⟨#[]⟩ : ByteArray).toList)) (by kernel_rfl) (fun hc6 => ?_) (fun hc6 => ?_)
  ·have hj2 := cond_t hc6 hj2
   refine qp 10 [0, 2, 21] [(0, .string a0), (2, .bool a2), (21, .bool true)] (qE ?_)
   obtain rfl := some_inj hj2
   exact ge_mid fun t ht => ⟨(Imm.refl _), rfl, ht.pick (l := [0, 2, 21]) (by kernel_rfl)⟩
  ·have hj2 := cond_f hc6 hj2
   refine qp 6 [0, 2, 17] [(0, .string a0), (2, .bool a2), (17, .bool (decide ((a0.size : Int) > a1)))] ?_
   refine gl_case 17 (b := (decide ((a0.size : Int) > a1))) (by kernel_rfl) (fun hc7 => ?_) (fun hc7 => ?_)
   ·have hj2 := cond_t hc7 hj2
    refine qp 4 [0, 2, 21] [(0, .string a0), (2, .bool a2), (21, .bool true)] (qE ?_)
    obtain rfl := some_inj hj2
    exact ge_mid fun t ht => ⟨(Imm.refl _), rfl, ht.pick (l := [0, 2, 21]) (by kernel_rfl)⟩
   ·have hj2 := cond_f hc7 hj2
    refine qp 1 [0, 2, 17, 18] [(0, .string a0), (2, .bool a2), (17, .bool false), (18, .string a0)] ?_
    obtain ⟨c8, hx9, hj2⟩ := bind_some hj2
    refine gl_index' (T' := 9) (xs := (.tmp 18)) (xi := (.const (.int .i64 0))) (kd := .i64) hx9 (by kernel_rfl) (by kernel_rfl) (by kernel_rfl) (by kernel_rfl) (by kernel_rfl) ?_
    refine gl_callQ (by kernel_rfl) (labels_digit_walk (r := (labels_digit c8))  rfl _) ?_
    refine qp 1 [0, 2, 21] [(0, .string a0), (2, .bool a2), (21, .bool (labels_digit c8))] (qE ?_)
    obtain rfl := some_inj hj2
    exact ge_mid fun t ht => ⟨(Imm.refl _), rfl, ht.pick (l := [0, 2, 21]) (by kernel_rfl)⟩
 ·rintro t I5 L' ⟨hI3, rfl, hK4⟩
  refine ge_at hK4 ?_
  refine qs ?_
  refine gk_cond (b := j1) (by kernel_rfl) (by kernel_rfl) (fun hc10 => ?_) (fun hc10 => ?_)
  ·have hr := cond_t hc10 hr
   refine qk (qR (qp 1 [6] [(6, .bool false)] (qE (qs (qt (qu ?_))))))
   obtain rfl := some_inj hr
   exact ge_result trivial (ResOk.tmp (by kernel_rfl) ResOk.nil) hI3 ⟨rfl, rfl⟩
  ·have hr := cond_f hc10 hr
   refine qx (qs (qk (qk (qR (qp 1 [2, 22] [(2, .bool a2), (22, .string a0)] ?_)))))
   obtain ⟨l11, hx12, hr⟩ := bind_some hr
   refine gl_strBytes (src := 9) (dst := 51) (e := 5) (n := 1) (x := (.tmp 22)) hx12 (by kernel_rfl) (by kernel_rfl) (by kernel_rfl) (by kernel_rfl) (by kernel_rfl) (by kernel_rfl) (fun A13 n14 C15 hO16 => ?_)
   refine qp 2 [2, 23, 24, 25] [(2, .bool a2), (23, .slice A13 l11.length n14), (24, .int .i64 (l11.length : Int)), (25, .int .i64 0)] (qE (qs ?_))
   obtain ⟨r21, hl22, hr⟩ := bind_some hr
   refine gk_join (fun t I' L' => ∃ r29, r21 = Sum.inl r29 ∧ I5 ≤ I' ∧ L = L' ∧ Knows 46 [] t) ?_ ?_
   ·refine qb (qq [2, 23, 24, 25] [(2, .bool a2), (23, .slice A13 l11.length n14), (24, .int .i64 (l11.length : Int)), (25, .int .i64 0)] ?_)
    intro t hK
    refine gc_loop (labels_named_l33 a2 l11) (fun s23 t I' L' => I5 ≤ I' ∧ C15 ++ L = L' ∧ Knows 46 [(2, .bool a2), (23, .slice A13 l11.length n14), (24, .int .i64 (l11.length : Int)), (25, .int .i64 s23)] t) (by kernel_rfl) ?_ hl22 ⟨(Imm.refl _), rfl, hK⟩
    rintro s23 o24 t I28 L' hb25 ⟨hI26, rfl, hK27⟩
    unfold labels_named_l33 at hb25
    refine gk_at hK27 ?_
    refine qk (qR (qp 1 [2, 23, 24, 25, 26] [(2, .bool a2), (23, .slice A13 l11.length n14), (24, .int .i64 (l11.length : Int)), (25, .int .i64 s23), (26, .bool (decide (s23 < (l11.length : Int))))] (qE (qs (qk ?_)))))
    refine gk_cond (b := (decide (s23 < (l11.length : Int)))) (by kernel_rfl) (by kernel_rfl) (fun hc35 => ?_) (fun hc35 => ?_)
    ·have hb25 := cond_t hc35 hb25
     refine qx (qs (qk (qb (qk (qR ?_)))))
     obtain ⟨x36, hx37, hb25⟩ := bind_some hb25
     refine gl_indexAddrW (d := (Kd.int .u8)) (c := n14) (T' := 51) (e := 5) (xs := (.tmp 23)) (xi := (.tmp 25)) (kd := .i64) hx37 (hO16.mono hI26) (Upd.selfC _ _) (by kernel_rfl) (by kernel_rfl) (by kernel_rfl) (by kernel_rfl) (by kernel_rfl) (fun p38 cs39 hR40 hA41 hp44 => ?_)
     obtain rfl := hR40
     refine gl_loadO (T' := 5) (xp := (.tmp 27)) (p := p38) (c := .int .u8 x36) (n := 1) (by kernel_rfl) (by kernel_rfl) (by kernel_rfl) (by kernel_rfl) hA41 ?_
     refine qp 1 [2, 8, 23, 24, 25] [(2, .bool a2), (8, .int .u8 x36), (23, .slice A13 l11.length n14), (24, .int .i64 (l11.length : Int)), (25, .int .i64 s23)] (qE (qs (qk ?_)))
     obtain ⟨b47, hb48⟩ : ∃ z, z = (((!(labels_letter x36)) && (!(labels_digit x36))) && (!(a2 && (x36 == 58)))) := ⟨_, rfl⟩
     refine gk_join (fun t I' L' => I28 ≤ I' ∧ C15 ++ L = L' ∧ Knows 46 [(2, .bool a2), (23, .slice A13 l11.length n14), (24, .int .i64 (l11.length : Int)), (25, .int .i64 s23), (44, .bool b47)] t) ?_ ?_
     ·refine qR (qp 1 [2, 8, 23, 24, 25, 29] [(2, .bool a2), (8, .int .u8 x36), (23, .slice A13 l11.length n14), (24, .int .i64 (l11.length : Int)), (25, .int .i64 s23), (29, .int .u8 x36)] ?_)
      refine gl_callQ (by kernel_rfl) (labels_letter_walk (r := (labels_letter x36))  rfl _) ?_
      refine qp 2 [2, 8, 23, 24, 25, 32] [(2, .bool a2), (8, .int .u8 x36), (23, .slice A13 l11.length n14), (24, .int .i64 (l11.length : Int)), (25, .int .i64 s23), (32, .bool (!(labels_letter x36)))] ?_
      refine gl_case 32 (b := (!(labels_letter x36))) (by kernel_rfl) (fun hc50 => ?_) (fun hc50 => ?_)
      ·refine qp 1 [2, 8, 23, 24, 25, 32, 33] [(2, .bool a2), (8, .int .u8 x36), (23, .slice A13 l11.length n14), (24, .int .i64 (l11.length : Int)), (25, .int .i64 s23), (32, .bool true), (33, .int .u8 x36)] ?_
       refine gl_callQ (by kernel_rfl) (labels_digit_walk (r := (labels_digit x36))  rfl _) ?_
       refine qp 3 [2, 8, 23, 24, 25, 37] [(2, .bool a2), (8, .int .u8 x36), (23, .slice A13 l11.length n14), (24, .int .i64 (l11.length : Int)), (25, .int .i64 s23), (37, .bool (!(labels_digit x36)))] ?_
       refine gl_case 37 (b := (!(labels_digit x36))) (by kernel_rfl) (fun hc51 => ?_) (fun hc51 => ?_)
       ·refine qp 2 [2, 8, 23, 24, 25, 37, 39] [(2, .bool a2), (8, .int .u8 x36), (23, .slice A13 l11.length n14), (24, .int .i64 (l11.length : Int)), (25, .int .i64 s23), (37, .bool true), (39, .bool a2)] ?_
        refine gl_case 39 (b := a2) (by kernel_rfl) (fun hc52 => ?_) (fun hc52 => ?_)
        ·refine qp 5 [2, 23, 24, 25, 44] [(2, .bool a2), (23, .slice A13 l11.length n14), (24, .int .i64 (l11.length : Int)), (25, .int .i64 s23), (44, .bool (!(x36 == 58)))] (qE ?_)
         exact ge_mid fun t ht => ⟨(Imm.refl _), rfl, by rw [(show b47 = (!(x36 == 58)) from hb48.trans (by first | (rw [hc50, hc51, hc52]; done) | (rw [hc50, hc51, hc52]; rfl) | (simp [hc50, hc51, hc52]; done) | (simp only [hc50, hc51, hc52]; rfl) | (simp at *; omega)))]; exact ht.pick (l := [2, 23, 24, 25, 44]) (by kernel_rfl)⟩
        ·refine qp 5 [2, 23, 24, 25, 44] [(2, .bool a2), (23, .slice A13 l11.length n14), (24, .int .i64 (l11.length : Int)), (25, .int .i64 s23), (44, .bool true)] (qE ?_)
         exact ge_mid fun t ht => ⟨(Imm.refl _), rfl, by rw [(show b47 = true from hb48.trans (by first | (rw [hc50, hc51, hc52]; done) | (rw [hc50, hc51, hc52]; rfl) | (simp [hc50, hc51, hc52]; done) | (simp only [hc50, hc51, hc52]; rfl) | (simp at *; omega)))]; exact ht.pick (l := [2, 23, 24, 25, 44]) (by kernel_rfl)⟩
       ·refine qp 7 [2, 23, 24, 25, 44] [(2, .bool a2), (23, .slice A13 l11.length n14), (24, .int .i64 (l11.length : Int)), (25, .int .i64 s23), (44, .bool false)] (qE ?_)
        exact ge_mid fun t ht => ⟨(Imm.refl _), rfl, by rw [(show b47 = false from hb48.trans (by first | (rw [hc50, hc51]; done) | (rw [hc50, hc51]; rfl) | (simp [hc50, hc51]; done) | (simp only [hc50, hc51]; rfl) | (simp at *; omega)))]; exact ht.pick (l := [2, 23, 24, 25, 44]) (by kernel_rfl)⟩
      ·refine qp 12 [2, 23, 24, 25, 44] [(2, .bool a2), (23, .slice A13 l11.length n14), (24, .int .i64 (l11.length : Int)), (25, .int .i64 s23), (44, .bool false)] (qE ?_)
       exact ge_mid fun t ht => ⟨(Imm.refl _), rfl, by rw [(show b47 = false from hb48.trans (by first | (rw [hc50]; done) | (rw [hc50]; rfl) | (simp [hc50]; done) | (simp only [hc50]; rfl) | (simp at *; omega)))]; exact ht.pick (l := [2, 23, 24, 25, 44]) (by kernel_rfl)⟩
     ·rintro t I49 L' ⟨hI45, rfl, hK46⟩
      subst hb48
      refine ge_at hK46 ?_
      refine qs ?_
      refine gk_cond (b := (((!(labels_letter x36)) && (!(labels_digit x36))) && (!(a2 && (x36 == 58))))) (by kernel_rfl) (by kernel_rfl) (fun hc53 => ?_) (fun hc53 => ?_)
      ·have hb25 := cond_t hc53 hb25
       refine qk (qR (qp 1 [6] [(6, .bool false)] (qE (qs ?_))))
       refine gk_reord (D := L) (Reord.skipC (Reord.refl _)) ?_
       refine qt (qv (qu ?_))
       obtain rfl := some_inj hb25
       refine ge_round_out (fun hrr => ?_) (by intro h; cases h)
       obtain rfl := hrr
       refine qv (qu (qu ?_))
       obtain rfl := some_inj hr
       exact ge_result trivial (ResOk.tmp (by kernel_rfl) ResOk.nil) (Imm.trans (Imm.trans hI3 hI26) hI45) ⟨rfl, rfl⟩
      ·have hb25 := cond_f hc53 hb25
       refine qx (qn (qs (qR (qp 2 [2, 23, 24, 25] [(2, .bool a2), (23, .slice A13 l11.length n14), (24, .int .i64 (l11.length : Int)), (25, .int .i64 (IntKind.wrap .i64 (s23 + 1)))] (qE ?_)))))
       obtain rfl := some_inj hb25
       exact ge_round fun t ht => ⟨(Imm.trans hI26 hI45), rfl, ht.pick (l := [2, 23, 24, 25]) (by kernel_rfl)⟩
    ·have hb25 := cond_f hc35 hb25
     refine gk_reord (D := L) (Reord.skipC (Reord.refl _)) ?_
     refine qe (qf ?_)
     obtain rfl := some_inj hb25
     refine ge_round_out (fun hrr => ?_) (by intro h; cases h)
     obtain rfl := hrr
     refine qh ?_
     exact ge_mid fun t ht => ⟨_, rfl, hI26, rfl, ht.pick (l := []) (by kernel_rfl)⟩
   ·rintro t I32 L' ⟨r29, rfl, hI30, rfl, hK31⟩
    refine ge_at hK31 ?_
    refine qs (qk (qR (qp 1 [6] [(6, .bool true)] (qE (qs (qt ?_))))))
    obtain rfl := some_inj hr
    exact ge_result trivial (ResOk.tmp (by kernel_rfl) ResOk.nil) (Imm.trans hI3 hI30) ⟨rfl, rfl⟩
/-! 17 labels_Name  -/
noncomputable def labels_Name (a0 : ByteArray) : Option Bool :=
 Option.bind (labels_named a0 64 false) fun (y1 : Bool) =>
 some y1
theorem labels_Name_walk {a0 : ByteArray} {I : Imm} {r : Bool}  (hr : labels_Name a0 = some r) (L : Own) :
  CallsTo Tryz.prog 17 #[.string a0] I L (fun v I' L' => v = .bool r ∧ L = L') := by
 unfold labels_Name at hr
 refine callsTo_body (N := 5) Tryz.func17 (by kernel_rfl) (by kernel_rfl) (by kernel_rfl) ?_
 refine qq [0] [(0, .string a0)] (qk (qR (qp 1 [0] [(0, .string a0)] (qE (qs (qk (qR (qp 1 [3] [(3, .string a0)] ?_))))))))
 obtain ⟨y1, hx2, hr⟩ := bind_some hr
 refine gl_callQ (by kernel_rfl) (labels_named_walk (r := y1)  hx2 _) ?_
 refine qp 1 [2] [(2, .bool y1)] (qE (qs (qt ?_)))
 obtain rfl := some_inj hr
 exact ge_result trivial (ResOk.tmp (by kernel_rfl) ResOk.nil) (Imm.refl _) ⟨rfl, rfl⟩
theorem gl_tabs {I : Imm} {L : Own} {W : World} (hG : Gl I) (hW : Holds I L W) : Go.Lib.Utf8Tabs 0 1 W := by
 refine ⟨fun c hc => ?_, fun i hi => ?_⟩
 ·obtain ⟨a, cs, ha, hR, hr⟩ := hG.g0.at_ c (Go.Lib.firstT c : Int) (by simp [tab0, List.getElem?_range hc])
  cases ha
  obtain rfl : cs = [.int .u8 (Go.Lib.firstT c : Int)] := hR
  have := hW.cell (hr 0 _ rfl)
  rw [addr_add, show c * (Kd.int .u8).n + 0 = c from by show c * 1 + 0 = c; omega] at this
  exact this
 ·obtain ⟨a, cs, ha, hR, hr⟩ := hG.g1.at_ i ⟨(Go.Lib.accLo i : Int), (Go.Lib.accHi i : Int)⟩ (by simp [tab1, List.getElem?_range hi])
  cases ha
  obtain rfl := kS145_open hR
  have h0 := hW.cell (hr 0 _ rfl)
  have h1 := hW.cell (hr 1 _ rfl)
  rw [addr_add] at h0 h1
  rw [show i * kS145.n + 0 = 2 * i from by show i * 2 + 0 = 2 * i; omega] at h0
  rw [show i * kS145.n + 1 = 2 * i + 1 from by show i * 2 + 1 = 2 * i + 1; omega] at h1
  exact ⟨h0, h1⟩

def lays196_ren : Go.Shelf.Ren := ⟨fun x => if x = 196 then 102 else if x = 259 then 128 else x, fun x => if x = 119 then 144 else if x = 46 then 136 else if x = 139 then 147 else if x = 138 then 146 else if x = 53 then 41 else x, fun x => if x = 3 then 0 else if x = 4 then 1 else x⟩
theorem lays196 : Go.Proofs.Lays.n196 Tryz.prog lays196_ren := {
 mixed := by kernel_rfl,
 f196 := Tryz.func102.trans (congrArg some (by kernel_rfl)),
 f259 := Tryz.func128.trans (congrArg some (by kernel_rfl)),
 t0 := Tryz.underlying0,
 a0 := Tryz.isAgg0,
 z0 := Tryz.sizeOf0,
 v0 := Tryz.zeroValue0,
 t3 := Tryz.underlying3,
 a3 := Tryz.isAgg3,
 z3 := Tryz.sizeOf3,
 v3 := Tryz.zeroValue3,
 t4 := Tryz.underlying4,
 a4 := Tryz.isAgg4,
 z4 := Tryz.sizeOf4,
 v4 := Tryz.zeroValue4,
 t5 := Tryz.underlying5,
 a5 := Tryz.isAgg5,
 z5 := Tryz.sizeOf5,
 v5 := Tryz.zeroValue5,
 t9 := Tryz.underlying9,
 a9 := Tryz.isAgg9,
 z9 := Tryz.sizeOf9,
 v9 := Tryz.zeroValue9,
 t12 := Tryz.underlying12,
 a12 := Tryz.isAgg12,
 z12 := Tryz.sizeOf12,
 v12 := Tryz.zeroValue12,
 t46 := Tryz.underlying136,
 a46 := Tryz.isAgg136,
 z46 := Tryz.sizeOf136,
 v46 := Tryz.zeroValue136,
 t53 := Tryz.underlying41,
 a53 := Tryz.isAgg41,
 z53 := Tryz.sizeOf41,
 v53 := Tryz.zeroValue41,
 t119 := Tryz.underlying144,
 a119 := Tryz.isAgg144,
 z119 := Tryz.sizeOf144,
 t138 := Tryz.underlying146,
 a138 := Tryz.isAgg146,
 z138 := Tryz.sizeOf146,
 v138 := Tryz.zeroValue146,
 t139 := Tryz.underlying147,
 a139 := Tryz.isAgg147,
 z139 := Tryz.sizeOf147,
 v139 := Tryz.zeroValue147,
 g3 := by kernel_rfl,
 g4 := by kernel_rfl }

def utf8_ValidString (a0 : ByteArray) : Option Bool := if a0.size ≤ 9223372036854775807 then some (Go.Lib.validD a0.data.toList) else none
theorem utf8_ValidString_walk {a0 : ByteArray} {I : Imm} {r : Bool} (hG : Gl I) (hr : utf8_ValidString a0 = some r) (L : Own) :
  CallsTo Tryz.prog 102 #[.string a0] I L (fun v I' L' => v = .bool r ∧ L = L') := by
 unfold utf8_ValidString at hr
 split at hr <;> cases hr
 rename_i hs
 exact callsTo_below hG.dr (fun W hW => Go.Proofs.Any.utf8_ValidString lays196 a0 W hs (gl_tabs hG hW))

/-! 56 labels_value  -/
noncomputable def labels_value (a0 : ByteArray) : Option Int :=
 bif (a0.toList == (⟨#[]⟩ : ByteArray).toList) then
 (some 41)
 else
 (bif (decide ((a0.size : Int) > 256)) then
  (some 4)
  else
  (Option.bind (utf8_ValidString a0) fun (y3 : Bool) =>
   bif (!y3) then
   (some 12)
   else
   (some 0)))
theorem labels_value_walk {a0 : ByteArray} {I : Imm} {r : Int} (hG : Gl I) (hr : labels_value a0 = some r) (L : Own) :
  CallsTo Tryz.prog 56 #[.string a0] I L (fun v I' L' => v = .int .i64 r ∧ L = L') := by
 unfold labels_value at hr
 refine callsTo_body (N := 14) Tryz.func56 (by kernel_rfl) (by kernel_rfl) (by kernel_rfl) ?_
 refine qq [0] [(0, .string a0)] (qk (qR (qp 1 [0] [(0, .string a0)] (qE (qs (qk (qb (qk (qR (qp 3 [0, 3] [(0, .string a0), (3, .bool (a0.toList == (⟨#[]⟩ : ByteArray).toList))] (qE ?_)))))))))))
 refine qs ?_
 refine gk_cond (b := (a0.toList == (⟨#[]⟩ : ByteArray).toList)) (by kernel_rfl) (by kernel_rfl) (fun hc1 => ?_) (fun hc1 => ?_)
 ·have hr := cond_t hc1 hr
  refine qk (qR (qp 1 [2] [(2, .int .i64 41)] (qE (qs (qt (qv (qu ?_)))))))
  obtain rfl := some_inj hr
  exact ge_result trivial (ResOk.tmp (by kernel_rfl) ResOk.nil) (Imm.refl _) ⟨rfl, rfl⟩
 ·have hr := cond_f hc1 hr
  refine qk (qR (qp 4 [0, 6] [(0, .string a0), (6, .bool (decide ((a0.size : Int) > 256)))] (qE (qs ?_))))
  refine gk_cond (b := (decide ((a0.size : Int) > 256))) (by kernel_rfl) (by kernel_rfl) (fun hc2 => ?_) (fun hc2 => ?_)
  ·have hr := cond_t hc2 hr
   refine qk (qR (qp 1 [2] [(2, .int .i64 4)] (qE (qs (qt (qv (qu ?_)))))))
   obtain rfl := some_inj hr
   exact ge_result trivial (ResOk.tmp (by kernel_rfl) ResOk.nil) (Imm.refl _) ⟨rfl, rfl⟩
  ·have hr := cond_f hc2 hr
   refine qk (qR (qp 1 [11] [(11, .string a0)] ?_))
   obtain ⟨y3, hx4, hr⟩ := bind_some hr
   refine gl_callQ (by kernel_rfl) (utf8_ValidString_walk (r := y3) hG hx4 _) ?_
   refine qp 2 [10] [(10, .bool (!y3))] (qE (qs ?_))
   refine gk_cond (b := (!y3)) (by kernel_rfl) (by kernel_rfl) (fun hc5 => ?_) (fun hc5 => ?_)
   ·have hr := cond_t hc5 hr
    refine qk (qR (qp 1 [2] [(2, .int .i64 12)] (qE (qs (qt (qv (qu ?_)))))))
    obtain rfl := some_inj hr
    exact ge_result trivial (ResOk.tmp (by kernel_rfl) ResOk.nil) (Imm.refl _) ⟨rfl, rfl⟩
   ·have hr := cond_f hc5 hr
    refine qx (qn (qs (qk (qR (qp 1 [2] [(2, .int .i64 0)] (qE (qs (qt ?_))))))))
    obtain rfl := some_inj hr
    exact ge_result trivial (ResOk.tmp (by kernel_rfl) ResOk.nil) (Imm.refl _) ⟨rfl, rfl⟩
/-! 15 labels_Right  -/
noncomputable def labels_Right_l18 (a0 : List S49) : Int → Option ((Int) ⊕ ((Unit) ⊕ (Int × Int))) := fun s8 =>
 bif (decide (s8 < (a0.length : Int))) then
 (Option.bind (ix a0 s8) fun (x21 : S49) =>
  Option.bind (labels_Name x21.f0) fun (y30 : Bool) =>
  bif (!y30) then
  (some (Sum.inr (Sum.inr (40, s8))))
  else
  (Option.bind (labels_value x21.f1) fun (y33 : Int) =>
   bif (y33 != 0) then
   (some (Sum.inr (Sum.inr (y33, s8))))
   else
   (Option.bind (bif (decide (s8 > 0)) then
     (Option.bind (ix a0 (IntKind.wrap .i64 (s8 - 1))) fun (x42 : S49) =>
      some ((Op.bytesLess x21.f0.toList x42.f0.toList) || (x21.f0.toList == x42.f0.toList)))
     else
     (some false)) fun (j36 : Bool) =>
    bif j36 then
    (some (Sum.inr (Sum.inr (3, s8))))
    else
    (some (Sum.inl (IntKind.wrap .i64 (s8 + 1)))))))
 else
 (some (Sum.inr (Sum.inl ())))
noncomputable def labels_Right (a0 : List S49) : Option (Int × Int) :=
 bif (decide ((a0.length : Int) > 16)) then
 (some (8, 0))
 else
 (Option.bind (loopO (labels_Right_l18 a0) 0) fun (r6 : (Unit) ⊕ (Int × Int)) =>
  match r6 with
  | Sum.inl r14 => some (0, 0)
  | Sum.inr v51 => some v51)
theorem labels_Right_walk {a0 : List S49} {A0_0 : Option Addr} {n0_0 : Nat} {I : Imm} {r : Int × Int} (hG : Gl I)  (hf0_0 : RepS kS49 I A0_0 n0_0 a0) (hr : labels_Right a0 = some r) (L : Own) :
  CallsTo Tryz.prog 15 #[.slice A0_0 a0.length n0_0] I L (fun v I' L' => v = .tuple #[.int .i64 r.1, .int .i64 r.2] ∧ L = L') := by
 unfold labels_Right at hr
 refine callsTo_body (N := 44) Tryz.func15 (by kernel_rfl) (by kernel_rfl) (by kernel_rfl) ?_
 refine qq [0] [(0, .slice A0_0 a0.length n0_0)] (qk (qR (qp 2 [0] [(0, .slice A0_0 a0.length n0_0)] (qE (qs (qk (qk (qR (qp 3 [0, 9] [(0, .slice A0_0 a0.length n0_0), (9, .bool (decide ((a0.length : Int) > 16)))] (qE (qs ?_)))))))))))
 refine gk_cond (b := (decide ((a0.length : Int) > 16))) (by kernel_rfl) (by kernel_rfl) (fun hc1 => ?_) (fun hc1 => ?_)
 ·have hr := cond_t hc1 hr
  refine qk (qR (qp 2 [2, 3] [(2, .int .i64 8), (3, .int .i64 0)] (qE (qs (qt (qu ?_))))))
  obtain rfl := some_inj hr
  exact ge_result trivial (ResOk.tmp (by kernel_rfl) (ResOk.tmp (by kernel_rfl) ResOk.nil)) (Imm.refl _) ⟨rfl, rfl⟩
 ·have hr := cond_f hc1 hr
  refine qx (qs (qk (qk (qR (qp 3 [0, 10, 11, 12] [(0, .slice A0_0 a0.length n0_0), (10, .slice A0_0 a0.length n0_0), (11, .int .i64 (a0.length : Int)), (12, .int .i64 0)] (qE (qs ?_)))))))
  obtain ⟨r6, hl7, hr⟩ := bind_some hr
  refine gk_join (fun t I' L' => ∃ r14, r6 = Sum.inl r14 ∧ I ≤ I' ∧ L = L' ∧ Knows 44 [] t) ?_ ?_
  ·refine qb (qq [0, 10, 11, 12] [(0, .slice A0_0 a0.length n0_0), (10, .slice A0_0 a0.length n0_0), (11, .int .i64 (a0.length : Int)), (12, .int .i64 0)] ?_)
   intro t hK
   refine gc_loop (labels_Right_l18 a0) (fun s8 t I' L' => I ≤ I' ∧ L = L' ∧ Knows 44 [(0, .slice A0_0 a0.length n0_0), (10, .slice A0_0 a0.length n0_0), (11, .int .i64 (a0.length : Int)), (12, .int .i64 s8)] t) (by kernel_rfl) ?_ hl7 ⟨(Imm.refl _), rfl, hK⟩
   rintro s8 o9 t I13 L' hb10 ⟨hI11, rfl, hK12⟩
   unfold labels_Right_l18 at hb10
   refine gk_at hK12 ?_
   refine qk (qR (qp 1 [0, 10, 11, 12, 13] [(0, .slice A0_0 a0.length n0_0), (10, .slice A0_0 a0.length n0_0), (11, .int .i64 (a0.length : Int)), (12, .int .i64 s8), (13, .bool (decide (s8 < (a0.length : Int))))] (qE (qs (qk ?_)))))
   refine gk_cond (b := (decide (s8 < (a0.length : Int)))) (by kernel_rfl) (by kernel_rfl) (fun hc20 => ?_) (fun hc20 => ?_)
   ·have hb10 := cond_t hc20 hb10
    refine qx (qs (qk (qb (qk (qR (qp 1 [0, 10, 11, 12, 14] [(0, .slice A0_0 a0.length n0_0), (10, .slice A0_0 a0.length n0_0), (11, .int .i64 (a0.length : Int)), (12, .int .i64 s8), (14, .int .i64 s8)] ?_))))))
    obtain ⟨x21, hx22, hb10⟩ := bind_some hb10
    obtain ⟨p23, cs24, hR25, hA26, ha27⟩ := RepS.ixAt hx22 (hf0_0.mono hI11)
    have hi28 := ix_some hx22
    obtain rfl := kS49_open hR25
    refine gl_indexAddrF (c := n0_0) (T' := 22) (e := 50) (xs := (.tmp 10)) (xi := (.tmp 12)) (kd := .i64) ha27 hi28.1 hi28.2.1 (by kernel_rfl) (by kernel_rfl) (by kernel_rfl) (by kernel_rfl) (by kernel_rfl) ?_
    refine gl_loadA (T' := 50) (xp := (.tmp 15)) (p := p23) (cs := [.string x21.f0, .string x21.f1]) (by kernel_rfl) (by kernel_rfl) (by kernel_rfl) (by kernel_rfl) (hA26.take 2) ?_
    refine gl_alloc (T' := 50) (cs := #[.string (⟨#[]⟩ : ByteArray), .string (⟨#[]⟩ : ByteArray)]) (by kernel_rfl) (by kernel_rfl) (by kernel_rfl) (fun g29 => ?_)
    refine qp 1 [0, 4, 5, 10, 11, 12, 16] [(0, .slice A0_0 a0.length n0_0), (4, .int .i64 s8), (5, .pointer (some ⟨g29, 0, none⟩)), (10, .slice A0_0 a0.length n0_0), (11, .int .i64 (a0.length : Int)), (12, .int .i64 s8), (16, .agg #[.string x21.f0, .string x21.f1])] ?_
    refine gl_storeB (T' := 50) (xp := (.tmp 5)) (xv := (.tmp 16)) (v := .agg #[.string x21.f0, .string x21.f1]) (g := g29) (off := 0) (cs := #[.string (⟨#[]⟩ : ByteArray), .string (⟨#[]⟩ : ByteArray)]) (cs' := #[.string x21.f0, .string x21.f1]) (by kernel_rfl) (by kernel_rfl) (by kernel_rfl) (by kernel_rfl) (by kernel_rfl) (Upd.set _ _ _ _) ?_ (by kernel_rfl)
    refine qE (qs (qk (qk (qR (qp 1 [0, 4, 5, 10, 11, 12, 17] [(0, .slice A0_0 a0.length n0_0), (4, .int .i64 s8), (5, .pointer (some ⟨g29, 0, none⟩)), (10, .slice A0_0 a0.length n0_0), (11, .int .i64 (a0.length : Int)), (12, .int .i64 s8), (17, .pointer (some ⟨g29, 0, none⟩))] ?_)))))
    refine gl_loadB (T' := 9) (xp := (.tmp 17)) (v := .string x21.f0) (g := g29) (off := 0) (cs := #[.string x21.f0, .string x21.f1]) (e := 50) (fz := (0, 0)) (by kernel_rfl) (by kernel_rfl) (by kernel_rfl) mcs (by kernel_rfl) ?_
    obtain ⟨y30, hx31, hb10⟩ := bind_some hb10
    refine gl_callQ (by kernel_rfl) (labels_Name_walk (r := y30)  hx31 _) ?_
    refine qp 1 [0, 4, 5, 10, 11, 12, 20] [(0, .slice A0_0 a0.length n0_0), (4, .int .i64 s8), (5, .pointer (some ⟨g29, 0, none⟩)), (10, .slice A0_0 a0.length n0_0), (11, .int .i64 (a0.length : Int)), (12, .int .i64 s8), (20, .bool (!y30))] (qE (qs ?_))
    refine gk_cond (b := (!y30)) (by kernel_rfl) (by kernel_rfl) (fun hc32 => ?_) (fun hc32 => ?_)
    ·have hb10 := cond_t hc32 hb10
     refine qk (qR (qp 3 [2, 3] [(2, .int .i64 40), (3, .int .i64 s8)] (qE (qs ?_))))
     refine gk_reord (D := L) (Reord.skip (Reord.refl _)) ?_
     refine qt (qu (qv (qu ?_)))
     obtain rfl := some_inj hb10
     refine ge_round_out (fun hrr => ?_) (by intro h; cases h)
     obtain rfl := hrr
     refine qv (qu (qu ?_))
     obtain rfl := some_inj hr
     exact ge_result trivial (ResOk.tmp (by kernel_rfl) (ResOk.tmp (by kernel_rfl) ResOk.nil)) hI11 ⟨rfl, rfl⟩
    ·have hb10 := cond_f hc32 hb10
     refine qx (qs (qk (qk (qR (qp 1 [0, 4, 5, 10, 11, 12, 22] [(0, .slice A0_0 a0.length n0_0), (4, .int .i64 s8), (5, .pointer (some ⟨g29, 0, none⟩)), (10, .slice A0_0 a0.length n0_0), (11, .int .i64 (a0.length : Int)), (12, .int .i64 s8), (22, .pointer (some ⟨g29, 1, none⟩))] ?_)))))
     refine gl_loadB (T' := 9) (xp := (.tmp 22)) (v := .string x21.f1) (g := g29) (off := 1) (cs := #[.string x21.f0, .string x21.f1]) (e := 50) (fz := (0, 0)) (by kernel_rfl) (by kernel_rfl) (by kernel_rfl) mcs (by kernel_rfl) ?_
     obtain ⟨y33, hx34, hb10⟩ := bind_some hb10
     refine gl_callQ (by kernel_rfl) (labels_value_walk (r := y33) (hG.mono hI11) hx34 _) ?_
     refine qp 1 [0, 4, 5, 6, 10, 11, 12] [(0, .slice A0_0 a0.length n0_0), (4, .int .i64 s8), (5, .pointer (some ⟨g29, 0, none⟩)), (6, .int .i64 y33), (10, .slice A0_0 a0.length n0_0), (11, .int .i64 (a0.length : Int)), (12, .int .i64 s8)] (qE (qs (qk (qR (qp 2 [0, 4, 5, 6, 10, 11, 12, 26] [(0, .slice A0_0 a0.length n0_0), (4, .int .i64 s8), (5, .pointer (some ⟨g29, 0, none⟩)), (6, .int .i64 y33), (10, .slice A0_0 a0.length n0_0), (11, .int .i64 (a0.length : Int)), (12, .int .i64 s8), (26, .bool (y33 != 0))] (qE (qs ?_)))))))
     refine gk_cond (b := (y33 != 0)) (by kernel_rfl) (by kernel_rfl) (fun hc35 => ?_) (fun hc35 => ?_)
     ·have hb10 := cond_t hc35 hb10
      refine qk (qR (qp 4 [2, 3] [(2, .int .i64 y33), (3, .int .i64 s8)] (qE (qs ?_))))
      refine gk_reord (D := L) (Reord.skip (Reord.refl _)) ?_
      refine qt (qu (qv (qu ?_)))
      obtain rfl := some_inj hb10
      refine ge_round_out (fun hrr => ?_) (by intro h; cases h)
      obtain rfl := hrr
      refine qv (qu (qu ?_))
      obtain rfl := some_inj hr
      exact ge_result trivial (ResOk.tmp (by kernel_rfl) (ResOk.tmp (by kernel_rfl) ResOk.nil)) hI11 ⟨rfl, rfl⟩
     ·have hb10 := cond_f hc35 hb10
      refine qx (qs (qk ?_))
      obtain ⟨j36, hj37, hb10⟩ := bind_some hb10
      refine gk_join (fun t I' L' => I13 ≤ I' ∧ L = L' ∧ Knows 44 [(0, .slice A0_0 a0.length n0_0), (4, .int .i64 s8), (10, .slice A0_0 a0.length n0_0), (11, .int .i64 (a0.length : Int)), (12, .int .i64 s8), (41, .bool j36)] t) ?_ ?_
      ·refine gk_draw 13 (rng 0 13) [(g29, .cells #[.string x21.f0, .string x21.f1] 50)] (fmc ⟨mcs, nim⟩) (by kernel_rfl) (by kernel_rfl) (by kernel_rfl) ?_ (by kernel_rfl)
       refine dp 3 [0, 4, 5, 10, 11, 12, 31] [(0, .slice A0_0 a0.length n0_0), (4, .int .i64 s8), (5, .pointer (some ⟨g29, 0, none⟩)), (10, .slice A0_0 a0.length n0_0), (11, .int .i64 (a0.length : Int)), (12, .int .i64 s8), (31, .bool (decide (s8 > 0)))] (rng 3 10) (CC.refl (fmc ⟨mcs, nim⟩)) ?_
       refine gd_case 31 (b := (decide (s8 > 0))) (by kernel_rfl) (fun hc41 => ?_) (fun hc41 => ?_)
       ·have hj37 := cond_t hc41 hj37
        refine dp 1 [0, 4, 10, 11, 12, 31, 32] [(0, .slice A0_0 a0.length n0_0), (4, .int .i64 s8), (10, .slice A0_0 a0.length n0_0), (11, .int .i64 (a0.length : Int)), (12, .int .i64 s8), (31, .bool true), (32, .pointer (some ⟨g29, 0, none⟩))] (rng 4 9) (CC.refl (fmc ⟨mcs, nim⟩)) ?_
        refine gd_q (v := .string x21.f0) (by kernel_rfl) (by kernel_rfl) (CC.refl (fmc ⟨mcs, nim⟩)) (fun I' L' T hC kk => gl_loadB (T' := 9) (xp := (.tmp 32)) (v := .string x21.f0) (g := g29) (off := 0) (cs := #[.string x21.f0, .string x21.f1]) (e := 50) (fz := (0, 0)) (by kernel_rfl) (by kernel_rfl) (by kernel_rfl) (hC.sub _ mcs) (by kernel_rfl) kk) ?_
        refine dp 3 [0, 4, 10, 11, 12, 31, 33, 34, 36] [(0, .slice A0_0 a0.length n0_0), (4, .int .i64 s8), (10, .slice A0_0 a0.length n0_0), (11, .int .i64 (a0.length : Int)), (12, .int .i64 s8), (31, .bool true), (33, .string x21.f0), (34, .slice A0_0 a0.length n0_0), (36, .int .i64 (IntKind.wrap .i64 (s8 - 1)))] (rng 8 5) (CC.refl (fmc ⟨mcs, nim⟩)) ?_
        obtain ⟨x42, hx43, hj37⟩ := bind_some hj37
        obtain ⟨p44, cs45, hR46, hA47, ha48⟩ := RepS.ixAt hx43 (hf0_0.mono hI11)
        have hi49 := ix_some hx43
        obtain rfl := kS49_open hR46
        refine gd_q (v := .pointer (some p44)) (by kernel_rfl) (by kernel_rfl) (CC.refl (fmc ⟨mcs, nim⟩)) (fun I' L' T hC kk => gl_indexAddrF (c := n0_0) (T' := 22) (e := 50) (xs := (.tmp 34)) (xi := (.tmp 36)) (kd := .i64) ha48 hi49.1 hi49.2.1 (by kernel_rfl) (by kernel_rfl) (by kernel_rfl) (by kernel_rfl) (by kernel_rfl) kk) ?_
        refine dp 1 [0, 4, 10, 11, 12, 31, 33, 38] [(0, .slice A0_0 a0.length n0_0), (4, .int .i64 s8), (10, .slice A0_0 a0.length n0_0), (11, .int .i64 (a0.length : Int)), (12, .int .i64 s8), (31, .bool true), (33, .string x21.f0), (38, .pointer (some (p44.add 0)))] [(10, true), (11, true), (12, true)] (CC.refl (fmc ⟨mcs, nim⟩)) ?_
        refine gd_q (v := .string x42.f0) (by kernel_rfl) (by kernel_rfl) (CC.refl (fmc ⟨mcs, nim⟩)) (fun I' L' T hC kk => gl_load (T' := 9) (xp := (.tmp 38)) (p := (p44.add 0)) (c := .string x42.f0) (n := 1) (by kernel_rfl) (by kernel_rfl) (by kernel_rfl) (by kernel_rfl) ((hA47.drop 0).mono hC.le) kk) ?_
        refine dp 2 [0, 4, 10, 11, 12, 41] [(0, .slice A0_0 a0.length n0_0), (4, .int .i64 s8), (10, .slice A0_0 a0.length n0_0), (11, .int .i64 (a0.length : Int)), (12, .int .i64 s8), (41, .bool ((Op.bytesLess x21.f0.toList x42.f0.toList) || (x21.f0.toList == x42.f0.toList)))] [] (CC.refl (fmc ⟨mcs, nim⟩)) ?_
        refine gd_done ?_
        refine gl_reord (D := L) (Reord.skip (Reord.refl _)) ?_
        refine qE ?_
        obtain rfl := some_inj hj37
        exact ge_mid fun t ht => ⟨(Imm.refl _), rfl, ht.pick (l := [0, 4, 10, 11, 12, 41]) (by kernel_rfl)⟩
       ·have hj37 := cond_f hc41 hj37
        refine dp 10 [0, 4, 10, 11, 12, 41] [(0, .slice A0_0 a0.length n0_0), (4, .int .i64 s8), (10, .slice A0_0 a0.length n0_0), (11, .int .i64 (a0.length : Int)), (12, .int .i64 s8), (41, .bool false)] [] (CC.refl (fmc ⟨mcs, nim⟩)) ?_
        refine gd_done ?_
        refine gl_reord (D := L) (Reord.skip (Reord.refl _)) ?_
        refine qE ?_
        obtain rfl := some_inj hj37
        exact ge_mid fun t ht => ⟨(Imm.refl _), rfl, ht.pick (l := [0, 4, 10, 11, 12, 41]) (by kernel_rfl)⟩
      ·rintro t I40 L' ⟨hI38, rfl, hK39⟩
       refine ge_at hK39 ?_
       refine qs ?_
       refine gk_cond (b := j36) (by kernel_rfl) (by kernel_rfl) (fun hc50 => ?_) (fun hc50 => ?_)
       ·have hb10 := cond_t hc50 hb10
        refine qk (qR (qp 3 [2, 3] [(2, .int .i64 3), (3, .int .i64 s8)] (qE (qs (qt (qv (qu ?_)))))))
        obtain rfl := some_inj hb10
        refine ge_round_out (fun hrr => ?_) (by intro h; cases h)
        obtain rfl := hrr
        refine qv (qu (qu ?_))
        obtain rfl := some_inj hr
        exact ge_result trivial (ResOk.tmp (by kernel_rfl) (ResOk.tmp (by kernel_rfl) ResOk.nil)) (Imm.trans hI11 hI38) ⟨rfl, rfl⟩
       ·have hb10 := cond_f hc50 hb10
        refine qx (qn (qs (qR (qp 2 [0, 10, 11, 12] [(0, .slice A0_0 a0.length n0_0), (10, .slice A0_0 a0.length n0_0), (11, .int .i64 (a0.length : Int)), (12, .int .i64 (IntKind.wrap .i64 (s8 + 1)))] (qE ?_)))))
        obtain rfl := some_inj hb10
        exact ge_round fun t ht => ⟨(Imm.trans hI11 hI38), rfl, ht.pick (l := [0, 10, 11, 12]) (by kernel_rfl)⟩
   ·have hb10 := cond_f hc20 hb10
    refine qe (qf ?_)
    obtain rfl := some_inj hb10
    refine ge_round_out (fun hrr => ?_) (by intro h; cases h)
    obtain rfl := hrr
    refine qh ?_
    exact ge_mid fun t ht => ⟨_, rfl, hI11, rfl, ht.pick (l := []) (by kernel_rfl)⟩
  ·rintro t I17 L' ⟨r14, rfl, hI15, rfl, hK16⟩
   refine ge_at hK16 ?_
   refine qs (qk (qR (qp 2 [2, 3] [(2, .int .i64 0), (3, .int .i64 0)] (qE (qs (qt ?_))))))
   obtain rfl := some_inj hr
   exact ge_result trivial (ResOk.tmp (by kernel_rfl) (ResOk.tmp (by kernel_rfl) ResOk.nil)) hI15 ⟨rfl, rfl⟩
/-! 61 labels_right  -/
noncomputable def labels_right (a0 : List S49) : Option Int :=
 Option.bind (labels_Right a0) fun (y1 : Int × Int) =>
 some y1.1
theorem labels_right_walk {a0 : List S49} {A0_0 : Option Addr} {n0_0 : Nat} {I : Imm} {r : Int} (hG : Gl I)  (hf0_0 : RepS kS49 I A0_0 n0_0 a0) (hr : labels_right a0 = some r) (L : Own) :
  CallsTo Tryz.prog 61 #[.slice A0_0 a0.length n0_0] I L (fun v I' L' => v = .int .i64 r ∧ L = L') := by
 unfold labels_right at hr
 refine callsTo_body (N := 11) Tryz.func61 (by kernel_rfl) (by kernel_rfl) (by kernel_rfl) ?_
 refine qq [0] [(0, .slice A0_0 a0.length n0_0)] (qk (qR (qp 1 [0] [(0, .slice A0_0 a0.length n0_0)] (qE (qs (qk (qR (qp 1 [6] [(6, .slice A0_0 a0.length n0_0)] ?_))))))))
 obtain ⟨y1, hx2, hr⟩ := bind_some hr
 refine gl_callQ (by kernel_rfl) (labels_Right_walk (r := y1) hG hf0_0 hx2 _) ?_
 refine qp 5 [3] [(3, .int .i64 y1.1)] (qE (qs (qk (qR (qp 2 [2] [(2, .int .i64 y1.1)] (qE (qs (qt ?_))))))))
 obtain rfl := some_inj hr
 exact ge_result trivial (ResOk.tmp (by kernel_rfl) ResOk.nil) (Imm.refl _) ⟨rfl, rfl⟩
/-! 31 labels_Get  -/
noncomputable def labels_Get_l17 (a0 : List S49) (a1 : ByteArray) : Int → Option ((Int) ⊕ ((Unit) ⊕ (ByteArray))) := fun s7 =>
 bif (decide (s7 < (a0.length : Int))) then
 (Option.bind (ix a0 s7) fun (x20 : S49) =>
  bif (x20.f0.toList == a1.toList) then
  (some (Sum.inr (Sum.inr x20.f1)))
  else
  (some (Sum.inl (IntKind.wrap .i64 (s7 + 1)))))
 else
 (some (Sum.inr (Sum.inl ())))
noncomputable def labels_Get (a0 : List S49) (a1 : ByteArray) : Option ByteArray :=
 Option.bind (loopO (labels_Get_l17 a0 a1) 0) fun (r5 : (Unit) ⊕ (ByteArray)) =>
 match r5 with
 | Sum.inl r13 => some (⟨#[]⟩ : ByteArray)
 | Sum.inr v30 => some v30
theorem labels_Get_walk {a0 : List S49} {A0_0 : Option Addr} {n0_0 : Nat} {a1 : ByteArray} {I : Imm} {r : ByteArray}  (hf0_0 : RepS kS49 I A0_0 n0_0 a0) (hr : labels_Get a0 a1 = some r) (L : Own) :
  CallsTo Tryz.prog 31 #[.slice A0_0 a0.length n0_0, .string a1] I L (fun v I' L' => v = .string r ∧ L = L') := by
 unfold labels_Get at hr
 refine callsTo_body (N := 20) Tryz.func31 (by kernel_rfl) (by kernel_rfl) (by kernel_rfl) ?_
 refine qq [0, 1] [(0, .slice A0_0 a0.length n0_0), (1, .string a1)] (qk (qR (qp 1 [0, 1] [(0, .slice A0_0 a0.length n0_0), (1, .string a1)] (qE (qs (qk (qk (qR (qp 3 [1, 7, 8, 9] [(1, .string a1), (7, .slice A0_0 a0.length n0_0), (8, .int .i64 (a0.length : Int)), (9, .int .i64 0)] (qE (qs ?_)))))))))))
 obtain ⟨r5, hl6, hr⟩ := bind_some hr
 refine gk_join (fun t I' L' => ∃ r13, r5 = Sum.inl r13 ∧ I ≤ I' ∧ L = L' ∧ Knows 20 [] t) ?_ ?_
 ·refine qb (qq [1, 7, 8, 9] [(1, .string a1), (7, .slice A0_0 a0.length n0_0), (8, .int .i64 (a0.length : Int)), (9, .int .i64 0)] ?_)
  intro t hK
  refine gc_loop (labels_Get_l17 a0 a1) (fun s7 t I' L' => I ≤ I' ∧ L = L' ∧ Knows 20 [(1, .string a1), (7, .slice A0_0 a0.length n0_0), (8, .int .i64 (a0.length : Int)), (9, .int .i64 s7)] t) (by kernel_rfl) ?_ hl6 ⟨(Imm.refl _), rfl, hK⟩
  rintro s7 o8 t I12 L' hb9 ⟨hI10, rfl, hK11⟩
  unfold labels_Get_l17 at hb9
  refine gk_at hK11 ?_
  refine qk (qR (qp 1 [1, 7, 8, 9, 10] [(1, .string a1), (7, .slice A0_0 a0.length n0_0), (8, .int .i64 (a0.length : Int)), (9, .int .i64 s7), (10, .bool (decide (s7 < (a0.length : Int))))] (qE (qs (qk ?_)))))
  refine gk_cond (b := (decide (s7 < (a0.length : Int)))) (by kernel_rfl) (by kernel_rfl) (fun hc19 => ?_) (fun hc19 => ?_)
  ·have hb9 := cond_t hc19 hb9
   refine qx (qs (qk (qb (qk (qR ?_)))))
   obtain ⟨x20, hx21, hb9⟩ := bind_some hb9
   obtain ⟨p22, cs23, hR24, hA25, ha26⟩ := RepS.ixAt hx21 (hf0_0.mono hI10)
   have hi27 := ix_some hx21
   obtain rfl := kS49_open hR24
   refine gl_indexAddrF (c := n0_0) (T' := 22) (e := 50) (xs := (.tmp 7)) (xi := (.tmp 9)) (kd := .i64) ha26 hi27.1 hi27.2.1 (by kernel_rfl) (by kernel_rfl) (by kernel_rfl) (by kernel_rfl) (by kernel_rfl) ?_
   refine gl_loadA (T' := 50) (xp := (.tmp 11)) (p := p22) (cs := [.string x20.f0, .string x20.f1]) (by kernel_rfl) (by kernel_rfl) (by kernel_rfl) (by kernel_rfl) (hA25.take 2) ?_
   refine gl_alloc (T' := 50) (cs := #[.string (⟨#[]⟩ : ByteArray), .string (⟨#[]⟩ : ByteArray)]) (by kernel_rfl) (by kernel_rfl) (by kernel_rfl) (fun g28 => ?_)
   refine gl_storeB (T' := 50) (xp := (.tmp 6)) (xv := (.tmp 12)) (v := .agg #[.string x20.f0, .string x20.f1]) (g := g28) (off := 0) (cs := #[.string (⟨#[]⟩ : ByteArray), .string (⟨#[]⟩ : ByteArray)]) (cs' := #[.string x20.f0, .string x20.f1]) (by kernel_rfl) (by kernel_rfl) (by kernel_rfl) (by kernel_rfl) (by kernel_rfl) (Upd.set _ _ _ _) ?_ (by kernel_rfl)
   refine qE (qs (qk (qR (qp 1 [1, 6, 7, 8, 9, 13] [(1, .string a1), (6, .pointer (some ⟨g28, 0, none⟩)), (7, .slice A0_0 a0.length n0_0), (8, .int .i64 (a0.length : Int)), (9, .int .i64 s7), (13, .pointer (some ⟨g28, 0, none⟩))] ?_))))
   refine gl_loadB (T' := 9) (xp := (.tmp 13)) (v := .string x20.f0) (g := g28) (off := 0) (cs := #[.string x20.f0, .string x20.f1]) (e := 50) (fz := (0, 0)) (by kernel_rfl) (by kernel_rfl) (by kernel_rfl) mcs (by kernel_rfl) ?_
   refine qp 2 [1, 6, 7, 8, 9, 16] [(1, .string a1), (6, .pointer (some ⟨g28, 0, none⟩)), (7, .slice A0_0 a0.length n0_0), (8, .int .i64 (a0.length : Int)), (9, .int .i64 s7), (16, .bool (x20.f0.toList == a1.toList))] (qE (qs ?_))
   refine gk_cond (b := (x20.f0.toList == a1.toList)) (by kernel_rfl) (by kernel_rfl) (fun hc29 => ?_) (fun hc29 => ?_)
   ·have hb9 := cond_t hc29 hb9
    refine qk (qR (qp 1 [17] [(17, .pointer (some ⟨g28, 1, none⟩))] ?_))
    refine gl_loadB (T' := 9) (xp := (.tmp 17)) (v := .string x20.f1) (g := g28) (off := 1) (cs := #[.string x20.f0, .string x20.f1]) (e := 50) (fz := (0, 0)) (by kernel_rfl) (by kernel_rfl) (by kernel_rfl) mcs (by kernel_rfl) ?_
    refine qp 1 [4] [(4, .string x20.f1)] (qE (qs ?_))
    refine gk_reord (D := L) (Reord.skip (Reord.refl _)) ?_
    refine qt (qv (qu ?_))
    obtain rfl := some_inj hb9
    refine ge_round_out (fun hrr => ?_) (by intro h; cases h)
    obtain rfl := hrr
    refine qv (qu (qu ?_))
    obtain rfl := some_inj hr
    exact ge_result trivial (ResOk.tmp (by kernel_rfl) ResOk.nil) hI10 ⟨rfl, rfl⟩
   ·have hb9 := cond_f hc29 hb9
    refine qx (qn (qs (qR (qp 2 [1, 7, 8, 9] [(1, .string a1), (7, .slice A0_0 a0.length n0_0), (8, .int .i64 (a0.length : Int)), (9, .int .i64 (IntKind.wrap .i64 (s7 + 1)))] ?_))))
    refine gl_reord (D := L) (Reord.skip (Reord.refl _)) ?_
    refine qE ?_
    obtain rfl := some_inj hb9
    exact ge_round fun t ht => ⟨hI10, rfl, ht.pick (l := [1, 7, 8, 9]) (by kernel_rfl)⟩
  ·have hb9 := cond_f hc19 hb9
   refine qe (qf ?_)
   obtain rfl := some_inj hb9
   refine ge_round_out (fun hrr => ?_) (by intro h; cases h)
   obtain rfl := hrr
   refine qh ?_
   exact ge_mid fun t ht => ⟨_, rfl, hI10, rfl, ht.pick (l := []) (by kernel_rfl)⟩
 ·rintro t I16 L' ⟨r13, rfl, hI14, rfl, hK15⟩
  refine ge_at hK15 ?_
  refine qs (qk (qR (qp 1 [4] [(4, .string (⟨#[]⟩ : ByteArray))] (qE (qs (qt ?_))))))
  obtain rfl := some_inj hr
  exact ge_result trivial (ResOk.tmp (by kernel_rfl) ResOk.nil) hI14 ⟨rfl, rfl⟩
/-! 19 labels_Metric  -/
noncomputable def labels_Metric (a0 : ByteArray) : Option Bool :=
 Option.bind (labels_named a0 256 true) fun (y1 : Bool) =>
 some y1
theorem labels_Metric_walk {a0 : ByteArray} {I : Imm} {r : Bool}  (hr : labels_Metric a0 = some r) (L : Own) :
  CallsTo Tryz.prog 19 #[.string a0] I L (fun v I' L' => v = .bool r ∧ L = L') := by
 unfold labels_Metric at hr
 refine callsTo_body (N := 5) Tryz.func19 (by kernel_rfl) (by kernel_rfl) (by kernel_rfl) ?_
 refine qq [0] [(0, .string a0)] (qk (qR (qp 1 [0] [(0, .string a0)] (qE (qs (qk (qR (qp 1 [3] [(3, .string a0)] ?_))))))))
 obtain ⟨y1, hx2, hr⟩ := bind_some hr
 refine gl_callQ (by kernel_rfl) (labels_named_walk (r := y1)  hx2 _) ?_
 refine qp 1 [2] [(2, .bool y1)] (qE (qs (qt ?_)))
 obtain rfl := some_inj hr
 exact ge_result trivial (ResOk.tmp (by kernel_rfl) ResOk.nil) (Imm.refl _) ⟨rfl, rfl⟩
/-! 129 slices_Index  -/
noncomputable def slices_Index_l17 (a0 : List ByteArray) (a1 : ByteArray) : Int → Option ((Int) ⊕ ((Unit) ⊕ (Int))) := fun s7 =>
 bif (decide (s7 < (a0.length : Int))) then
 (Option.bind (ix a0 s7) fun (x20 : ByteArray) =>
  bif (a1.toList == x20.toList) then
  (some (Sum.inr (Sum.inr s7)))
  else
  (some (Sum.inl (IntKind.wrap .i64 (s7 + 1)))))
 else
 (some (Sum.inr (Sum.inl ())))
noncomputable def slices_Index (a0 : List ByteArray) (a1 : ByteArray) : Option Int :=
 Option.bind (loopO (slices_Index_l17 a0 a1) 0) fun (r5 : (Unit) ⊕ (Int)) =>
 match r5 with
 | Sum.inl r13 => some (-1)
 | Sum.inr v29 => some v29
theorem slices_Index_walk {a0 : List ByteArray} {A0_0 : Option Addr} {n0_0 : Nat} {a1 : ByteArray} {I : Imm} {r : Int}  (hf0_0 : RepS Kd.str I A0_0 n0_0 a0) (hr : slices_Index a0 a1 = some r) (L : Own) :
  CallsTo Tryz.prog 129 #[.slice A0_0 a0.length n0_0, .string a1] I L (fun v I' L' => v = .int .i64 r ∧ L = L') := by
 unfold slices_Index at hr
 refine callsTo_body (N := 19) Tryz.func129 (by kernel_rfl) (by kernel_rfl) (by kernel_rfl) ?_
 refine qq [0, 1] [(0, .slice A0_0 a0.length n0_0), (1, .string a1)] (qk (qR (qp 1 [0, 1] [(0, .slice A0_0 a0.length n0_0), (1, .string a1)] (qE (qs (qk (qk (qR (qp 3 [0, 1, 7, 8] [(0, .slice A0_0 a0.length n0_0), (1, .string a1), (7, .int .i64 (a0.length : Int)), (8, .int .i64 0)] (qE (qs ?_)))))))))))
 obtain ⟨r5, hl6, hr⟩ := bind_some hr
 refine gk_join (fun t I' L' => ∃ r13, r5 = Sum.inl r13 ∧ I ≤ I' ∧ L = L' ∧ Knows 19 [] t) ?_ ?_
 ·refine qb (qq [0, 1, 7, 8] [(0, .slice A0_0 a0.length n0_0), (1, .string a1), (7, .int .i64 (a0.length : Int)), (8, .int .i64 0)] ?_)
  intro t hK
  refine gc_loop (slices_Index_l17 a0 a1) (fun s7 t I' L' => I ≤ I' ∧ L = L' ∧ Knows 19 [(0, .slice A0_0 a0.length n0_0), (1, .string a1), (7, .int .i64 (a0.length : Int)), (8, .int .i64 s7)] t) (by kernel_rfl) ?_ hl6 ⟨(Imm.refl _), rfl, hK⟩
  rintro s7 o8 t I12 L' hb9 ⟨hI10, rfl, hK11⟩
  unfold slices_Index_l17 at hb9
  refine gk_at hK11 ?_
  refine qk (qR (qp 1 [0, 1, 7, 8, 9] [(0, .slice A0_0 a0.length n0_0), (1, .string a1), (7, .int .i64 (a0.length : Int)), (8, .int .i64 s7), (9, .bool (decide (s7 < (a0.length : Int))))] (qE (qs (qk ?_)))))
  refine gk_cond (b := (decide (s7 < (a0.length : Int)))) (by kernel_rfl) (by kernel_rfl) (fun hc19 => ?_) (fun hc19 => ?_)
  ·have hb9 := cond_t hc19 hb9
   refine qx (qs (qk (qb (qk (qR (qp 2 [0, 1, 5, 7, 8] [(0, .slice A0_0 a0.length n0_0), (1, .string a1), (5, .int .i64 s7), (7, .int .i64 (a0.length : Int)), (8, .int .i64 s7)] (qE (qs (qk (qR (qp 3 [0, 1, 5, 7, 8, 11, 12, 13] [(0, .slice A0_0 a0.length n0_0), (1, .string a1), (5, .int .i64 s7), (7, .int .i64 (a0.length : Int)), (8, .int .i64 s7), (11, .string a1), (12, .slice A0_0 a0.length n0_0), (13, .int .i64 s7)] ?_)))))))))))
   obtain ⟨x20, hx21, hb9⟩ := bind_some hb9
   obtain ⟨p22, cs23, hR24, hA25, ha26⟩ := RepS.ixAt hx21 (hf0_0.mono hI10)
   have hi27 := ix_some hx21
   obtain rfl := hR24
   refine gl_indexAddrF (c := n0_0) (T' := 44) (e := 9) (xs := (.tmp 12)) (xi := (.tmp 13)) (kd := .i64) ha26 hi27.1 hi27.2.1 (by kernel_rfl) (by kernel_rfl) (by kernel_rfl) (by kernel_rfl) (by kernel_rfl) ?_
   refine gl_load (T' := 9) (xp := (.tmp 14)) (p := p22) (c := .string x20) (n := 1) (by kernel_rfl) (by kernel_rfl) (by kernel_rfl) (by kernel_rfl) hA25 ?_
   refine qp 1 [0, 1, 5, 7, 8, 16] [(0, .slice A0_0 a0.length n0_0), (1, .string a1), (5, .int .i64 s7), (7, .int .i64 (a0.length : Int)), (8, .int .i64 s7), (16, .bool (a1.toList == x20.toList))] (qE (qs ?_))
   refine gk_cond (b := (a1.toList == x20.toList)) (by kernel_rfl) (by kernel_rfl) (fun hc28 => ?_) (fun hc28 => ?_)
   ·have hb9 := cond_t hc28 hb9
    refine qk (qR (qp 2 [4] [(4, .int .i64 s7)] (qE (qs (qt (qv (qu ?_)))))))
    obtain rfl := some_inj hb9
    refine ge_round_out (fun hrr => ?_) (by intro h; cases h)
    obtain rfl := hrr
    refine qv (qu (qu ?_))
    obtain rfl := some_inj hr
    exact ge_result trivial (ResOk.tmp (by kernel_rfl) ResOk.nil) hI10 ⟨rfl, rfl⟩
   ·have hb9 := cond_f hc28 hb9
    refine qx (qn (qs (qR (qp 2 [0, 1, 7, 8] [(0, .slice A0_0 a0.length n0_0), (1, .string a1), (7, .int .i64 (a0.length : Int)), (8, .int .i64 (IntKind.wrap .i64 (s7 + 1)))] (qE ?_)))))
    obtain rfl := some_inj hb9
    exact ge_round fun t ht => ⟨hI10, rfl, ht.pick (l := [0, 1, 7, 8]) (by kernel_rfl)⟩
  ·have hb9 := cond_f hc19 hb9
   refine qe (qf ?_)
   obtain rfl := some_inj hb9
   refine ge_round_out (fun hrr => ?_) (by intro h; cases h)
   obtain rfl := hrr
   refine qh ?_
   exact ge_mid fun t ht => ⟨_, rfl, hI10, rfl, ht.pick (l := []) (by kernel_rfl)⟩
 ·rintro t I16 L' ⟨r13, rfl, hI14, rfl, hK15⟩
  refine ge_at hK15 ?_
  refine qs (qk (qR (qp 1 [4] [(4, .int .i64 (-1))] (qE (qs (qt ?_))))))
  obtain rfl := some_inj hr
  exact ge_result trivial (ResOk.tmp (by kernel_rfl) ResOk.nil) hI14 ⟨rfl, rfl⟩
/-! 106 slices_Contains  -/
noncomputable def slices_Contains (a0 : List ByteArray) (a1 : ByteArray) : Option Bool :=
 Option.bind (slices_Index a0 a1) fun (y1 : Int) =>
 some (decide (y1 ≥ 0))
theorem slices_Contains_walk {a0 : List ByteArray} {A0_0 : Option Addr} {n0_0 : Nat} {a1 : ByteArray} {I : Imm} {r : Bool}  (hf0_0 : RepS Kd.str I A0_0 n0_0 a0) (hr : slices_Contains a0 a1 = some r) (L : Own) :
  CallsTo Tryz.prog 106 #[.slice A0_0 a0.length n0_0, .string a1] I L (fun v I' L' => v = .bool r ∧ L = L') := by
 unfold slices_Contains at hr
 refine callsTo_body (N := 9) Tryz.func106 (by kernel_rfl) (by kernel_rfl) (by kernel_rfl) ?_
 refine qq [0, 1] [(0, .slice A0_0 a0.length n0_0), (1, .string a1)] (qk (qR (qp 1 [0, 1] [(0, .slice A0_0 a0.length n0_0), (1, .string a1)] (qE (qs (qk (qR (qp 2 [5, 6] [(5, .slice A0_0 a0.length n0_0), (6, .string a1)] ?_))))))))
 obtain ⟨y1, hx2, hr⟩ := bind_some hr
 refine gl_callQ (by kernel_rfl) (slices_Index_walk (r := y1) hf0_0 hx2 _) ?_
 refine qp 2 [4] [(4, .bool (decide (y1 ≥ 0)))] (qE (qs (qt ?_)))
 obtain rfl := some_inj hr
 exact ge_result trivial (ResOk.tmp (by kernel_rfl) ResOk.nil) (Imm.refl _) ⟨rfl, rfl⟩
/-! 62 labels_pick  -/
noncomputable def labels_pick_l28 (a0 : List S49) (a1 : Bool) (a2 : List ByteArray) : ((List S49) × Int) → Option (((List S49) × Int) ⊕ ((List S49))) := fun s11 =>
 bif (decide (s11.2 < (a0.length : Int))) then
 (Option.bind (ix a0 s11.2) fun (x31 : S49) =>
  Option.bind (slices_Contains a2 x31.f0) fun (y40 : Bool) =>
  Option.bind (bif (y40 == a1) then
   (Option.bind (app s11.1 [x31]) fun (zs56 : List S49) =>
    some zs56)
   else
   (some s11.1)) fun (j42 : (List S49)) =>
  some (Sum.inl (j42, (IntKind.wrap .i64 (s11.2 + 1)))))
 else
 (some (Sum.inr s11.1))
noncomputable def labels_pick (a0 : List S49) (a1 : Bool) (a2 : List ByteArray) : Option (List S49) :=
 Option.bind (loopO (labels_pick_l28 a0 a1 a2) ([], 0)) fun (r9 : (List S49)) =>
 some r9
theorem labels_pick_walk {a0 : List S49} {A0_0 : Option Addr} {n0_0 : Nat} {a1 : Bool} {a2 : List ByteArray} {A2_0 : Option Addr} {n2_0 : Nat} {I : Imm} {r : (List S49)}  (hf0_0 : RepS kS49 I A0_0 n0_0 a0)  (hf2_0 : RepS Kd.str I A2_0 n2_0 a2) (hr : labels_pick a0 a1 a2 = some r) (L : Own) :
  CallsTo Tryz.prog 62 #[.slice A0_0 a0.length n0_0, .bool a1, .slice A2_0 a2.length n2_0] I L (fun v I' L' => ∃ A0 c0 C0, OwnS kS49 50 I' A0 c0 r C0 ∧ v = .slice A0 r.length c0 ∧ C0 ++ L = L') := by
 unfold labels_pick at hr
 refine callsTo_body (N := 28) Tryz.func62 (by kernel_rfl) (by kernel_rfl) (by kernel_rfl) ?_
 refine qq [0, 1, 2] [(0, .slice A0_0 a0.length n0_0), (1, .bool a1), (2, .slice A2_0 a2.length n2_0)] (qk (qR (qp 1 [0, 1, 2] [(0, .slice A0_0 a0.length n0_0), (1, .bool a1), (2, .slice A2_0 a2.length n2_0)] (qE (qs (qk (qR (qp 1 [0, 1, 2, 7] [(0, .slice A0_0 a0.length n0_0), (1, .bool a1), (2, .slice A2_0 a2.length n2_0), (7, .slice none 0 0)] (qE (qs (qk ?_)))))))))))
 refine qk (qR (qp 3 [1, 2, 7, 10, 11, 12] [(1, .bool a1), (2, .slice A2_0 a2.length n2_0), (7, .slice none 0 0), (10, .slice A0_0 a0.length n0_0), (11, .int .i64 (a0.length : Int)), (12, .int .i64 0)] (qE (qs ?_))))
 obtain ⟨r9, hl10, hr⟩ := bind_some hr
 refine gk_join (fun t I' L' => ∃ A22 n23 C24, OwnS kS49 50 I' A22 n23 r9 C24 ∧ I ≤ I' ∧ C24 ++ L = L' ∧ Knows 28 [(7, .slice A22 r9.length n23)] t) ?_ ?_
 ·refine qb (qq [1, 2, 7, 10, 11, 12] [(1, .bool a1), (2, .slice A2_0 a2.length n2_0), (7, .slice none 0 0), (10, .slice A0_0 a0.length n0_0), (11, .int .i64 (a0.length : Int)), (12, .int .i64 0)] ?_)
  intro t hK
  refine gc_loop (labels_pick_l28 a0 a1 a2) (fun s11 t I' L' => ∃ A15 n16 C17, OwnS kS49 50 I' A15 n16 s11.1 C17 ∧ I ≤ I' ∧ C17 ++ L = L' ∧ Knows 28 [(1, .bool a1), (2, .slice A2_0 a2.length n2_0), (7, .slice A15 s11.1.length n16), (10, .slice A0_0 a0.length n0_0), (11, .int .i64 (a0.length : Int)), (12, .int .i64 s11.2)] t) (by kernel_rfl) ?_ hl10 ⟨none, 0, [], OwnS.nil _ _ _ _, (Imm.refl _), rfl, hK⟩
  rintro s11 o12 t I20 L' hb13 ⟨A15, n16, C17, hO18, hI14, rfl, hK19⟩
  unfold labels_pick_l28 at hb13
  refine gk_at hK19 ?_
  refine qk (qR (qp 1 [1, 2, 7, 10, 11, 12, 13] [(1, .bool a1), (2, .slice A2_0 a2.length n2_0), (7, .slice A15 s11.1.length n16), (10, .slice A0_0 a0.length n0_0), (11, .int .i64 (a0.length : Int)), (12, .int .i64 s11.2), (13, .bool (decide (s11.2 < (a0.length : Int))))] (qE (qs (qk ?_)))))
  refine gk_cond (b := (decide (s11.2 < (a0.length : Int)))) (by kernel_rfl) (by kernel_rfl) (fun hc30 => ?_) (fun hc30 => ?_)
  ·have hb13 := cond_t hc30 hb13
   refine qx (qs (qk (qb (qk (qR ?_)))))
   obtain ⟨x31, hx32, hb13⟩ := bind_some hb13
   obtain ⟨p33, cs34, hR35, hA36, ha37⟩ := RepS.ixAt hx32 (hf0_0.mono hI14)
   have hi38 := ix_some hx32
   obtain rfl := kS49_open hR35
   refine gl_indexAddrF (c := n0_0) (T' := 22) (e := 50) (xs := (.tmp 10)) (xi := (.tmp 12)) (kd := .i64) ha37 hi38.1 hi38.2.1 (by kernel_rfl) (by kernel_rfl) (by kernel_rfl) (by kernel_rfl) (by kernel_rfl) ?_
   refine gl_loadA (T' := 50) (xp := (.tmp 14)) (p := p33) (cs := [.string x31.f0, .string x31.f1]) (by kernel_rfl) (by kernel_rfl) (by kernel_rfl) (by kernel_rfl) (hA36.take 2) ?_
   refine gl_alloc (T' := 50) (cs := #[.string (⟨#[]⟩ : ByteArray), .string (⟨#[]⟩ : ByteArray)]) (by kernel_rfl) (by kernel_rfl) (by kernel_rfl) (fun g39 => ?_)
   refine gl_storeB (T' := 50) (xp := (.tmp 9)) (xv := (.tmp 15)) (v := .agg #[.string x31.f0, .string x31.f1]) (g := g39) (off := 0) (cs := #[.string (⟨#[]⟩ : ByteArray), .string (⟨#[]⟩ : ByteArray)]) (cs' := #[.string x31.f0, .string x31.f1]) (by kernel_rfl) (by kernel_rfl) (by kernel_rfl) (by kernel_rfl) (by kernel_rfl) (Upd.set _ _ _ _) ?_ (by kernel_rfl)
   refine qE (qs (qk (qR (qp 2 [1, 2, 7, 9, 10, 11, 12, 16, 17] [(1, .bool a1), (2, .slice A2_0 a2.length n2_0), (7, .slice A15 s11.1.length n16), (9, .pointer (some ⟨g39, 0, none⟩)), (10, .slice A0_0 a0.length n0_0), (11, .int .i64 (a0.length : Int)), (12, .int .i64 s11.2), (16, .slice A2_0 a2.length n2_0), (17, .pointer (some ⟨g39, 0, none⟩))] ?_))))
   refine gl_loadB (T' := 9) (xp := (.tmp 17)) (v := .string x31.f0) (g := g39) (off := 0) (cs := #[.string x31.f0, .string x31.f1]) (e := 50) (fz := (0, 0)) (by kernel_rfl) (by kernel_rfl) (by kernel_rfl) mcs (by kernel_rfl) ?_
   obtain ⟨y40, hx41, hb13⟩ := bind_some hb13
   refine gl_callQ (by kernel_rfl) (slices_Contains_walk (r := y40) (hf2_0.mono hI14) hx41 _) ?_
   refine qp 2 [1, 2, 7, 9, 10, 11, 12, 21] [(1, .bool a1), (2, .slice A2_0 a2.length n2_0), (7, .slice A15 s11.1.length n16), (9, .pointer (some ⟨g39, 0, none⟩)), (10, .slice A0_0 a0.length n0_0), (11, .int .i64 (a0.length : Int)), (12, .int .i64 s11.2), (21, .bool (y40 == a1))] (qE (qs ?_))
   obtain ⟨j42, hj43, hb13⟩ := bind_some hb13
   refine gk_join (fun t I' L' => ∃ A45 n46 C47, OwnS kS49 50 I' A45 n46 j42 C47 ∧ I20 ≤ I' ∧ C47 ++ L = L' ∧ Knows 28 [(1, .bool a1), (2, .slice A2_0 a2.length n2_0), (7, .slice A45 j42.length n46), (10, .slice A0_0 a0.length n0_0), (11, .int .i64 (a0.length : Int)), (12, .int .i64 s11.2)] t) ?_ ?_
   ·refine gk_cond (b := (y40 == a1)) (by kernel_rfl) (by kernel_rfl) (fun hc51 => ?_) (fun hc51 => ?_)
    ·have hj43 := cond_t hc51 hj43
     refine qR (qp 1 [1, 2, 9, 10, 11, 12, 22] [(1, .bool a1), (2, .slice A2_0 a2.length n2_0), (9, .pointer (some ⟨g39, 0, none⟩)), (10, .slice A0_0 a0.length n0_0), (11, .int .i64 (a0.length : Int)), (12, .int .i64 s11.2), (22, .slice A15 s11.1.length n16)] ?_)
     refine gl_loadB (T' := 50) (xp := (.tmp 9)) (v := .agg #[.string x31.f0, .string x31.f1]) (g := g39) (off := 0) (cs := #[.string x31.f0, .string x31.f1]) (e := 50) (fz := (0, 0)) (by kernel_rfl) (by kernel_rfl) (by kernel_rfl) mcs (by kernel_rfl) ?_
     refine gl_buildSlice (T' := 22) (e := 50) (n := 2) (len := 1) (parts := #[(0, (.tmp 23))]) (l := [(0, .agg #[.string x31.f0, .string x31.f1])]) (cs := #[.string x31.f0, .string x31.f1]) (by kernel_rfl) (by kernel_rfl) (by kernel_rfl) (by kernel_rfl) (by kernel_rfl) (fun g52 => ?_)
     have hO53 : OwnS kS49 50 I20 (some ⟨g52, 0, none⟩) 1 [x31] [(g52, .cells #[.string x31.f0, .string x31.f1] 50)] := OwnS.lit (row_cons (l := [.string x31.f0, .string x31.f1]) (kS49_mk (x := x31) ) (row_nil _ _)) rfl rfl rfl
     refine gl_reord (D := [(g52, .cells #[.string x31.f0, .string x31.f1] 50)] ++ ((g39, .cells #[.string x31.f0, .string x31.f1] 50) :: (C17 ++ L))) (Reord.refl _) ?_
     obtain ⟨zs56, hz57, hj43⟩ := bind_some hj43
     refine gl_append (xv := .slice (some ⟨g52, 0, none⟩) [x31].length 1) (d := kS49) (t := 22) (tx := 22) (e := 50) (s := (.tmp 22)) (x := (.tmp 24)) (xs := s11.1) (fun X => [(g52, .cells #[.string x31.f0, .string x31.f1] 50)] ++ ((g39, .cells #[.string x31.f0, .string x31.f1] 50) :: (X ++ L))) hz57 (by kernel_rfl) (by kernel_rfl) (by kernel_rfl) (by kernel_rfl) (by kernel_rfl) (by kernel_rfl) (fun X => (Upd.app _ (Upd.one _ (Upd.head _ X _)))) hO18 (SrcOk.slice (c := 1) (e := 50) (n := 2) (OwnS.rd hO53 (Upd.selfC _ _)) (by kernel_rfl)) (fun A58 n59 C60 hO61 => ?_)
     refine qp 1 [1, 2, 7, 10, 11, 12] [(1, .bool a1), (2, .slice A2_0 a2.length n2_0), (7, .slice A58 zs56.length n59), (10, .slice A0_0 a0.length n0_0), (11, .int .i64 (a0.length : Int)), (12, .int .i64 s11.2)] ?_
     refine gl_reord (D := C60 ++ L) (Reord.step (Upd.app _ (Upd.one _ (Upd.rmC _ _))) (Reord.skipC (Reord.skip (Reord.refl _)))) ?_
     refine qE ?_
     obtain rfl := some_inj hj43
     exact ge_mid fun t ht => ⟨A58, n59, C60, hO61, (Imm.refl _), rfl, ht.pick (l := [1, 2, 7, 10, 11, 12]) (by kernel_rfl)⟩
    ·have hj43 := cond_f hc51 hj43
     refine gk_reord (D := C17 ++ L) (Reord.step (Upd.one _ (Upd.rmC _ _)) (Reord.skip (Reord.refl _))) ?_
     refine qx ?_
     obtain rfl := some_inj hj43
     exact ge_mid fun t ht => ⟨A15, n16, C17, hO18, (Imm.refl _), rfl, ht.pick (l := [1, 2, 7, 10, 11, 12]) (by kernel_rfl)⟩
   ·rintro t I50 L' ⟨A45, n46, C47, hO48, hI44, rfl, hK49⟩
    refine ge_at hK49 ?_
    refine qn (qs (qR (qp 2 [1, 2, 7, 10, 11, 12] [(1, .bool a1), (2, .slice A2_0 a2.length n2_0), (7, .slice A45 j42.length n46), (10, .slice A0_0 a0.length n0_0), (11, .int .i64 (a0.length : Int)), (12, .int .i64 (IntKind.wrap .i64 (s11.2 + 1)))] (qE ?_))))
    obtain rfl := some_inj hb13
    exact ge_round fun t ht => ⟨A45, n46, C47, hO48, (Imm.trans hI14 hI44), rfl, ht.pick (l := [1, 2, 7, 10, 11, 12]) (by kernel_rfl)⟩
  ·have hb13 := cond_f hc30 hb13
   refine qe (qf ?_)
   obtain rfl := some_inj hb13
   refine ge_round_out (fun hrr => ?_) (by intro h; cases h)
   obtain rfl := hrr
   refine qh ?_
   exact ge_mid fun t ht => ⟨A15, n16, C17, hO18, hI14, rfl, ht.pick (l := [7]) (by kernel_rfl)⟩
 ·rintro t I27 L' ⟨A22, n23, C24, hO25, hI21, rfl, hK26⟩
  refine ge_at hK26 ?_
  refine qs (qk (qR (qp 2 [6] [(6, .slice A22 r9.length n23)] (qE (qs (qt ?_))))))
  obtain rfl := some_inj hr
  exact ge_result trivial (ResOk.tmp (by kernel_rfl) ResOk.nil) hI21 ⟨A22, n23, C24, hO25, rfl, rfl⟩
/-- labels.quoted at any text that is not too long. -/
def labels_quoted (a0 : ByteArray) : Option ByteArray := bif Nat.ble a0.size 1048576 then some ⟨(34 :: (qBody a0.data.toList ++ [34])).toArray⟩ else none
theorem labels_quoted_walk {a0 : ByteArray} {I : Imm} {r : ByteArray} (hG : Gl I) (hr : labels_quoted a0 = some r) (L : Own) :
  CallsTo Tryz.prog 63 #[.string a0] I L (fun v I' L' => v = .string r ∧ L = L') := by
 unfold labels_quoted at hr
 cases hb : Nat.ble a0.size 1048576 with
 | false => rw [hb] at hr; cases hr
 | true =>
  rw [hb] at hr
  cases hr
  have hs := Nat.le_of_ble_eq_true hb
  have he : (⟨#[34]⟩ ++ ⟨(qBody a0.data.toList).toArray⟩ ++ ⟨#[34]⟩ : ByteArray) = ⟨(34 :: (qBody a0.data.toList ++ [34])).toArray⟩ := by
   refine ba_eq ?_
   rw [ByteArray.data_append, ByteArray.data_append, Array.toList_append, Array.toList_append]; rfl
  refine callsTo_below hG.dr (fun W hW => ?_)
  rw [← he]
  refine quotedS_walk a0 _ (RQ.replace_eq hs) ?_ W
  have h1 := RQ.q_len a0.data.toList
  have h2 : a0.data.toList.countP RQ.spec ≤ a0.size := Nat.le_trans List.countP_le_length (by rw [size_list]; exact Nat.le_refl _)
  rw [size_list] at h1
  show (qBody a0.data.toList).toArray.size ≤ _
  rw [List.size_toArray]
  omega

def lays156_ren : Go.Shelf.Ren := ⟨fun x => if x = 156 then 64 else if x = 165 then 109 else if x = 166 then 110 else if x = 169 then 111 else if x = 240 then 132 else if x = 241 then 133 else if x = 276 then 142 else if x = 277 then 143 else x, fun x => if x = 31 then 44 else if x = 72 then 128 else if x = 76 then 131 else if x = 70 then 126 else if x = 37 then 51 else if x = 75 then 130 else if x = 127 then 166 else if x = 164 then 173 else if x = 80 then 133 else x, fun x => x⟩
theorem lays156 : Go.Proofs.Lays.n156 Tryz.prog lays156_ren := {
 mixed := by kernel_rfl,
 f156 := Tryz.func64.trans (congrArg some (by kernel_rfl)),
 f165 := Tryz.func109.trans (congrArg some (by kernel_rfl)),
 f166 := Tryz.func110.trans (congrArg some (by kernel_rfl)),
 f169 := Tryz.func111.trans (congrArg some (by kernel_rfl)),
 f240 := Tryz.func132.trans (congrArg some (by kernel_rfl)),
 f241 := Tryz.func133.trans (congrArg some (by kernel_rfl)),
 f276 := Tryz.func142.trans (congrArg some (by kernel_rfl)),
 f277 := Tryz.func143.trans (congrArg some (by kernel_rfl)),
 t0 := Tryz.underlying0,
 a0 := Tryz.isAgg0,
 z0 := Tryz.sizeOf0,
 v0 := Tryz.zeroValue0,
 t3 := Tryz.underlying3,
 a3 := Tryz.isAgg3,
 z3 := Tryz.sizeOf3,
 v3 := Tryz.zeroValue3,
 t4 := Tryz.underlying4,
 a4 := Tryz.isAgg4,
 z4 := Tryz.sizeOf4,
 v4 := Tryz.zeroValue4,
 t9 := Tryz.underlying9,
 a9 := Tryz.isAgg9,
 z9 := Tryz.sizeOf9,
 v9 := Tryz.zeroValue9,
 t20 := Tryz.underlying20,
 a20 := Tryz.isAgg20,
 z20 := Tryz.sizeOf20,
 v20 := Tryz.zeroValue20,
 t31 := Tryz.underlying44,
 a31 := Tryz.isAgg44,
 z31 := Tryz.sizeOf44,
 v31 := Tryz.zeroValue44,
 t37 := Tryz.underlying51,
 a37 := Tryz.isAgg51,
 z37 := Tryz.sizeOf51,
 v37 := Tryz.zeroValue51,
 t70 := Tryz.underlying126,
 a70 := Tryz.isAgg126,
 z70 := Tryz.sizeOf126,
 v70 := Tryz.zeroValue126,
 t72 := Tryz.underlying128,
 a72 := Tryz.isAgg128,
 z72 := Tryz.sizeOf128,
 v72 := Tryz.zeroValue128,
 t75 := Tryz.underlying130,
 a75 := Tryz.isAgg130,
 z75 := Tryz.sizeOf130,
 v75 := Tryz.zeroValue130,
 t76 := Tryz.underlying131,
 a76 := Tryz.isAgg131,
 z76 := Tryz.sizeOf131,
 v76 := Tryz.zeroValue131,
 t127 := Tryz.underlying166,
 a127 := Tryz.isAgg166,
 z127 := Tryz.sizeOf166,
 v127 := Tryz.zeroValue166,
 t164 := Tryz.underlying173,
 a164 := Tryz.isAgg173,
 z164 := Tryz.sizeOf173,
 v164 := Tryz.zeroValue173 }

theorem lays156_extra : Go.Proofs.Builder.Extra Tryz.prog lays156_ren := { sizeBuilder := by kernel_rfl, liesBuilder := by kernel_rfl, t5 := Tryz.underlying5, a5 := Tryz.isAgg5, z5 := Tryz.sizeOf5, v5 := Tryz.zeroValue5, infoByte := by kernel_rfl, cellsByte := by kernel_rfl, sizeByte := by kernel_rfl, neB5 := by decide }
/-- The kit's contract of strings.Join. -/
def strings_Join (a0 : List ByteArray) (a1 : ByteArray) : Option ByteArray := bif Nat.ble (Go.Lib.join (a0.map (·.data.toList)) a1.data.toList).length 140737488355328 then some ⟨(Go.Lib.join (a0.map (·.data.toList)) a1.data.toList).toArray⟩ else none
theorem strings_Join_walk {a0 : List ByteArray} {A0_0 : Option Addr} {n0_0 : Nat} {a1 : ByteArray} {I : Imm} {r : ByteArray} (hG : Gl I) (hf0_0 : RepS Kd.str I A0_0 n0_0 a0) (hr : strings_Join a0 a1 = some r) (L : Own) :
  CallsTo Tryz.prog 64 #[.slice A0_0 a0.length n0_0, .string a1] I L (fun v I' L' => v = .string r ∧ L = L') := by
 unfold strings_Join at hr
 obtain ⟨hb, hr⟩ : Nat.ble (Go.Lib.join (a0.map (·.data.toList)) a1.data.toList).length 140737488355328 = true ∧ (⟨(Go.Lib.join (a0.map (·.data.toList)) a1.data.toList).toArray⟩ : ByteArray) = r := by
  cases hb : Nat.ble (Go.Lib.join (a0.map (·.data.toList)) a1.data.toList).length 140737488355328 with
  | true => rw [hb] at hr; exact ⟨rfl, Option.some.inj hr⟩
  | false => rw [hb] at hr; cases hr
 subst hr
 have hlen := Nat.le_of_ble_eq_true hb
 refine callsTo_below hG.dr fun W hW => ?_
 cases a0 with
 | nil => exact (Go.Proofs.Any.strings_Join_none lays156 lays156_extra A0_0 n0_0 a1 W).mono fun e w' ⟨he, hw⟩ => ⟨he, hw ▸ Go.RowKit.Below.refl _ _⟩
 | cons x0 xr =>
  have hm : (x0 :: xr).length ≤ 2147483648 := hf0_0.max
  obtain ⟨⟨bk, o, sp⟩, cs0, rfl, hR0, hr0⟩ := hf0_0.at_ 0 x0 rfl
  have hcell : ∀ (j : Nat) (x : ByteArray), (x0 :: xr)[j]? = some x → I.cell ((⟨bk, o, sp⟩ : Addr).add j) = some (.string x) := by
   intro j x hj
   obtain ⟨a, cs, ha, hR, hq⟩ := hf0_0.at_ j x hj
   cases ha
   have hcs : cs = [.string x] := hR
   subst hcs
   have := hq 0 (.string x) rfl
   have hn : (Kd.str).n = 1 := rfl
   rw [hn, Nat.mul_one] at this
   exact this
  cases sp with
  | some z =>
   have h0 := hcell 0 x0 rfl
   have e : (⟨bk, o, some z⟩ : Addr).add 0 = ⟨bk, o, some z⟩ := rfl
   rw [e] at h0
   unfold Imm.cell at h0
   split at h0 <;> simp at h0
  | none =>
   have ea : ∀ j : Nat, (⟨bk, o, none⟩ : Addr).add j = ⟨bk, o + j, none⟩ := fun j => by unfold Addr.add; split <;> simp_all
   have hc' : ∀ (j : Nat) (x : ByteArray), (x0 :: xr)[j]? = some x → W.cell? ⟨bk, o + j, none⟩ = some (.string x) := fun j x hj => hW.cell (ea j ▸ hcell j x hj)
   have hbk : bk < W.heap.size := by
    rcases Nat.lt_or_ge bk W.heap.size with h' | h'
    ·exact h'
    ·have := hc' 0 x0 rfl
     simp [World.cell?, Array.getElem?_eq_none h'] at this
   exact Go.Proofs.Any.strings_Join lays156 lays156_extra bk o n0_0 (x0 :: xr) a1 W hc' hbk (by omega) hf0_0.le hlen

/-! 23 labels_Print  -/
noncomputable def labels_Print_l72 (j8 : ByteArray × (List S49)) : ((List ByteArray) × Int) → Option (((List ByteArray) × Int) ⊕ ((List ByteArray))) := fun s55 =>
 bif (decide (s55.2 < (j8.2.length : Int))) then
 (Option.bind (ix j8.2 s55.2) fun (x75 : S49) =>
  Option.bind (sadd x75.f0 (⟨#[61]⟩ : ByteArray)) fun (s84 : ByteArray) =>
  Option.bind (labels_quoted x75.f1) fun (y86 : ByteArray) =>
  Option.bind (sadd s84 y86) fun (s88 : ByteArray) =>
  Option.bind (app s55.1 [s88]) fun (zs94 : List ByteArray) =>
  some (Sum.inl (zs94, (IntKind.wrap .i64 (s55.2 + 1)))))
 else
 (some (Sum.inr s55.1))
noncomputable def labels_Print (a0 : List S49) : Option (ByteArray × Int) :=
 Option.bind (labels_right a0) fun (y1 : Int) =>
 bif (y1 != 0) then
 (some ((⟨#[]⟩ : ByteArray), y1))
 else
 (Option.bind (labels_Get a0 (⟨#[95, 95, 110, 97, 109, 101, 95, 95]⟩ : ByteArray)) fun (y4 : ByteArray) =>
  Option.bind (labels_Metric y4) fun (y6 : Bool) =>
  Option.bind (bif y6 then
   (Option.bind (labels_pick a0 false [(⟨#[95, 95, 110, 97, 109, 101, 95, 95]⟩ : ByteArray)]) fun (y25 : (List S49)) =>
    some (y4, y25))
   else
   (some ((⟨#[]⟩ : ByteArray), a0))) fun (j8 : ByteArray × (List S49)) =>
  bif ((!(j8.1.toList == (⟨#[]⟩ : ByteArray).toList)) && ((j8.2.length : Int) == 0)) then
  (some (j8.1, 0))
  else
  (Option.bind (loopO (labels_Print_l72 j8) ([], 0)) fun (r53 : (List ByteArray)) =>
   Option.bind (sadd j8.1 (⟨#[123]⟩ : ByteArray)) fun (s100 : ByteArray) =>
   Option.bind (strings_Join r53 (⟨#[44]⟩ : ByteArray)) fun (y102 : ByteArray) =>
   Option.bind (sadd s100 y102) fun (s104 : ByteArray) =>
   Option.bind (sadd s104 (⟨#[125]⟩ : ByteArray)) fun (s106 : ByteArray) =>
   some (s106, 0)))
theorem labels_Print_walk {a0 : List S49} {A0_0 : Option Addr} {n0_0 : Nat} {I : Imm} {r : ByteArray × Int} (hG : Gl I)  (hf0_0 : RepS kS49 I A0_0 n0_0 a0) (hr : labels_Print a0 = some r) (L : Own) :
  CallsTo Tryz.prog 23 #[.slice A0_0 a0.length n0_0] I L (fun v I' L' => v = .tuple #[.string r.1, .int .i64 r.2] ∧ L = L') := by
 unfold labels_Print at hr
 refine callsTo_body (N := 54) Tryz.func23 (by kernel_rfl) (by kernel_rfl) (by kernel_rfl) ?_
 refine qq [0] [(0, .slice A0_0 a0.length n0_0)] (qk (qR (qp 2 [0] [(0, .slice A0_0 a0.length n0_0)] (qE (qs (qk (qk (qR (qp 1 [0, 10] [(0, .slice A0_0 a0.length n0_0), (10, .slice A0_0 a0.length n0_0)] ?_)))))))))
 obtain ⟨y1, hx2, hr⟩ := bind_some hr
 refine gl_callQ (by kernel_rfl) (labels_right_walk (r := y1) hG hf0_0 hx2 _) ?_
 refine qp 1 [0, 4] [(0, .slice A0_0 a0.length n0_0), (4, .int .i64 y1)] (qE (qs (qk (qR (qp 2 [0, 4, 13] [(0, .slice A0_0 a0.length n0_0), (4, .int .i64 y1), (13, .bool (y1 != 0))] (qE (qs ?_)))))))
 refine gk_cond (b := (y1 != 0)) (by kernel_rfl) (by kernel_rfl) (fun hc3 => ?_) (fun hc3 => ?_)
 ·have hr := cond_t hc3 hr
  refine qk (qR (qp 3 [2, 3] [(2, .string (⟨#[]⟩ : ByteArray)), (3, .int .i64 y1)] (qE (qs (qt (qu ?_))))))
  obtain rfl := some_inj hr
  exact ge_result trivial (ResOk.tmp (by kernel_rfl) (ResOk.tmp (by kernel_rfl) ResOk.nil)) (Imm.refl _) ⟨rfl, rfl⟩
 ·have hr := cond_f hc3 hr
  refine qx (qs (qk (qR (qp 1 [0, 15] [(0, .slice A0_0 a0.length n0_0), (15, .slice A0_0 a0.length n0_0)] ?_))))
  obtain ⟨y4, hx5, hr⟩ := bind_some hr
  refine gl_callQ (by kernel_rfl) (labels_Get_walk (r := y4) hf0_0 hx5 _) ?_
  refine qp 1 [0, 5] [(0, .slice A0_0 a0.length n0_0), (5, .string y4)] (qE (qs (qk (qR (qp 2 [0, 5, 6] [(0, .slice A0_0 a0.length n0_0), (5, .string y4), (6, .slice A0_0 a0.length n0_0)] (qE (qs (qk (qk (qR (qp 1 [0, 5, 6, 18] [(0, .slice A0_0 a0.length n0_0), (5, .string y4), (6, .slice A0_0 a0.length n0_0), (18, .string y4)] ?_)))))))))))
  obtain ⟨y6, hx7, hr⟩ := bind_some hr
  refine gl_callQ (by kernel_rfl) (labels_Metric_walk (r := y6)  hx7 _) ?_
  refine qE (qs ?_)
  obtain ⟨j8, hj9, hr⟩ := bind_some hr
  refine gk_join (fun t I' L' => ∃ A11 n12, RepS kS49 I' A11 n12 j8.2 ∧ I ≤ I' ∧ L = L' ∧ Knows 54 [(5, .string j8.1), (6, .slice A11 j8.2.length n12)] t) ?_ ?_
  ·refine gk_cond (b := y6) (by kernel_rfl) (by kernel_rfl) (fun hc16 => ?_) (fun hc16 => ?_)
   ·have hj9 := cond_t hc16 hj9
    refine qR (qp 1 [5, 20] [(5, .string y4), (20, .slice A0_0 a0.length n0_0)] ?_)
    refine gl_buildSlice (T' := 44) (e := 9) (n := 1) (len := 1) (parts := #[(0, (.const (.string (⟨#[95, 95, 110, 97, 109, 101, 95, 95]⟩ : ByteArray))))]) (l := [(0, .string (⟨#[95, 95, 110, 97, 109, 101, 95, 95]⟩ : ByteArray))]) (cs := #[.string (⟨#[95, 95, 110, 97, 109, 101, 95, 95]⟩ : ByteArray)]) (by kernel_rfl) (by kernel_rfl) (by kernel_rfl) (by kernel_rfl) (by kernel_rfl) (fun g17 => ?_)
    have hO18 : OwnS Kd.str 9 I (some ⟨g17, 0, none⟩) 1 [(⟨#[95, 95, 110, 97, 109, 101, 95, 95]⟩ : ByteArray)] [(g17, .cells #[.string (⟨#[95, 95, 110, 97, 109, 101, 95, 95]⟩ : ByteArray)] 9)] := OwnS.lit (row_cons (l := [.string (⟨#[95, 95, 110, 97, 109, 101, 95, 95]⟩ : ByteArray)]) rfl (row_nil _ _)) rfl rfl rfl
    refine gl_reord (D := [(g17, .cells #[.string (⟨#[95, 95, 110, 97, 109, 101, 95, 95]⟩ : ByteArray)] 9)] ++ L) (Reord.refl _) ?_
    refine gl_rest (Tk.step (Upd.rmC _ _) (Tk.nil _)) (fun J21 hJ22 hC23 => ?_)
    have hf24 := (OwnS.rest hO18 hJ22 hC23.left)
    obtain ⟨y25, hx26, hj9⟩ := bind_some hj9
    refine gl_call (by kernel_rfl) (labels_pick_walk (r := y25) (hf0_0.mono hJ22) hf24 hx26 _) ?_
    rintro v I27 L28 hI29 ⟨A30, c31, C32, hO33, rfl, rfl⟩
    refine qp 1 [5, 6] [(5, .string y4), (6, .slice A30 y25.length c31)] ?_
    refine gl_rest (Tk.step (Upd.rmC _ _) (Tk.nil _)) (fun J34 hJ35 hC36 => ?_)
    have hf37 := (OwnS.rest hO33 hJ35 hC36.left)
    refine qE ?_
    obtain rfl := some_inj hj9
    exact ge_mid fun t ht => ⟨A30, c31, hf37, (Imm.trans (Imm.trans hJ22 hI29) hJ35), rfl, ht.pick (l := [5, 6]) (by kernel_rfl)⟩
   ·have hj9 := cond_f hc16 hj9
    refine qR (qp 1 [5, 6] [(5, .string (⟨#[]⟩ : ByteArray)), (6, .slice A0_0 a0.length n0_0)] (qE ?_))
    obtain rfl := some_inj hj9
    exact ge_mid fun t ht => ⟨A0_0, n0_0, hf0_0, (Imm.refl _), rfl, ht.pick (l := [5, 6]) (by kernel_rfl)⟩
  ·rintro t I15 L' ⟨A11, n12, hf13, hI10, rfl, hK14⟩
   refine ge_at hK14 ?_
   refine qs (qk (qk ?_))
   obtain ⟨b40, hb41⟩ : ∃ z, z = ((!(j8.1.toList == (⟨#[]⟩ : ByteArray).toList)) && ((j8.2.length : Int) == 0)) := ⟨_, rfl⟩
   refine gk_join (fun t I' L' => I15 ≤ I' ∧ L = L' ∧ Knows 54 [(5, .string j8.1), (6, .slice A11 j8.2.length n12), (29, .bool b40)] t) ?_ ?_
   ·refine qR (qp 3 [5, 6, 25] [(5, .string j8.1), (6, .slice A11 j8.2.length n12), (25, .bool (!(j8.1.toList == (⟨#[]⟩ : ByteArray).toList)))] ?_)
    refine gl_case 25 (b := (!(j8.1.toList == (⟨#[]⟩ : ByteArray).toList))) (by kernel_rfl) (fun hc43 => ?_) (fun hc43 => ?_)
    ·refine qp 4 [5, 6, 29] [(5, .string j8.1), (6, .slice A11 j8.2.length n12), (29, .bool ((j8.2.length : Int) == 0))] (qE ?_)
     exact ge_mid fun t ht => ⟨(Imm.refl _), rfl, by rw [(show b40 = ((j8.2.length : Int) == 0) from hb41.trans (by first | (rw [hc43]; done) | (rw [hc43]; rfl) | (simp [hc43]; done) | (simp only [hc43]; rfl) | (simp at *; omega)))]; exact ht.pick (l := [5, 6, 29]) (by kernel_rfl)⟩
    ·refine qp 4 [5, 6, 29] [(5, .string j8.1), (6, .slice A11 j8.2.length n12), (29, .bool false)] (qE ?_)
     exact ge_mid fun t ht => ⟨(Imm.refl _), rfl, by rw [(show b40 = false from hb41.trans (by first | (rw [hc43]; done) | (rw [hc43]; rfl) | (simp [hc43]; done) | (simp only [hc43]; rfl) | (simp at *; omega)))]; exact ht.pick (l := [5, 6, 29]) (by kernel_rfl)⟩
   ·rintro t I42 L' ⟨hI38, rfl, hK39⟩
    subst hb41
    refine ge_at hK39 ?_
    refine qs ?_
    refine gk_cond (b := ((!(j8.1.toList == (⟨#[]⟩ : ByteArray).toList)) && ((j8.2.length : Int) == 0))) (by kernel_rfl) (by kernel_rfl) (fun hc44 => ?_) (fun hc44 => ?_)
    ·have hr := cond_t hc44 hr
     refine qk (qR (qp 3 [2, 3] [(2, .string j8.1), (3, .int .i64 0)] (qE (qs (qt (qu ?_))))))
     obtain rfl := some_inj hr
     exact ge_result trivial (ResOk.tmp (by kernel_rfl) (ResOk.tmp (by kernel_rfl) ResOk.nil)) (Imm.trans hI10 hI38) ⟨rfl, rfl⟩
    ·have hr := cond_f hc44 hr
     refine qx (qs (qk (qR (qp 1 [5, 6, 7] [(5, .string j8.1), (6, .slice A11 j8.2.length n12), (7, .slice none 0 0)] (qE (qs (qk (qk (qR (qp 3 [5, 7, 31, 32, 33] [(5, .string j8.1), (7, .slice none 0 0), (31, .slice A11 j8.2.length n12), (32, .int .i64 (j8.2.length : Int)), (33, .int .i64 0)] (qE ?_)))))))))))
     refine qs ?_
     obtain ⟨r53, hl54, hr⟩ := bind_some hr
     refine gk_join (fun t I' L' => ∃ A66 n67 C68, OwnS Kd.str 9 I' A66 n67 r53 C68 ∧ I42 ≤ I' ∧ C68 ++ L = L' ∧ Knows 54 [(5, .string j8.1), (7, .slice A66 r53.length n67)] t) ?_ ?_
     ·refine qb (qq [5, 7, 31, 32, 33] [(5, .string j8.1), (7, .slice none 0 0), (31, .slice A11 j8.2.length n12), (32, .int .i64 (j8.2.length : Int)), (33, .int .i64 0)] ?_)
      intro t hK
      refine gc_loop (labels_Print_l72 j8) (fun s55 t I' L' => ∃ A59 n60 C61, OwnS Kd.str 9 I' A59 n60 s55.1 C61 ∧ I42 ≤ I' ∧ C61 ++ L = L' ∧ Knows 54 [(5, .string j8.1), (7, .slice A59 s55.1.length n60), (31, .slice A11 j8.2.length n12), (32, .int .i64 (j8.2.length : Int)), (33, .int .i64 s55.2)] t) (by kernel_rfl) ?_ hl54 ⟨none, 0, [], OwnS.nil _ _ _ _, (Imm.refl _), rfl, hK⟩
      rintro s55 o56 t I64 L' hb57 ⟨A59, n60, C61, hO62, hI58, rfl, hK63⟩
      unfold labels_Print_l72 at hb57
      refine gk_at hK63 ?_
      refine qk (qR (qp 1 [5, 7, 31, 32, 33, 34] [(5, .string j8.1), (7, .slice A59 s55.1.length n60), (31, .slice A11 j8.2.length n12), (32, .int .i64 (j8.2.length : Int)), (33, .int .i64 s55.2), (34, .bool (decide (s55.2 < (j8.2.length : Int))))] (qE (qs (qk ?_)))))
      refine gk_cond (b := (decide (s55.2 < (j8.2.length : Int)))) (by kernel_rfl) (by kernel_rfl) (fun hc74 => ?_) (fun hc74 => ?_)
      ·have hb57 := cond_t hc74 hb57
       refine qx (qs (qk (qb (qk (qR ?_)))))
       obtain ⟨x75, hx76, hb57⟩ := bind_some hb57
       obtain ⟨p77, cs78, hR79, hA80, ha81⟩ := RepS.ixAt hx76 (hf13.mono (Imm.trans hI38 hI58))
       have hi82 := ix_some hx76
       obtain rfl := kS49_open hR79
       refine gl_indexAddrF (c := n12) (T' := 22) (e := 50) (xs := (.tmp 31)) (xi := (.tmp 33)) (kd := .i64) ha81 hi82.1 hi82.2.1 (by kernel_rfl) (by kernel_rfl) (by kernel_rfl) (by kernel_rfl) (by kernel_rfl) ?_
       refine gl_loadA (T' := 50) (xp := (.tmp 35)) (p := p77) (cs := [.string x75.f0, .string x75.f1]) (by kernel_rfl) (by kernel_rfl) (by kernel_rfl) (by kernel_rfl) (hA80.take 2) ?_
       refine gl_alloc (T' := 50) (cs := #[.string (⟨#[]⟩ : ByteArray), .string (⟨#[]⟩ : ByteArray)]) (by kernel_rfl) (by kernel_rfl) (by kernel_rfl) (fun g83 => ?_)
       refine gl_storeB (T' := 50) (xp := (.tmp 9)) (xv := (.tmp 36)) (v := .agg #[.string x75.f0, .string x75.f1]) (g := g83) (off := 0) (cs := #[.string (⟨#[]⟩ : ByteArray), .string (⟨#[]⟩ : ByteArray)]) (cs' := #[.string x75.f0, .string x75.f1]) (by kernel_rfl) (by kernel_rfl) (by kernel_rfl) (by kernel_rfl) (by kernel_rfl) (Upd.set _ _ _ _) ?_ (by kernel_rfl)
       refine qE (qs ?_)
       refine gk_draw 9 [(0, true), (1, true), (2, true), (3, true), (4, true), (5, true), (6, true), (7, true), (8, false)] [(g83, .cells #[.string x75.f0, .string x75.f1] 50)] (fmc ⟨mcs, nim⟩) (by kernel_rfl) (by kernel_rfl) (by kernel_rfl) ?_ (by kernel_rfl)
       refine dp 2 [5, 7, 9, 31, 32, 33, 37, 38] [(5, .string j8.1), (7, .slice A59 s55.1.length n60), (9, .pointer (some ⟨g83, 0, none⟩)), (31, .slice A11 j8.2.length n12), (32, .int .i64 (j8.2.length : Int)), (33, .int .i64 s55.2), (37, .slice A59 s55.1.length n60), (38, .pointer (some ⟨g83, 0, none⟩))] [(2, true), (3, true), (4, true), (5, true), (6, true), (7, true), (8, false)] (CC.refl (fmc ⟨mcs, nim⟩)) ?_
       refine gd_q (v := .string x75.f0) (by kernel_rfl) (by kernel_rfl) (CC.refl (fmc ⟨mcs, nim⟩)) (fun I' L' T hC kk => gl_loadB (T' := 9) (xp := (.tmp 38)) (v := .string x75.f0) (g := g83) (off := 0) (cs := #[.string x75.f0, .string x75.f1]) (e := 50) (fz := (0, 0)) (by kernel_rfl) (by kernel_rfl) (by kernel_rfl) (hC.sub _ mcs) (by kernel_rfl) kk) ?_
       obtain ⟨s84, hx85, hb57⟩ := bind_some hb57
       refine gd_q (v := .string s84) (by kernel_rfl) (by kernel_rfl) (CC.refl (fmc ⟨mcs, nim⟩)) (fun I' L' T hC kk => gl_sadd (t := 9) (t' := 9) (x := (.tmp 39)) (y := (.const (.string (⟨#[61]⟩ : ByteArray)))) hx85 (by kernel_rfl) (by kernel_rfl) (by kernel_rfl) (by kernel_rfl) kk) ?_
       refine dp 1 [5, 7, 31, 32, 33, 37, 40, 41] [(5, .string j8.1), (7, .slice A59 s55.1.length n60), (31, .slice A11 j8.2.length n12), (32, .int .i64 (j8.2.length : Int)), (33, .int .i64 s55.2), (37, .slice A59 s55.1.length n60), (40, .string s84), (41, .pointer (some ⟨g83, 1, none⟩))] [(5, true), (6, true), (7, true), (8, false)] (CC.refl (fmc ⟨mcs, nim⟩)) ?_
       refine gd_q (v := .string x75.f1) (by kernel_rfl) (by kernel_rfl) (CC.refl (fmc ⟨mcs, nim⟩)) (fun I' L' T hC kk => gl_loadB (T' := 9) (xp := (.tmp 41)) (v := .string x75.f1) (g := g83) (off := 1) (cs := #[.string x75.f0, .string x75.f1]) (e := 50) (fz := (0, 0)) (by kernel_rfl) (by kernel_rfl) (by kernel_rfl) (hC.sub _ mcs) (by kernel_rfl) kk) ?_
       obtain ⟨y86, hx87, hb57⟩ := bind_some hb57
       refine gd_q (v := .string y86) (by kernel_rfl) (by kernel_rfl) (CC.refl (fmc ⟨mcs, nim⟩)) (fun I' L' T hC kk => gl_callQ (by kernel_rfl) (labels_quoted_walk (r := y86) ((hG.mono (Imm.trans (Imm.trans hI10 hI38) hI58)).mono hC.le) hx87 _) kk) ?_
       obtain ⟨s88, hx89, hb57⟩ := bind_some hb57
       refine gd_q (v := .string s88) (by kernel_rfl) (by kernel_rfl) (CC.refl (fmc ⟨mcs, nim⟩)) (fun I' L' T hC kk => gl_sadd (t := 9) (t' := 9) (x := (.tmp 40)) (y := (.tmp 43)) hx89 (by kernel_rfl) (by kernel_rfl) (by kernel_rfl) (by kernel_rfl) kk) ?_
       refine gd_one (by kernel_rfl) ?_
       refine gl_buildSlice (T' := 44) (e := 9) (n := 1) (len := 1) (parts := #[(0, (.tmp 44))]) (l := [(0, .string s88)]) (cs := #[.string s88]) (by kernel_rfl) (by kernel_rfl) (by kernel_rfl) (by kernel_rfl) (by kernel_rfl) (fun g90 => ?_)
       have hO91 : OwnS Kd.str 9 I64 (some ⟨g90, 0, none⟩) 1 [s88] [(g90, .cells #[.string s88] 9)] := OwnS.lit (row_cons (l := [.string s88]) rfl (row_nil _ _)) rfl rfl rfl
       refine gl_reord (D := [(g90, .cells #[.string s88] 9)] ++ ((g83, .cells #[.string x75.f0, .string x75.f1] 50) :: (C61 ++ L))) (Reord.refl _) ?_
       refine gl_toD (by kernel_rfl) ⟨(Imm.refl _), (fmc ⟨(mar mcs), nim⟩)⟩ ?_
       refine gd_done ?_
       obtain ⟨zs94, hz95, hb57⟩ := bind_some hb57
       refine gl_append (xv := .slice (some ⟨g90, 0, none⟩) [s88].length 1) (d := Kd.str) (t := 44) (tx := 44) (e := 9) (s := (.tmp 37)) (x := (.tmp 45)) (xs := s55.1) (fun X => [(g90, .cells #[.string s88] 9)] ++ ((g83, .cells #[.string x75.f0, .string x75.f1] 50) :: (X ++ L))) hz95 (by kernel_rfl) (by kernel_rfl) (by kernel_rfl) (by kernel_rfl) (by kernel_rfl) (by kernel_rfl) (fun X => (Upd.app _ (Upd.one _ (Upd.head _ X _)))) hO62 (SrcOk.slice (c := 1) (e := 9) (n := 1) (OwnS.rd hO91 (Upd.selfC _ _)) (by kernel_rfl)) (fun A96 n97 C98 hO99 => ?_)
       refine qp 1 [5, 7, 31, 32, 33] [(5, .string j8.1), (7, .slice A96 zs94.length n97), (31, .slice A11 j8.2.length n12), (32, .int .i64 (j8.2.length : Int)), (33, .int .i64 s55.2)] (qE (qn (qs (qR (qp 2 [5, 7, 31, 32, 33] [(5, .string j8.1), (7, .slice A96 zs94.length n97), (31, .slice A11 j8.2.length n12), (32, .int .i64 (j8.2.length : Int)), (33, .int .i64 (IntKind.wrap .i64 (s55.2 + 1)))] ?_)))))
       refine gl_reord (D := C98 ++ L) (Reord.step (Upd.app _ (Upd.one _ (Upd.rmC _ _))) (Reord.skipC (Reord.skip (Reord.refl _)))) ?_
       refine qE ?_
       obtain rfl := some_inj hb57
       exact ge_round fun t ht => ⟨A96, n97, C98, hO99, hI58, rfl, ht.pick (l := [5, 7, 31, 32, 33]) (by kernel_rfl)⟩
      ·have hb57 := cond_f hc74 hb57
       refine qe (qf ?_)
       obtain rfl := some_inj hb57
       refine ge_round_out (fun hrr => ?_) (by intro h; cases h)
       obtain rfl := hrr
       refine qh ?_
       exact ge_mid fun t ht => ⟨A59, n60, C61, hO62, hI58, rfl, ht.pick (l := [5, 7]) (by kernel_rfl)⟩
     ·rintro t I71 L' ⟨A66, n67, C68, hO69, hI65, rfl, hK70⟩
      refine ge_at hK70 ?_
      refine qs (qk (qR (qp 1 [7, 48] [(7, .slice A66 r53.length n67), (48, .string j8.1)] ?_)))
      obtain ⟨s100, hx101, hr⟩ := bind_some hr
      refine gl_sadd (t := 9) (t' := 9) (x := (.tmp 48)) (y := (.const (.string (⟨#[123]⟩ : ByteArray)))) hx101 (by kernel_rfl) (by kernel_rfl) (by kernel_rfl) (by kernel_rfl) ?_
      refine qp 1 [49, 50] [(49, .string s100), (50, .slice A66 r53.length n67)] ?_
      obtain ⟨y102, hx103, hr⟩ := bind_some hr
      refine gl_callB (r := .string y102) (Tk.step (Upd.rmC _ _) (Tk.nil _)) (by kernel_rfl) (fun J hJ hC => strings_Join_walk (r := y102) (hG.mono (Imm.trans (Imm.trans (Imm.trans hI10 hI38) hI65) hJ)) (OwnS.rest hO69 hJ hC.left) hx103 _) ?_
      obtain ⟨s104, hx105, hr⟩ := bind_some hr
      refine gl_sadd (t := 9) (t' := 9) (x := (.tmp 49)) (y := (.tmp 51)) hx105 (by kernel_rfl) (by kernel_rfl) (by kernel_rfl) (by kernel_rfl) ?_
      obtain ⟨s106, hx107, hr⟩ := bind_some hr
      refine gl_sadd (t := 9) (t' := 9) (x := (.tmp 52)) (y := (.const (.string (⟨#[125]⟩ : ByteArray)))) hx107 (by kernel_rfl) (by kernel_rfl) (by kernel_rfl) (by kernel_rfl) ?_
      refine qp 2 [2, 3] [(2, .string s106), (3, .int .i64 0)] (qE (qs ?_))
      refine gk_reord (D := L) (Reord.skipC (Reord.refl _)) ?_
      refine qt ?_
      obtain rfl := some_inj hr
      exact ge_result trivial (ResOk.tmp (by kernel_rfl) (ResOk.tmp (by kernel_rfl) ResOk.nil)) (Imm.trans (Imm.trans hI10 hI38) hI65) ⟨rfl, rfl⟩
/-! 59 tocsinref04_letter  -/
noncomputable def tocsinref04_letter (a0 : Int) : Bool :=
 ((((decide (a0 ≥ 97)) && (decide (a0 ≤ 122))) || ((decide (a0 ≥ 65)) && (decide (a0 ≤ 90)))) || (a0 == 95))
theorem tocsinref04_letter_walk {a0 : Int} {I : Imm} {r : Bool}  (hr : tocsinref04_letter a0 = r) (L : Own) :
  CallsTo Tryz.prog 59 #[.int .u8 a0] I L (fun v I' L' => v = .bool r ∧ L = L') := by
 replace hr : some (tocsinref04_letter a0) = some r := congrArg some hr
 unfold tocsinref04_letter at hr
 refine callsTo_body (N := 21) Tryz.func59 (by kernel_rfl) (by kernel_rfl) (by kernel_rfl) ?_
 refine qq [0] [(0, .int .u8 a0)] (qk (qR (qp 1 [0] [(0, .int .u8 a0)] (qE (qs (qk ?_))))))
 obtain ⟨b3, hb4⟩ : ∃ z, z = ((((decide (a0 ≥ 97)) && (decide (a0 ≤ 122))) || ((decide (a0 ≥ 65)) && (decide (a0 ≤ 90)))) || (a0 == 95)) := ⟨_, rfl⟩
 refine gk_join (fun t I' L' => I ≤ I' ∧ L = L' ∧ Knows 21 [(2, .bool b3)] t) ?_ ?_
 ·refine qR (qp 3 [0, 5] [(0, .int .u8 a0), (5, .bool (decide (a0 ≥ 97)))] ?_)
  refine gl_case 5 (b := (decide (a0 ≥ 97))) (by kernel_rfl) (fun hc6 => ?_) (fun hc6 => ?_)
  ·refine qp 4 [0, 9] [(0, .int .u8 a0), (9, .bool (decide (a0 ≤ 122)))] ?_
   refine gl_case 9 (b := (decide (a0 ≤ 122))) (by kernel_rfl) (fun hc7 => ?_) (fun hc7 => ?_)
   ·refine qp 12 [2] [(2, .bool true)] (qE ?_)
    exact ge_mid fun t ht => ⟨(Imm.refl _), rfl, by rw [(show b3 = true from hb4.trans (by first | (rw [hc6, hc7]; done) | (rw [hc6, hc7]; rfl) | (simp [hc6, hc7]; done) | (simp only [hc6, hc7]; rfl) | (simp at *; omega)))]; exact ht.pick (l := [2]) (by kernel_rfl)⟩
   ·refine qp 3 [0, 9, 12] [(0, .int .u8 a0), (9, .bool false), (12, .bool (decide (a0 ≥ 65)))] ?_
    refine gl_case 12 (b := (decide (a0 ≥ 65))) (by kernel_rfl) (fun hc8 => ?_) (fun hc8 => ?_)
    ·refine qp 5 [0, 17] [(0, .int .u8 a0), (17, .bool (decide (a0 ≤ 90)))] ?_
     refine gl_case 17 (b := (decide (a0 ≤ 90))) (by kernel_rfl) (fun hc9 => ?_) (fun hc9 => ?_)
     ·refine qp 4 [2] [(2, .bool true)] (qE ?_)
      exact ge_mid fun t ht => ⟨(Imm.refl _), rfl, by rw [(show b3 = true from hb4.trans (by first | (rw [hc6, hc7, hc8, hc9]; done) | (rw [hc6, hc7, hc8, hc9]; rfl) | (simp [hc6, hc7, hc8, hc9]; done) | (simp only [hc6, hc7, hc8, hc9]; rfl) | (simp at *; omega)))]; exact ht.pick (l := [2]) (by kernel_rfl)⟩
     ·refine qp 4 [2] [(2, .bool (a0 == 95))] (qE ?_)
      exact ge_mid fun t ht => ⟨(Imm.refl _), rfl, by rw [(show b3 = (a0 == 95) from hb4.trans (by first | (rw [hc6, hc7, hc8, hc9]; done) | (rw [hc6, hc7, hc8, hc9]; rfl) | (simp [hc6, hc7, hc8, hc9]; done) | (simp only [hc6, hc7, hc8, hc9]; rfl) | (simp at *; omega)))]; exact ht.pick (l := [2]) (by kernel_rfl)⟩
    ·refine qp 9 [2] [(2, .bool (a0 == 95))] (qE ?_)
     exact ge_mid fun t ht => ⟨(Imm.refl _), rfl, by rw [(show b3 = (a0 == 95) from hb4.trans (by first | (rw [hc6, hc7, hc8]; done) | (rw [hc6, hc7, hc8]; rfl) | (simp [hc6, hc7, hc8]; done) | (simp only [hc6, hc7, hc8]; rfl) | (simp at *; omega)))]; exact ht.pick (l := [2]) (by kernel_rfl)⟩
  ·refine qp 7 [0, 9, 12] [(0, .int .u8 a0), (9, .bool false), (12, .bool (decide (a0 ≥ 65)))] ?_
   refine gl_case 12 (b := (decide (a0 ≥ 65))) (by kernel_rfl) (fun hc10 => ?_) (fun hc10 => ?_)
   ·refine qp 5 [0, 17] [(0, .int .u8 a0), (17, .bool (decide (a0 ≤ 90)))] ?_
    refine gl_case 17 (b := (decide (a0 ≤ 90))) (by kernel_rfl) (fun hc11 => ?_) (fun hc11 => ?_)
    ·refine qp 4 [2] [(2, .bool true)] (qE ?_)
     exact ge_mid fun t ht => ⟨(Imm.refl _), rfl, by rw [(show b3 = true from hb4.trans (by first | (rw [hc6, hc10, hc11]; done) | (rw [hc6, hc10, hc11]; rfl) | (simp [hc6, hc10, hc11]; done) | (simp only [hc6, hc10, hc11]; rfl) | (simp at *; omega)))]; exact ht.pick (l := [2]) (by kernel_rfl)⟩
    ·refine qp 4 [2] [(2, .bool (a0 == 95))] (qE ?_)
     exact ge_mid fun t ht => ⟨(Imm.refl _), rfl, by rw [(show b3 = (a0 == 95) from hb4.trans (by first | (rw [hc6, hc10, hc11]; done) | (rw [hc6, hc10, hc11]; rfl) | (simp [hc6, hc10, hc11]; done) | (simp only [hc6, hc10, hc11]; rfl) | (simp at *; omega)))]; exact ht.pick (l := [2]) (by kernel_rfl)⟩
   ·refine qp 9 [2] [(2, .bool (a0 == 95))] (qE ?_)
    exact ge_mid fun t ht => ⟨(Imm.refl _), rfl, by rw [(show b3 = (a0 == 95) from hb4.trans (by first | (rw [hc6, hc10]; done) | (rw [hc6, hc10]; rfl) | (simp [hc6, hc10]; done) | (simp only [hc6, hc10]; rfl) | (simp at *; omega)))]; exact ht.pick (l := [2]) (by kernel_rfl)⟩
 ·rintro t I5 L' ⟨hI1, rfl, hK2⟩
  subst hb4
  refine ge_at hK2 ?_
  refine qs (qt ?_)
  obtain rfl := some_inj hr
  exact ge_result trivial (ResOk.tmp (by kernel_rfl) ResOk.nil) hI1 ⟨rfl, rfl⟩
/-! 60 tocsinref04_digit  -/
noncomputable def tocsinref04_digit (a0 : Int) : Bool :=
 ((decide (a0 ≥ 48)) && (decide (a0 ≤ 57)))
theorem tocsinref04_digit_walk {a0 : Int} {I : Imm} {r : Bool}  (hr : tocsinref04_digit a0 = r) (L : Own) :
  CallsTo Tryz.prog 60 #[.int .u8 a0] I L (fun v I' L' => v = .bool r ∧ L = L') := by
 replace hr : some (tocsinref04_digit a0) = some r := congrArg some hr
 unfold tocsinref04_digit at hr
 refine callsTo_body (N := 9) Tryz.func60 (by kernel_rfl) (by kernel_rfl) (by kernel_rfl) ?_
 refine qq [0] [(0, .int .u8 a0)] (qk (qR (qp 1 [0] [(0, .int .u8 a0)] (qE (qs (qk ?_))))))
 obtain ⟨b3, hb4⟩ : ∃ z, z = ((decide (a0 ≥ 48)) && (decide (a0 ≤ 57))) := ⟨_, rfl⟩
 refine gk_join (fun t I' L' => I ≤ I' ∧ L = L' ∧ Knows 9 [(2, .bool b3)] t) ?_ ?_
 ·refine qR (qp 3 [0, 5] [(0, .int .u8 a0), (5, .bool (decide (a0 ≥ 48)))] ?_)
  refine gl_case 5 (b := (decide (a0 ≥ 48))) (by kernel_rfl) (fun hc6 => ?_) (fun hc6 => ?_)
  ·refine qp 4 [2] [(2, .bool (decide (a0 ≤ 57)))] (qE ?_)
   exact ge_mid fun t ht => ⟨(Imm.refl _), rfl, by rw [(show b3 = (decide (a0 ≤ 57)) from hb4.trans (by first | (rw [hc6]; done) | (rw [hc6]; rfl) | (simp [hc6]; done) | (simp only [hc6]; rfl) | (simp at *; omega)))]; exact ht.pick (l := [2]) (by kernel_rfl)⟩
  ·refine qp 4 [2] [(2, .bool false)] (qE ?_)
   exact ge_mid fun t ht => ⟨(Imm.refl _), rfl, by rw [(show b3 = false from hb4.trans (by first | (rw [hc6]; done) | (rw [hc6]; rfl) | (simp [hc6]; done) | (simp only [hc6]; rfl) | (simp at *; omega)))]; exact ht.pick (l := [2]) (by kernel_rfl)⟩
 ·rintro t I5 L' ⟨hI1, rfl, hK2⟩
  subst hb4
  refine ge_at hK2 ?_
  refine qs (qt ?_)
  obtain rfl := some_inj hr
  exact ge_result trivial (ResOk.tmp (by kernel_rfl) ResOk.nil) hI1 ⟨rfl, rfl⟩
/-! 18 tocsinref04_Name  -/
noncomputable def tocsinref04_Name_l24 (a0 : ByteArray) : Int → Option ((Int) ⊕ ((Unit) ⊕ (Bool))) := fun s14 =>
 bif (decide (s14 < (a0.size : Int))) then
 (Option.bind (Option.bind (bx a0 s14) fun (c32 : Int) =>
   bif (!(tocsinref04_letter c32)) then
   (bif (s14 == 0) then
    (some true)
    else
    (Option.bind (bx a0 s14) fun (c36 : Int) =>
     some (!(tocsinref04_digit c36))))
   else
   (some false)) fun (j27 : Bool) =>
  bif j27 then
  (some (Sum.inr (Sum.inr false)))
  else
  (some (Sum.inl (IntKind.wrap .i64 (s14 + 1)))))
 else
 (some (Sum.inr (Sum.inl ())))
noncomputable def tocsinref04_Name (a0 : ByteArray) : Option Bool :=
 bif ((a0.toList == (⟨#[]⟩ : ByteArray).toList) || (decide ((a0.size : Int) > 64))) then
 (some false)
 else
 (Option.bind (loopO (tocsinref04_Name_l24 a0) 0) fun (r12 : (Unit) ⊕ (Bool)) =>
  match r12 with
  | Sum.inl r20 => some true
  | Sum.inr v39 => some v39)
theorem tocsinref04_Name_walk {a0 : ByteArray} {I : Imm} {r : Bool}  (hr : tocsinref04_Name a0 = some r) (L : Own) :
  CallsTo Tryz.prog 18 #[.string a0] I L (fun v I' L' => v = .bool r ∧ L = L') := by
 unfold tocsinref04_Name at hr
 refine callsTo_body (N := 33) Tryz.func18 (by kernel_rfl) (by kernel_rfl) (by kernel_rfl) ?_
 refine qq [0] [(0, .string a0)] (qk (qR (qp 1 [0] [(0, .string a0)] (qE (qs (qk (qk ?_)))))))
 obtain ⟨b3, hb4⟩ : ∃ z, z = ((a0.toList == (⟨#[]⟩ : ByteArray).toList) || (decide ((a0.size : Int) > 64))) := ⟨_, rfl⟩
 refine gk_join (fun t I' L' => I ≤ I' ∧ L = L' ∧ Knows 33 [(0, .string a0), (10, .bool b3)] t) ?_ ?_
 ·refine qR (qp 3 [0, 6] [(0, .string a0), (6, .bool (a0.toList == (⟨#[]⟩ : ByteArray).toList))] ?_)
  refine gl_case 6 (b := (a0.toList == (⟨#[]⟩ : ByteArray).toList)) (by kernel_rfl) (fun hc6 => ?_) (fun hc6 => ?_)
  ·refine qp 4 [0, 10] [(0, .string a0), (10, .bool true)] (qE ?_)
   exact ge_mid fun t ht => ⟨(Imm.refl _), rfl, by rw [(show b3 = true from hb4.trans (by first | (rw [hc6]; done) | (rw [hc6]; rfl) | (simp [hc6]; done) | (simp only [hc6]; rfl) | (simp at *; omega)))]; exact ht.pick (l := [0, 10]) (by kernel_rfl)⟩
  ·refine qp 4 [0, 10] [(0, .string a0), (10, .bool (decide ((a0.size : Int) > 64)))] (qE ?_)
   exact ge_mid fun t ht => ⟨(Imm.refl _), rfl, by rw [(show b3 = (decide ((a0.size : Int) > 64)) from hb4.trans (by first | (rw [hc6]; done) | (rw [hc6]; rfl) | (simp [hc6]; done) | (simp only [hc6]; rfl) | (simp at *; omega)))]; exact ht.pick (l := [0, 10]) (by kernel_rfl)⟩
 ·rintro t I5 L' ⟨hI1, rfl, hK2⟩
  subst hb4
  refine ge_at hK2 ?_
  refine qs ?_
  refine gk_cond (b := ((a0.toList == (⟨#[]⟩ : ByteArray).toList) || (decide ((a0.size : Int) > 64)))) (by kernel_rfl) (by kernel_rfl) (fun hc7 => ?_) (fun hc7 => ?_)
  ·have hr := cond_t hc7 hr
   refine qk (qR (qp 1 [2] [(2, .bool false)] (qE (qs (qt (qu ?_))))))
   obtain rfl := some_inj hr
   exact ge_result trivial (ResOk.tmp (by kernel_rfl) ResOk.nil) hI1 ⟨rfl, rfl⟩
  ·have hr := cond_f hc7 hr
   refine qx (qs (qk (qk (qR (qp 3 [0, 12, 13] [(0, .string a0), (12, .int .i64 (a0.size : Int)), (13, .int .i64 0)] (qE (qs ?_)))))))
   obtain ⟨r12, hl13, hr⟩ := bind_some hr
   refine gk_join (fun t I' L' => ∃ r20, r12 = Sum.inl r20 ∧ I5 ≤ I' ∧ L = L' ∧ Knows 33 [] t) ?_ ?_
   ·refine qb (qq [0, 12, 13] [(0, .string a0), (12, .int .i64 (a0.size : Int)), (13, .int .i64 0)] ?_)
    intro t hK
    refine gc_loop (tocsinref04_Name_l24 a0) (fun s14 t I' L' => I5 ≤ I' ∧ L = L' ∧ Knows 33 [(0, .string a0), (12, .int .i64 (a0.size : Int)), (13, .int .i64 s14)] t) (by kernel_rfl) ?_ hl13 ⟨(Imm.refl _), rfl, hK⟩
    rintro s14 o15 t I19 L' hb16 ⟨hI17, rfl, hK18⟩
    unfold tocsinref04_Name_l24 at hb16
    refine gk_at hK18 ?_
    refine qk (qR (qp 1 [0, 12, 13, 14] [(0, .string a0), (12, .int .i64 (a0.size : Int)), (13, .int .i64 s14), (14, .bool (decide (s14 < (a0.size : Int))))] (qE (qs (qk ?_)))))
    refine gk_cond (b := (decide (s14 < (a0.size : Int)))) (by kernel_rfl) (by kernel_rfl) (fun hc26 => ?_) (fun hc26 => ?_)
    ·have hb16 := cond_t hc26 hb16
     refine qx (qs (qk (qb (qk (qR (qp 2 [0, 3, 12, 13] [(0, .string a0), (3, .int .i64 s14), (12, .int .i64 (a0.size : Int)), (13, .int .i64 s14)] (qE (qs (qk ?_)))))))))
     obtain ⟨j27, hj28, hb16⟩ := bind_some hb16
     refine gk_join (fun t I' L' => I19 ≤ I' ∧ L = L' ∧ Knows 33 [(0, .string a0), (12, .int .i64 (a0.size : Int)), (13, .int .i64 s14), (31, .bool j27)] t) ?_ ?_
     ·refine qR (qp 2 [0, 3, 12, 13, 16, 17] [(0, .string a0), (3, .int .i64 s14), (12, .int .i64 (a0.size : Int)), (13, .int .i64 s14), (16, .string a0), (17, .int .i64 s14)] ?_)
      obtain ⟨c32, hx33, hj28⟩ := bind_some hj28
      refine gl_index' (T' := 9) (xs := (.tmp 16)) (xi := (.tmp 17)) (kd := .i64) hx33 (by kernel_rfl) (by kernel_rfl) (by kernel_rfl) (by kernel_rfl) (by kernel_rfl) ?_
      refine gl_callQ (by kernel_rfl) (tocsinref04_letter_walk (r := (tocsinref04_letter c32))  rfl _) ?_
      refine qp 2 [0, 3, 12, 13, 21] [(0, .string a0), (3, .int .i64 s14), (12, .int .i64 (a0.size : Int)), (13, .int .i64 s14), (21, .bool (!(tocsinref04_letter c32)))] ?_
      refine gl_case 21 (b := (!(tocsinref04_letter c32))) (by kernel_rfl) (fun hc34 => ?_) (fun hc34 => ?_)
      ·have hj28 := cond_t hc34 hj28
       refine qp 3 [0, 3, 12, 13, 21, 24] [(0, .string a0), (3, .int .i64 s14), (12, .int .i64 (a0.size : Int)), (13, .int .i64 s14), (21, .bool true), (24, .bool (s14 == 0))] ?_
       refine gl_case 24 (b := (s14 == 0)) (by kernel_rfl) (fun hc35 => ?_) (fun hc35 => ?_)
       ·have hj28 := cond_t hc35 hj28
        refine qp 7 [0, 12, 13, 31] [(0, .string a0), (12, .int .i64 (a0.size : Int)), (13, .int .i64 s14), (31, .bool true)] (qE ?_)
        obtain rfl := some_inj hj28
        exact ge_mid fun t ht => ⟨(Imm.refl _), rfl, ht.pick (l := [0, 12, 13, 31]) (by kernel_rfl)⟩
       ·have hj28 := cond_f hc35 hj28
        refine qp 2 [0, 12, 13, 21, 24, 25, 26] [(0, .string a0), (12, .int .i64 (a0.size : Int)), (13, .int .i64 s14), (21, .bool true), (24, .bool false), (25, .string a0), (26, .int .i64 s14)] ?_
        obtain ⟨c36, hx37, hj28⟩ := bind_some hj28
        refine gl_index' (T' := 9) (xs := (.tmp 25)) (xi := (.tmp 26)) (kd := .i64) hx37 (by kernel_rfl) (by kernel_rfl) (by kernel_rfl) (by kernel_rfl) (by kernel_rfl) ?_
        refine gl_callQ (by kernel_rfl) (tocsinref04_digit_walk (r := (tocsinref04_digit c36))  rfl _) ?_
        refine qp 3 [0, 12, 13, 31] [(0, .string a0), (12, .int .i64 (a0.size : Int)), (13, .int .i64 s14), (31, .bool (!(tocsinref04_digit c36)))] (qE ?_)
        obtain rfl := some_inj hj28
        exact ge_mid fun t ht => ⟨(Imm.refl _), rfl, ht.pick (l := [0, 12, 13, 31]) (by kernel_rfl)⟩
      ·have hj28 := cond_f hc34 hj28
       refine qp 10 [0, 12, 13, 31] [(0, .string a0), (12, .int .i64 (a0.size : Int)), (13, .int .i64 s14), (31, .bool false)] (qE ?_)
       obtain rfl := some_inj hj28
       exact ge_mid fun t ht => ⟨(Imm.refl _), rfl, ht.pick (l := [0, 12, 13, 31]) (by kernel_rfl)⟩
     ·rintro t I31 L' ⟨hI29, rfl, hK30⟩
      refine ge_at hK30 ?_
      refine qs ?_
      refine gk_cond (b := j27) (by kernel_rfl) (by kernel_rfl) (fun hc38 => ?_) (fun hc38 => ?_)
      ·have hb16 := cond_t hc38 hb16
       refine qk (qR (qp 1 [2] [(2, .bool false)] (qE (qs (qt (qv (qu ?_)))))))
       obtain rfl := some_inj hb16
       refine ge_round_out (fun hrr => ?_) (by intro h; cases h)
       obtain rfl := hrr
       refine qv (qu (qu ?_))
       obtain rfl := some_inj hr
       exact ge_result trivial (ResOk.tmp (by kernel_rfl) ResOk.nil) (Imm.trans (Imm.trans hI1 hI17) hI29) ⟨rfl, rfl⟩
      ·have hb16 := cond_f hc38 hb16
       refine qx (qn (qs (qR (qp 2 [0, 12, 13] [(0, .string a0), (12, .int .i64 (a0.size : Int)), (13, .int .i64 (IntKind.wrap .i64 (s14 + 1)))] (qE ?_)))))
       obtain rfl := some_inj hb16
       exact ge_round fun t ht => ⟨(Imm.trans hI17 hI29), rfl, ht.pick (l := [0, 12, 13]) (by kernel_rfl)⟩
    ·have hb16 := cond_f hc26 hb16
     refine qe (qf ?_)
     obtain rfl := some_inj hb16
     refine ge_round_out (fun hrr => ?_) (by intro h; cases h)
     obtain rfl := hrr
     refine qh ?_
     exact ge_mid fun t ht => ⟨_, rfl, hI17, rfl, ht.pick (l := []) (by kernel_rfl)⟩
   ·rintro t I23 L' ⟨r20, rfl, hI21, rfl, hK22⟩
    refine ge_at hK22 ?_
    refine qs (qk (qR (qp 1 [2] [(2, .bool true)] (qE (qs (qt ?_))))))
    obtain rfl := some_inj hr
    exact ge_result trivial (ResOk.tmp (by kernel_rfl) ResOk.nil) (Imm.trans hI1 hI21) ⟨rfl, rfl⟩
/-! 103 tocsinref01_Utf8  -/
noncomputable def tocsinref01_Utf8_l79 (a0 : ByteArray) (s7 : Int) (j37 : Int × Int × Int) : (Int × Int) → Option ((Int × Int) ⊕ ((Int) ⊕ ((Int) ⊕ ((Int) ⊕ ((Unit) ⊕ (Bool)))))) := fun s69 =>
 bif (decide (s69.2 ≤ j37.1)) then
 (Option.bind (bif (decide ((IntKind.wrap .i64 (s7 + s69.2)) ≥ (a0.size : Int))) then
   (some true)
   else
   (Option.bind (bx a0 (IntKind.wrap .i64 (s7 + s69.2))) fun (c88 : Int) =>
    some ((bitAnd .u8 c88 192) != 128))) fun (j82 : Bool) =>
  bif j82 then
  (some (Sum.inr (Sum.inr (Sum.inr (Sum.inr (Sum.inr false))))))
  else
  (Option.bind (bx a0 (IntKind.wrap .i64 (s7 + s69.2))) fun (c91 : Int) =>
   some (Sum.inl ((IntKind.wrap .i64 ((IntKind.wrap .i64 (s69.1 * 64)) + (IntKind.wrap .i64 (bitAnd .u8 c91 63)))), (IntKind.wrap .i64 (s69.2 + 1))))))
 else
 (some (Sum.inr (Sum.inl s69.1)))
noncomputable def tocsinref01_Utf8_l17 (a0 : ByteArray) : Int → Option ((Int) ⊕ ((Unit) ⊕ (Bool))) := fun s7 =>
 bif (decide (s7 < (a0.size : Int))) then
 (Option.bind ((Option.bind (bx a0 s7) fun (c26 : Int) =>
   bif (decide ((IntKind.wrap .i64 c26) < 128)) then
   (some (Sum.inl (IntKind.wrap .i64 (s7 + 1))))
   else
   (Option.bind ((bif ((decide ((IntKind.wrap .i64 c26) ≥ 194)) && (decide ((IntKind.wrap .i64 c26) < 224))) then
     (some (Sum.inl (1, 128, (bitAnd .i64 (IntKind.wrap .i64 c26) 31))))
     else
     (Option.bind ((bif ((decide ((IntKind.wrap .i64 c26) ≥ 224)) && (decide ((IntKind.wrap .i64 c26) < 240))) then
       (some (Sum.inl (2, 2048, (bitAnd .i64 (IntKind.wrap .i64 c26) 15))))
       else
       (bif ((decide ((IntKind.wrap .i64 c26) ≥ 240)) && (decide ((IntKind.wrap .i64 c26) < 245))) then
        (some (Sum.inl (3, 65536, (bitAnd .i64 (IntKind.wrap .i64 c26) 7))))
        else
        (some (Sum.inr (Sum.inr (Sum.inr (Sum.inr (Sum.inr false))))))) : Option ((Int × Int × Int) ⊕ ((Int × Int × Int) ⊕ ((Int) ⊕ ((Int) ⊕ ((Unit) ⊕ (Bool)))))))) fun (j48 : (Int × Int × Int) ⊕ ((Int × Int × Int) ⊕ ((Int) ⊕ ((Int) ⊕ ((Unit) ⊕ (Bool)))))) =>
      match j48 with
      | Sum.inl j50 => some (Sum.inl (j50.1, j50.2.1, j50.2.2))
      | Sum.inr v62 => some v62) : Option ((Int × Int × Int) ⊕ ((Int) ⊕ ((Int) ⊕ ((Unit) ⊕ (Bool))))))) fun (j35 : (Int × Int × Int) ⊕ ((Int) ⊕ ((Int) ⊕ ((Unit) ⊕ (Bool))))) =>
    match j35 with
    | Sum.inl j37 => Option.bind (loopO (tocsinref01_Utf8_l79 a0 s7 j37) (j37.2.2, 1)) fun (r67 : (Int) ⊕ ((Int) ⊕ ((Int) ⊕ ((Unit) ⊕ (Bool))))) =>
     match r67 with
     | Sum.inl r75 => bif (((decide (r75 < j37.2.1)) || (decide (r75 > 1114111))) || ((decide (r75 ≥ 55296)) && (decide (r75 < 57344)))) then
      (some (Sum.inr (Sum.inr (Sum.inr false))))
      else
      (some (Sum.inl (IntKind.wrap .i64 ((IntKind.wrap .i64 (s7 + j37.1)) + 1))))
     | Sum.inr v102 => some v102
    | Sum.inr v103 => some v103) : Option ((Int) ⊕ ((Int) ⊕ ((Unit) ⊕ (Bool)))))) fun (j20 : (Int) ⊕ ((Int) ⊕ ((Unit) ⊕ (Bool)))) =>
  match j20 with
  | Sum.inl j22 => some (Sum.inl j22)
  | Sum.inr v104 => some v104)
 else
 (some (Sum.inr (Sum.inl ())))
noncomputable def tocsinref01_Utf8 (a0 : ByteArray) : Option Bool :=
 Option.bind (loopO (tocsinref01_Utf8_l17 a0) 0) fun (r5 : (Unit) ⊕ (Bool)) =>
 match r5 with
 | Sum.inl r13 => some true
 | Sum.inr v105 => some v105
theorem tocsinref01_Utf8_walk {a0 : ByteArray} {I : Imm} {r : Bool}  (hr : tocsinref01_Utf8 a0 = some r) (L : Own) :
  CallsTo Tryz.prog 103 #[.string a0] I L (fun v I' L' => v = .bool r ∧ L = L') := by
 unfold tocsinref01_Utf8 at hr
 refine callsTo_body (N := 98) Tryz.func103 (by kernel_rfl) (by kernel_rfl) (by kernel_rfl) ?_
 refine qq [0] [(0, .string a0)] (qk (qR (qp 1 [0] [(0, .string a0)] (qE (qs (qk (qk (qR (qp 1 [0, 3] [(0, .string a0), (3, .int .i64 0)] (qE (qs ?_)))))))))))
 obtain ⟨r5, hl6, hr⟩ := bind_some hr
 refine gk_join (fun t I' L' => ∃ r13, r5 = Sum.inl r13 ∧ I ≤ I' ∧ L = L' ∧ Knows 98 [] t) ?_ ?_
 ·refine qb (qq [0, 3] [(0, .string a0), (3, .int .i64 0)] ?_)
  intro t hK
  refine gc_loop (tocsinref01_Utf8_l17 a0) (fun s7 t I' L' => I ≤ I' ∧ L = L' ∧ Knows 98 [(0, .string a0), (3, .int .i64 s7)] t) (by kernel_rfl) ?_ hl6 ⟨(Imm.refl _), rfl, hK⟩
  rintro s7 o8 t I12 L' hb9 ⟨hI10, rfl, hK11⟩
  unfold tocsinref01_Utf8_l17 at hb9
  refine gk_at hK11 ?_
  refine qk (qk (qR (qp 4 [0, 3, 12] [(0, .string a0), (3, .int .i64 s7), (12, .bool (decide (s7 < (a0.size : Int))))] (qE (qs ?_)))))
  refine gk_cond (b := (decide (s7 < (a0.size : Int)))) (by kernel_rfl) (by kernel_rfl) (fun hc19 => ?_) (fun hc19 => ?_)
  ·have hb9 := cond_t hc19 hb9
   refine qx (qs ?_)
   obtain ⟨j20, hj21, hb9⟩ := bind_some hb9
   refine gk_join (fun t I' L' => ∃ j22, j20 = Sum.inl j22 ∧ I12 ≤ I' ∧ L = L' ∧ Knows 98 [(0, .string a0), (3, .int .i64 j22)] t) ?_ ?_
   ·refine qb (qk (qR (qp 2 [0, 3, 13, 14] [(0, .string a0), (3, .int .i64 s7), (13, .string a0), (14, .int .i64 s7)] ?_)))
    obtain ⟨c26, hx27, hj21⟩ := bind_some hj21
    refine gl_index' (T' := 9) (xs := (.tmp 13)) (xi := (.tmp 14)) (kd := .i64) hx27 (by kernel_rfl) (by kernel_rfl) (by kernel_rfl) (by kernel_rfl) (by kernel_rfl) ?_
    refine qp 2 [0, 3, 4] [(0, .string a0), (3, .int .i64 s7), (4, .int .i64 (IntKind.wrap .i64 c26))] (qE (qs (qk (qR (qp 1 [0, 3, 4] [(0, .string a0), (3, .int .i64 s7), (4, .int .i64 (IntKind.wrap .i64 c26))] (qE (qs (qk (qR (qp 1 [0, 3, 4] [(0, .string a0), (3, .int .i64 s7), (4, .int .i64 (IntKind.wrap .i64 c26))] (qE ?_)))))))))))
    refine qs (qk (qR (qp 1 [0, 3, 4] [(0, .string a0), (3, .int .i64 s7), (4, .int .i64 (IntKind.wrap .i64 c26))] (qE (qs (qk (qb (qk (qR (qp 3 [0, 3, 4, 17] [(0, .string a0), (3, .int .i64 s7), (4, .int .i64 (IntKind.wrap .i64 c26)), (17, .bool (decide ((IntKind.wrap .i64 c26) < 128)))] (qE ?_)))))))))))
    refine qs ?_
    refine gk_cond (b := (decide ((IntKind.wrap .i64 c26) < 128))) (by kernel_rfl) (by kernel_rfl) (fun hc28 => ?_) (fun hc28 => ?_)
    ·have hj21 := cond_t hc28 hj21
     refine qk (qR (qp 3 [0, 3] [(0, .string a0), (3, .int .i64 (IntKind.wrap .i64 (s7 + 1)))] (qE (qs (qe (qm (qf (qh ?_))))))))
     obtain rfl := some_inj hj21
     exact ge_mid fun t ht => ⟨_, rfl, (Imm.refl _), rfl, ht.pick (l := [0, 3]) (by kernel_rfl)⟩
    ·have hj21 := cond_f hc28 hj21
     refine qk ?_
     obtain ⟨b31, hb32⟩ : ∃ z, z = ((decide ((IntKind.wrap .i64 c26) ≥ 194)) && (decide ((IntKind.wrap .i64 c26) < 224))) := ⟨_, rfl⟩
     refine gk_join (fun t I' L' => I12 ≤ I' ∧ L = L' ∧ Knows 98 [(0, .string a0), (3, .int .i64 s7), (4, .int .i64 (IntKind.wrap .i64 c26)), (22, .bool b31)] t) ?_ ?_
     ·refine qR (qp 3 [0, 3, 4, 25] [(0, .string a0), (3, .int .i64 s7), (4, .int .i64 (IntKind.wrap .i64 c26)), (25, .bool (decide ((IntKind.wrap .i64 c26) ≥ 194)))] ?_)
      refine gl_case 25 (b := (decide ((IntKind.wrap .i64 c26) ≥ 194))) (by kernel_rfl) (fun hc34 => ?_) (fun hc34 => ?_)
      ·refine qp 4 [0, 3, 4, 22] [(0, .string a0), (3, .int .i64 s7), (4, .int .i64 (IntKind.wrap .i64 c26)), (22, .bool (decide ((IntKind.wrap .i64 c26) < 224)))] (qE ?_)
       exact ge_mid fun t ht => ⟨(Imm.refl _), rfl, by rw [(show b31 = (decide ((IntKind.wrap .i64 c26) < 224)) from hb32.trans (by first | (rw [hc34]; done) | (rw [hc34]; rfl) | (simp [hc34]; done) | (simp only [hc34]; rfl) | (simp at *; omega)))]; exact ht.pick (l := [0, 3, 4, 22]) (by kernel_rfl)⟩
      ·refine qp 4 [0, 3, 4, 22] [(0, .string a0), (3, .int .i64 s7), (4, .int .i64 (IntKind.wrap .i64 c26)), (22, .bool false)] (qE ?_)
       exact ge_mid fun t ht => ⟨(Imm.refl _), rfl, by rw [(show b31 = false from hb32.trans (by first | (rw [hc34]; done) | (rw [hc34]; rfl) | (simp [hc34]; done) | (simp only [hc34]; rfl) | (simp at *; omega)))]; exact ht.pick (l := [0, 3, 4, 22]) (by kernel_rfl)⟩
     ·rintro t I33 L' ⟨hI29, rfl, hK30⟩
      subst hb32
      refine ge_at hK30 ?_
      refine qs ?_
      obtain ⟨j35, hj36, hj21⟩ := bind_some hj21
      refine gk_join (fun t I' L' => ∃ j37, j35 = Sum.inl j37 ∧ I33 ≤ I' ∧ L = L' ∧ Knows 98 [(0, .string a0), (3, .int .i64 s7), (5, .int .i64 j37.1), (6, .int .i64 j37.2.1), (7, .int .i64 j37.2.2)] t) ?_ ?_
      ·refine gk_cond (b := ((decide ((IntKind.wrap .i64 c26) ≥ 194)) && (decide ((IntKind.wrap .i64 c26) < 224)))) (by kernel_rfl) (by kernel_rfl) (fun hc41 => ?_) (fun hc41 => ?_)
       ·have hj36 := cond_t hc41 hj36
        refine qk (qR (qp 1 [0, 3, 4, 5] [(0, .string a0), (3, .int .i64 s7), (4, .int .i64 (IntKind.wrap .i64 c26)), (5, .int .i64 1)] (qE (qs (qk (qR (qp 1 [0, 3, 4, 5, 6] [(0, .string a0), (3, .int .i64 s7), (4, .int .i64 (IntKind.wrap .i64 c26)), (5, .int .i64 1), (6, .int .i64 128)] (qE (qs (qR (qp 3 [0, 3, 5, 6, 7] [(0, .string a0), (3, .int .i64 s7), (5, .int .i64 1), (6, .int .i64 128), (7, .int .i64 (bitAnd .i64 (IntKind.wrap .i64 c26) 31))] ?_)))))))))))
        refine qE ?_
        obtain rfl := some_inj hj36
        exact ge_mid fun t ht => ⟨_, rfl, (Imm.refl _), rfl, ht.pick (l := [0, 3, 5, 6, 7]) (by kernel_rfl)⟩
       ·have hj36 := cond_f hc41 hj36
        refine qk ?_
        obtain ⟨b44, hb45⟩ : ∃ z, z = ((decide ((IntKind.wrap .i64 c26) ≥ 224)) && (decide ((IntKind.wrap .i64 c26) < 240))) := ⟨_, rfl⟩
        refine gk_join (fun t I' L' => I33 ≤ I' ∧ L = L' ∧ Knows 98 [(0, .string a0), (3, .int .i64 s7), (4, .int .i64 (IntKind.wrap .i64 c26)), (31, .bool b44)] t) ?_ ?_
        ·refine qR (qp 3 [0, 3, 4, 34] [(0, .string a0), (3, .int .i64 s7), (4, .int .i64 (IntKind.wrap .i64 c26)), (34, .bool (decide ((IntKind.wrap .i64 c26) ≥ 224)))] ?_)
         refine gl_case 34 (b := (decide ((IntKind.wrap .i64 c26) ≥ 224))) (by kernel_rfl) (fun hc47 => ?_) (fun hc47 => ?_)
         ·refine qp 4 [0, 3, 4, 31] [(0, .string a0), (3, .int .i64 s7), (4, .int .i64 (IntKind.wrap .i64 c26)), (31, .bool (decide ((IntKind.wrap .i64 c26) < 240)))] (qE ?_)
          exact ge_mid fun t ht => ⟨(Imm.refl _), rfl, by rw [(show b44 = (decide ((IntKind.wrap .i64 c26) < 240)) from hb45.trans (by first | (rw [hc47]; done) | (rw [hc47]; rfl) | (simp [hc47]; done) | (simp only [hc47]; rfl) | (simp at *; omega)))]; exact ht.pick (l := [0, 3, 4, 31]) (by kernel_rfl)⟩
         ·refine qp 4 [0, 3, 4, 31] [(0, .string a0), (3, .int .i64 s7), (4, .int .i64 (IntKind.wrap .i64 c26)), (31, .bool false)] (qE ?_)
          exact ge_mid fun t ht => ⟨(Imm.refl _), rfl, by rw [(show b44 = false from hb45.trans (by first | (rw [hc47]; done) | (rw [hc47]; rfl) | (simp [hc47]; done) | (simp only [hc47]; rfl) | (simp at *; omega)))]; exact ht.pick (l := [0, 3, 4, 31]) (by kernel_rfl)⟩
        ·rintro t I46 L' ⟨hI42, rfl, hK43⟩
         subst hb45
         refine ge_at hK43 ?_
         refine qs ?_
         obtain ⟨j48, hj49, hj36⟩ := bind_some hj36
         refine gk_join (fun t I' L' => ∃ j50, j48 = Sum.inl j50 ∧ I46 ≤ I' ∧ L = L' ∧ Knows 98 [(0, .string a0), (3, .int .i64 s7), (5, .int .i64 j50.1), (6, .int .i64 j50.2.1), (7, .int .i64 j50.2.2)] t) ?_ ?_
         ·refine gk_cond (b := ((decide ((IntKind.wrap .i64 c26) ≥ 224)) && (decide ((IntKind.wrap .i64 c26) < 240)))) (by kernel_rfl) (by kernel_rfl) (fun hc54 => ?_) (fun hc54 => ?_)
          ·have hj49 := cond_t hc54 hj49
           refine qk (qR (qp 1 [0, 3, 4, 5] [(0, .string a0), (3, .int .i64 s7), (4, .int .i64 (IntKind.wrap .i64 c26)), (5, .int .i64 2)] (qE (qs (qk (qR (qp 1 [0, 3, 4, 5, 6] [(0, .string a0), (3, .int .i64 s7), (4, .int .i64 (IntKind.wrap .i64 c26)), (5, .int .i64 2), (6, .int .i64 2048)] (qE (qs (qR (qp 3 [0, 3, 5, 6, 7] [(0, .string a0), (3, .int .i64 s7), (5, .int .i64 2), (6, .int .i64 2048), (7, .int .i64 (bitAnd .i64 (IntKind.wrap .i64 c26) 15))] ?_)))))))))))
           refine qE ?_
           obtain rfl := some_inj hj49
           exact ge_mid fun t ht => ⟨_, rfl, (Imm.refl _), rfl, ht.pick (l := [0, 3, 5, 6, 7]) (by kernel_rfl)⟩
          ·have hj49 := cond_f hc54 hj49
           refine qk ?_
           obtain ⟨b57, hb58⟩ : ∃ z, z = ((decide ((IntKind.wrap .i64 c26) ≥ 240)) && (decide ((IntKind.wrap .i64 c26) < 245))) := ⟨_, rfl⟩
           refine gk_join (fun t I' L' => I46 ≤ I' ∧ L = L' ∧ Knows 98 [(0, .string a0), (3, .int .i64 s7), (4, .int .i64 (IntKind.wrap .i64 c26)), (40, .bool b57)] t) ?_ ?_
           ·refine qR (qp 3 [0, 3, 4, 43] [(0, .string a0), (3, .int .i64 s7), (4, .int .i64 (IntKind.wrap .i64 c26)), (43, .bool (decide ((IntKind.wrap .i64 c26) ≥ 240)))] ?_)
            refine gl_case 43 (b := (decide ((IntKind.wrap .i64 c26) ≥ 240))) (by kernel_rfl) (fun hc60 => ?_) (fun hc60 => ?_)
            ·refine qp 4 [0, 3, 4, 40] [(0, .string a0), (3, .int .i64 s7), (4, .int .i64 (IntKind.wrap .i64 c26)), (40, .bool (decide ((IntKind.wrap .i64 c26) < 245)))] (qE ?_)
             exact ge_mid fun t ht => ⟨(Imm.refl _), rfl, by rw [(show b57 = (decide ((IntKind.wrap .i64 c26) < 245)) from hb58.trans (by first | (rw [hc60]; done) | (rw [hc60]; rfl) | (simp [hc60]; done) | (simp only [hc60]; rfl) | (simp at *; omega)))]; exact ht.pick (l := [0, 3, 4, 40]) (by kernel_rfl)⟩
            ·refine qp 4 [0, 3, 4, 40] [(0, .string a0), (3, .int .i64 s7), (4, .int .i64 (IntKind.wrap .i64 c26)), (40, .bool false)] (qE ?_)
             exact ge_mid fun t ht => ⟨(Imm.refl _), rfl, by rw [(show b57 = false from hb58.trans (by first | (rw [hc60]; done) | (rw [hc60]; rfl) | (simp [hc60]; done) | (simp only [hc60]; rfl) | (simp at *; omega)))]; exact ht.pick (l := [0, 3, 4, 40]) (by kernel_rfl)⟩
           ·rintro t I59 L' ⟨hI55, rfl, hK56⟩
            subst hb58
            refine ge_at hK56 ?_
            refine qs ?_
            refine gk_cond (b := ((decide ((IntKind.wrap .i64 c26) ≥ 240)) && (decide ((IntKind.wrap .i64 c26) < 245)))) (by kernel_rfl) (by kernel_rfl) (fun hc61 => ?_) (fun hc61 => ?_)
            ·have hj49 := cond_t hc61 hj49
             refine qk (qR (qp 1 [0, 3, 4, 5] [(0, .string a0), (3, .int .i64 s7), (4, .int .i64 (IntKind.wrap .i64 c26)), (5, .int .i64 3)] (qE (qs (qk (qR (qp 1 [0, 3, 4, 5, 6] [(0, .string a0), (3, .int .i64 s7), (4, .int .i64 (IntKind.wrap .i64 c26)), (5, .int .i64 3), (6, .int .i64 65536)] (qE (qs (qR (qp 3 [0, 3, 5, 6, 7] [(0, .string a0), (3, .int .i64 s7), (5, .int .i64 3), (6, .int .i64 65536), (7, .int .i64 (bitAnd .i64 (IntKind.wrap .i64 c26) 7))] ?_)))))))))))
             refine qE ?_
             obtain rfl := some_inj hj49
             exact ge_mid fun t ht => ⟨_, rfl, hI55, rfl, ht.pick (l := [0, 3, 5, 6, 7]) (by kernel_rfl)⟩
            ·have hj49 := cond_f hc61 hj49
             refine qk (qR (qp 1 [2] [(2, .bool false)] (qE (qs (qt (qu ?_))))))
             obtain rfl := some_inj hj49
             refine qu ?_
             obtain rfl := some_inj hj36
             refine qv (qu (qv (qu ?_)))
             obtain rfl := some_inj hj21
             obtain rfl := some_inj hb9
             refine ge_round_out (fun hrr => ?_) (by intro h; cases h)
             obtain rfl := hrr
             refine qv (qu (qu ?_))
             obtain rfl := some_inj hr
             exact ge_result trivial (ResOk.tmp (by kernel_rfl) ResOk.nil) (Imm.trans (Imm.trans (Imm.trans hI10 hI29) hI42) hI55) ⟨rfl, rfl⟩
         ·rintro t I53 L' ⟨j50, rfl, hI51, rfl, hK52⟩
          refine ge_at hK52 ?_
          obtain rfl := some_inj hj36
          exact ge_mid fun t ht => ⟨_, rfl, (Imm.trans hI42 hI51), rfl, ht.pick (l := [0, 3, 5, 6, 7]) (by kernel_rfl)⟩
      ·rintro t I40 L' ⟨j37, rfl, hI38, rfl, hK39⟩
       refine ge_at hK39 ?_
       refine qn (qs (qk (qk (qR (qp 1 [0, 3, 5, 6, 7, 8] [(0, .string a0), (3, .int .i64 s7), (5, .int .i64 j37.1), (6, .int .i64 j37.2.1), (7, .int .i64 j37.2.2), (8, .int .i64 1)] (qE (qs ?_)))))))
       obtain ⟨r67, hl68, hj21⟩ := bind_some hj21
       refine gk_join (fun t I' L' => ∃ r75, r67 = Sum.inl r75 ∧ I40 ≤ I' ∧ L = L' ∧ Knows 98 [(0, .string a0), (3, .int .i64 s7), (5, .int .i64 j37.1), (6, .int .i64 j37.2.1), (7, .int .i64 r75)] t) ?_ ?_
       ·refine qb (qq [0, 3, 5, 6, 7, 8] [(0, .string a0), (3, .int .i64 s7), (5, .int .i64 j37.1), (6, .int .i64 j37.2.1), (7, .int .i64 j37.2.2), (8, .int .i64 1)] ?_)
        intro t hK
        refine gc_loop (tocsinref01_Utf8_l79 a0 s7 j37) (fun s69 t I' L' => I40 ≤ I' ∧ L = L' ∧ Knows 98 [(0, .string a0), (3, .int .i64 s7), (5, .int .i64 j37.1), (6, .int .i64 j37.2.1), (7, .int .i64 s69.1), (8, .int .i64 s69.2)] t) (by kernel_rfl) ?_ hl68 ⟨(Imm.refl _), rfl, hK⟩
        rintro s69 o70 t I74 L' hb71 ⟨hI72, rfl, hK73⟩
        unfold tocsinref01_Utf8_l79 at hb71
        refine gk_at hK73 ?_
        refine qk (qk (qR (qp 3 [0, 3, 5, 6, 7, 8, 51] [(0, .string a0), (3, .int .i64 s7), (5, .int .i64 j37.1), (6, .int .i64 j37.2.1), (7, .int .i64 s69.1), (8, .int .i64 s69.2), (51, .bool (decide (s69.2 ≤ j37.1)))] (qE (qs ?_)))))
        refine gk_cond (b := (decide (s69.2 ≤ j37.1))) (by kernel_rfl) (by kernel_rfl) (fun hc81 => ?_) (fun hc81 => ?_)
        ·have hb71 := cond_t hc81 hb71
         refine qx (qs (qk (qb (qk (qk ?_)))))
         obtain ⟨j82, hj83, hb71⟩ := bind_some hb71
         refine gk_join (fun t I' L' => I74 ≤ I' ∧ L = L' ∧ Knows 98 [(0, .string a0), (3, .int .i64 s7), (5, .int .i64 j37.1), (6, .int .i64 j37.2.1), (7, .int .i64 s69.1), (8, .int .i64 s69.2), (68, .bool j82)] t) ?_ ?_
         ·refine qR (qp 7 [0, 3, 5, 6, 7, 8, 60] [(0, .string a0), (3, .int .i64 s7), (5, .int .i64 j37.1), (6, .int .i64 j37.2.1), (7, .int .i64 s69.1), (8, .int .i64 s69.2), (60, .bool (decide ((IntKind.wrap .i64 (s7 + s69.2)) ≥ (a0.size : Int))))] ?_)
          refine gl_case 60 (b := (decide ((IntKind.wrap .i64 (s7 + s69.2)) ≥ (a0.size : Int)))) (by kernel_rfl) (fun hc87 => ?_) (fun hc87 => ?_)
          ·have hj83 := cond_t hc87 hj83
           refine qp 8 [0, 3, 5, 6, 7, 8, 68] [(0, .string a0), (3, .int .i64 s7), (5, .int .i64 j37.1), (6, .int .i64 j37.2.1), (7, .int .i64 s69.1), (8, .int .i64 s69.2), (68, .bool true)] (qE ?_)
           obtain rfl := some_inj hj83
           exact ge_mid fun t ht => ⟨(Imm.refl _), rfl, ht.pick (l := [0, 3, 5, 6, 7, 8, 68]) (by kernel_rfl)⟩
          ·have hj83 := cond_f hc87 hj83
           refine qp 4 [0, 3, 5, 6, 7, 8, 60, 61, 64] [(0, .string a0), (3, .int .i64 s7), (5, .int .i64 j37.1), (6, .int .i64 j37.2.1), (7, .int .i64 s69.1), (8, .int .i64 s69.2), (60, .bool false), (61, .string a0), (64, .int .i64 (IntKind.wrap .i64 (s7 + s69.2)))] ?_
           obtain ⟨c88, hx89, hj83⟩ := bind_some hj83
           refine gl_index' (T' := 9) (xs := (.tmp 61)) (xi := (.tmp 64)) (kd := .i64) hx89 (by kernel_rfl) (by kernel_rfl) (by kernel_rfl) (by kernel_rfl) (by kernel_rfl) ?_
           refine qp 3 [0, 3, 5, 6, 7, 8, 68] [(0, .string a0), (3, .int .i64 s7), (5, .int .i64 j37.1), (6, .int .i64 j37.2.1), (7, .int .i64 s69.1), (8, .int .i64 s69.2), (68, .bool ((bitAnd .u8 c88 192) != 128))] (qE ?_)
           obtain rfl := some_inj hj83
           exact ge_mid fun t ht => ⟨(Imm.refl _), rfl, ht.pick (l := [0, 3, 5, 6, 7, 8, 68]) (by kernel_rfl)⟩
         ·rintro t I86 L' ⟨hI84, rfl, hK85⟩
          refine ge_at hK85 ?_
          refine qs ?_
          refine gk_cond (b := j82) (by kernel_rfl) (by kernel_rfl) (fun hc90 => ?_) (fun hc90 => ?_)
          ·have hb71 := cond_t hc90 hb71
           refine qk (qR (qp 1 [2] [(2, .bool false)] (qE (qs (qt (qu (qv (qu ?_))))))))
           obtain rfl := some_inj hb71
           refine ge_round_out (fun hrr => ?_) (by intro h; cases h)
           obtain rfl := hrr
           refine qv (qu (qu (qv (qu ?_))))
           obtain rfl := some_inj hj21
           obtain rfl := some_inj hb9
           refine ge_round_out (fun hrr => ?_) (by intro h; cases h)
           obtain rfl := hrr
           refine qv (qu (qu ?_))
           obtain rfl := some_inj hr
           exact ge_result trivial (ResOk.tmp (by kernel_rfl) ResOk.nil) (Imm.trans (Imm.trans (Imm.trans (Imm.trans hI10 hI29) hI38) hI72) hI84) ⟨rfl, rfl⟩
          ·have hb71 := cond_f hc90 hb71
           refine qx (qs (qR (qp 6 [0, 3, 5, 6, 8, 70, 71, 74] [(0, .string a0), (3, .int .i64 s7), (5, .int .i64 j37.1), (6, .int .i64 j37.2.1), (8, .int .i64 s69.2), (70, .int .i64 (IntKind.wrap .i64 (s69.1 * 64))), (71, .string a0), (74, .int .i64 (IntKind.wrap .i64 (s7 + s69.2)))] ?_)))
           obtain ⟨c91, hx92, hb71⟩ := bind_some hb71
           refine gl_index' (T' := 9) (xs := (.tmp 71)) (xi := (.tmp 74)) (kd := .i64) hx92 (by kernel_rfl) (by kernel_rfl) (by kernel_rfl) (by kernel_rfl) (by kernel_rfl) ?_
           refine qp 4 [0, 3, 5, 6, 7, 8] [(0, .string a0), (3, .int .i64 s7), (5, .int .i64 j37.1), (6, .int .i64 j37.2.1), (7, .int .i64 (IntKind.wrap .i64 ((IntKind.wrap .i64 (s69.1 * 64)) + (IntKind.wrap .i64 (bitAnd .u8 c91 63))))), (8, .int .i64 s69.2)] (qE (qn (qs (qR (qp 3 [0, 3, 5, 6, 7, 8] [(0, .string a0), (3, .int .i64 s7), (5, .int .i64 j37.1), (6, .int .i64 j37.2.1), (7, .int .i64 (IntKind.wrap .i64 ((IntKind.wrap .i64 (s69.1 * 64)) + (IntKind.wrap .i64 (bitAnd .u8 c91 63))))), (8, .int .i64 (IntKind.wrap .i64 (s69.2 + 1)))] (qE ?_))))))
           obtain rfl := some_inj hb71
           exact ge_round fun t ht => ⟨(Imm.trans hI72 hI84), rfl, ht.pick (l := [0, 3, 5, 6, 7, 8]) (by kernel_rfl)⟩
        ·have hb71 := cond_f hc81 hb71
         refine qe (qf ?_)
         obtain rfl := some_inj hb71
         refine ge_round_out (fun hrr => ?_) (by intro h; cases h)
         obtain rfl := hrr
         refine qh ?_
         exact ge_mid fun t ht => ⟨_, rfl, hI72, rfl, ht.pick (l := [0, 3, 5, 6, 7]) (by kernel_rfl)⟩
       ·rintro t I78 L' ⟨r75, rfl, hI76, rfl, hK77⟩
        refine ge_at hK77 ?_
        refine qs (qk (qk ?_))
        obtain ⟨b95, hb96⟩ : ∃ z, z = (((decide (r75 < j37.2.1)) || (decide (r75 > 1114111))) || ((decide (r75 ≥ 55296)) && (decide (r75 < 57344)))) := ⟨_, rfl⟩
        refine gk_join (fun t I' L' => I78 ≤ I' ∧ L = L' ∧ Knows 98 [(0, .string a0), (3, .int .i64 s7), (5, .int .i64 j37.1), (93, .bool b95)] t) ?_ ?_
        ·refine qR (qp 4 [0, 3, 5, 7, 82] [(0, .string a0), (3, .int .i64 s7), (5, .int .i64 j37.1), (7, .int .i64 r75), (82, .bool (decide (r75 < j37.2.1)))] ?_)
         refine gl_case 82 (b := (decide (r75 < j37.2.1))) (by kernel_rfl) (fun hc98 => ?_) (fun hc98 => ?_)
         ·refine qp 11 [0, 3, 5, 93] [(0, .string a0), (3, .int .i64 s7), (5, .int .i64 j37.1), (93, .bool true)] (qE ?_)
          exact ge_mid fun t ht => ⟨(Imm.refl _), rfl, by rw [(show b95 = true from hb96.trans (by first | (rw [hc98]; done) | (rw [hc98]; rfl) | (simp [hc98]; done) | (simp only [hc98]; rfl) | (simp at *; omega)))]; exact ht.pick (l := [0, 3, 5, 93]) (by kernel_rfl)⟩
         ·refine qp 4 [0, 3, 5, 7, 86] [(0, .string a0), (3, .int .i64 s7), (5, .int .i64 j37.1), (7, .int .i64 r75), (86, .bool (decide (r75 > 1114111)))] ?_
          refine gl_case 86 (b := (decide (r75 > 1114111))) (by kernel_rfl) (fun hc99 => ?_) (fun hc99 => ?_)
          ·refine qp 7 [0, 3, 5, 93] [(0, .string a0), (3, .int .i64 s7), (5, .int .i64 j37.1), (93, .bool true)] (qE ?_)
           exact ge_mid fun t ht => ⟨(Imm.refl _), rfl, by rw [(show b95 = true from hb96.trans (by first | (rw [hc98, hc99]; done) | (rw [hc98, hc99]; rfl) | (simp [hc98, hc99]; done) | (simp only [hc98, hc99]; rfl) | (simp at *; omega)))]; exact ht.pick (l := [0, 3, 5, 93]) (by kernel_rfl)⟩
          ·refine qp 3 [0, 3, 5, 7, 86, 89] [(0, .string a0), (3, .int .i64 s7), (5, .int .i64 j37.1), (7, .int .i64 r75), (86, .bool false), (89, .bool (decide (r75 ≥ 55296)))] ?_
           refine gl_case 89 (b := (decide (r75 ≥ 55296))) (by kernel_rfl) (fun hc100 => ?_) (fun hc100 => ?_)
           ·refine qp 4 [0, 3, 5, 93] [(0, .string a0), (3, .int .i64 s7), (5, .int .i64 j37.1), (93, .bool (decide (r75 < 57344)))] (qE ?_)
            exact ge_mid fun t ht => ⟨(Imm.refl _), rfl, by rw [(show b95 = (decide (r75 < 57344)) from hb96.trans (by first | (rw [hc98, hc99, hc100]; done) | (rw [hc98, hc99, hc100]; rfl) | (simp [hc98, hc99, hc100]; done) | (simp only [hc98, hc99, hc100]; rfl) | (simp at *; omega)))]; exact ht.pick (l := [0, 3, 5, 93]) (by kernel_rfl)⟩
           ·refine qp 4 [0, 3, 5, 93] [(0, .string a0), (3, .int .i64 s7), (5, .int .i64 j37.1), (93, .bool false)] (qE ?_)
            exact ge_mid fun t ht => ⟨(Imm.refl _), rfl, by rw [(show b95 = false from hb96.trans (by first | (rw [hc98, hc99, hc100]; done) | (rw [hc98, hc99, hc100]; rfl) | (simp [hc98, hc99, hc100]; done) | (simp only [hc98, hc99, hc100]; rfl) | (simp at *; omega)))]; exact ht.pick (l := [0, 3, 5, 93]) (by kernel_rfl)⟩
        ·rintro t I97 L' ⟨hI93, rfl, hK94⟩
         subst hb96
         refine ge_at hK94 ?_
         refine qs ?_
         refine gk_cond (b := (((decide (r75 < j37.2.1)) || (decide (r75 > 1114111))) || ((decide (r75 ≥ 55296)) && (decide (r75 < 57344))))) (by kernel_rfl) (by kernel_rfl) (fun hc101 => ?_) (fun hc101 => ?_)
         ·have hj21 := cond_t hc101 hj21
          refine qk (qR (qp 1 [2] [(2, .bool false)] (qE (qs (qt (qu (qv (qu ?_))))))))
          obtain rfl := some_inj hj21
          obtain rfl := some_inj hb9
          refine ge_round_out (fun hrr => ?_) (by intro h; cases h)
          obtain rfl := hrr
          refine qv (qu (qu ?_))
          obtain rfl := some_inj hr
          exact ge_result trivial (ResOk.tmp (by kernel_rfl) ResOk.nil) (Imm.trans (Imm.trans (Imm.trans (Imm.trans hI10 hI29) hI38) hI76) hI93) ⟨rfl, rfl⟩
         ·have hj21 := cond_f hc101 hj21
          refine qx (qs (qR (qp 5 [0, 3] [(0, .string a0), (3, .int .i64 (IntKind.wrap .i64 ((IntKind.wrap .i64 (s7 + j37.1)) + 1)))] (qE (qn ?_)))))
          obtain rfl := some_inj hj21
          exact ge_mid fun t ht => ⟨_, rfl, (Imm.trans (Imm.trans (Imm.trans hI29 hI38) hI76) hI93), rfl, ht.pick (l := [0, 3]) (by kernel_rfl)⟩
   ·rintro t I25 L' ⟨j22, rfl, hI23, rfl, hK24⟩
    refine ge_at hK24 ?_
    obtain rfl := some_inj hb9
    exact ge_round fun t ht => ⟨(Imm.trans hI10 hI23), rfl, ht.pick (l := [0, 3]) (by kernel_rfl)⟩
  ·have hb9 := cond_f hc19 hb9
   refine qe (qf ?_)
   obtain rfl := some_inj hb9
   refine ge_round_out (fun hrr => ?_) (by intro h; cases h)
   obtain rfl := hrr
   refine qh ?_
   exact ge_mid fun t ht => ⟨_, rfl, hI10, rfl, ht.pick (l := []) (by kernel_rfl)⟩
 ·rintro t I16 L' ⟨r13, rfl, hI14, rfl, hK15⟩
  refine ge_at hK15 ?_
  refine qs (qk (qR (qp 1 [2] [(2, .bool true)] (qE (qs (qt ?_))))))
  obtain rfl := some_inj hr
  exact ge_result trivial (ResOk.tmp (by kernel_rfl) ResOk.nil) hI14 ⟨rfl, rfl⟩
/-! 57 tocsinref04_one  -/
noncomputable def tocsinref04_one (a0 : S49) : Option Int :=
 Option.bind (tocsinref04_Name a0.f0) fun (y2 : Bool) =>
 bif (!y2) then
 (some 40)
 else
 (bif (a0.f1.toList == (⟨#[]⟩ : ByteArray).toList) then
  (some 41)
  else
  (bif (decide ((a0.f1.size : Int) > 256)) then
   (some 4)
   else
   (Option.bind (tocsinref01_Utf8 a0.f1) fun (y7 : Bool) =>
    bif (!y7) then
    (some 12)
    else
    (some 0))))
theorem tocsinref04_one_walk {a0 : S49} {I : Imm} {r : Int}  (hr : tocsinref04_one a0 = some r) (L : Own) :
  CallsTo Tryz.prog 57 #[.agg #[.string a0.f0, .string a0.f1]] I L (fun v I' L' => v = .int .i64 r ∧ L = L') := by
 unfold tocsinref04_one at hr
 refine callsTo_body (N := 22) Tryz.func57 (by kernel_rfl) (by kernel_rfl) (by kernel_rfl) ?_
 refine qq [0] [(0, .agg #[.string a0.f0, .string a0.f1])] (qk (qR ?_))
 refine gl_box (T' := 50) (x := (.tmp 0)) (v := .agg #[.string a0.f0, .string a0.f1]) (cs := #[.string a0.f0, .string a0.f1]) (by kernel_rfl) (by kernel_rfl) (by kernel_rfl) (by kernel_rfl) (fun g1 => ?_)
 refine qp 1 [1] [(1, .pointer (some ⟨g1, 0, none⟩))] (qE (qs (qk (qb (qk (qR (qp 1 [1, 4] [(1, .pointer (some ⟨g1, 0, none⟩)), (4, .pointer (some ⟨g1, 0, none⟩))] ?_)))))))
 refine gl_loadB (T' := 9) (xp := (.tmp 4)) (v := .string a0.f0) (g := g1) (off := 0) (cs := #[.string a0.f0, .string a0.f1]) (e := 50) (fz := (0, 0)) (by kernel_rfl) (by kernel_rfl) (by kernel_rfl) mcs (by kernel_rfl) ?_
 obtain ⟨y2, hx3, hr⟩ := bind_some hr
 refine gl_callQ (by kernel_rfl) (tocsinref04_Name_walk (r := y2)  hx3 _) ?_
 refine qp 2 [1, 3] [(1, .pointer (some ⟨g1, 0, none⟩)), (3, .bool (!y2))] (qE (qs ?_))
 refine gk_cond (b := (!y2)) (by kernel_rfl) (by kernel_rfl) (fun hc4 => ?_) (fun hc4 => ?_)
 ·have hr := cond_t hc4 hr
  refine qk (qR (qp 1 [2] [(2, .int .i64 40)] (qE (qs ?_))))
  refine gk_reord (D := L) (Reord.skip (Reord.refl _)) ?_
  refine qt (qv (qu ?_))
  obtain rfl := some_inj hr
  exact ge_result trivial (ResOk.tmp (by kernel_rfl) ResOk.nil) (Imm.refl _) ⟨rfl, rfl⟩
 ·have hr := cond_f hc4 hr
  refine qk (qR (qp 1 [1, 9] [(1, .pointer (some ⟨g1, 0, none⟩)), (9, .pointer (some ⟨g1, 1, none⟩))] ?_))
  refine gl_loadB (T' := 9) (xp := (.tmp 9)) (v := .string a0.f1) (g := g1) (off := 1) (cs := #[.string a0.f0, .string a0.f1]) (e := 50) (fz := (0, 0)) (by kernel_rfl) (by kernel_rfl) (by kernel_rfl) mcs (by kernel_rfl) ?_
  refine qp 2 [1, 8] [(1, .pointer (some ⟨g1, 0, none⟩)), (8, .bool (a0.f1.toList == (⟨#[]⟩ : ByteArray).toList))] (qE (qs ?_))
  refine gk_cond (b := (a0.f1.toList == (⟨#[]⟩ : ByteArray).toList)) (by kernel_rfl) (by kernel_rfl) (fun hc5 => ?_) (fun hc5 => ?_)
  ·have hr := cond_t hc5 hr
   refine qk (qR (qp 1 [2] [(2, .int .i64 41)] (qE (qs ?_))))
   refine gk_reord (D := L) (Reord.skip (Reord.refl _)) ?_
   refine qt (qv (qu ?_))
   obtain rfl := some_inj hr
   exact ge_result trivial (ResOk.tmp (by kernel_rfl) ResOk.nil) (Imm.refl _) ⟨rfl, rfl⟩
  ·have hr := cond_f hc5 hr
   refine qk (qR (qp 1 [1, 13] [(1, .pointer (some ⟨g1, 0, none⟩)), (13, .pointer (some ⟨g1, 1, none⟩))] ?_))
   refine gl_loadB (T' := 9) (xp := (.tmp 13)) (v := .string a0.f1) (g := g1) (off := 1) (cs := #[.string a0.f0, .string a0.f1]) (e := 50) (fz := (0, 0)) (by kernel_rfl) (by kernel_rfl) (by kernel_rfl) mcs (by kernel_rfl) ?_
   refine qp 3 [1, 12] [(1, .pointer (some ⟨g1, 0, none⟩)), (12, .bool (decide ((a0.f1.size : Int) > 256)))] (qE (qs ?_))
   refine gk_cond (b := (decide ((a0.f1.size : Int) > 256))) (by kernel_rfl) (by kernel_rfl) (fun hc6 => ?_) (fun hc6 => ?_)
   ·have hr := cond_t hc6 hr
    refine qk (qR (qp 1 [2] [(2, .int .i64 4)] (qE (qs ?_))))
    refine gk_reord (D := L) (Reord.skip (Reord.refl _)) ?_
    refine qt (qv (qu ?_))
    obtain rfl := some_inj hr
    exact ge_result trivial (ResOk.tmp (by kernel_rfl) ResOk.nil) (Imm.refl _) ⟨rfl, rfl⟩
   ·have hr := cond_f hc6 hr
    refine qk (qR (qp 1 [18] [(18, .pointer (some ⟨g1, 1, none⟩))] ?_))
    refine gl_loadB (T' := 9) (xp := (.tmp 18)) (v := .string a0.f1) (g := g1) (off := 1) (cs := #[.string a0.f0, .string a0.f1]) (e := 50) (fz := (0, 0)) (by kernel_rfl) (by kernel_rfl) (by kernel_rfl) mcs (by kernel_rfl) ?_
    obtain ⟨y7, hx8, hr⟩ := bind_some hr
    refine gl_callQ (by kernel_rfl) (tocsinref01_Utf8_walk (r := y7)  hx8 _) ?_
    refine qp 2 [17] [(17, .bool (!y7))] (qE (qs ?_))
    refine gk_cond (b := (!y7)) (by kernel_rfl) (by kernel_rfl) (fun hc9 => ?_) (fun hc9 => ?_)
    ·have hr := cond_t hc9 hr
     refine qk (qR (qp 1 [2] [(2, .int .i64 12)] (qE (qs ?_))))
     refine gk_reord (D := L) (Reord.skip (Reord.refl _)) ?_
     refine qt (qv (qu ?_))
     obtain rfl := some_inj hr
     exact ge_result trivial (ResOk.tmp (by kernel_rfl) ResOk.nil) (Imm.refl _) ⟨rfl, rfl⟩
    ·have hr := cond_f hc9 hr
     refine qx (qn (qs (qk (qR (qp 1 [2] [(2, .int .i64 0)] (qE (qs ?_)))))))
     refine gk_reord (D := L) (Reord.skip (Reord.refl _)) ?_
     refine qt ?_
     obtain rfl := some_inj hr
     exact ge_result trivial (ResOk.tmp (by kernel_rfl) ResOk.nil) (Imm.refl _) ⟨rfl, rfl⟩
/-! 16 tocsinref04_Right  -/
noncomputable def tocsinref04_Right_l18 (a0 : List S49) : Int → Option ((Int) ⊕ ((Unit) ⊕ (Int × Int))) := fun s8 =>
 bif (decide (s8 < (a0.length : Int))) then
 (Option.bind (ix a0 s8) fun (x21 : S49) =>
  Option.bind (tocsinref04_one x21) fun (y30 : Int) =>
  bif (y30 != 0) then
  (some (Sum.inr (Sum.inr (y30, s8))))
  else
  (Option.bind (bif (decide (s8 > 0)) then
    (Option.bind (ix a0 (IntKind.wrap .i64 (s8 - 1))) fun (x39 : S49) =>
     some (!(Op.bytesLess x39.f0.toList x21.f0.toList)))
    else
    (some false)) fun (j33 : Bool) =>
   bif j33 then
   (some (Sum.inr (Sum.inr (3, s8))))
   else
   (some (Sum.inl (IntKind.wrap .i64 (s8 + 1))))))
 else
 (some (Sum.inr (Sum.inl ())))
noncomputable def tocsinref04_Right (a0 : List S49) : Option (Int × Int) :=
 bif (decide ((a0.length : Int) > 16)) then
 (some (8, 0))
 else
 (Option.bind (loopO (tocsinref04_Right_l18 a0) 0) fun (r6 : (Unit) ⊕ (Int × Int)) =>
  match r6 with
  | Sum.inl r14 => some (0, 0)
  | Sum.inr v48 => some v48)
theorem tocsinref04_Right_walk {a0 : List S49} {A0_0 : Option Addr} {n0_0 : Nat} {I : Imm} {r : Int × Int}  (hf0_0 : RepS kS49 I A0_0 n0_0 a0) (hr : tocsinref04_Right a0 = some r) (L : Own) :
  CallsTo Tryz.prog 16 #[.slice A0_0 a0.length n0_0] I L (fun v I' L' => v = .tuple #[.int .i64 r.1, .int .i64 r.2] ∧ L = L') := by
 unfold tocsinref04_Right at hr
 refine callsTo_body (N := 38) Tryz.func16 (by kernel_rfl) (by kernel_rfl) (by kernel_rfl) ?_
 refine qq [0] [(0, .slice A0_0 a0.length n0_0)] (qk (qR (qp 2 [0] [(0, .slice A0_0 a0.length n0_0)] (qE (qs (qk (qk (qR (qp 3 [0, 9] [(0, .slice A0_0 a0.length n0_0), (9, .bool (decide ((a0.length : Int) > 16)))] (qE (qs ?_)))))))))))
 refine gk_cond (b := (decide ((a0.length : Int) > 16))) (by kernel_rfl) (by kernel_rfl) (fun hc1 => ?_) (fun hc1 => ?_)
 ·have hr := cond_t hc1 hr
  refine qk (qR (qp 2 [2, 3] [(2, .int .i64 8), (3, .int .i64 0)] (qE (qs (qt (qu ?_))))))
  obtain rfl := some_inj hr
  exact ge_result trivial (ResOk.tmp (by kernel_rfl) (ResOk.tmp (by kernel_rfl) ResOk.nil)) (Imm.refl _) ⟨rfl, rfl⟩
 ·have hr := cond_f hc1 hr
  refine qx (qs (qk (qk (qR (qp 3 [0, 10, 11, 12] [(0, .slice A0_0 a0.length n0_0), (10, .slice A0_0 a0.length n0_0), (11, .int .i64 (a0.length : Int)), (12, .int .i64 0)] (qE (qs ?_)))))))
  obtain ⟨r6, hl7, hr⟩ := bind_some hr
  refine gk_join (fun t I' L' => ∃ r14, r6 = Sum.inl r14 ∧ I ≤ I' ∧ L = L' ∧ Knows 38 [] t) ?_ ?_
  ·refine qb (qq [0, 10, 11, 12] [(0, .slice A0_0 a0.length n0_0), (10, .slice A0_0 a0.length n0_0), (11, .int .i64 (a0.length : Int)), (12, .int .i64 0)] ?_)
   intro t hK
   refine gc_loop (tocsinref04_Right_l18 a0) (fun s8 t I' L' => I ≤ I' ∧ L = L' ∧ Knows 38 [(0, .slice A0_0 a0.length n0_0), (10, .slice A0_0 a0.length n0_0), (11, .int .i64 (a0.length : Int)), (12, .int .i64 s8)] t) (by kernel_rfl) ?_ hl7 ⟨(Imm.refl _), rfl, hK⟩
   rintro s8 o9 t I13 L' hb10 ⟨hI11, rfl, hK12⟩
   unfold tocsinref04_Right_l18 at hb10
   refine gk_at hK12 ?_
   refine qk (qR (qp 1 [0, 10, 11, 12, 13] [(0, .slice A0_0 a0.length n0_0), (10, .slice A0_0 a0.length n0_0), (11, .int .i64 (a0.length : Int)), (12, .int .i64 s8), (13, .bool (decide (s8 < (a0.length : Int))))] (qE (qs (qk ?_)))))
   refine gk_cond (b := (decide (s8 < (a0.length : Int)))) (by kernel_rfl) (by kernel_rfl) (fun hc20 => ?_) (fun hc20 => ?_)
   ·have hb10 := cond_t hc20 hb10
    refine qx (qs (qk (qb (qk (qR (qp 1 [0, 10, 11, 12, 14] [(0, .slice A0_0 a0.length n0_0), (10, .slice A0_0 a0.length n0_0), (11, .int .i64 (a0.length : Int)), (12, .int .i64 s8), (14, .int .i64 s8)] ?_))))))
    obtain ⟨x21, hx22, hb10⟩ := bind_some hb10
    obtain ⟨p23, cs24, hR25, hA26, ha27⟩ := RepS.ixAt hx22 (hf0_0.mono hI11)
    have hi28 := ix_some hx22
    obtain rfl := kS49_open hR25
    refine gl_indexAddrF (c := n0_0) (T' := 22) (e := 50) (xs := (.tmp 10)) (xi := (.tmp 12)) (kd := .i64) ha27 hi28.1 hi28.2.1 (by kernel_rfl) (by kernel_rfl) (by kernel_rfl) (by kernel_rfl) (by kernel_rfl) ?_
    refine gl_loadA (T' := 50) (xp := (.tmp 15)) (p := p23) (cs := [.string x21.f0, .string x21.f1]) (by kernel_rfl) (by kernel_rfl) (by kernel_rfl) (by kernel_rfl) (hA26.take 2) ?_
    refine gl_alloc (T' := 50) (cs := #[.string (⟨#[]⟩ : ByteArray), .string (⟨#[]⟩ : ByteArray)]) (by kernel_rfl) (by kernel_rfl) (by kernel_rfl) (fun g29 => ?_)
    refine qp 1 [0, 4, 5, 10, 11, 12, 16] [(0, .slice A0_0 a0.length n0_0), (4, .int .i64 s8), (5, .pointer (some ⟨g29, 0, none⟩)), (10, .slice A0_0 a0.length n0_0), (11, .int .i64 (a0.length : Int)), (12, .int .i64 s8), (16, .agg #[.string x21.f0, .string x21.f1])] ?_
    refine gl_storeB (T' := 50) (xp := (.tmp 5)) (xv := (.tmp 16)) (v := .agg #[.string x21.f0, .string x21.f1]) (g := g29) (off := 0) (cs := #[.string (⟨#[]⟩ : ByteArray), .string (⟨#[]⟩ : ByteArray)]) (cs' := #[.string x21.f0, .string x21.f1]) (by kernel_rfl) (by kernel_rfl) (by kernel_rfl) (by kernel_rfl) (by kernel_rfl) (Upd.set _ _ _ _) ?_ (by kernel_rfl)
    refine qE (qs (qk (qk (qR ?_))))
    refine gl_loadB (T' := 50) (xp := (.tmp 5)) (v := .agg #[.string x21.f0, .string x21.f1]) (g := g29) (off := 0) (cs := #[.string x21.f0, .string x21.f1]) (e := 50) (fz := (0, 0)) (by kernel_rfl) (by kernel_rfl) (by kernel_rfl) mcs (by kernel_rfl) ?_
    obtain ⟨y30, hx31, hb10⟩ := bind_some hb10
    refine gl_callQ (by kernel_rfl) (tocsinref04_one_walk (r := y30)  hx31 _) ?_
    refine qp 1 [0, 4, 5, 6, 10, 11, 12] [(0, .slice A0_0 a0.length n0_0), (4, .int .i64 s8), (5, .pointer (some ⟨g29, 0, none⟩)), (6, .int .i64 y30), (10, .slice A0_0 a0.length n0_0), (11, .int .i64 (a0.length : Int)), (12, .int .i64 s8)] (qE (qs (qk (qR (qp 2 [0, 4, 5, 6, 10, 11, 12, 20] [(0, .slice A0_0 a0.length n0_0), (4, .int .i64 s8), (5, .pointer (some ⟨g29, 0, none⟩)), (6, .int .i64 y30), (10, .slice A0_0 a0.length n0_0), (11, .int .i64 (a0.length : Int)), (12, .int .i64 s8), (20, .bool (y30 != 0))] (qE (qs ?_)))))))
    refine gk_cond (b := (y30 != 0)) (by kernel_rfl) (by kernel_rfl) (fun hc32 => ?_) (fun hc32 => ?_)
    ·have hb10 := cond_t hc32 hb10
     refine qk (qR (qp 4 [2, 3] [(2, .int .i64 y30), (3, .int .i64 s8)] (qE (qs ?_))))
     refine gk_reord (D := L) (Reord.skip (Reord.refl _)) ?_
     refine qt (qu (qv (qu ?_)))
     obtain rfl := some_inj hb10
     refine ge_round_out (fun hrr => ?_) (by intro h; cases h)
     obtain rfl := hrr
     refine qv (qu (qu ?_))
     obtain rfl := some_inj hr
     exact ge_result trivial (ResOk.tmp (by kernel_rfl) (ResOk.tmp (by kernel_rfl) ResOk.nil)) hI11 ⟨rfl, rfl⟩
    ·have hb10 := cond_f hc32 hb10
     refine qx (qs (qk ?_))
     obtain ⟨j33, hj34, hb10⟩ := bind_some hb10
     refine gk_join (fun t I' L' => I13 ≤ I' ∧ L = L' ∧ Knows 38 [(0, .slice A0_0 a0.length n0_0), (4, .int .i64 s8), (10, .slice A0_0 a0.length n0_0), (11, .int .i64 (a0.length : Int)), (12, .int .i64 s8), (35, .bool j33)] t) ?_ ?_
     ·refine gk_draw 13 (rng 0 13) [(g29, .cells #[.string x21.f0, .string x21.f1] 50)] (fmc ⟨mcs, nim⟩) (by kernel_rfl) (by kernel_rfl) (by kernel_rfl) ?_ (by kernel_rfl)
      refine dp 3 [0, 4, 5, 10, 11, 12, 25] [(0, .slice A0_0 a0.length n0_0), (4, .int .i64 s8), (5, .pointer (some ⟨g29, 0, none⟩)), (10, .slice A0_0 a0.length n0_0), (11, .int .i64 (a0.length : Int)), (12, .int .i64 s8), (25, .bool (decide (s8 > 0)))] (rng 3 10) (CC.refl (fmc ⟨mcs, nim⟩)) ?_
      refine gd_case 25 (b := (decide (s8 > 0))) (by kernel_rfl) (fun hc38 => ?_) (fun hc38 => ?_)
      ·have hj34 := cond_t hc38 hj34
       refine dp 3 [0, 4, 5, 10, 11, 12, 25, 26, 28] [(0, .slice A0_0 a0.length n0_0), (4, .int .i64 s8), (5, .pointer (some ⟨g29, 0, none⟩)), (10, .slice A0_0 a0.length n0_0), (11, .int .i64 (a0.length : Int)), (12, .int .i64 s8), (25, .bool true), (26, .slice A0_0 a0.length n0_0), (28, .int .i64 (IntKind.wrap .i64 (s8 - 1)))] (rng 6 7) (CC.refl (fmc ⟨mcs, nim⟩)) ?_
       obtain ⟨x39, hx40, hj34⟩ := bind_some hj34
       obtain ⟨p41, cs42, hR43, hA44, ha45⟩ := RepS.ixAt hx40 (hf0_0.mono hI11)
       have hi46 := ix_some hx40
       obtain rfl := kS49_open hR43
       refine gd_q (v := .pointer (some p41)) (by kernel_rfl) (by kernel_rfl) (CC.refl (fmc ⟨mcs, nim⟩)) (fun I' L' T hC kk => gl_indexAddrF (c := n0_0) (T' := 22) (e := 50) (xs := (.tmp 26)) (xi := (.tmp 28)) (kd := .i64) ha45 hi46.1 hi46.2.1 (by kernel_rfl) (by kernel_rfl) (by kernel_rfl) (by kernel_rfl) (by kernel_rfl) kk) ?_
       refine dp 1 [0, 4, 5, 10, 11, 12, 25, 30] [(0, .slice A0_0 a0.length n0_0), (4, .int .i64 s8), (5, .pointer (some ⟨g29, 0, none⟩)), (10, .slice A0_0 a0.length n0_0), (11, .int .i64 (a0.length : Int)), (12, .int .i64 s8), (25, .bool true), (30, .pointer (some (p41.add 0)))] (rng 8 5) (CC.refl (fmc ⟨mcs, nim⟩)) ?_
       refine gd_q (v := .string x39.f0) (by kernel_rfl) (by kernel_rfl) (CC.refl (fmc ⟨mcs, nim⟩)) (fun I' L' T hC kk => gl_load (T' := 9) (xp := (.tmp 30)) (p := (p41.add 0)) (c := .string x39.f0) (n := 1) (by kernel_rfl) (by kernel_rfl) (by kernel_rfl) (by kernel_rfl) ((hA44.drop 0).mono hC.le) kk) ?_
       refine dp 1 [0, 4, 10, 11, 12, 25, 31, 32] [(0, .slice A0_0 a0.length n0_0), (4, .int .i64 s8), (10, .slice A0_0 a0.length n0_0), (11, .int .i64 (a0.length : Int)), (12, .int .i64 s8), (25, .bool true), (31, .string x39.f0), (32, .pointer (some ⟨g29, 0, none⟩))] [(10, true), (11, true), (12, true)] (CC.refl (fmc ⟨mcs, nim⟩)) ?_
       refine gd_q (v := .string x21.f0) (by kernel_rfl) (by kernel_rfl) (CC.refl (fmc ⟨mcs, nim⟩)) (fun I' L' T hC kk => gl_loadB (T' := 9) (xp := (.tmp 32)) (v := .string x21.f0) (g := g29) (off := 0) (cs := #[.string x21.f0, .string x21.f1]) (e := 50) (fz := (0, 0)) (by kernel_rfl) (by kernel_rfl) (by kernel_rfl) (hC.sub _ mcs) (by kernel_rfl) kk) ?_
       refine dp 2 [0, 4, 10, 11, 12, 35] [(0, .slice A0_0 a0.length n0_0), (4, .int .i64 s8), (10, .slice A0_0 a0.length n0_0), (11, .int .i64 (a0.length : Int)), (12, .int .i64 s8), (35, .bool (!(Op.bytesLess x39.f0.toList x21.f0.toList)))] [] (CC.refl (fmc ⟨mcs, nim⟩)) ?_
       refine gd_done ?_
       refine gl_reord (D := L) (Reord.skip (Reord.refl _)) ?_
       refine qE ?_
       obtain rfl := some_inj hj34
       exact ge_mid fun t ht => ⟨(Imm.refl _), rfl, ht.pick (l := [0, 4, 10, 11, 12, 35]) (by kernel_rfl)⟩
      ·have hj34 := cond_f hc38 hj34
       refine dp 10 [0, 4, 10, 11, 12, 35] [(0, .slice A0_0 a0.length n0_0), (4, .int .i64 s8), (10, .slice A0_0 a0.length n0_0), (11, .int .i64 (a0.length : Int)), (12, .int .i64 s8), (35, .bool false)] [] (CC.refl (fmc ⟨mcs, nim⟩)) ?_
       refine gd_done ?_
       refine gl_reord (D := L) (Reord.skip (Reord.refl _)) ?_
       refine qE ?_
       obtain rfl := some_inj hj34
       exact ge_mid fun t ht => ⟨(Imm.refl _), rfl, ht.pick (l := [0, 4, 10, 11, 12, 35]) (by kernel_rfl)⟩
     ·rintro t I37 L' ⟨hI35, rfl, hK36⟩
      refine ge_at hK36 ?_
      refine qs ?_
      refine gk_cond (b := j33) (by kernel_rfl) (by kernel_rfl) (fun hc47 => ?_) (fun hc47 => ?_)
      ·have hb10 := cond_t hc47 hb10
       refine qk (qR (qp 3 [2, 3] [(2, .int .i64 3), (3, .int .i64 s8)] (qE (qs (qt (qv (qu ?_)))))))
       obtain rfl := some_inj hb10
       refine ge_round_out (fun hrr => ?_) (by intro h; cases h)
       obtain rfl := hrr
       refine qv (qu (qu ?_))
       obtain rfl := some_inj hr
       exact ge_result trivial (ResOk.tmp (by kernel_rfl) (ResOk.tmp (by kernel_rfl) ResOk.nil)) (Imm.trans hI11 hI35) ⟨rfl, rfl⟩
      ·have hb10 := cond_f hc47 hb10
       refine qx (qn (qs (qR (qp 2 [0, 10, 11, 12] [(0, .slice A0_0 a0.length n0_0), (10, .slice A0_0 a0.length n0_0), (11, .int .i64 (a0.length : Int)), (12, .int .i64 (IntKind.wrap .i64 (s8 + 1)))] (qE ?_)))))
       obtain rfl := some_inj hb10
       exact ge_round fun t ht => ⟨(Imm.trans hI11 hI35), rfl, ht.pick (l := [0, 10, 11, 12]) (by kernel_rfl)⟩
   ·have hb10 := cond_f hc20 hb10
    refine qe (qf ?_)
    obtain rfl := some_inj hb10
    refine ge_round_out (fun hrr => ?_) (by intro h; cases h)
    obtain rfl := hrr
    refine qh ?_
    exact ge_mid fun t ht => ⟨_, rfl, hI11, rfl, ht.pick (l := []) (by kernel_rfl)⟩
  ·rintro t I17 L' ⟨r14, rfl, hI15, rfl, hK16⟩
   refine ge_at hK16 ?_
   refine qs (qk (qR (qp 2 [2, 3] [(2, .int .i64 0), (3, .int .i64 0)] (qE (qs (qt ?_))))))
   obtain rfl := some_inj hr
   exact ge_result trivial (ResOk.tmp (by kernel_rfl) (ResOk.tmp (by kernel_rfl) ResOk.nil)) hI15 ⟨rfl, rfl⟩
/-! 32 tocsinref04_Get  -/
noncomputable def tocsinref04_Get_l17 (a0 : List S49) (a1 : ByteArray) : Int → Option ((Int) ⊕ ((Unit) ⊕ (ByteArray))) := fun s7 =>
 bif (decide (s7 < (a0.length : Int))) then
 (Option.bind (ix a0 s7) fun (x20 : S49) =>
  bif (x20.f0.toList == a1.toList) then
  (some (Sum.inr (Sum.inr x20.f1)))
  else
  (some (Sum.inl (IntKind.wrap .i64 (s7 + 1)))))
 else
 (some (Sum.inr (Sum.inl ())))
noncomputable def tocsinref04_Get (a0 : List S49) (a1 : ByteArray) : Option ByteArray :=
 Option.bind (loopO (tocsinref04_Get_l17 a0 a1) 0) fun (r5 : (Unit) ⊕ (ByteArray)) =>
 match r5 with
 | Sum.inl r13 => some (⟨#[]⟩ : ByteArray)
 | Sum.inr v30 => some v30
theorem tocsinref04_Get_walk {a0 : List S49} {A0_0 : Option Addr} {n0_0 : Nat} {a1 : ByteArray} {I : Imm} {r : ByteArray}  (hf0_0 : RepS kS49 I A0_0 n0_0 a0) (hr : tocsinref04_Get a0 a1 = some r) (L : Own) :
  CallsTo Tryz.prog 32 #[.slice A0_0 a0.length n0_0, .string a1] I L (fun v I' L' => v = .string r ∧ L = L') := by
 unfold tocsinref04_Get at hr
 refine callsTo_body (N := 20) Tryz.func32 (by kernel_rfl) (by kernel_rfl) (by kernel_rfl) ?_
 refine qq [0, 1] [(0, .slice A0_0 a0.length n0_0), (1, .string a1)] (qk (qR (qp 1 [0, 1] [(0, .slice A0_0 a0.length n0_0), (1, .string a1)] (qE (qs (qk (qk (qR (qp 3 [1, 7, 8, 9] [(1, .string a1), (7, .slice A0_0 a0.length n0_0), (8, .int .i64 (a0.length : Int)), (9, .int .i64 0)] (qE (qs ?_)))))))))))
 obtain ⟨r5, hl6, hr⟩ := bind_some hr
 refine gk_join (fun t I' L' => ∃ r13, r5 = Sum.inl r13 ∧ I ≤ I' ∧ L = L' ∧ Knows 20 [] t) ?_ ?_
 ·refine qb (qq [1, 7, 8, 9] [(1, .string a1), (7, .slice A0_0 a0.length n0_0), (8, .int .i64 (a0.length : Int)), (9, .int .i64 0)] ?_)
  intro t hK
  refine gc_loop (tocsinref04_Get_l17 a0 a1) (fun s7 t I' L' => I ≤ I' ∧ L = L' ∧ Knows 20 [(1, .string a1), (7, .slice A0_0 a0.length n0_0), (8, .int .i64 (a0.length : Int)), (9, .int .i64 s7)] t) (by kernel_rfl) ?_ hl6 ⟨(Imm.refl _), rfl, hK⟩
  rintro s7 o8 t I12 L' hb9 ⟨hI10, rfl, hK11⟩
  unfold tocsinref04_Get_l17 at hb9
  refine gk_at hK11 ?_
  refine qk (qR (qp 1 [1, 7, 8, 9, 10] [(1, .string a1), (7, .slice A0_0 a0.length n0_0), (8, .int .i64 (a0.length : Int)), (9, .int .i64 s7), (10, .bool (decide (s7 < (a0.length : Int))))] (qE (qs (qk ?_)))))
  refine gk_cond (b := (decide (s7 < (a0.length : Int)))) (by kernel_rfl) (by kernel_rfl) (fun hc19 => ?_) (fun hc19 => ?_)
  ·have hb9 := cond_t hc19 hb9
   refine qx (qs (qk (qb (qk (qR ?_)))))
   obtain ⟨x20, hx21, hb9⟩ := bind_some hb9
   obtain ⟨p22, cs23, hR24, hA25, ha26⟩ := RepS.ixAt hx21 (hf0_0.mono hI10)
   have hi27 := ix_some hx21
   obtain rfl := kS49_open hR24
   refine gl_indexAddrF (c := n0_0) (T' := 22) (e := 50) (xs := (.tmp 7)) (xi := (.tmp 9)) (kd := .i64) ha26 hi27.1 hi27.2.1 (by kernel_rfl) (by kernel_rfl) (by kernel_rfl) (by kernel_rfl) (by kernel_rfl) ?_
   refine gl_loadA (T' := 50) (xp := (.tmp 11)) (p := p22) (cs := [.string x20.f0, .string x20.f1]) (by kernel_rfl) (by kernel_rfl) (by kernel_rfl) (by kernel_rfl) (hA25.take 2) ?_
   refine gl_alloc (T' := 50) (cs := #[.string (⟨#[]⟩ : ByteArray), .string (⟨#[]⟩ : ByteArray)]) (by kernel_rfl) (by kernel_rfl) (by kernel_rfl) (fun g28 => ?_)
   refine gl_storeB (T' := 50) (xp := (.tmp 6)) (xv := (.tmp 12)) (v := .agg #[.string x20.f0, .string x20.f1]) (g := g28) (off := 0) (cs := #[.string (⟨#[]⟩ : ByteArray), .string (⟨#[]⟩ : ByteArray)]) (cs' := #[.string x20.f0, .string x20.f1]) (by kernel_rfl) (by kernel_rfl) (by kernel_rfl) (by kernel_rfl) (by kernel_rfl) (Upd.set _ _ _ _) ?_ (by kernel_rfl)
   refine qE (qs (qk (qR (qp 1 [1, 6, 7, 8, 9, 13] [(1, .string a1), (6, .pointer (some ⟨g28, 0, none⟩)), (7, .slice A0_0 a0.length n0_0), (8, .int .i64 (a0.length : Int)), (9, .int .i64 s7), (13, .pointer (some ⟨g28, 0, none⟩))] ?_))))
   refine gl_loadB (T' := 9) (xp := (.tmp 13)) (v := .string x20.f0) (g := g28) (off := 0) (cs := #[.string x20.f0, .string x20.f1]) (e := 50) (fz := (0, 0)) (by kernel_rfl) (by kernel_rfl) (by kernel_rfl) mcs (by kernel_rfl) ?_
   refine qp 2 [1, 6, 7, 8, 9, 16] [(1, .string a1), (6, .pointer (some ⟨g28, 0, none⟩)), (7, .slice A0_0 a0.length n0_0), (8, .int .i64 (a0.length : Int)), (9, .int .i64 s7), (16, .bool (x20.f0.toList == a1.toList))] (qE (qs ?_))
   refine gk_cond (b := (x20.f0.toList == a1.toList)) (by kernel_rfl) (by kernel_rfl) (fun hc29 => ?_) (fun hc29 => ?_)
   ·have hb9 := cond_t hc29 hb9
    refine qk (qR (qp 1 [17] [(17, .pointer (some ⟨g28, 1, none⟩))] ?_))
    refine gl_loadB (T' := 9) (xp := (.tmp 17)) (v := .string x20.f1) (g := g28) (off := 1) (cs := #[.string x20.f0, .string x20.f1]) (e := 50) (fz := (0, 0)) (by kernel_rfl) (by kernel_rfl) (by kernel_rfl) mcs (by kernel_rfl) ?_
    refine qp 1 [4] [(4, .string x20.f1)] (qE (qs ?_))
    refine gk_reord (D := L) (Reord.skip (Reord.refl _)) ?_
    refine qt (qv (qu ?_))
    obtain rfl := some_inj hb9
    refine ge_round_out (fun hrr => ?_) (by intro h; cases h)
    obtain rfl := hrr
    refine qv (qu (qu ?_))
    obtain rfl := some_inj hr
    exact ge_result trivial (ResOk.tmp (by kernel_rfl) ResOk.nil) hI10 ⟨rfl, rfl⟩
   ·have hb9 := cond_f hc29 hb9
    refine qx (qn (qs (qR (qp 2 [1, 7, 8, 9] [(1, .string a1), (7, .slice A0_0 a0.length n0_0), (8, .int .i64 (a0.length : Int)), (9, .int .i64 (IntKind.wrap .i64 (s7 + 1)))] ?_))))
    refine gl_reord (D := L) (Reord.skip (Reord.refl _)) ?_
    refine qE ?_
    obtain rfl := some_inj hb9
    exact ge_round fun t ht => ⟨hI10, rfl, ht.pick (l := [1, 7, 8, 9]) (by kernel_rfl)⟩
  ·have hb9 := cond_f hc19 hb9
   refine qe (qf ?_)
   obtain rfl := some_inj hb9
   refine ge_round_out (fun hrr => ?_) (by intro h; cases h)
   obtain rfl := hrr
   refine qh ?_
   exact ge_mid fun t ht => ⟨_, rfl, hI10, rfl, ht.pick (l := []) (by kernel_rfl)⟩
 ·rintro t I16 L' ⟨r13, rfl, hI14, rfl, hK15⟩
  refine ge_at hK15 ?_
  refine qs (qk (qR (qp 1 [4] [(4, .string (⟨#[]⟩ : ByteArray))] (qE (qs (qt ?_))))))
  obtain rfl := some_inj hr
  exact ge_result trivial (ResOk.tmp (by kernel_rfl) ResOk.nil) hI14 ⟨rfl, rfl⟩
/-! 20 tocsinref04_Metric  -/
noncomputable def tocsinref04_Metric_l24 (a0 : ByteArray) : Int → Option ((Int) ⊕ ((Unit) ⊕ (Bool))) := fun s14 =>
 bif (decide (s14 < (a0.size : Int))) then
 (Option.bind (Option.bind (bx a0 s14) fun (c32 : Int) =>
   bif (!(tocsinref04_letter c32)) then
   (Option.bind (bx a0 s14) fun (c35 : Int) =>
    bif (c35 != 58) then
    (bif (s14 == 0) then
     (some true)
     else
     (Option.bind (bx a0 s14) fun (c39 : Int) =>
      some (!(tocsinref04_digit c39))))
    else
    (some false))
   else
   (some false)) fun (j27 : Bool) =>
  bif j27 then
  (some (Sum.inr (Sum.inr false)))
  else
  (some (Sum.inl (IntKind.wrap .i64 (s14 + 1)))))
 else
 (some (Sum.inr (Sum.inl ())))
noncomputable def tocsinref04_Metric (a0 : ByteArray) : Option Bool :=
 bif ((a0.toList == (⟨#[]⟩ : ByteArray).toList) || (decide ((a0.size : Int) > 256))) then
 (some false)
 else
 (Option.bind (loopO (tocsinref04_Metric_l24 a0) 0) fun (r12 : (Unit) ⊕ (Bool)) =>
  match r12 with
  | Sum.inl r20 => some true
  | Sum.inr v42 => some v42)
theorem tocsinref04_Metric_walk {a0 : ByteArray} {I : Imm} {r : Bool}  (hr : tocsinref04_Metric a0 = some r) (L : Own) :
  CallsTo Tryz.prog 20 #[.string a0] I L (fun v I' L' => v = .bool r ∧ L = L') := by
 unfold tocsinref04_Metric at hr
 refine callsTo_body (N := 39) Tryz.func20 (by kernel_rfl) (by kernel_rfl) (by kernel_rfl) ?_
 refine qq [0] [(0, .string a0)] (qk (qR (qp 1 [0] [(0, .string a0)] (qE (qs (qk (qk ?_)))))))
 obtain ⟨b3, hb4⟩ : ∃ z, z = ((a0.toList == (⟨#[]⟩ : ByteArray).toList) || (decide ((a0.size : Int) > 256))) := ⟨_, rfl⟩
 refine gk_join (fun t I' L' => I ≤ I' ∧ L = L' ∧ Knows 39 [(0, .string a0), (10, .bool b3)] t) ?_ ?_
 ·refine qR (qp 3 [0, 6] [(0, .string a0), (6, .bool (a0.toList == (⟨#[]⟩ : ByteArray).toList))] ?_)
  refine gl_case 6 (b := (a0.toList == (⟨#[]⟩ : ByteArray).toList)) (by kernel_rfl) (fun hc6 => ?_) (fun hc6 => ?_)
  ·refine qp 4 [0, 10] [(0, .string a0), (10, .bool true)] (qE ?_)
   exact ge_mid fun t ht => ⟨(Imm.refl _), rfl, by rw [(show b3 = true from hb4.trans (by first | (rw [hc6]; done) | (rw [hc6]; rfl) | (simp [hc6]; done) | (simp only [hc6]; rfl) | (simp at *; omega)))]; exact ht.pick (l := [0, 10]) (by kernel_rfl)⟩
  ·refine qp 4 [0, 10] [(0, .string a0), (10, .bool (decide ((a0.size : Int) > 256)))] (qE ?_)
   exact ge_mid fun t ht => ⟨(Imm.refl _), rfl, by rw [(show b3 = (decide ((a0.size : Int) > 256)) from hb4.trans (by first | (rw [hc6]; done) | (rw [hc6]; rfl) | (simp [hc6]; done) | (simp only [hc6]; rfl) | (simp at *; omega)))]; exact ht.pick (l := [0, 10]) (by kernel_rfl)⟩
 ·rintro t I5 L' ⟨hI1, rfl, hK2⟩
  subst hb4
  refine ge_at hK2 ?_
  refine qs ?_
  refine gk_cond (b := ((a0.toList == (⟨#[]⟩ : ByteArray).toList) || (decide ((a0.size : Int) > 256)))) (by kernel_rfl) (by kernel_rfl) (fun hc7 => ?_) (fun hc7 => ?_)
  ·have hr := cond_t hc7 hr
   refine qk (qR (qp 1 [2] [(2, .bool false)] (qE (qs (qt (qu ?_))))))
   obtain rfl := some_inj hr
   exact ge_result trivial (ResOk.tmp (by kernel_rfl) ResOk.nil) hI1 ⟨rfl, rfl⟩
  ·have hr := cond_f hc7 hr
   refine qx (qs (qk (qk (qR (qp 3 [0, 12, 13] [(0, .string a0), (12, .int .i64 (a0.size : Int)), (13, .int .i64 0)] (qE (qs ?_)))))))
   obtain ⟨r12, hl13, hr⟩ := bind_some hr
   refine gk_join (fun t I' L' => ∃ r20, r12 = Sum.inl r20 ∧ I5 ≤ I' ∧ L = L' ∧ Knows 39 [] t) ?_ ?_
   ·refine qb (qq [0, 12, 13] [(0, .string a0), (12, .int .i64 (a0.size : Int)), (13, .int .i64 0)] ?_)
    intro t hK
    refine gc_loop (tocsinref04_Metric_l24 a0) (fun s14 t I' L' => I5 ≤ I' ∧ L = L' ∧ Knows 39 [(0, .string a0), (12, .int .i64 (a0.size : Int)), (13, .int .i64 s14)] t) (by kernel_rfl) ?_ hl13 ⟨(Imm.refl _), rfl, hK⟩
    rintro s14 o15 t I19 L' hb16 ⟨hI17, rfl, hK18⟩
    unfold tocsinref04_Metric_l24 at hb16
    refine gk_at hK18 ?_
    refine qk (qR (qp 1 [0, 12, 13, 14] [(0, .string a0), (12, .int .i64 (a0.size : Int)), (13, .int .i64 s14), (14, .bool (decide (s14 < (a0.size : Int))))] (qE (qs (qk ?_)))))
    refine gk_cond (b := (decide (s14 < (a0.size : Int)))) (by kernel_rfl) (by kernel_rfl) (fun hc26 => ?_) (fun hc26 => ?_)
    ·have hb16 := cond_t hc26 hb16
     refine qx (qs (qk (qb (qk (qR (qp 2 [0, 3, 12, 13] [(0, .string a0), (3, .int .i64 s14), (12, .int .i64 (a0.size : Int)), (13, .int .i64 s14)] (qE (qs (qk ?_)))))))))
     obtain ⟨j27, hj28, hb16⟩ := bind_some hb16
     refine gk_join (fun t I' L' => I19 ≤ I' ∧ L = L' ∧ Knows 39 [(0, .string a0), (12, .int .i64 (a0.size : Int)), (13, .int .i64 s14), (37, .bool j27)] t) ?_ ?_
     ·refine qR (qp 2 [0, 3, 12, 13, 16, 17] [(0, .string a0), (3, .int .i64 s14), (12, .int .i64 (a0.size : Int)), (13, .int .i64 s14), (16, .string a0), (17, .int .i64 s14)] ?_)
      obtain ⟨c32, hx33, hj28⟩ := bind_some hj28
      refine gl_index' (T' := 9) (xs := (.tmp 16)) (xi := (.tmp 17)) (kd := .i64) hx33 (by kernel_rfl) (by kernel_rfl) (by kernel_rfl) (by kernel_rfl) (by kernel_rfl) ?_
      refine gl_callQ (by kernel_rfl) (tocsinref04_letter_walk (r := (tocsinref04_letter c32))  rfl _) ?_
      refine qp 2 [0, 3, 12, 13, 21] [(0, .string a0), (3, .int .i64 s14), (12, .int .i64 (a0.size : Int)), (13, .int .i64 s14), (21, .bool (!(tocsinref04_letter c32)))] ?_
      refine gl_case 21 (b := (!(tocsinref04_letter c32))) (by kernel_rfl) (fun hc34 => ?_) (fun hc34 => ?_)
      ·have hj28 := cond_t hc34 hj28
       refine qp 2 [0, 3, 12, 13, 21, 22, 23] [(0, .string a0), (3, .int .i64 s14), (12, .int .i64 (a0.size : Int)), (13, .int .i64 s14), (21, .bool true), (22, .string a0), (23, .int .i64 s14)] ?_
       obtain ⟨c35, hx36, hj28⟩ := bind_some hj28
       refine gl_index' (T' := 9) (xs := (.tmp 22)) (xi := (.tmp 23)) (kd := .i64) hx36 (by kernel_rfl) (by kernel_rfl) (by kernel_rfl) (by kernel_rfl) (by kernel_rfl) ?_
       refine qp 3 [0, 3, 12, 13, 27] [(0, .string a0), (3, .int .i64 s14), (12, .int .i64 (a0.size : Int)), (13, .int .i64 s14), (27, .bool (c35 != 58))] ?_
       refine gl_case 27 (b := (c35 != 58)) (by kernel_rfl) (fun hc37 => ?_) (fun hc37 => ?_)
       ·have hj28 := cond_t hc37 hj28
        refine qp 3 [0, 3, 12, 13, 27, 30] [(0, .string a0), (3, .int .i64 s14), (12, .int .i64 (a0.size : Int)), (13, .int .i64 s14), (27, .bool true), (30, .bool (s14 == 0))] ?_
        refine gl_case 30 (b := (s14 == 0)) (by kernel_rfl) (fun hc38 => ?_) (fun hc38 => ?_)
        ·have hj28 := cond_t hc38 hj28
         refine qp 7 [0, 12, 13, 37] [(0, .string a0), (12, .int .i64 (a0.size : Int)), (13, .int .i64 s14), (37, .bool true)] (qE ?_)
         obtain rfl := some_inj hj28
         exact ge_mid fun t ht => ⟨(Imm.refl _), rfl, ht.pick (l := [0, 12, 13, 37]) (by kernel_rfl)⟩
        ·have hj28 := cond_f hc38 hj28
         refine qp 2 [0, 12, 13, 27, 30, 31, 32] [(0, .string a0), (12, .int .i64 (a0.size : Int)), (13, .int .i64 s14), (27, .bool true), (30, .bool false), (31, .string a0), (32, .int .i64 s14)] ?_
         obtain ⟨c39, hx40, hj28⟩ := bind_some hj28
         refine gl_index' (T' := 9) (xs := (.tmp 31)) (xi := (.tmp 32)) (kd := .i64) hx40 (by kernel_rfl) (by kernel_rfl) (by kernel_rfl) (by kernel_rfl) (by kernel_rfl) ?_
         refine gl_callQ (by kernel_rfl) (tocsinref04_digit_walk (r := (tocsinref04_digit c39))  rfl _) ?_
         refine qp 3 [0, 12, 13, 37] [(0, .string a0), (12, .int .i64 (a0.size : Int)), (13, .int .i64 s14), (37, .bool (!(tocsinref04_digit c39)))] (qE ?_)
         obtain rfl := some_inj hj28
         exact ge_mid fun t ht => ⟨(Imm.refl _), rfl, ht.pick (l := [0, 12, 13, 37]) (by kernel_rfl)⟩
       ·have hj28 := cond_f hc37 hj28
        refine qp 10 [0, 12, 13, 37] [(0, .string a0), (12, .int .i64 (a0.size : Int)), (13, .int .i64 s14), (37, .bool false)] (qE ?_)
        obtain rfl := some_inj hj28
        exact ge_mid fun t ht => ⟨(Imm.refl _), rfl, ht.pick (l := [0, 12, 13, 37]) (by kernel_rfl)⟩
      ·have hj28 := cond_f hc34 hj28
       refine qp 16 [0, 12, 13, 37] [(0, .string a0), (12, .int .i64 (a0.size : Int)), (13, .int .i64 s14), (37, .bool false)] (qE ?_)
       obtain rfl := some_inj hj28
       exact ge_mid fun t ht => ⟨(Imm.refl _), rfl, ht.pick (l := [0, 12, 13, 37]) (by kernel_rfl)⟩
     ·rintro t I31 L' ⟨hI29, rfl, hK30⟩
      refine ge_at hK30 ?_
      refine qs ?_
      refine gk_cond (b := j27) (by kernel_rfl) (by kernel_rfl) (fun hc41 => ?_) (fun hc41 => ?_)
      ·have hb16 := cond_t hc41 hb16
       refine qk (qR (qp 1 [2] [(2, .bool false)] (qE (qs (qt (qv (qu ?_)))))))
       obtain rfl := some_inj hb16
       refine ge_round_out (fun hrr => ?_) (by intro h; cases h)
       obtain rfl := hrr
       refine qv (qu (qu ?_))
       obtain rfl := some_inj hr
       exact ge_result trivial (ResOk.tmp (by kernel_rfl) ResOk.nil) (Imm.trans (Imm.trans hI1 hI17) hI29) ⟨rfl, rfl⟩
      ·have hb16 := cond_f hc41 hb16
       refine qx (qn (qs (qR (qp 2 [0, 12, 13] [(0, .string a0), (12, .int .i64 (a0.size : Int)), (13, .int .i64 (IntKind.wrap .i64 (s14 + 1)))] (qE ?_)))))
       obtain rfl := some_inj hb16
       exact ge_round fun t ht => ⟨(Imm.trans hI17 hI29), rfl, ht.pick (l := [0, 12, 13]) (by kernel_rfl)⟩
    ·have hb16 := cond_f hc26 hb16
     refine qe (qf ?_)
     obtain rfl := some_inj hb16
     refine ge_round_out (fun hrr => ?_) (by intro h; cases h)
     obtain rfl := hrr
     refine qh ?_
     exact ge_mid fun t ht => ⟨_, rfl, hI17, rfl, ht.pick (l := []) (by kernel_rfl)⟩
   ·rintro t I23 L' ⟨r20, rfl, hI21, rfl, hK22⟩
    refine ge_at hK22 ?_
    refine qs (qk (qR (qp 1 [2] [(2, .bool true)] (qE (qs (qt ?_))))))
    obtain rfl := some_inj hr
    exact ge_result trivial (ResOk.tmp (by kernel_rfl) ResOk.nil) (Imm.trans hI1 hI21) ⟨rfl, rfl⟩
/-! 112 tocsinref04_has  -/
noncomputable def tocsinref04_has_l17 (a0 : List ByteArray) (a1 : ByteArray) : Int → Option ((Int) ⊕ ((Unit) ⊕ (Bool))) := fun s7 =>
 bif (decide (s7 < (a0.length : Int))) then
 (Option.bind (ix a0 s7) fun (x20 : ByteArray) =>
  bif (x20.toList == a1.toList) then
  (some (Sum.inr (Sum.inr true)))
  else
  (some (Sum.inl (IntKind.wrap .i64 (s7 + 1)))))
 else
 (some (Sum.inr (Sum.inl ())))
noncomputable def tocsinref04_has (a0 : List ByteArray) (a1 : ByteArray) : Option Bool :=
 Option.bind (loopO (tocsinref04_has_l17 a0 a1) 0) fun (r5 : (Unit) ⊕ (Bool)) =>
 match r5 with
 | Sum.inl r13 => some false
 | Sum.inr v29 => some v29
theorem tocsinref04_has_walk {a0 : List ByteArray} {A0_0 : Option Addr} {n0_0 : Nat} {a1 : ByteArray} {I : Imm} {r : Bool}  (hf0_0 : RepS Kd.str I A0_0 n0_0 a0) (hr : tocsinref04_has a0 a1 = some r) (L : Own) :
  CallsTo Tryz.prog 112 #[.slice A0_0 a0.length n0_0, .string a1] I L (fun v I' L' => v = .bool r ∧ L = L') := by
 unfold tocsinref04_has at hr
 refine callsTo_body (N := 17) Tryz.func112 (by kernel_rfl) (by kernel_rfl) (by kernel_rfl) ?_
 refine qq [0, 1] [(0, .slice A0_0 a0.length n0_0), (1, .string a1)] (qk (qR (qp 1 [0, 1] [(0, .slice A0_0 a0.length n0_0), (1, .string a1)] (qE (qs (qk (qk (qR (qp 3 [1, 7, 8, 9] [(1, .string a1), (7, .slice A0_0 a0.length n0_0), (8, .int .i64 (a0.length : Int)), (9, .int .i64 0)] (qE (qs ?_)))))))))))
 obtain ⟨r5, hl6, hr⟩ := bind_some hr
 refine gk_join (fun t I' L' => ∃ r13, r5 = Sum.inl r13 ∧ I ≤ I' ∧ L = L' ∧ Knows 17 [] t) ?_ ?_
 ·refine qb (qq [1, 7, 8, 9] [(1, .string a1), (7, .slice A0_0 a0.length n0_0), (8, .int .i64 (a0.length : Int)), (9, .int .i64 0)] ?_)
  intro t hK
  refine gc_loop (tocsinref04_has_l17 a0 a1) (fun s7 t I' L' => I ≤ I' ∧ L = L' ∧ Knows 17 [(1, .string a1), (7, .slice A0_0 a0.length n0_0), (8, .int .i64 (a0.length : Int)), (9, .int .i64 s7)] t) (by kernel_rfl) ?_ hl6 ⟨(Imm.refl _), rfl, hK⟩
  rintro s7 o8 t I12 L' hb9 ⟨hI10, rfl, hK11⟩
  unfold tocsinref04_has_l17 at hb9
  refine gk_at hK11 ?_
  refine qk (qR (qp 1 [1, 7, 8, 9, 10] [(1, .string a1), (7, .slice A0_0 a0.length n0_0), (8, .int .i64 (a0.length : Int)), (9, .int .i64 s7), (10, .bool (decide (s7 < (a0.length : Int))))] (qE (qs (qk ?_)))))
  refine gk_cond (b := (decide (s7 < (a0.length : Int)))) (by kernel_rfl) (by kernel_rfl) (fun hc19 => ?_) (fun hc19 => ?_)
  ·have hb9 := cond_t hc19 hb9
   refine qx (qs (qk (qb (qk (qR ?_)))))
   obtain ⟨x20, hx21, hb9⟩ := bind_some hb9
   obtain ⟨p22, cs23, hR24, hA25, ha26⟩ := RepS.ixAt hx21 (hf0_0.mono hI10)
   have hi27 := ix_some hx21
   obtain rfl := hR24
   refine gl_indexAddrF (c := n0_0) (T' := 44) (e := 9) (xs := (.tmp 7)) (xi := (.tmp 9)) (kd := .i64) ha26 hi27.1 hi27.2.1 (by kernel_rfl) (by kernel_rfl) (by kernel_rfl) (by kernel_rfl) (by kernel_rfl) ?_
   refine gl_load (T' := 9) (xp := (.tmp 11)) (p := p22) (c := .string x20) (n := 1) (by kernel_rfl) (by kernel_rfl) (by kernel_rfl) (by kernel_rfl) hA25 ?_
   refine qp 1 [1, 6, 7, 8, 9] [(1, .string a1), (6, .string x20), (7, .slice A0_0 a0.length n0_0), (8, .int .i64 (a0.length : Int)), (9, .int .i64 s7)] (qE (qs (qk (qR (qp 3 [1, 7, 8, 9, 15] [(1, .string a1), (7, .slice A0_0 a0.length n0_0), (8, .int .i64 (a0.length : Int)), (9, .int .i64 s7), (15, .bool (x20.toList == a1.toList))] (qE (qs ?_)))))))
   refine gk_cond (b := (x20.toList == a1.toList)) (by kernel_rfl) (by kernel_rfl) (fun hc28 => ?_) (fun hc28 => ?_)
   ·have hb9 := cond_t hc28 hb9
    refine qk (qR (qp 1 [4] [(4, .bool true)] (qE (qs (qt (qv (qu ?_)))))))
    obtain rfl := some_inj hb9
    refine ge_round_out (fun hrr => ?_) (by intro h; cases h)
    obtain rfl := hrr
    refine qv (qu (qu ?_))
    obtain rfl := some_inj hr
    exact ge_result trivial (ResOk.tmp (by kernel_rfl) ResOk.nil) hI10 ⟨rfl, rfl⟩
   ·have hb9 := cond_f hc28 hb9
    refine qx (qn (qs (qR (qp 2 [1, 7, 8, 9] [(1, .string a1), (7, .slice A0_0 a0.length n0_0), (8, .int .i64 (a0.length : Int)), (9, .int .i64 (IntKind.wrap .i64 (s7 + 1)))] (qE ?_)))))
    obtain rfl := some_inj hb9
    exact ge_round fun t ht => ⟨hI10, rfl, ht.pick (l := [1, 7, 8, 9]) (by kernel_rfl)⟩
  ·have hb9 := cond_f hc19 hb9
   refine qe (qf ?_)
   obtain rfl := some_inj hb9
   refine ge_round_out (fun hrr => ?_) (by intro h; cases h)
   obtain rfl := hrr
   refine qh ?_
   exact ge_mid fun t ht => ⟨_, rfl, hI10, rfl, ht.pick (l := []) (by kernel_rfl)⟩
 ·rintro t I16 L' ⟨r13, rfl, hI14, rfl, hK15⟩
  refine ge_at hK15 ?_
  refine qs (qk (qR (qp 1 [4] [(4, .bool false)] (qE (qs (qt ?_))))))
  obtain rfl := some_inj hr
  exact ge_result trivial (ResOk.tmp (by kernel_rfl) ResOk.nil) hI14 ⟨rfl, rfl⟩
end Go.Proofs.YtnlkfajnaelnnaaGreatDoor
