/- Parts: W4a. -/
import Derived.Test.YtkjkkimnjpodiaaGreatDoorProg
import Derived.Test.YtkjkkimnjpodiaaGreatDoorChecked
import Derived.Test.YtkjkkimnjpodiaaGreatDoorGB35u
import Derived.Lib.LaidU8T
import Derived.Shelf.Unicode.ValidAny
set_option linter.unusedVariables false
set_option linter.unusedSimpArgs false
set_option maxRecDepth 100000
namespace Go.Proofs.YtkjkkimnjpodiaaGreatDoor
open Go.GB
structure S172 where
  f0 : Int
  f1 : Int
def kS172 : Kd S172 := Kd.iso (Kd.pair (Kd.int .u8) (Kd.int .u8)) (fun x => (x.f0, x.f1))
theorem kS172_open {I : Imm} {x : S172} {cs : List Value} (h : kS172.R I x cs) : cs = [.int .u8 x.f0, .int .u8 x.f1] := by
  obtain ⟨_, _, rfl, h_0, h_1⟩ := h
  obtain rfl := h_0
  obtain rfl := h_1
  exact rfl
theorem kS172_mk {I : Imm} {x : S172}   : kS172.R I x [.int .u8 x.f0, .int .u8 x.f1] :=
  ⟨[.int .u8 x.f0], [.int .u8 x.f1], rfl, rfl, rfl⟩
def tab1 : List Int := (List.range 256).map fun c => (Go.Lib.firstT c : Int)
def tab2 : List S172 := (List.range 16).map fun i => ⟨(Go.Lib.accLo i : Int), (Go.Lib.accHi i : Int)⟩
structure Gl (I : Imm) : Prop where
  dr : I.dr = 0
  g1 : RepS (Kd.int .u8) I (some ⟨1, 0, none⟩) 256 tab1
  g2 : RepS kS172 I (some ⟨2, 0, none⟩) 16 tab2
theorem Gl.mono {I J : Imm} (h : Gl I) (hI : I ≤ J) : Gl J := ⟨hI.dr.trans h.dr, h.g1.mono hI, h.g2.mono hI⟩
structure S76 where
  f0 : ByteArray
  f1 : ByteArray
def kS76 : Kd S76 := Kd.iso (Kd.pair Kd.str Kd.str) (fun x => (x.f0, x.f1))
def wS76 (x : S76) (n : Nat) : Prop := ∃ n0 n1, n0 + n1 + 1 ≤ n ∧ wStr x.f0 n0 ∧ wStr x.f1 n1
theorem kS76_open {I : Imm} {x : S76} {cs : List Value} (h : kS76.R I x cs) : cs = [.string x.f0, .string x.f1] := by
  obtain ⟨_, _, rfl, h_0, h_1⟩ := h
  obtain rfl := h_0
  obtain rfl := h_1
  exact rfl
theorem kS76_mk {I : Imm} {x : S76}   : kS76.R I x [.string x.f0, .string x.f1] :=
  ⟨[.string x.f0], [.string x.f1], rfl, rfl, rfl⟩
structure S38 where
  f0 : List S76
  f1 : Fl
def kS38 : Kd S38 := Kd.iso (Kd.pair (Kd.sl kS76) Kd.flt) (fun x => (x.f0, x.f1))
def wS38 (x : S38) (n : Nat) : Prop := ∃ n0 n1, n0 + n1 + 1 ≤ n ∧ (wSl wS76) x.f0 n0 ∧ wFlt x.f1 n1
theorem kS38_open {I : Imm} {x : S38} {cs : List Value} (h : kS38.R I x cs) : ∃ A0 c0 b1, RepS kS76 I A0 c0 x.f0 ∧ FRep x.f1 b1 ∧ cs = [.slice A0 x.f0.length c0, .float .f64 b1] := by
  obtain ⟨_, _, rfl, ⟨A_0, c_0, rfl, h_0⟩, ⟨b_1, rfl, h_1⟩⟩ := h
  exact ⟨A_0, c_0, b_1, h_0, h_1, rfl⟩
theorem kS38_mk {I : Imm} {x : S38} {A0 : Option Addr} {c0 : Nat} {b1 : Nat} (h0 : RepS kS76 I A0 c0 x.f0) (h1 : FRep x.f1 b1) : kS38.R I x [.slice A0 x.f0.length c0, .float .f64 b1] :=
  ⟨[.slice A0 x.f0.length c0], [.float .f64 b1], rfl, ⟨_, _, rfl, h0⟩, ⟨_, rfl, h1⟩⟩
noncomputable def labels_digit (a0 : Int) : Bool :=
  ((decide (a0 ≥ 48)) && (decide (a0 ≤ 57)))
theorem labels_digit_walk {a0 : Int} {I : Imm} {r : Bool}  (hr : labels_digit a0 = r) (L : Own) :
    CallsTo Tryz.prog 160 #[.int .u8 a0] I L (fun v I' L' => v = .bool r ∧ L = L') := by
  replace hr : some (labels_digit a0) = some r := congrArg some hr
  unfold labels_digit at hr
  refine callsTo_body (N := 9) Tryz.func160 (by kernel_rfl) (by kernel_rfl) (by kernel_rfl) ?_
  refine gk_pick [0] (K' := [(0, .int .u8 a0)]) (by kernel_rfl) ?_
  refine gk_seq (by kernel_rfl) ?_
  refine gk_region (by kernel_rfl) ?_
  refine gl_pure 1 [0] (K' := [(0, .int .u8 a0)]) (by kernel_rfl) ?_
  refine gl_atE (by kernel_rfl) ?_
  refine ge_seq ?_
  refine gk_seq (by kernel_rfl) ?_
  obtain ⟨b3, hb4⟩ : ∃ z, z = ((decide (a0 ≥ 48)) && (decide (a0 ≤ 57))) := ⟨_, rfl⟩
  refine gk_join (fun t I' L' => I ≤ I' ∧ L = L' ∧ Knows 9 [(2, .bool b3)] t) ?_ ?_
  · refine gk_region (by kernel_rfl) ?_
    refine gl_pure 3 [0, 5] (K' := [(0, .int .u8 a0), (5, .bool (decide (a0 ≥ 48)))]) (by kernel_rfl) ?_
    refine gl_case 5 (b := (decide (a0 ≥ 48))) (by kernel_rfl) (fun hc6 => ?_) (fun hc6 => ?_)
    · refine gl_pure 4 [2] (K' := [(2, .bool (decide (a0 ≤ 57)))]) (by kernel_rfl) ?_
      refine gl_atE (by kernel_rfl) ?_
      exact ge_mid fun t ht => ⟨(Imm.refl _), rfl, by rw [(show b3 = (decide (a0 ≤ 57)) from hb4.trans (by first | (rw [hc6]; done) | (rw [hc6]; rfl) | (simp [hc6]; done) | (simp only [hc6]; rfl) | (simp at *; omega)))]; exact ht.pick (l := [2]) (by kernel_rfl)⟩
    · refine gl_pure 4 [2] (K' := [(2, .bool false)]) (by kernel_rfl) ?_
      refine gl_atE (by kernel_rfl) ?_
      exact ge_mid fun t ht => ⟨(Imm.refl _), rfl, by rw [(show b3 = false from hb4.trans (by first | (rw [hc6]; done) | (rw [hc6]; rfl) | (simp [hc6]; done) | (simp only [hc6]; rfl) | (simp at *; omega)))]; exact ht.pick (l := [2]) (by kernel_rfl)⟩
  · rintro t I5 L' ⟨hI1, rfl, hK2⟩
    subst hb4
    refine ge_at hK2 ?_
    refine ge_seq ?_
    refine gk_ret (by kernel_rfl) ?_
    obtain rfl := some_inj hr
    exact ge_result trivial (ResOk.tmp (by kernel_rfl) ResOk.nil) hI1 ⟨rfl, rfl⟩
noncomputable def labels_letter (a0 : Int) : Bool :=
  ((((decide (a0 ≥ 97)) && (decide (a0 ≤ 122))) || ((decide (a0 ≥ 65)) && (decide (a0 ≤ 90)))) || (a0 == 95))
theorem labels_letter_walk {a0 : Int} {I : Imm} {r : Bool}  (hr : labels_letter a0 = r) (L : Own) :
    CallsTo Tryz.prog 161 #[.int .u8 a0] I L (fun v I' L' => v = .bool r ∧ L = L') := by
  replace hr : some (labels_letter a0) = some r := congrArg some hr
  unfold labels_letter at hr
  refine callsTo_body (N := 21) Tryz.func161 (by kernel_rfl) (by kernel_rfl) (by kernel_rfl) ?_
  refine gk_pick [0] (K' := [(0, .int .u8 a0)]) (by kernel_rfl) ?_
  refine gk_seq (by kernel_rfl) ?_
  refine gk_region (by kernel_rfl) ?_
  refine gl_pure 1 [0] (K' := [(0, .int .u8 a0)]) (by kernel_rfl) ?_
  refine gl_atE (by kernel_rfl) ?_
  refine ge_seq ?_
  refine gk_seq (by kernel_rfl) ?_
  obtain ⟨b3, hb4⟩ : ∃ z, z = ((((decide (a0 ≥ 97)) && (decide (a0 ≤ 122))) || ((decide (a0 ≥ 65)) && (decide (a0 ≤ 90)))) || (a0 == 95)) := ⟨_, rfl⟩
  refine gk_join (fun t I' L' => I ≤ I' ∧ L = L' ∧ Knows 21 [(2, .bool b3)] t) ?_ ?_
  · refine gk_region (by kernel_rfl) ?_
    refine gl_pure 3 [0, 5] (K' := [(0, .int .u8 a0), (5, .bool (decide (a0 ≥ 97)))]) (by kernel_rfl) ?_
    refine gl_case 5 (b := (decide (a0 ≥ 97))) (by kernel_rfl) (fun hc6 => ?_) (fun hc6 => ?_)
    · refine gl_pure 4 [0, 9] (K' := [(0, .int .u8 a0), (9, .bool (decide (a0 ≤ 122)))]) (by kernel_rfl) ?_
      refine gl_case 9 (b := (decide (a0 ≤ 122))) (by kernel_rfl) (fun hc7 => ?_) (fun hc7 => ?_)
      · refine gl_pure 12 [2] (K' := [(2, .bool true)]) (by kernel_rfl) ?_
        refine gl_atE (by kernel_rfl) ?_
        exact ge_mid fun t ht => ⟨(Imm.refl _), rfl, by rw [(show b3 = true from hb4.trans (by first | (rw [hc6, hc7]; done) | (rw [hc6, hc7]; rfl) | (simp [hc6, hc7]; done) | (simp only [hc6, hc7]; rfl) | (simp at *; omega)))]; exact ht.pick (l := [2]) (by kernel_rfl)⟩
      · refine gl_pure 3 [0, 9, 12] (K' := [(0, .int .u8 a0), (9, .bool false), (12, .bool (decide (a0 ≥ 65)))]) (by kernel_rfl) ?_
        refine gl_case 12 (b := (decide (a0 ≥ 65))) (by kernel_rfl) (fun hc8 => ?_) (fun hc8 => ?_)
        · refine gl_pure 5 [0, 17] (K' := [(0, .int .u8 a0), (17, .bool (decide (a0 ≤ 90)))]) (by kernel_rfl) ?_
          refine gl_case 17 (b := (decide (a0 ≤ 90))) (by kernel_rfl) (fun hc9 => ?_) (fun hc9 => ?_)
          · refine gl_pure 4 [2] (K' := [(2, .bool true)]) (by kernel_rfl) ?_
            refine gl_atE (by kernel_rfl) ?_
            exact ge_mid fun t ht => ⟨(Imm.refl _), rfl, by rw [(show b3 = true from hb4.trans (by first | (rw [hc6, hc7, hc8, hc9]; done) | (rw [hc6, hc7, hc8, hc9]; rfl) | (simp [hc6, hc7, hc8, hc9]; done) | (simp only [hc6, hc7, hc8, hc9]; rfl) | (simp at *; omega)))]; exact ht.pick (l := [2]) (by kernel_rfl)⟩
          · refine gl_pure 4 [2] (K' := [(2, .bool (a0 == 95))]) (by kernel_rfl) ?_
            refine gl_atE (by kernel_rfl) ?_
            exact ge_mid fun t ht => ⟨(Imm.refl _), rfl, by rw [(show b3 = (a0 == 95) from hb4.trans (by first | (rw [hc6, hc7, hc8, hc9]; done) | (rw [hc6, hc7, hc8, hc9]; rfl) | (simp [hc6, hc7, hc8, hc9]; done) | (simp only [hc6, hc7, hc8, hc9]; rfl) | (simp at *; omega)))]; exact ht.pick (l := [2]) (by kernel_rfl)⟩
        · refine gl_pure 9 [2] (K' := [(2, .bool (a0 == 95))]) (by kernel_rfl) ?_
          refine gl_atE (by kernel_rfl) ?_
          exact ge_mid fun t ht => ⟨(Imm.refl _), rfl, by rw [(show b3 = (a0 == 95) from hb4.trans (by first | (rw [hc6, hc7, hc8]; done) | (rw [hc6, hc7, hc8]; rfl) | (simp [hc6, hc7, hc8]; done) | (simp only [hc6, hc7, hc8]; rfl) | (simp at *; omega)))]; exact ht.pick (l := [2]) (by kernel_rfl)⟩
    · refine gl_pure 7 [0, 9, 12] (K' := [(0, .int .u8 a0), (9, .bool false), (12, .bool (decide (a0 ≥ 65)))]) (by kernel_rfl) ?_
      refine gl_case 12 (b := (decide (a0 ≥ 65))) (by kernel_rfl) (fun hc10 => ?_) (fun hc10 => ?_)
      · refine gl_pure 5 [0, 17] (K' := [(0, .int .u8 a0), (17, .bool (decide (a0 ≤ 90)))]) (by kernel_rfl) ?_
        refine gl_case 17 (b := (decide (a0 ≤ 90))) (by kernel_rfl) (fun hc11 => ?_) (fun hc11 => ?_)
        · refine gl_pure 4 [2] (K' := [(2, .bool true)]) (by kernel_rfl) ?_
          refine gl_atE (by kernel_rfl) ?_
          exact ge_mid fun t ht => ⟨(Imm.refl _), rfl, by rw [(show b3 = true from hb4.trans (by first | (rw [hc6, hc10, hc11]; done) | (rw [hc6, hc10, hc11]; rfl) | (simp [hc6, hc10, hc11]; done) | (simp only [hc6, hc10, hc11]; rfl) | (simp at *; omega)))]; exact ht.pick (l := [2]) (by kernel_rfl)⟩
        · refine gl_pure 4 [2] (K' := [(2, .bool (a0 == 95))]) (by kernel_rfl) ?_
          refine gl_atE (by kernel_rfl) ?_
          exact ge_mid fun t ht => ⟨(Imm.refl _), rfl, by rw [(show b3 = (a0 == 95) from hb4.trans (by first | (rw [hc6, hc10, hc11]; done) | (rw [hc6, hc10, hc11]; rfl) | (simp [hc6, hc10, hc11]; done) | (simp only [hc6, hc10, hc11]; rfl) | (simp at *; omega)))]; exact ht.pick (l := [2]) (by kernel_rfl)⟩
      · refine gl_pure 9 [2] (K' := [(2, .bool (a0 == 95))]) (by kernel_rfl) ?_
        refine gl_atE (by kernel_rfl) ?_
        exact ge_mid fun t ht => ⟨(Imm.refl _), rfl, by rw [(show b3 = (a0 == 95) from hb4.trans (by first | (rw [hc6, hc10]; done) | (rw [hc6, hc10]; rfl) | (simp [hc6, hc10]; done) | (simp only [hc6, hc10]; rfl) | (simp at *; omega)))]; exact ht.pick (l := [2]) (by kernel_rfl)⟩
  · rintro t I5 L' ⟨hI1, rfl, hK2⟩
    subst hb4
    refine ge_at hK2 ?_
    refine ge_seq ?_
    refine gk_ret (by kernel_rfl) ?_
    obtain rfl := some_inj hr
    exact ge_result trivial (ResOk.tmp (by kernel_rfl) ResOk.nil) hI1 ⟨rfl, rfl⟩
noncomputable def labels_named_l33 (a2 : Bool) (l11 : List Int) : Int → Option ((Int) ⊕ ((Unit) ⊕ (Bool))) := fun s23 =>
  bif (decide (s23 < (l11.length : Int))) then
  (Option.bind (ix l11 s23) fun (x36 : Int) =>
    bif (((!(labels_letter x36)) && (!(labels_digit x36))) && (!(a2 && (x36 == 58)))) then
    (some (Sum.inr (Sum.inr false)))
    else
    (some (Sum.inl (IntKind.wrap .i64 (s23 + 1)))))
  else
  (some (Sum.inr (Sum.inl ())))
noncomputable def labels_named (a0 : ByteArray) (a1 : Int) (a2 : Bool) : Option Bool :=
  Option.bind (bif (a0.toList == (⟨#[]⟩ : ByteArray).toList) then
    (some true)
    else
    (bif (decide ((a0.size : Int) > a1)) then
      (some true)
      else
      (Option.bind (bx a0 0) fun (c8 : Int) =>
        some (labels_digit c8)))) fun (j1 : Bool) =>
  bif j1 then
  (some false)
  else
  (Option.bind (sb a0) fun (l11 : List Int) =>
    Option.bind (loopO (labels_named_l33 a2 l11) 0) fun (r21 : (Unit) ⊕ (Bool)) =>
    match r21 with
    | Sum.inl r29 => some true
    | Sum.inr v54 => some v54)
theorem labels_named_walk {a0 : ByteArray} {a1 : Int} {a2 : Bool} {I : Imm} {r : Bool}  (hr : labels_named a0 a1 a2 = some r) (L : Own) :
    CallsTo Tryz.prog 119 #[.string a0, .int .i64 a1, .bool a2] I L (fun v I' L' => v = .bool r ∧ L = L') := by
  unfold labels_named at hr
  refine callsTo_body (N := 46) Tryz.func119 (by kernel_rfl) (by kernel_rfl) (by kernel_rfl) ?_
  refine gk_pick [0, 1, 2] (K' := [(0, .string a0), (1, .int .i64 a1), (2, .bool a2)]) (by kernel_rfl) ?_
  refine gk_seq (by kernel_rfl) ?_
  refine gk_region (by kernel_rfl) ?_
  refine gl_pure 1 [0, 1, 2] (K' := [(0, .string a0), (1, .int .i64 a1), (2, .bool a2)]) (by kernel_rfl) ?_
  refine gl_atE (by kernel_rfl) ?_
  refine ge_seq ?_
  refine gk_seq (by kernel_rfl) ?_
  refine gk_seq (by kernel_rfl) ?_
  obtain ⟨j1, hj2, hr⟩ := bind_some hr
  refine gk_join (fun t I' L' => I ≤ I' ∧ L = L' ∧ Knows 46 [(0, .string a0), (2, .bool a2), (21, .bool j1)] t) ?_ ?_
  · refine gk_region (by kernel_rfl) ?_
    refine gl_pure 3 [0, 1, 2, 11] (K' := [(0, .string a0), (1, .int .i64 a1), (2, .bool a2), (11, .bool (a0.toList == (⟨#[]⟩ : ByteArray).toList))]) (by kernel_rfl) ?_
    refine gl_case 11 (b := (a0.toList == (⟨#[]⟩ : ByteArray).toList)) (by kernel_rfl) (fun hc6 => ?_) (fun hc6 => ?_)
    · have hj2 := cond_t hc6 hj2
      refine gl_pure 10 [0, 2, 21] (K' := [(0, .string a0), (2, .bool a2), (21, .bool true)]) (by kernel_rfl) ?_
      refine gl_atE (by kernel_rfl) ?_
      obtain rfl := some_inj hj2
      exact ge_mid fun t ht => ⟨(Imm.refl _), rfl, ht.pick (l := [0, 2, 21]) (by kernel_rfl)⟩
    · have hj2 := cond_f hc6 hj2
      refine gl_pure 6 [0, 2, 17] (K' := [(0, .string a0), (2, .bool a2), (17, .bool (decide ((a0.size : Int) > a1)))]) (by kernel_rfl) ?_
      refine gl_case 17 (b := (decide ((a0.size : Int) > a1))) (by kernel_rfl) (fun hc7 => ?_) (fun hc7 => ?_)
      · have hj2 := cond_t hc7 hj2
        refine gl_pure 4 [0, 2, 21] (K' := [(0, .string a0), (2, .bool a2), (21, .bool true)]) (by kernel_rfl) ?_
        refine gl_atE (by kernel_rfl) ?_
        obtain rfl := some_inj hj2
        exact ge_mid fun t ht => ⟨(Imm.refl _), rfl, ht.pick (l := [0, 2, 21]) (by kernel_rfl)⟩
      · have hj2 := cond_f hc7 hj2
        refine gl_pure 1 [0, 2, 17, 18] (K' := [(0, .string a0), (2, .bool a2), (17, .bool false), (18, .string a0)]) (by kernel_rfl) ?_
        obtain ⟨c8, hx9, hj2⟩ := bind_some hj2
        refine gl_index' (T' := 9) (xs := (.tmp 18)) (xi := (.const (.int .i64 0))) (kd := .i64) hx9 (by kernel_rfl) (by kernel_rfl) (by kernel_rfl) (by kernel_rfl) (by kernel_rfl) ?_
        refine gl_callQ (by kernel_rfl) (labels_digit_walk (r := (labels_digit c8))  rfl _) ?_
        refine gl_pure 1 [0, 2, 21] (K' := [(0, .string a0), (2, .bool a2), (21, .bool (labels_digit c8))]) (by kernel_rfl) ?_
        refine gl_atE (by kernel_rfl) ?_
        obtain rfl := some_inj hj2
        exact ge_mid fun t ht => ⟨(Imm.refl _), rfl, ht.pick (l := [0, 2, 21]) (by kernel_rfl)⟩
  · rintro t I5 L' ⟨hI3, rfl, hK4⟩
    refine ge_at hK4 ?_
    refine ge_seq ?_
    refine gk_cond (b := j1) (by kernel_rfl) (by kernel_rfl) (fun hc10 => ?_) (fun hc10 => ?_)
    · have hr := cond_t hc10 hr
      refine gk_seq (by kernel_rfl) ?_
      refine gk_region (by kernel_rfl) ?_
      refine gl_pure 1 [6] (K' := [(6, .bool false)]) (by kernel_rfl) ?_
      refine gl_atE (by kernel_rfl) ?_
      refine ge_seq ?_
      refine gk_ret (by kernel_rfl) ?_
      refine ge_seq_ret ?_
      obtain rfl := some_inj hr
      exact ge_result trivial (ResOk.tmp (by kernel_rfl) ResOk.nil) hI3 ⟨rfl, rfl⟩
    · have hr := cond_f hc10 hr
      refine gk_skip (by kernel_rfl) ?_
      refine ge_seq ?_
      refine gk_seq (by kernel_rfl) ?_
      refine gk_seq (by kernel_rfl) ?_
      refine gk_region (by kernel_rfl) ?_
      refine gl_pure 1 [2, 22] (K' := [(2, .bool a2), (22, .string a0)]) (by kernel_rfl) ?_
      obtain ⟨l11, hx12, hr⟩ := bind_some hr
      refine gl_strBytes (src := 9) (dst := 98) (e := 5) (n := 1) (x := (.tmp 22)) hx12 (by kernel_rfl) (by kernel_rfl) (by kernel_rfl) (by kernel_rfl) (by kernel_rfl) (by kernel_rfl) (fun A13 n14 C15 hO16 => ?_)
      refine gl_pure 2 [2, 23, 24, 25] (K' := [(2, .bool a2), (23, .slice A13 l11.length n14), (24, .int .i64 (l11.length : Int)), (25, .int .i64 0)]) (by kernel_rfl) ?_
      refine gl_atE (by kernel_rfl) ?_
      refine ge_seq ?_
      obtain ⟨r21, hl22, hr⟩ := bind_some hr
      refine gk_join (fun t I' L' => ∃ r29, r21 = Sum.inl r29 ∧ I5 ≤ I' ∧ L = L' ∧ Knows 46 [] t) ?_ ?_
      · refine gk_block (by kernel_rfl) ?_
        refine gk_pick [2, 23, 24, 25] (K' := [(2, .bool a2), (23, .slice A13 l11.length n14), (24, .int .i64 (l11.length : Int)), (25, .int .i64 0)]) (by kernel_rfl) ?_
        intro t hK
        refine gc_loop (labels_named_l33 a2 l11) (fun s23 t I' L' => I5 ≤ I' ∧ C15 ++ L = L' ∧ Knows 46 [(2, .bool a2), (23, .slice A13 l11.length n14), (24, .int .i64 (l11.length : Int)), (25, .int .i64 s23)] t) (by kernel_rfl) ?_ hl22 ⟨(Imm.refl _), rfl, hK⟩
        rintro s23 o24 t I28 L' hb25 ⟨hI26, rfl, hK27⟩
        unfold labels_named_l33 at hb25
        refine gk_at hK27 ?_
        refine gk_seq (by kernel_rfl) ?_
        refine gk_region (by kernel_rfl) ?_
        refine gl_pure 1 [2, 23, 24, 25, 26] (K' := [(2, .bool a2), (23, .slice A13 l11.length n14), (24, .int .i64 (l11.length : Int)), (25, .int .i64 s23), (26, .bool (decide (s23 < (l11.length : Int))))]) (by kernel_rfl) ?_
        refine gl_atE (by kernel_rfl) ?_
        refine ge_seq ?_
        refine gk_seq (by kernel_rfl) ?_
        refine gk_cond (b := (decide (s23 < (l11.length : Int)))) (by kernel_rfl) (by kernel_rfl) (fun hc35 => ?_) (fun hc35 => ?_)
        · have hb25 := cond_t hc35 hb25
          refine gk_skip (by kernel_rfl) ?_
          refine ge_seq ?_
          refine gk_seq (by kernel_rfl) ?_
          refine gk_block (by kernel_rfl) ?_
          refine gk_seq (by kernel_rfl) ?_
          refine gk_region (by kernel_rfl) ?_
          obtain ⟨x36, hx37, hb25⟩ := bind_some hb25
          refine gl_indexAddrW (d := (Kd.int .u8)) (c := n14) (T' := 98) (e := 5) (xs := (.tmp 23)) (xi := (.tmp 25)) (kd := .i64) hx37 (hO16.mono hI26) (Upd.selfC _ _) (by kernel_rfl) (by kernel_rfl) (by kernel_rfl) (by kernel_rfl) (by kernel_rfl) (fun p38 cs39 hR40 hA41 hp44 => ?_)
          obtain rfl := hR40
          refine gl_loadO (T' := 5) (xp := (.tmp 27)) (p := p38) (c := .int .u8 x36) (n := 1) (by kernel_rfl) (by kernel_rfl) (by kernel_rfl) (by kernel_rfl) hA41 ?_
          refine gl_pure 1 [2, 8, 23, 24, 25] (K' := [(2, .bool a2), (8, .int .u8 x36), (23, .slice A13 l11.length n14), (24, .int .i64 (l11.length : Int)), (25, .int .i64 s23)]) (by kernel_rfl) ?_
          refine gl_atE (by kernel_rfl) ?_
          refine ge_seq ?_
          refine gk_seq (by kernel_rfl) ?_
          obtain ⟨b47, hb48⟩ : ∃ z, z = (((!(labels_letter x36)) && (!(labels_digit x36))) && (!(a2 && (x36 == 58)))) := ⟨_, rfl⟩
          refine gk_join (fun t I' L' => I28 ≤ I' ∧ C15 ++ L = L' ∧ Knows 46 [(2, .bool a2), (23, .slice A13 l11.length n14), (24, .int .i64 (l11.length : Int)), (25, .int .i64 s23), (44, .bool b47)] t) ?_ ?_
          · refine gk_region (by kernel_rfl) ?_
            refine gl_pure 1 [2, 8, 23, 24, 25, 29] (K' := [(2, .bool a2), (8, .int .u8 x36), (23, .slice A13 l11.length n14), (24, .int .i64 (l11.length : Int)), (25, .int .i64 s23), (29, .int .u8 x36)]) (by kernel_rfl) ?_
            refine gl_callQ (by kernel_rfl) (labels_letter_walk (r := (labels_letter x36))  rfl _) ?_
            refine gl_pure 2 [2, 8, 23, 24, 25, 32] (K' := [(2, .bool a2), (8, .int .u8 x36), (23, .slice A13 l11.length n14), (24, .int .i64 (l11.length : Int)), (25, .int .i64 s23), (32, .bool (!(labels_letter x36)))]) (by kernel_rfl) ?_
            refine gl_case 32 (b := (!(labels_letter x36))) (by kernel_rfl) (fun hc50 => ?_) (fun hc50 => ?_)
            · refine gl_pure 1 [2, 8, 23, 24, 25, 32, 33] (K' := [(2, .bool a2), (8, .int .u8 x36), (23, .slice A13 l11.length n14), (24, .int .i64 (l11.length : Int)), (25, .int .i64 s23), (32, .bool true), (33, .int .u8 x36)]) (by kernel_rfl) ?_
              refine gl_callQ (by kernel_rfl) (labels_digit_walk (r := (labels_digit x36))  rfl _) ?_
              refine gl_pure 3 [2, 8, 23, 24, 25, 37] (K' := [(2, .bool a2), (8, .int .u8 x36), (23, .slice A13 l11.length n14), (24, .int .i64 (l11.length : Int)), (25, .int .i64 s23), (37, .bool (!(labels_digit x36)))]) (by kernel_rfl) ?_
              refine gl_case 37 (b := (!(labels_digit x36))) (by kernel_rfl) (fun hc51 => ?_) (fun hc51 => ?_)
              · refine gl_pure 2 [2, 8, 23, 24, 25, 37, 39] (K' := [(2, .bool a2), (8, .int .u8 x36), (23, .slice A13 l11.length n14), (24, .int .i64 (l11.length : Int)), (25, .int .i64 s23), (37, .bool true), (39, .bool a2)]) (by kernel_rfl) ?_
                refine gl_case 39 (b := a2) (by kernel_rfl) (fun hc52 => ?_) (fun hc52 => ?_)
                · refine gl_pure 5 [2, 23, 24, 25, 44] (K' := [(2, .bool a2), (23, .slice A13 l11.length n14), (24, .int .i64 (l11.length : Int)), (25, .int .i64 s23), (44, .bool (!(x36 == 58)))]) (by kernel_rfl) ?_
                  refine gl_atE (by kernel_rfl) ?_
                  exact ge_mid fun t ht => ⟨(Imm.refl _), rfl, by rw [(show b47 = (!(x36 == 58)) from hb48.trans (by first | (rw [hc50, hc51, hc52]; done) | (rw [hc50, hc51, hc52]; rfl) | (simp [hc50, hc51, hc52]; done) | (simp only [hc50, hc51, hc52]; rfl) | (simp at *; omega)))]; exact ht.pick (l := [2, 23, 24, 25, 44]) (by kernel_rfl)⟩
                · refine gl_pure 5 [2, 23, 24, 25, 44] (K' := [(2, .bool a2), (23, .slice A13 l11.length n14), (24, .int .i64 (l11.length : Int)), (25, .int .i64 s23), (44, .bool true)]) (by kernel_rfl) ?_
                  refine gl_atE (by kernel_rfl) ?_
                  exact ge_mid fun t ht => ⟨(Imm.refl _), rfl, by rw [(show b47 = true from hb48.trans (by first | (rw [hc50, hc51, hc52]; done) | (rw [hc50, hc51, hc52]; rfl) | (simp [hc50, hc51, hc52]; done) | (simp only [hc50, hc51, hc52]; rfl) | (simp at *; omega)))]; exact ht.pick (l := [2, 23, 24, 25, 44]) (by kernel_rfl)⟩
              · refine gl_pure 7 [2, 23, 24, 25, 44] (K' := [(2, .bool a2), (23, .slice A13 l11.length n14), (24, .int .i64 (l11.length : Int)), (25, .int .i64 s23), (44, .bool false)]) (by kernel_rfl) ?_
                refine gl_atE (by kernel_rfl) ?_
                exact ge_mid fun t ht => ⟨(Imm.refl _), rfl, by rw [(show b47 = false from hb48.trans (by first | (rw [hc50, hc51]; done) | (rw [hc50, hc51]; rfl) | (simp [hc50, hc51]; done) | (simp only [hc50, hc51]; rfl) | (simp at *; omega)))]; exact ht.pick (l := [2, 23, 24, 25, 44]) (by kernel_rfl)⟩
            · refine gl_pure 12 [2, 23, 24, 25, 44] (K' := [(2, .bool a2), (23, .slice A13 l11.length n14), (24, .int .i64 (l11.length : Int)), (25, .int .i64 s23), (44, .bool false)]) (by kernel_rfl) ?_
              refine gl_atE (by kernel_rfl) ?_
              exact ge_mid fun t ht => ⟨(Imm.refl _), rfl, by rw [(show b47 = false from hb48.trans (by first | (rw [hc50]; done) | (rw [hc50]; rfl) | (simp [hc50]; done) | (simp only [hc50]; rfl) | (simp at *; omega)))]; exact ht.pick (l := [2, 23, 24, 25, 44]) (by kernel_rfl)⟩
          · rintro t I49 L' ⟨hI45, rfl, hK46⟩
            subst hb48
            refine ge_at hK46 ?_
            refine ge_seq ?_
            refine gk_cond (b := (((!(labels_letter x36)) && (!(labels_digit x36))) && (!(a2 && (x36 == 58))))) (by kernel_rfl) (by kernel_rfl) (fun hc53 => ?_) (fun hc53 => ?_)
            · have hb25 := cond_t hc53 hb25
              refine gk_seq (by kernel_rfl) ?_
              refine gk_region (by kernel_rfl) ?_
              refine gl_pure 1 [6] (K' := [(6, .bool false)]) (by kernel_rfl) ?_
              refine gl_atE (by kernel_rfl) ?_
              refine ge_seq ?_
              refine gk_reord (D := L) (Reord.skipC (Reord.refl _)) ?_
              refine gk_ret (by kernel_rfl) ?_
              refine ge_block_ret ?_
              refine ge_seq_ret ?_
              obtain rfl := some_inj hb25
              refine ge_round_out (fun hrr => ?_) (by intro h; cases h)
              obtain rfl := hrr
              refine ge_block_ret ?_
              refine ge_seq_ret ?_
              refine ge_seq_ret ?_
              obtain rfl := some_inj hr
              exact ge_result trivial (ResOk.tmp (by kernel_rfl) ResOk.nil) (Imm.trans (Imm.trans hI3 hI26) hI45) ⟨rfl, rfl⟩
            · have hb25 := cond_f hc53 hb25
              refine gk_skip (by kernel_rfl) ?_
              refine ge_block_normal ?_
              refine ge_seq ?_
              refine gk_region (by kernel_rfl) ?_
              refine gl_pure 2 [2, 23, 24, 25] (K' := [(2, .bool a2), (23, .slice A13 l11.length n14), (24, .int .i64 (l11.length : Int)), (25, .int .i64 (IntKind.wrap .i64 (s23 + 1)))]) (by kernel_rfl) ?_
              refine gl_atE (by kernel_rfl) ?_
              obtain rfl := some_inj hb25
              exact ge_round fun t ht => ⟨(Imm.trans hI26 hI45), rfl, ht.pick (l := [2, 23, 24, 25]) (by kernel_rfl)⟩
        · have hb25 := cond_f hc35 hb25
          refine gk_reord (D := L) (Reord.skipC (Reord.refl _)) ?_
          refine gk_exit (by kernel_rfl) ?_
          refine ge_seq_exit ?_
          obtain rfl := some_inj hb25
          refine ge_round_out (fun hrr => ?_) (by intro h; cases h)
          obtain rfl := hrr
          refine ge_block_hit (by kernel_rfl) ?_
          exact ge_mid fun t ht => ⟨_, rfl, hI26, rfl, ht.pick (l := []) (by kernel_rfl)⟩
      · rintro t I32 L' ⟨r29, rfl, hI30, rfl, hK31⟩
        refine ge_at hK31 ?_
        refine ge_seq ?_
        refine gk_seq (by kernel_rfl) ?_
        refine gk_region (by kernel_rfl) ?_
        refine gl_pure 1 [6] (K' := [(6, .bool true)]) (by kernel_rfl) ?_
        refine gl_atE (by kernel_rfl) ?_
        refine ge_seq ?_
        refine gk_ret (by kernel_rfl) ?_
        obtain rfl := some_inj hr
        exact ge_result trivial (ResOk.tmp (by kernel_rfl) ResOk.nil) (Imm.trans hI3 hI30) ⟨rfl, rfl⟩
noncomputable def labels_Name (a0 : ByteArray) : Option Bool :=
  Option.bind (labels_named a0 64 false) fun (y1 : Bool) =>
  some y1
theorem labels_Name_walk {a0 : ByteArray} {I : Imm} {r : Bool}  (hr : labels_Name a0 = some r) (L : Own) :
    CallsTo Tryz.prog 72 #[.string a0] I L (fun v I' L' => v = .bool r ∧ L = L') := by
  unfold labels_Name at hr
  refine callsTo_body (N := 5) Tryz.func72 (by kernel_rfl) (by kernel_rfl) (by kernel_rfl) ?_
  refine gk_pick [0] (K' := [(0, .string a0)]) (by kernel_rfl) ?_
  refine gk_seq (by kernel_rfl) ?_
  refine gk_region (by kernel_rfl) ?_
  refine gl_pure 1 [0] (K' := [(0, .string a0)]) (by kernel_rfl) ?_
  refine gl_atE (by kernel_rfl) ?_
  refine ge_seq ?_
  refine gk_seq (by kernel_rfl) ?_
  refine gk_region (by kernel_rfl) ?_
  refine gl_pure 1 [3] (K' := [(3, .string a0)]) (by kernel_rfl) ?_
  obtain ⟨y1, hx2, hr⟩ := bind_some hr
  refine gl_callQ (by kernel_rfl) (labels_named_walk (r := y1)  hx2 _) ?_
  refine gl_pure 1 [2] (K' := [(2, .bool y1)]) (by kernel_rfl) ?_
  refine gl_atE (by kernel_rfl) ?_
  refine ge_seq ?_
  refine gk_ret (by kernel_rfl) ?_
  obtain rfl := some_inj hr
  exact ge_result trivial (ResOk.tmp (by kernel_rfl) ResOk.nil) (Imm.refl _) ⟨rfl, rfl⟩
theorem gl_tabs {I : Imm} {L : Own} {W : World} (hG : Gl I) (hW : Holds I L W) : Go.Lib.Utf8Tabs 1 2 W := by
  refine ⟨fun c hc => ?_, fun i hi => ?_⟩
  · obtain ⟨a, cs, ha, hR, hr⟩ := hG.g1.at_ c (Go.Lib.firstT c : Int) (by simp [tab1, List.getElem?_range hc])
    cases ha
    obtain rfl : cs = [.int .u8 (Go.Lib.firstT c : Int)] := hR
    have := hW.cell (hr 0 _ rfl)
    rw [addr_add, show c * (Kd.int .u8).n + 0 = c from by show c * 1 + 0 = c; omega] at this
    exact this
  · obtain ⟨a, cs, ha, hR, hr⟩ := hG.g2.at_ i ⟨(Go.Lib.accLo i : Int), (Go.Lib.accHi i : Int)⟩ (by simp [tab2, List.getElem?_range hi])
    cases ha
    obtain rfl := kS172_open hR
    have h0 := hW.cell (hr 0 _ rfl)
    have h1 := hW.cell (hr 1 _ rfl)
    rw [addr_add] at h0 h1
    rw [show i * kS172.n + 0 = 2 * i from by show i * 2 + 0 = 2 * i; omega] at h0
    rw [show i * kS172.n + 1 = 2 * i + 1 from by show i * 2 + 1 = 2 * i + 1; omega] at h1
    exact ⟨h0, h1⟩
def lays196_ren : Go.Shelf.Ren := ⟨fun x => if x = 196 then 131 else if x = 259 then 167 else x, fun x => if x = 119 then 171 else if x = 46 then 127 else if x = 139 then 174 else if x = 138 then 173 else if x = 53 then 85 else x, fun x => if x = 3 then 1 else if x = 4 then 2 else x⟩
theorem lays196 : Go.Proofs.Lays.n196 Tryz.prog lays196_ren := {
  mixed := by kernel_rfl,
  f196 := Tryz.func131.trans (congrArg some (by kernel_rfl)),
  f259 := Tryz.func167.trans (congrArg some (by kernel_rfl)),
  t0 := Tryz.underlying0,
  a0 := Tryz.isAgg0,
  z0 := Tryz.sizeOf0,
  v0 := Tryz.zeroValue0,
  t3 := Tryz.underlying3,
  a3 := Tryz.isAgg3,
  z3 := Tryz.sizeOf3,
  v3 := Tryz.zeroValue3,
  t4 := Tryz.underlying4,
  a4 := Tryz.isAgg4,
  z4 := Tryz.sizeOf4,
  v4 := Tryz.zeroValue4,
  t5 := Tryz.underlying5,
  a5 := Tryz.isAgg5,
  z5 := Tryz.sizeOf5,
  v5 := Tryz.zeroValue5,
  t9 := Tryz.underlying9,
  a9 := Tryz.isAgg9,
  z9 := Tryz.sizeOf9,
  v9 := Tryz.zeroValue9,
  t12 := Tryz.underlying12,
  a12 := Tryz.isAgg12,
  z12 := Tryz.sizeOf12,
  v12 := Tryz.zeroValue12,
  t46 := Tryz.underlying127,
  a46 := Tryz.isAgg127,
  z46 := Tryz.sizeOf127,
  v46 := Tryz.zeroValue127,
  t53 := Tryz.underlying85,
  a53 := Tryz.isAgg85,
  z53 := Tryz.sizeOf85,
  v53 := Tryz.zeroValue85,
  t119 := Tryz.underlying171,
  a119 := Tryz.isAgg171,
  z119 := Tryz.sizeOf171,
  t138 := Tryz.underlying173,
  a138 := Tryz.isAgg173,
  z138 := Tryz.sizeOf173,
  v138 := Tryz.zeroValue173,
  t139 := Tryz.underlying174,
  a139 := Tryz.isAgg174,
  z139 := Tryz.sizeOf174,
  v139 := Tryz.zeroValue174,
  g3 := by kernel_rfl,
  g4 := by kernel_rfl }
def utf8_ValidString (a0 : ByteArray) : Option Bool := if a0.size ≤ 9223372036854775807 then some (Go.Lib.validD a0.data.toList) else none
theorem utf8_ValidString_walk {a0 : ByteArray} {I : Imm} {r : Bool} (hG : Gl I) (hr : utf8_ValidString a0 = some r) (L : Own) :
    CallsTo Tryz.prog 131 #[.string a0] I L (fun v I' L' => v = .bool r ∧ L = L') := by
  unfold utf8_ValidString at hr
  split at hr <;> cases hr
  rename_i hs
  exact callsTo_below hG.dr (fun W hW => Go.Proofs.Any.utf8_ValidString lays196 a0 W hs (gl_tabs hG hW))
noncomputable def labels_value (a0 : ByteArray) : Option Int :=
  bif (a0.toList == (⟨#[]⟩ : ByteArray).toList) then
  (some 41)
  else
  (bif (decide ((a0.size : Int) > 256)) then
    (some 4)
    else
    (Option.bind (utf8_ValidString a0) fun (y3 : Bool) =>
      bif (!y3) then
      (some 12)
      else
      (some 0)))
theorem labels_value_walk {a0 : ByteArray} {I : Imm} {r : Int} (hG : Gl I) (hr : labels_value a0 = some r) (L : Own) :
    CallsTo Tryz.prog 87 #[.string a0] I L (fun v I' L' => v = .int .i64 r ∧ L = L') := by
  unfold labels_value at hr
  refine callsTo_body (N := 14) Tryz.func87 (by kernel_rfl) (by kernel_rfl) (by kernel_rfl) ?_
  refine gk_pick [0] (K' := [(0, .string a0)]) (by kernel_rfl) ?_
  refine gk_seq (by kernel_rfl) ?_
  refine gk_region (by kernel_rfl) ?_
  refine gl_pure 1 [0] (K' := [(0, .string a0)]) (by kernel_rfl) ?_
  refine gl_atE (by kernel_rfl) ?_
  refine ge_seq ?_
  refine gk_seq (by kernel_rfl) ?_
  refine gk_block (by kernel_rfl) ?_
  refine gk_seq (by kernel_rfl) ?_
  refine gk_region (by kernel_rfl) ?_
  refine gl_pure 3 [0, 3] (K' := [(0, .string a0), (3, .bool (a0.toList == (⟨#[]⟩ : ByteArray).toList))]) (by kernel_rfl) ?_
  refine gl_atE (by kernel_rfl) ?_
  refine ge_seq ?_
  refine gk_cond (b := (a0.toList == (⟨#[]⟩ : ByteArray).toList)) (by kernel_rfl) (by kernel_rfl) (fun hc1 => ?_) (fun hc1 => ?_)
  · have hr := cond_t hc1 hr
    refine gk_seq (by kernel_rfl) ?_
    refine gk_region (by kernel_rfl) ?_
    refine gl_pure 1 [2] (K' := [(2, .int .i64 41)]) (by kernel_rfl) ?_
    refine gl_atE (by kernel_rfl) ?_
    refine ge_seq ?_
    refine gk_ret (by kernel_rfl) ?_
    refine ge_block_ret ?_
    refine ge_seq_ret ?_
    obtain rfl := some_inj hr
    exact ge_result trivial (ResOk.tmp (by kernel_rfl) ResOk.nil) (Imm.refl _) ⟨rfl, rfl⟩
  · have hr := cond_f hc1 hr
    refine gk_seq (by kernel_rfl) ?_
    refine gk_region (by kernel_rfl) ?_
    refine gl_pure 4 [0, 6] (K' := [(0, .string a0), (6, .bool (decide ((a0.size : Int) > 256)))]) (by kernel_rfl) ?_
    refine gl_atE (by kernel_rfl) ?_
    refine ge_seq ?_
    refine gk_cond (b := (decide ((a0.size : Int) > 256))) (by kernel_rfl) (by kernel_rfl) (fun hc2 => ?_) (fun hc2 => ?_)
    · have hr := cond_t hc2 hr
      refine gk_seq (by kernel_rfl) ?_
      refine gk_region (by kernel_rfl) ?_
      refine gl_pure 1 [2] (K' := [(2, .int .i64 4)]) (by kernel_rfl) ?_
      refine gl_atE (by kernel_rfl) ?_
      refine ge_seq ?_
      refine gk_ret (by kernel_rfl) ?_
      refine ge_block_ret ?_
      refine ge_seq_ret ?_
      obtain rfl := some_inj hr
      exact ge_result trivial (ResOk.tmp (by kernel_rfl) ResOk.nil) (Imm.refl _) ⟨rfl, rfl⟩
    · have hr := cond_f hc2 hr
      refine gk_seq (by kernel_rfl) ?_
      refine gk_region (by kernel_rfl) ?_
      refine gl_pure 1 [11] (K' := [(11, .string a0)]) (by kernel_rfl) ?_
      obtain ⟨y3, hx4, hr⟩ := bind_some hr
      refine gl_callQ (by kernel_rfl) (utf8_ValidString_walk (r := y3) hG hx4 _) ?_
      refine gl_pure 2 [10] (K' := [(10, .bool (!y3))]) (by kernel_rfl) ?_
      refine gl_atE (by kernel_rfl) ?_
      refine ge_seq ?_
      refine gk_cond (b := (!y3)) (by kernel_rfl) (by kernel_rfl) (fun hc5 => ?_) (fun hc5 => ?_)
      · have hr := cond_t hc5 hr
        refine gk_seq (by kernel_rfl) ?_
        refine gk_region (by kernel_rfl) ?_
        refine gl_pure 1 [2] (K' := [(2, .int .i64 12)]) (by kernel_rfl) ?_
        refine gl_atE (by kernel_rfl) ?_
        refine ge_seq ?_
        refine gk_ret (by kernel_rfl) ?_
        refine ge_block_ret ?_
        refine ge_seq_ret ?_
        obtain rfl := some_inj hr
        exact ge_result trivial (ResOk.tmp (by kernel_rfl) ResOk.nil) (Imm.refl _) ⟨rfl, rfl⟩
      · have hr := cond_f hc5 hr
        refine gk_skip (by kernel_rfl) ?_
        refine ge_block_normal ?_
        refine ge_seq ?_
        refine gk_seq (by kernel_rfl) ?_
        refine gk_region (by kernel_rfl) ?_
        refine gl_pure 1 [2] (K' := [(2, .int .i64 0)]) (by kernel_rfl) ?_
        refine gl_atE (by kernel_rfl) ?_
        refine ge_seq ?_
        refine gk_ret (by kernel_rfl) ?_
        obtain rfl := some_inj hr
        exact ge_result trivial (ResOk.tmp (by kernel_rfl) ResOk.nil) (Imm.refl _) ⟨rfl, rfl⟩
noncomputable def labels_Right_l18 (a0 : List S76) : Int → Option ((Int) ⊕ ((Unit) ⊕ (Int × Int))) := fun s8 =>
  bif (decide (s8 < (a0.length : Int))) then
  (Option.bind (ix a0 s8) fun (x21 : S76) =>
    Option.bind (labels_Name x21.f0) fun (y30 : Bool) =>
    bif (!y30) then
    (some (Sum.inr (Sum.inr (40, s8))))
    else
    (Option.bind (labels_value x21.f1) fun (y33 : Int) =>
      bif (y33 != 0) then
      (some (Sum.inr (Sum.inr (y33, s8))))
      else
      (Option.bind (bif (decide (s8 > 0)) then
          (Option.bind (ix a0 (IntKind.wrap .i64 (s8 - 1))) fun (x42 : S76) =>
            some ((Op.bytesLess x21.f0.toList x42.f0.toList) || (x21.f0.toList == x42.f0.toList)))
          else
          (some false)) fun (j36 : Bool) =>
        bif j36 then
        (some (Sum.inr (Sum.inr (3, s8))))
        else
        (some (Sum.inl (IntKind.wrap .i64 (s8 + 1)))))))
  else
  (some (Sum.inr (Sum.inl ())))
noncomputable def labels_Right (a0 : List S76) : Option (Int × Int) :=
  bif (decide ((a0.length : Int) > 16)) then
  (some (8, 0))
  else
  (Option.bind (loopO (labels_Right_l18 a0) 0) fun (r6 : (Unit) ⊕ (Int × Int)) =>
    match r6 with
    | Sum.inl r14 => some (0, 0)
    | Sum.inr v51 => some v51)
theorem labels_Right_walk {a0 : List S76} {A0_0 : Option Addr} {n0_0 : Nat} {I : Imm} {r : Int × Int} (hG : Gl I)  (hf0_0 : RepS kS76 I A0_0 n0_0 a0) (hr : labels_Right a0 = some r) (L : Own) :
    CallsTo Tryz.prog 41 #[.slice A0_0 a0.length n0_0] I L (fun v I' L' => v = .tuple #[.int .i64 r.1, .int .i64 r.2] ∧ L = L') := by
  unfold labels_Right at hr
  refine callsTo_body (N := 44) Tryz.func41 (by kernel_rfl) (by kernel_rfl) (by kernel_rfl) ?_
  refine gk_pick [0] (K' := [(0, .slice A0_0 a0.length n0_0)]) (by kernel_rfl) ?_
  refine gk_seq (by kernel_rfl) ?_
  refine gk_region (by kernel_rfl) ?_
  refine gl_pure 2 [0] (K' := [(0, .slice A0_0 a0.length n0_0)]) (by kernel_rfl) ?_
  refine gl_atE (by kernel_rfl) ?_
  refine ge_seq ?_
  refine gk_seq (by kernel_rfl) ?_
  refine gk_seq (by kernel_rfl) ?_
  refine gk_region (by kernel_rfl) ?_
  refine gl_pure 3 [0, 9] (K' := [(0, .slice A0_0 a0.length n0_0), (9, .bool (decide ((a0.length : Int) > 16)))]) (by kernel_rfl) ?_
  refine gl_atE (by kernel_rfl) ?_
  refine ge_seq ?_
  refine gk_cond (b := (decide ((a0.length : Int) > 16))) (by kernel_rfl) (by kernel_rfl) (fun hc1 => ?_) (fun hc1 => ?_)
  · have hr := cond_t hc1 hr
    refine gk_seq (by kernel_rfl) ?_
    refine gk_region (by kernel_rfl) ?_
    refine gl_pure 2 [2, 3] (K' := [(2, .int .i64 8), (3, .int .i64 0)]) (by kernel_rfl) ?_
    refine gl_atE (by kernel_rfl) ?_
    refine ge_seq ?_
    refine gk_ret (by kernel_rfl) ?_
    refine ge_seq_ret ?_
    obtain rfl := some_inj hr
    exact ge_result trivial (ResOk.tmp (by kernel_rfl) (ResOk.tmp (by kernel_rfl) ResOk.nil)) (Imm.refl _) ⟨rfl, rfl⟩
  · have hr := cond_f hc1 hr
    refine gk_skip (by kernel_rfl) ?_
    refine ge_seq ?_
    refine gk_seq (by kernel_rfl) ?_
    refine gk_seq (by kernel_rfl) ?_
    refine gk_region (by kernel_rfl) ?_
    refine gl_pure 3 [0, 10, 11, 12] (K' := [(0, .slice A0_0 a0.length n0_0), (10, .slice A0_0 a0.length n0_0), (11, .int .i64 (a0.length : Int)), (12, .int .i64 0)]) (by kernel_rfl) ?_
    refine gl_atE (by kernel_rfl) ?_
    refine ge_seq ?_
    obtain ⟨r6, hl7, hr⟩ := bind_some hr
    refine gk_join (fun t I' L' => ∃ r14, r6 = Sum.inl r14 ∧ I ≤ I' ∧ L = L' ∧ Knows 44 [] t) ?_ ?_
    · refine gk_block (by kernel_rfl) ?_
      refine gk_pick [0, 10, 11, 12] (K' := [(0, .slice A0_0 a0.length n0_0), (10, .slice A0_0 a0.length n0_0), (11, .int .i64 (a0.length : Int)), (12, .int .i64 0)]) (by kernel_rfl) ?_
      intro t hK
      refine gc_loop (labels_Right_l18 a0) (fun s8 t I' L' => I ≤ I' ∧ L = L' ∧ Knows 44 [(0, .slice A0_0 a0.length n0_0), (10, .slice A0_0 a0.length n0_0), (11, .int .i64 (a0.length : Int)), (12, .int .i64 s8)] t) (by kernel_rfl) ?_ hl7 ⟨(Imm.refl _), rfl, hK⟩
      rintro s8 o9 t I13 L' hb10 ⟨hI11, rfl, hK12⟩
      unfold labels_Right_l18 at hb10
      refine gk_at hK12 ?_
      refine gk_seq (by kernel_rfl) ?_
      refine gk_region (by kernel_rfl) ?_
      refine gl_pure 1 [0, 10, 11, 12, 13] (K' := [(0, .slice A0_0 a0.length n0_0), (10, .slice A0_0 a0.length n0_0), (11, .int .i64 (a0.length : Int)), (12, .int .i64 s8), (13, .bool (decide (s8 < (a0.length : Int))))]) (by kernel_rfl) ?_
      refine gl_atE (by kernel_rfl) ?_
      refine ge_seq ?_
      refine gk_seq (by kernel_rfl) ?_
      refine gk_cond (b := (decide (s8 < (a0.length : Int)))) (by kernel_rfl) (by kernel_rfl) (fun hc20 => ?_) (fun hc20 => ?_)
      · have hb10 := cond_t hc20 hb10
        refine gk_skip (by kernel_rfl) ?_
        refine ge_seq ?_
        refine gk_seq (by kernel_rfl) ?_
        refine gk_block (by kernel_rfl) ?_
        refine gk_seq (by kernel_rfl) ?_
        refine gk_region (by kernel_rfl) ?_
        refine gl_pure 1 [0, 10, 11, 12, 14] (K' := [(0, .slice A0_0 a0.length n0_0), (10, .slice A0_0 a0.length n0_0), (11, .int .i64 (a0.length : Int)), (12, .int .i64 s8), (14, .int .i64 s8)]) (by kernel_rfl) ?_
        obtain ⟨x21, hx22, hb10⟩ := bind_some hb10
        obtain ⟨p23, cs24, hR25, hA26, ha27⟩ := RepS.ixAt hx22 (hf0_0.mono hI11)
        have hi28 := ix_some hx22
        obtain rfl := kS76_open hR25
        refine gl_indexAddrF (c := n0_0) (T' := 36) (e := 77) (xs := (.tmp 10)) (xi := (.tmp 12)) (kd := .i64) ha27 hi28.1 hi28.2.1 (by kernel_rfl) (by kernel_rfl) (by kernel_rfl) (by kernel_rfl) (by kernel_rfl) ?_
        refine gl_loadA (T' := 77) (xp := (.tmp 15)) (p := p23) (cs := [.string x21.f0, .string x21.f1]) (by kernel_rfl) (by kernel_rfl) (by kernel_rfl) (by kernel_rfl) (hA26.take 2) ?_
        refine gl_alloc (T' := 77) (cs := #[.string (⟨#[]⟩ : ByteArray), .string (⟨#[]⟩ : ByteArray)]) (by kernel_rfl) (by kernel_rfl) (by kernel_rfl) (fun g29 => ?_)
        refine gl_pure 1 [0, 4, 5, 10, 11, 12, 16] (K' := [(0, .slice A0_0 a0.length n0_0), (4, .int .i64 s8), (5, .pointer (some ⟨g29, 0, none⟩)), (10, .slice A0_0 a0.length n0_0), (11, .int .i64 (a0.length : Int)), (12, .int .i64 s8), (16, .agg #[.string x21.f0, .string x21.f1])]) (by kernel_rfl) ?_
        refine gl_storeB (T' := 77) (xp := (.tmp 5)) (xv := (.tmp 16)) (v := .agg #[.string x21.f0, .string x21.f1]) (g := g29) (off := 0) (cs := #[.string (⟨#[]⟩ : ByteArray), .string (⟨#[]⟩ : ByteArray)]) (cs' := #[.string x21.f0, .string x21.f1]) (by kernel_rfl) (by kernel_rfl) (by kernel_rfl) (by kernel_rfl) (by kernel_rfl) (Upd.set _ _ _ _) ?_ (by kernel_rfl)
        refine gl_atE (by kernel_rfl) ?_
        refine ge_seq ?_
        refine gk_seq (by kernel_rfl) ?_
        refine gk_seq (by kernel_rfl) ?_
        refine gk_region (by kernel_rfl) ?_
        refine gl_pure 1 [0, 4, 5, 10, 11, 12, 17] (K' := [(0, .slice A0_0 a0.length n0_0), (4, .int .i64 s8), (5, .pointer (some ⟨g29, 0, none⟩)), (10, .slice A0_0 a0.length n0_0), (11, .int .i64 (a0.length : Int)), (12, .int .i64 s8), (17, .pointer (some ⟨g29, 0, none⟩))]) (by kernel_rfl) ?_
        refine gl_loadB (T' := 9) (xp := (.tmp 17)) (v := .string x21.f0) (g := g29) (off := 0) (cs := #[.string x21.f0, .string x21.f1]) (e := 77) (fz := (0, 0)) (by kernel_rfl) (by kernel_rfl) (by kernel_rfl) List.mem_cons_self (by kernel_rfl) ?_
        obtain ⟨y30, hx31, hb10⟩ := bind_some hb10
        refine gl_callQ (by kernel_rfl) (labels_Name_walk (r := y30)  hx31 _) ?_
        refine gl_pure 1 [0, 4, 5, 10, 11, 12, 20] (K' := [(0, .slice A0_0 a0.length n0_0), (4, .int .i64 s8), (5, .pointer (some ⟨g29, 0, none⟩)), (10, .slice A0_0 a0.length n0_0), (11, .int .i64 (a0.length : Int)), (12, .int .i64 s8), (20, .bool (!y30))]) (by kernel_rfl) ?_
        refine gl_atE (by kernel_rfl) ?_
        refine ge_seq ?_
        refine gk_cond (b := (!y30)) (by kernel_rfl) (by kernel_rfl) (fun hc32 => ?_) (fun hc32 => ?_)
        · have hb10 := cond_t hc32 hb10
          refine gk_seq (by kernel_rfl) ?_
          refine gk_region (by kernel_rfl) ?_
          refine gl_pure 3 [2, 3] (K' := [(2, .int .i64 40), (3, .int .i64 s8)]) (by kernel_rfl) ?_
          refine gl_atE (by kernel_rfl) ?_
          refine ge_seq ?_
          refine gk_reord (D := L) (Reord.skip (Reord.refl _)) ?_
          refine gk_ret (by kernel_rfl) ?_
          refine ge_seq_ret ?_
          refine ge_block_ret ?_
          refine ge_seq_ret ?_
          obtain rfl := some_inj hb10
          refine ge_round_out (fun hrr => ?_) (by intro h; cases h)
          obtain rfl := hrr
          refine ge_block_ret ?_
          refine ge_seq_ret ?_
          refine ge_seq_ret ?_
          obtain rfl := some_inj hr
          exact ge_result trivial (ResOk.tmp (by kernel_rfl) (ResOk.tmp (by kernel_rfl) ResOk.nil)) hI11 ⟨rfl, rfl⟩
        · have hb10 := cond_f hc32 hb10
          refine gk_skip (by kernel_rfl) ?_
          refine ge_seq ?_
          refine gk_seq (by kernel_rfl) ?_
          refine gk_seq (by kernel_rfl) ?_
          refine gk_region (by kernel_rfl) ?_
          refine gl_pure 1 [0, 4, 5, 10, 11, 12, 22] (K' := [(0, .slice A0_0 a0.length n0_0), (4, .int .i64 s8), (5, .pointer (some ⟨g29, 0, none⟩)), (10, .slice A0_0 a0.length n0_0), (11, .int .i64 (a0.length : Int)), (12, .int .i64 s8), (22, .pointer (some ⟨g29, 1, none⟩))]) (by kernel_rfl) ?_
          refine gl_loadB (T' := 9) (xp := (.tmp 22)) (v := .string x21.f1) (g := g29) (off := 1) (cs := #[.string x21.f0, .string x21.f1]) (e := 77) (fz := (0, 0)) (by kernel_rfl) (by kernel_rfl) (by kernel_rfl) List.mem_cons_self (by kernel_rfl) ?_
          obtain ⟨y33, hx34, hb10⟩ := bind_some hb10
          refine gl_callQ (by kernel_rfl) (labels_value_walk (r := y33) (hG.mono hI11) hx34 _) ?_
          refine gl_pure 1 [0, 4, 5, 6, 10, 11, 12] (K' := [(0, .slice A0_0 a0.length n0_0), (4, .int .i64 s8), (5, .pointer (some ⟨g29, 0, none⟩)), (6, .int .i64 y33), (10, .slice A0_0 a0.length n0_0), (11, .int .i64 (a0.length : Int)), (12, .int .i64 s8)]) (by kernel_rfl) ?_
          refine gl_atE (by kernel_rfl) ?_
          refine ge_seq ?_
          refine gk_seq (by kernel_rfl) ?_
          refine gk_region (by kernel_rfl) ?_
          refine gl_pure 2 [0, 4, 5, 6, 10, 11, 12, 26] (K' := [(0, .slice A0_0 a0.length n0_0), (4, .int .i64 s8), (5, .pointer (some ⟨g29, 0, none⟩)), (6, .int .i64 y33), (10, .slice A0_0 a0.length n0_0), (11, .int .i64 (a0.length : Int)), (12, .int .i64 s8), (26, .bool (y33 != 0))]) (by kernel_rfl) ?_
          refine gl_atE (by kernel_rfl) ?_
          refine ge_seq ?_
          refine gk_cond (b := (y33 != 0)) (by kernel_rfl) (by kernel_rfl) (fun hc35 => ?_) (fun hc35 => ?_)
          · have hb10 := cond_t hc35 hb10
            refine gk_seq (by kernel_rfl) ?_
            refine gk_region (by kernel_rfl) ?_
            refine gl_pure 4 [2, 3] (K' := [(2, .int .i64 y33), (3, .int .i64 s8)]) (by kernel_rfl) ?_
            refine gl_atE (by kernel_rfl) ?_
            refine ge_seq ?_
            refine gk_reord (D := L) (Reord.skip (Reord.refl _)) ?_
            refine gk_ret (by kernel_rfl) ?_
            refine ge_seq_ret ?_
            refine ge_block_ret ?_
            refine ge_seq_ret ?_
            obtain rfl := some_inj hb10
            refine ge_round_out (fun hrr => ?_) (by intro h; cases h)
            obtain rfl := hrr
            refine ge_block_ret ?_
            refine ge_seq_ret ?_
            refine ge_seq_ret ?_
            obtain rfl := some_inj hr
            exact ge_result trivial (ResOk.tmp (by kernel_rfl) (ResOk.tmp (by kernel_rfl) ResOk.nil)) hI11 ⟨rfl, rfl⟩
          · have hb10 := cond_f hc35 hb10
            refine gk_skip (by kernel_rfl) ?_
            refine ge_seq ?_
            refine gk_seq (by kernel_rfl) ?_
            obtain ⟨j36, hj37, hb10⟩ := bind_some hb10
            refine gk_join (fun t I' L' => I13 ≤ I' ∧ L = L' ∧ Knows 44 [(0, .slice A0_0 a0.length n0_0), (4, .int .i64 s8), (10, .slice A0_0 a0.length n0_0), (11, .int .i64 (a0.length : Int)), (12, .int .i64 s8), (41, .bool j36)] t) ?_ ?_
            · refine gk_draw 13 [(0, true), (1, true), (2, true), (3, true), (4, true), (5, true), (6, true), (7, true), (8, true), (9, true), (10, true), (11, true), (12, true)] [(g29, .cells #[.string x21.f0, .string x21.f1] 77)] (List.forall_mem_cons.2 ⟨List.mem_cons_self, (fun p hp => by cases hp)⟩) (by kernel_rfl) (by kernel_rfl) (by kernel_rfl) ?_ (by kernel_rfl)
              refine gd_pure 3 [0, 4, 5, 10, 11, 12, 31] (K' := [(0, .slice A0_0 a0.length n0_0), (4, .int .i64 s8), (5, .pointer (some ⟨g29, 0, none⟩)), (10, .slice A0_0 a0.length n0_0), (11, .int .i64 (a0.length : Int)), (12, .int .i64 s8), (31, .bool (decide (s8 > 0)))]) (s' := [(3, true), (4, true), (5, true), (6, true), (7, true), (8, true), (9, true), (10, true), (11, true), (12, true)]) (CC.refl (List.forall_mem_cons.2 ⟨List.mem_cons_self, (fun p hp => by cases hp)⟩)) (by kernel_rfl) ?_
              refine gd_case 31 (b := (decide (s8 > 0))) (by kernel_rfl) (fun hc41 => ?_) (fun hc41 => ?_)
              · have hj37 := cond_t hc41 hj37
                refine gd_pure 1 [0, 4, 10, 11, 12, 31, 32] (K' := [(0, .slice A0_0 a0.length n0_0), (4, .int .i64 s8), (10, .slice A0_0 a0.length n0_0), (11, .int .i64 (a0.length : Int)), (12, .int .i64 s8), (31, .bool true), (32, .pointer (some ⟨g29, 0, none⟩))]) (s' := [(4, true), (5, true), (6, true), (7, true), (8, true), (9, true), (10, true), (11, true), (12, true)]) (CC.refl (List.forall_mem_cons.2 ⟨List.mem_cons_self, (fun p hp => by cases hp)⟩)) (by kernel_rfl) ?_
                refine gd_q (v := .string x21.f0) (by kernel_rfl) (by kernel_rfl) (CC.refl (List.forall_mem_cons.2 ⟨List.mem_cons_self, (fun p hp => by cases hp)⟩)) (fun I' L' T hC kk => gl_loadB (T' := 9) (xp := (.tmp 32)) (v := .string x21.f0) (g := g29) (off := 0) (cs := #[.string x21.f0, .string x21.f1]) (e := 77) (fz := (0, 0)) (by kernel_rfl) (by kernel_rfl) (by kernel_rfl) (hC.sub _ List.mem_cons_self) (by kernel_rfl) kk) ?_
                refine gd_pure 3 [0, 4, 10, 11, 12, 31, 33, 34, 36] (K' := [(0, .slice A0_0 a0.length n0_0), (4, .int .i64 s8), (10, .slice A0_0 a0.length n0_0), (11, .int .i64 (a0.length : Int)), (12, .int .i64 s8), (31, .bool true), (33, .string x21.f0), (34, .slice A0_0 a0.length n0_0), (36, .int .i64 (IntKind.wrap .i64 (s8 - 1)))]) (s' := [(8, true), (9, true), (10, true), (11, true), (12, true)]) (CC.refl (List.forall_mem_cons.2 ⟨List.mem_cons_self, (fun p hp => by cases hp)⟩)) (by kernel_rfl) ?_
                obtain ⟨x42, hx43, hj37⟩ := bind_some hj37
                obtain ⟨p44, cs45, hR46, hA47, ha48⟩ := RepS.ixAt hx43 (hf0_0.mono hI11)
                have hi49 := ix_some hx43
                obtain rfl := kS76_open hR46
                refine gd_q (v := .pointer (some p44)) (by kernel_rfl) (by kernel_rfl) (CC.refl (List.forall_mem_cons.2 ⟨List.mem_cons_self, (fun p hp => by cases hp)⟩)) (fun I' L' T hC kk => gl_indexAddrF (c := n0_0) (T' := 36) (e := 77) (xs := (.tmp 34)) (xi := (.tmp 36)) (kd := .i64) ha48 hi49.1 hi49.2.1 (by kernel_rfl) (by kernel_rfl) (by kernel_rfl) (by kernel_rfl) (by kernel_rfl) kk) ?_
                refine gd_pure 1 [0, 4, 10, 11, 12, 31, 33, 38] (K' := [(0, .slice A0_0 a0.length n0_0), (4, .int .i64 s8), (10, .slice A0_0 a0.length n0_0), (11, .int .i64 (a0.length : Int)), (12, .int .i64 s8), (31, .bool true), (33, .string x21.f0), (38, .pointer (some (p44.add 0)))]) (s' := [(10, true), (11, true), (12, true)]) (CC.refl (List.forall_mem_cons.2 ⟨List.mem_cons_self, (fun p hp => by cases hp)⟩)) (by kernel_rfl) ?_
                refine gd_q (v := .string x42.f0) (by kernel_rfl) (by kernel_rfl) (CC.refl (List.forall_mem_cons.2 ⟨List.mem_cons_self, (fun p hp => by cases hp)⟩)) (fun I' L' T hC kk => gl_load (T' := 9) (xp := (.tmp 38)) (p := (p44.add 0)) (c := .string x42.f0) (n := 1) (by kernel_rfl) (by kernel_rfl) (by kernel_rfl) (by kernel_rfl) ((hA47.drop 0).mono hC.le) kk) ?_
                refine gd_pure 2 [0, 4, 10, 11, 12, 41] (K' := [(0, .slice A0_0 a0.length n0_0), (4, .int .i64 s8), (10, .slice A0_0 a0.length n0_0), (11, .int .i64 (a0.length : Int)), (12, .int .i64 s8), (41, .bool ((Op.bytesLess x21.f0.toList x42.f0.toList) || (x21.f0.toList == x42.f0.toList)))]) (s' := []) (CC.refl (List.forall_mem_cons.2 ⟨List.mem_cons_self, (fun p hp => by cases hp)⟩)) (by kernel_rfl) ?_
                refine gd_done ?_
                refine gl_reord (D := L) (Reord.skip (Reord.refl _)) ?_
                refine gl_atE (by kernel_rfl) ?_
                obtain rfl := some_inj hj37
                exact ge_mid fun t ht => ⟨(Imm.refl _), rfl, ht.pick (l := [0, 4, 10, 11, 12, 41]) (by kernel_rfl)⟩
              · have hj37 := cond_f hc41 hj37
                refine gd_pure 10 [0, 4, 10, 11, 12, 41] (K' := [(0, .slice A0_0 a0.length n0_0), (4, .int .i64 s8), (10, .slice A0_0 a0.length n0_0), (11, .int .i64 (a0.length : Int)), (12, .int .i64 s8), (41, .bool false)]) (s' := []) (CC.refl (List.forall_mem_cons.2 ⟨List.mem_cons_self, (fun p hp => by cases hp)⟩)) (by kernel_rfl) ?_
                refine gd_done ?_
                refine gl_reord (D := L) (Reord.skip (Reord.refl _)) ?_
                refine gl_atE (by kernel_rfl) ?_
                obtain rfl := some_inj hj37
                exact ge_mid fun t ht => ⟨(Imm.refl _), rfl, ht.pick (l := [0, 4, 10, 11, 12, 41]) (by kernel_rfl)⟩
            · rintro t I40 L' ⟨hI38, rfl, hK39⟩
              refine ge_at hK39 ?_
              refine ge_seq ?_
              refine gk_cond (b := j36) (by kernel_rfl) (by kernel_rfl) (fun hc50 => ?_) (fun hc50 => ?_)
              · have hb10 := cond_t hc50 hb10
                refine gk_seq (by kernel_rfl) ?_
                refine gk_region (by kernel_rfl) ?_
                refine gl_pure 3 [2, 3] (K' := [(2, .int .i64 3), (3, .int .i64 s8)]) (by kernel_rfl) ?_
                refine gl_atE (by kernel_rfl) ?_
                refine ge_seq ?_
                refine gk_ret (by kernel_rfl) ?_
                refine ge_block_ret ?_
                refine ge_seq_ret ?_
                obtain rfl := some_inj hb10
                refine ge_round_out (fun hrr => ?_) (by intro h; cases h)
                obtain rfl := hrr
                refine ge_block_ret ?_
                refine ge_seq_ret ?_
                refine ge_seq_ret ?_
                obtain rfl := some_inj hr
                exact ge_result trivial (ResOk.tmp (by kernel_rfl) (ResOk.tmp (by kernel_rfl) ResOk.nil)) (Imm.trans hI11 hI38) ⟨rfl, rfl⟩
              · have hb10 := cond_f hc50 hb10
                refine gk_skip (by kernel_rfl) ?_
                refine ge_block_normal ?_
                refine ge_seq ?_
                refine gk_region (by kernel_rfl) ?_
                refine gl_pure 2 [0, 10, 11, 12] (K' := [(0, .slice A0_0 a0.length n0_0), (10, .slice A0_0 a0.length n0_0), (11, .int .i64 (a0.length : Int)), (12, .int .i64 (IntKind.wrap .i64 (s8 + 1)))]) (by kernel_rfl) ?_
                refine gl_atE (by kernel_rfl) ?_
                obtain rfl := some_inj hb10
                exact ge_round fun t ht => ⟨(Imm.trans hI11 hI38), rfl, ht.pick (l := [0, 10, 11, 12]) (by kernel_rfl)⟩
      · have hb10 := cond_f hc20 hb10
        refine gk_exit (by kernel_rfl) ?_
        refine ge_seq_exit ?_
        obtain rfl := some_inj hb10
        refine ge_round_out (fun hrr => ?_) (by intro h; cases h)
        obtain rfl := hrr
        refine ge_block_hit (by kernel_rfl) ?_
        exact ge_mid fun t ht => ⟨_, rfl, hI11, rfl, ht.pick (l := []) (by kernel_rfl)⟩
    · rintro t I17 L' ⟨r14, rfl, hI15, rfl, hK16⟩
      refine ge_at hK16 ?_
      refine ge_seq ?_
      refine gk_seq (by kernel_rfl) ?_
      refine gk_region (by kernel_rfl) ?_
      refine gl_pure 2 [2, 3] (K' := [(2, .int .i64 0), (3, .int .i64 0)]) (by kernel_rfl) ?_
      refine gl_atE (by kernel_rfl) ?_
      refine ge_seq ?_
      refine gk_ret (by kernel_rfl) ?_
      obtain rfl := some_inj hr
      exact ge_result trivial (ResOk.tmp (by kernel_rfl) (ResOk.tmp (by kernel_rfl) ResOk.nil)) hI15 ⟨rfl, rfl⟩
noncomputable def slices_Clone (a0 : List S76) : Option (List S76) :=
  Option.bind (app ([] : List S76) a0) fun (zs3 : List S76) =>
  some zs3
theorem slices_Clone_walk {a0 : List S76} {A0_0 : Option Addr} {n0_0 : Nat} {I : Imm} {r : (List S76)}  (hf0_0 : RepS kS76 I A0_0 n0_0 a0) (hr : slices_Clone a0 = some r) (L : Own) :
    CallsTo Tryz.prog 42 #[.slice A0_0 a0.length n0_0] I L (fun v I' L' => ∃ A0 c0 C0, OwnS kS76 77 I' A0 c0 r C0 ∧ v = .slice A0 r.length c0 ∧ C0 ++ L = L') := by
  unfold slices_Clone at hr
  refine callsTo_body (N := 8) Tryz.func42 (by kernel_rfl) (by kernel_rfl) (by kernel_rfl) ?_
  refine gk_pick [0] (K' := [(0, .slice A0_0 a0.length n0_0)]) (by kernel_rfl) ?_
  refine gk_seq (by kernel_rfl) ?_
  refine gk_region (by kernel_rfl) ?_
  refine gl_pure 1 [0] (K' := [(0, .slice A0_0 a0.length n0_0)]) (by kernel_rfl) ?_
  refine gl_atE (by kernel_rfl) ?_
  refine ge_seq ?_
  refine gk_seq (by kernel_rfl) ?_
  refine gk_seq (by kernel_rfl) ?_
  refine gk_region (by kernel_rfl) ?_
  refine gl_pure 1 [0, 3] (K' := [(0, .slice A0_0 a0.length n0_0), (3, .slice A0_0 a0.length n0_0)]) (by kernel_rfl) ?_
  refine gl_eqNil (A := A0_0) (len := a0.length) (c := n0_0) (a := 0) (b := 0) (t := 36) (t' := 36) (x := (.tmp 3)) (y := (.const (.slice none 0 0))) (by kernel_rfl) (by kernel_rfl) (by kernel_rfl) (by kernel_rfl) (by kernel_rfl) ?_
  refine gl_atE (by kernel_rfl) ?_
  refine ge_seq ?_
  refine gk_cond (b := A0_0.isNone) (by kernel_rfl) (by kernel_rfl) (fun hc1 => ?_) (fun hc1 => ?_)
  · have hr := clone_nil hr (RepS.isNil hf0_0 hc1)
    refine gk_seq (by kernel_rfl) ?_
    refine gk_region (by kernel_rfl) ?_
    refine gl_pure 1 [2] (K' := [(2, .slice none 0 0)]) (by kernel_rfl) ?_
    refine gl_atE (by kernel_rfl) ?_
    refine ge_seq ?_
    refine gk_ret (by kernel_rfl) ?_
    refine ge_seq_ret ?_
    obtain rfl := some_inj hr
    exact ge_result trivial (ResOk.tmp (by kernel_rfl) ResOk.nil) (Imm.refl _) ⟨none, 0, [], OwnS.nil _ _ _ _, rfl, rfl⟩
  · refine gk_skip (by kernel_rfl) ?_
    refine ge_seq ?_
    refine gk_seq (by kernel_rfl) ?_
    refine gk_region (by kernel_rfl) ?_
    refine gl_buildSlice0 (T' := 36) (e := 77) (n := 2) (by kernel_rfl) (by kernel_rfl) (by kernel_rfl) (fun g2 => ?_)
    refine gl_reord (D := [(g2, .cells #[] 77)] ++ L) (Reord.refl _) ?_
    refine gl_pure 1 [5, 6] (K' := [(5, .slice (some ⟨g2, 0, none⟩) ([] : List S76).length 0), (6, .slice A0_0 a0.length n0_0)]) (by kernel_rfl) ?_
    obtain ⟨zs3, hz4, hr⟩ := bind_some hr
    refine gl_append (xv := .slice A0_0 a0.length n0_0) (d := kS76) (t := 36) (tx := 36) (e := 77) (s := (.tmp 5)) (x := (.tmp 6)) (xs := ([] : List S76)) (fun X => X ++ L) hz4 (by kernel_rfl) (by kernel_rfl) (by kernel_rfl) (by kernel_rfl) (by kernel_rfl) (by kernel_rfl) (fun X => (Upd.head _ X _)) (OwnS.empty _ _ _ _) (SrcOk.slice (c := n0_0) (e := 77) (n := 2) (RepS.rd hf0_0 _) (by kernel_rfl)) (fun A5 n6 C7 hO8 => ?_)
    refine gl_pure 1 [2] (K' := [(2, .slice A5 zs3.length n6)]) (by kernel_rfl) ?_
    refine gl_atE (by kernel_rfl) ?_
    refine ge_seq ?_
    refine gk_ret (by kernel_rfl) ?_
    obtain rfl := some_inj hr
    exact ge_result trivial (ResOk.tmp (by kernel_rfl) ResOk.nil) (Imm.refl _) ⟨A5, n6, C7, hO8, rfl, rfl⟩
structure Fn130 (I : Imm) (fv : Value) (f : S76 → S76 → Option Int) : Prop where
  out : ∀ I', I ≤ I' → ∀ (x0 : S76) (x1 : S76) (r : Int), f x0 x1 = some r → ∀ L, CallsV Tryz.prog fv [.agg #[.string x0.f0, .string x0.f1], .agg #[.string x1.f0, .string x1.f1]] I' L (fun v I' L' => v = .int .i64 r ∧ L = L')
theorem Fn130.mono {I J : Imm} {fv : Value} {f : S76 → S76 → Option Int} (h : Fn130 I fv f) (hI : I ≤ J) : Fn130 J fv f := ⟨fun I' hI' => h.out I' (Imm.trans hI hI')⟩
noncomputable def slices_CompareFunc_l17 (a0 : List S76) (a1 : List S76) (a2 : S76 → S76 → Option Int) : Int → Option ((Int) ⊕ ((Unit) ⊕ (Int))) := fun s7 =>
  bif (decide (s7 < (a0.length : Int))) then
  (Option.bind (ix a0 s7) fun (x20 : S76) =>
    bif (decide (s7 ≥ (a1.length : Int))) then
    (some (Sum.inr (Sum.inr 1)))
    else
    (Option.bind (ix a1 s7) fun (x30 : S76) =>
      Option.bind (a2 x20 x30) fun (y40 : Int) =>
      bif (y40 != 0) then
      (some (Sum.inr (Sum.inr y40)))
      else
      (some (Sum.inl (IntKind.wrap .i64 (s7 + 1))))))
  else
  (some (Sum.inr (Sum.inl ())))
noncomputable def slices_CompareFunc (a0 : List S76) (a1 : List S76) (a2 : S76 → S76 → Option Int) : Option Int :=
  Option.bind (loopO (slices_CompareFunc_l17 a0 a1 a2) 0) fun (r5 : (Unit) ⊕ (Int)) =>
  match r5 with
  | Sum.inl r13 => bif (decide ((a0.length : Int) < (a1.length : Int))) then
    (some (-1))
    else
    (some 0)
  | Sum.inr v43 => some v43
theorem slices_CompareFunc_walk {a0 : List S76} {A0_0 : Option Addr} {n0_0 : Nat} {a1 : List S76} {A1_0 : Option Addr} {n1_0 : Nat} {a2 : S76 → S76 → Option Int} {fv2 : Value} {I : Imm} {r : Int}  (hf0_0 : RepS kS76 I A0_0 n0_0 a0)  (hf1_0 : RepS kS76 I A1_0 n1_0 a1) (hf2 : Fn130 I fv2 a2) (hr : slices_CompareFunc a0 a1 a2 = some r) (L : Own) :
    CallsTo Tryz.prog 90 #[.slice A0_0 a0.length n0_0, .slice A1_0 a1.length n1_0, fv2] I L (fun v I' L' => v = .int .i64 r ∧ L = L') := by
  unfold slices_CompareFunc at hr
  refine callsTo_body (N := 39) Tryz.func90 (by kernel_rfl) (by kernel_rfl) (by kernel_rfl) ?_
  refine gk_pick [0, 1, 2] (K' := [(0, .slice A0_0 a0.length n0_0), (1, .slice A1_0 a1.length n1_0), (2, fv2)]) (by kernel_rfl) ?_
  refine gk_seq (by kernel_rfl) ?_
  refine gk_region (by kernel_rfl) ?_
  refine gl_pure 1 [0, 1, 2] (K' := [(0, .slice A0_0 a0.length n0_0), (1, .slice A1_0 a1.length n1_0), (2, fv2)]) (by kernel_rfl) ?_
  refine gl_atE (by kernel_rfl) ?_
  refine ge_seq ?_
  refine gk_seq (by kernel_rfl) ?_
  refine gk_seq (by kernel_rfl) ?_
  refine gk_region (by kernel_rfl) ?_
  refine gl_pure 3 [0, 1, 2, 11, 12, 13] (K' := [(0, .slice A0_0 a0.length n0_0), (1, .slice A1_0 a1.length n1_0), (2, fv2), (11, .slice A0_0 a0.length n0_0), (12, .int .i64 (a0.length : Int)), (13, .int .i64 0)]) (by kernel_rfl) ?_
  refine gl_atE (by kernel_rfl) ?_
  refine ge_seq ?_
  obtain ⟨r5, hl6, hr⟩ := bind_some hr
  refine gk_join (fun t I' L' => ∃ r13, r5 = Sum.inl r13 ∧ I ≤ I' ∧ L = L' ∧ Knows 39 [(0, .slice A0_0 a0.length n0_0), (1, .slice A1_0 a1.length n1_0)] t) ?_ ?_
  · refine gk_block (by kernel_rfl) ?_
    refine gk_pick [0, 1, 2, 11, 12, 13] (K' := [(0, .slice A0_0 a0.length n0_0), (1, .slice A1_0 a1.length n1_0), (2, fv2), (11, .slice A0_0 a0.length n0_0), (12, .int .i64 (a0.length : Int)), (13, .int .i64 0)]) (by kernel_rfl) ?_
    intro t hK
    refine gc_loop (slices_CompareFunc_l17 a0 a1 a2) (fun s7 t I' L' => I ≤ I' ∧ L = L' ∧ Knows 39 [(0, .slice A0_0 a0.length n0_0), (1, .slice A1_0 a1.length n1_0), (2, fv2), (11, .slice A0_0 a0.length n0_0), (12, .int .i64 (a0.length : Int)), (13, .int .i64 s7)] t) (by kernel_rfl) ?_ hl6 ⟨(Imm.refl _), rfl, hK⟩
    rintro s7 o8 t I12 L' hb9 ⟨hI10, rfl, hK11⟩
    unfold slices_CompareFunc_l17 at hb9
    refine gk_at hK11 ?_
    refine gk_seq (by kernel_rfl) ?_
    refine gk_region (by kernel_rfl) ?_
    refine gl_pure 1 [0, 1, 2, 11, 12, 13, 14] (K' := [(0, .slice A0_0 a0.length n0_0), (1, .slice A1_0 a1.length n1_0), (2, fv2), (11, .slice A0_0 a0.length n0_0), (12, .int .i64 (a0.length : Int)), (13, .int .i64 s7), (14, .bool (decide (s7 < (a0.length : Int))))]) (by kernel_rfl) ?_
    refine gl_atE (by kernel_rfl) ?_
    refine ge_seq ?_
    refine gk_seq (by kernel_rfl) ?_
    refine gk_cond (b := (decide (s7 < (a0.length : Int)))) (by kernel_rfl) (by kernel_rfl) (fun hc19 => ?_) (fun hc19 => ?_)
    · have hb9 := cond_t hc19 hb9
      refine gk_skip (by kernel_rfl) ?_
      refine ge_seq ?_
      refine gk_seq (by kernel_rfl) ?_
      refine gk_block (by kernel_rfl) ?_
      refine gk_seq (by kernel_rfl) ?_
      refine gk_region (by kernel_rfl) ?_
      refine gl_pure 1 [0, 1, 2, 11, 12, 13, 15] (K' := [(0, .slice A0_0 a0.length n0_0), (1, .slice A1_0 a1.length n1_0), (2, fv2), (11, .slice A0_0 a0.length n0_0), (12, .int .i64 (a0.length : Int)), (13, .int .i64 s7), (15, .int .i64 s7)]) (by kernel_rfl) ?_
      obtain ⟨x20, hx21, hb9⟩ := bind_some hb9
      obtain ⟨p22, cs23, hR24, hA25, ha26⟩ := RepS.ixAt hx21 (hf0_0.mono hI10)
      have hi27 := ix_some hx21
      obtain rfl := kS76_open hR24
      refine gl_indexAddrF (c := n0_0) (T' := 36) (e := 77) (xs := (.tmp 11)) (xi := (.tmp 13)) (kd := .i64) ha26 hi27.1 hi27.2.1 (by kernel_rfl) (by kernel_rfl) (by kernel_rfl) (by kernel_rfl) (by kernel_rfl) ?_
      refine gl_loadA (T' := 77) (xp := (.tmp 16)) (p := p22) (cs := [.string x20.f0, .string x20.f1]) (by kernel_rfl) (by kernel_rfl) (by kernel_rfl) (by kernel_rfl) (hA25.take 2) ?_
      refine gl_alloc (T' := 77) (cs := #[.string (⟨#[]⟩ : ByteArray), .string (⟨#[]⟩ : ByteArray)]) (by kernel_rfl) (by kernel_rfl) (by kernel_rfl) (fun g28 => ?_)
      refine gl_pure 1 [0, 1, 2, 7, 8, 11, 12, 13, 17] (K' := [(0, .slice A0_0 a0.length n0_0), (1, .slice A1_0 a1.length n1_0), (2, fv2), (7, .int .i64 s7), (8, .pointer (some ⟨g28, 0, none⟩)), (11, .slice A0_0 a0.length n0_0), (12, .int .i64 (a0.length : Int)), (13, .int .i64 s7), (17, .agg #[.string x20.f0, .string x20.f1])]) (by kernel_rfl) ?_
      refine gl_storeB (T' := 77) (xp := (.tmp 8)) (xv := (.tmp 17)) (v := .agg #[.string x20.f0, .string x20.f1]) (g := g28) (off := 0) (cs := #[.string (⟨#[]⟩ : ByteArray), .string (⟨#[]⟩ : ByteArray)]) (cs' := #[.string x20.f0, .string x20.f1]) (by kernel_rfl) (by kernel_rfl) (by kernel_rfl) (by kernel_rfl) (by kernel_rfl) (Upd.set _ _ _ _) ?_ (by kernel_rfl)
      refine gl_atE (by kernel_rfl) ?_
      refine ge_seq ?_
      refine gk_seq (by kernel_rfl) ?_
      refine gk_seq (by kernel_rfl) ?_
      refine gk_region (by kernel_rfl) ?_
      refine gl_pure 4 [0, 1, 2, 7, 8, 11, 12, 13, 21] (K' := [(0, .slice A0_0 a0.length n0_0), (1, .slice A1_0 a1.length n1_0), (2, fv2), (7, .int .i64 s7), (8, .pointer (some ⟨g28, 0, none⟩)), (11, .slice A0_0 a0.length n0_0), (12, .int .i64 (a0.length : Int)), (13, .int .i64 s7), (21, .bool (decide (s7 ≥ (a1.length : Int))))]) (by kernel_rfl) ?_
      refine gl_atE (by kernel_rfl) ?_
      refine ge_seq ?_
      refine gk_cond (b := (decide (s7 ≥ (a1.length : Int)))) (by kernel_rfl) (by kernel_rfl) (fun hc29 => ?_) (fun hc29 => ?_)
      · have hb9 := cond_t hc29 hb9
        refine gk_seq (by kernel_rfl) ?_
        refine gk_region (by kernel_rfl) ?_
        refine gl_pure 1 [6] (K' := [(6, .int .i64 1)]) (by kernel_rfl) ?_
        refine gl_atE (by kernel_rfl) ?_
        refine ge_seq ?_
        refine gk_reord (D := L) (Reord.skip (Reord.refl _)) ?_
        refine gk_ret (by kernel_rfl) ?_
        refine ge_seq_ret ?_
        refine ge_block_ret ?_
        refine ge_seq_ret ?_
        obtain rfl := some_inj hb9
        refine ge_round_out (fun hrr => ?_) (by intro h; cases h)
        obtain rfl := hrr
        refine ge_block_ret ?_
        refine ge_seq_ret ?_
        refine ge_seq_ret ?_
        obtain rfl := some_inj hr
        exact ge_result trivial (ResOk.tmp (by kernel_rfl) ResOk.nil) hI10 ⟨rfl, rfl⟩
      · have hb9 := cond_f hc29 hb9
        refine gk_skip (by kernel_rfl) ?_
        refine ge_seq ?_
        refine gk_seq (by kernel_rfl) ?_
        refine gk_region (by kernel_rfl) ?_
        refine gl_pure 2 [0, 1, 2, 8, 11, 12, 13, 22, 23] (K' := [(0, .slice A0_0 a0.length n0_0), (1, .slice A1_0 a1.length n1_0), (2, fv2), (8, .pointer (some ⟨g28, 0, none⟩)), (11, .slice A0_0 a0.length n0_0), (12, .int .i64 (a0.length : Int)), (13, .int .i64 s7), (22, .slice A1_0 a1.length n1_0), (23, .int .i64 s7)]) (by kernel_rfl) ?_
        obtain ⟨x30, hx31, hb9⟩ := bind_some hb9
        obtain ⟨p32, cs33, hR34, hA35, ha36⟩ := RepS.ixAt hx31 (hf1_0.mono hI10)
        have hi37 := ix_some hx31
        obtain rfl := kS76_open hR34
        refine gl_indexAddrF (c := n1_0) (T' := 36) (e := 77) (xs := (.tmp 22)) (xi := (.tmp 23)) (kd := .i64) ha36 hi37.1 hi37.2.1 (by kernel_rfl) (by kernel_rfl) (by kernel_rfl) (by kernel_rfl) (by kernel_rfl) ?_
        refine gl_loadA (T' := 77) (xp := (.tmp 24)) (p := p32) (cs := [.string x30.f0, .string x30.f1]) (by kernel_rfl) (by kernel_rfl) (by kernel_rfl) (by kernel_rfl) (hA35.take 2) ?_
        refine gl_alloc (T' := 77) (cs := #[.string (⟨#[]⟩ : ByteArray), .string (⟨#[]⟩ : ByteArray)]) (by kernel_rfl) (by kernel_rfl) (by kernel_rfl) (fun g38 => ?_)
        refine gl_storeB (T' := 77) (xp := (.tmp 9)) (xv := (.tmp 25)) (v := .agg #[.string x30.f0, .string x30.f1]) (g := g38) (off := 0) (cs := #[.string (⟨#[]⟩ : ByteArray), .string (⟨#[]⟩ : ByteArray)]) (cs' := #[.string x30.f0, .string x30.f1]) (by kernel_rfl) (by kernel_rfl) (by kernel_rfl) (by kernel_rfl) (by kernel_rfl) (Upd.set _ _ _ _) ?_ (by kernel_rfl)
        refine gl_atE (by kernel_rfl) ?_
        refine ge_seq ?_
        refine gk_seq (by kernel_rfl) ?_
        refine gk_region (by kernel_rfl) ?_
        refine gl_pure 1 [0, 1, 2, 8, 9, 11, 12, 13, 26] (K' := [(0, .slice A0_0 a0.length n0_0), (1, .slice A1_0 a1.length n1_0), (2, fv2), (8, .pointer (some ⟨g28, 0, none⟩)), (9, .pointer (some ⟨g38, 0, none⟩)), (11, .slice A0_0 a0.length n0_0), (12, .int .i64 (a0.length : Int)), (13, .int .i64 s7), (26, fv2)]) (by kernel_rfl) ?_
        refine gl_loadB (T' := 77) (xp := (.tmp 8)) (v := .agg #[.string x20.f0, .string x20.f1]) (g := g28) (off := 0) (cs := #[.string x20.f0, .string x20.f1]) (e := 77) (fz := (0, 0)) (by kernel_rfl) (by kernel_rfl) (by kernel_rfl) (List.mem_cons_of_mem _ List.mem_cons_self) (by kernel_rfl) ?_
        refine gl_loadB (T' := 77) (xp := (.tmp 9)) (v := .agg #[.string x30.f0, .string x30.f1]) (g := g38) (off := 0) (cs := #[.string x30.f0, .string x30.f1]) (e := 77) (fz := (0, 0)) (by kernel_rfl) (by kernel_rfl) (by kernel_rfl) List.mem_cons_self (by kernel_rfl) ?_
        obtain ⟨y40, hx39, hb9⟩ := bind_some hb9
        refine gl_callvQ (by kernel_rfl) ((hf2.mono hI10).out _ (Imm.refl _) _ _ _ hx39   _) ?_
        refine gl_pure 1 [0, 1, 2, 10, 11, 12, 13] (K' := [(0, .slice A0_0 a0.length n0_0), (1, .slice A1_0 a1.length n1_0), (2, fv2), (10, .int .i64 y40), (11, .slice A0_0 a0.length n0_0), (12, .int .i64 (a0.length : Int)), (13, .int .i64 s7)]) (by kernel_rfl) ?_
        refine gl_atE (by kernel_rfl) ?_
        refine ge_seq ?_
        refine gk_seq (by kernel_rfl) ?_
        refine gk_region (by kernel_rfl) ?_
        refine gl_pure 2 [0, 1, 2, 10, 11, 12, 13, 31] (K' := [(0, .slice A0_0 a0.length n0_0), (1, .slice A1_0 a1.length n1_0), (2, fv2), (10, .int .i64 y40), (11, .slice A0_0 a0.length n0_0), (12, .int .i64 (a0.length : Int)), (13, .int .i64 s7), (31, .bool (y40 != 0))]) (by kernel_rfl) ?_
        refine gl_atE (by kernel_rfl) ?_
        refine ge_seq ?_
        refine gk_cond (b := (y40 != 0)) (by kernel_rfl) (by kernel_rfl) (fun hc41 => ?_) (fun hc41 => ?_)
        · have hb9 := cond_t hc41 hb9
          refine gk_seq (by kernel_rfl) ?_
          refine gk_region (by kernel_rfl) ?_
          refine gl_pure 2 [6] (K' := [(6, .int .i64 y40)]) (by kernel_rfl) ?_
          refine gl_atE (by kernel_rfl) ?_
          refine ge_seq ?_
          refine gk_reord (D := L) (Reord.skip (Reord.skip (Reord.refl _))) ?_
          refine gk_ret (by kernel_rfl) ?_
          refine ge_block_ret ?_
          refine ge_seq_ret ?_
          obtain rfl := some_inj hb9
          refine ge_round_out (fun hrr => ?_) (by intro h; cases h)
          obtain rfl := hrr
          refine ge_block_ret ?_
          refine ge_seq_ret ?_
          refine ge_seq_ret ?_
          obtain rfl := some_inj hr
          exact ge_result trivial (ResOk.tmp (by kernel_rfl) ResOk.nil) hI10 ⟨rfl, rfl⟩
        · have hb9 := cond_f hc41 hb9
          refine gk_skip (by kernel_rfl) ?_
          refine ge_block_normal ?_
          refine ge_seq ?_
          refine gk_region (by kernel_rfl) ?_
          refine gl_pure 2 [0, 1, 2, 11, 12, 13] (K' := [(0, .slice A0_0 a0.length n0_0), (1, .slice A1_0 a1.length n1_0), (2, fv2), (11, .slice A0_0 a0.length n0_0), (12, .int .i64 (a0.length : Int)), (13, .int .i64 (IntKind.wrap .i64 (s7 + 1)))]) (by kernel_rfl) ?_
          refine gl_reord (D := L) (Reord.skip (Reord.skip (Reord.refl _))) ?_
          refine gl_atE (by kernel_rfl) ?_
          obtain rfl := some_inj hb9
          exact ge_round fun t ht => ⟨hI10, rfl, ht.pick (l := [0, 1, 2, 11, 12, 13]) (by kernel_rfl)⟩
    · have hb9 := cond_f hc19 hb9
      refine gk_exit (by kernel_rfl) ?_
      refine ge_seq_exit ?_
      obtain rfl := some_inj hb9
      refine ge_round_out (fun hrr => ?_) (by intro h; cases h)
      obtain rfl := hrr
      refine ge_block_hit (by kernel_rfl) ?_
      exact ge_mid fun t ht => ⟨_, rfl, hI10, rfl, ht.pick (l := [0, 1]) (by kernel_rfl)⟩
  · rintro t I16 L' ⟨r13, rfl, hI14, rfl, hK15⟩
    refine ge_at hK15 ?_
    refine ge_seq ?_
    refine gk_seq (by kernel_rfl) ?_
    refine gk_seq (by kernel_rfl) ?_
    refine gk_region (by kernel_rfl) ?_
    refine gl_pure 5 [38] (K' := [(38, .bool (decide ((a0.length : Int) < (a1.length : Int))))]) (by kernel_rfl) ?_
    refine gl_atE (by kernel_rfl) ?_
    refine ge_seq ?_
    refine gk_cond (b := (decide ((a0.length : Int) < (a1.length : Int)))) (by kernel_rfl) (by kernel_rfl) (fun hc42 => ?_) (fun hc42 => ?_)
    · have hr := cond_t hc42 hr
      refine gk_seq (by kernel_rfl) ?_
      refine gk_region (by kernel_rfl) ?_
      refine gl_pure 1 [6] (K' := [(6, .int .i64 (-1))]) (by kernel_rfl) ?_
      refine gl_atE (by kernel_rfl) ?_
      refine ge_seq ?_
      refine gk_ret (by kernel_rfl) ?_
      refine ge_seq_ret ?_
      obtain rfl := some_inj hr
      exact ge_result trivial (ResOk.tmp (by kernel_rfl) ResOk.nil) hI14 ⟨rfl, rfl⟩
    · have hr := cond_f hc42 hr
      refine gk_skip (by kernel_rfl) ?_
      refine ge_seq ?_
      refine gk_seq (by kernel_rfl) ?_
      refine gk_region (by kernel_rfl) ?_
      refine gl_pure 1 [6] (K' := [(6, .int .i64 0)]) (by kernel_rfl) ?_
      refine gl_atE (by kernel_rfl) ?_
      refine ge_seq ?_
      refine gk_ret (by kernel_rfl) ?_
      obtain rfl := some_inj hr
      exact ge_result trivial (ResOk.tmp (by kernel_rfl) ResOk.nil) hI14 ⟨rfl, rfl⟩
noncomputable def bytealg_CompareString (a0 : ByteArray) (a1 : ByteArray) : Int :=
  (Lib.compareBytes a0.data.toList a1.data.toList)
theorem bytealg_CompareString_walk {a0 : ByteArray} {a1 : ByteArray} {I : Imm} {r : Int}  (hr : bytealg_CompareString a0 a1 = r) (L : Own) :
    CallsTo Tryz.prog 142 #[.string a0, .string a1] I L (fun v I' L' => v = .int .i64 r ∧ L = L') := by
  replace hr : some (bytealg_CompareString a0 a1) = some r := congrArg some hr
  unfold bytealg_CompareString at hr
  refine callsTo_body (N := 8) Tryz.func142 (by kernel_rfl) (by kernel_rfl) (by kernel_rfl) ?_
  refine gk_pick [0, 1] (K' := [(0, .string a0), (1, .string a1)]) (by kernel_rfl) ?_
  refine gk_seq (by kernel_rfl) ?_
  refine gk_region (by kernel_rfl) ?_
  refine gl_pure 1 [0, 1] (K' := [(0, .string a0), (1, .string a1)]) (by kernel_rfl) ?_
  refine gl_atE (by kernel_rfl) ?_
  refine ge_seq ?_
  refine gk_seq (by kernel_rfl) ?_
  refine gk_region (by kernel_rfl) ?_
  refine gl_pure 2 [5, 6] (K' := [(5, .string a0), (6, .string a1)]) (by kernel_rfl) ?_
  refine gl_cmpstring (a := a0) (b := a1) Tryz.func173 (by kernel_rfl) (by kernel_rfl) (by kernel_rfl) (by kernel_rfl) (by kernel_rfl) (by kernel_rfl) ?_
  refine gl_pure 1 [4] (K' := [(4, .int .i64 (Lib.compareBytes a0.data.toList a1.data.toList))]) (by kernel_rfl) ?_
  refine gl_atE (by kernel_rfl) ?_
  refine ge_seq ?_
  refine gk_ret (by kernel_rfl) ?_
  obtain rfl := some_inj hr
  exact ge_result trivial (ResOk.tmp (by kernel_rfl) ResOk.nil) (Imm.refl _) ⟨rfl, rfl⟩
noncomputable def strings_Compare (a0 : ByteArray) (a1 : ByteArray) : Int :=
  (bytealg_CompareString a0 a1)
theorem strings_Compare_walk {a0 : ByteArray} {a1 : ByteArray} {I : Imm} {r : Int}  (hr : strings_Compare a0 a1 = r) (L : Own) :
    CallsTo Tryz.prog 92 #[.string a0, .string a1] I L (fun v I' L' => v = .int .i64 r ∧ L = L') := by
  replace hr : some (strings_Compare a0 a1) = some r := congrArg some hr
  unfold strings_Compare at hr
  refine callsTo_body (N := 8) Tryz.func92 (by kernel_rfl) (by kernel_rfl) (by kernel_rfl) ?_
  refine gk_pick [0, 1] (K' := [(0, .string a0), (1, .string a1)]) (by kernel_rfl) ?_
  refine gk_seq (by kernel_rfl) ?_
  refine gk_region (by kernel_rfl) ?_
  refine gl_pure 1 [0, 1] (K' := [(0, .string a0), (1, .string a1)]) (by kernel_rfl) ?_
  refine gl_atE (by kernel_rfl) ?_
  refine ge_seq ?_
  refine gk_seq (by kernel_rfl) ?_
  refine gk_region (by kernel_rfl) ?_
  refine gl_pure 2 [5, 6] (K' := [(5, .string a0), (6, .string a1)]) (by kernel_rfl) ?_
  refine gl_callQ (by kernel_rfl) (bytealg_CompareString_walk (r := (bytealg_CompareString a0 a1))  rfl _) ?_
  refine gl_pure 1 [4] (K' := [(4, .int .i64 (bytealg_CompareString a0 a1))]) (by kernel_rfl) ?_
  refine gl_atE (by kernel_rfl) ?_
  refine ge_seq ?_
  refine gk_ret (by kernel_rfl) ?_
  obtain rfl := some_inj hr
  exact ge_result trivial (ResOk.tmp (by kernel_rfl) ResOk.nil) (Imm.refl _) ⟨rfl, rfl⟩
noncomputable def labels_Compare_1 (a0 : S76) (a1 : S76) : Int :=
  bif ((strings_Compare a0.f0 a1.f0) != 0) then
  ((strings_Compare a0.f0 a1.f0))
  else
  ((strings_Compare a0.f1 a1.f1))
theorem labels_Compare_1_walk {a0 : S76} {a1 : S76} {I : Imm} {r : Int}  (hr : labels_Compare_1 a0 a1 = r) (L : Own) :
    CallsTo Tryz.prog 91 #[.agg #[.string a0.f0, .string a0.f1], .agg #[.string a1.f0, .string a1.f1]] I L (fun v I' L' => v = .int .i64 r ∧ L = L') := by
  replace hr : some (labels_Compare_1 a0 a1) = some r := congrArg some hr
  unfold labels_Compare_1 at hr
  refine callsTo_body (N := 19) Tryz.func91 (by kernel_rfl) (by kernel_rfl) (by kernel_rfl) ?_
  refine gk_pick [0, 1] (K' := [(0, .agg #[.string a0.f0, .string a0.f1]), (1, .agg #[.string a1.f0, .string a1.f1])]) (by kernel_rfl) ?_
  refine gk_seq (by kernel_rfl) ?_
  refine gk_region (by kernel_rfl) ?_
  refine gl_box (T' := 77) (x := (.tmp 0)) (v := .agg #[.string a0.f0, .string a0.f1]) (cs := #[.string a0.f0, .string a0.f1]) (by kernel_rfl) (by kernel_rfl) (by kernel_rfl) (by kernel_rfl) (fun gb1 => ?_)
  refine gl_box (T' := 77) (x := (.tmp 1)) (v := .agg #[.string a1.f0, .string a1.f1]) (cs := #[.string a1.f0, .string a1.f1]) (by kernel_rfl) (by kernel_rfl) (by kernel_rfl) (by kernel_rfl) (fun g2 => ?_)
  refine gl_pure 1 [2, 3] (K' := [(2, .pointer (some ⟨gb1, 0, none⟩)), (3, .pointer (some ⟨g2, 0, none⟩))]) (by kernel_rfl) ?_
  refine gl_atE (by kernel_rfl) ?_
  refine ge_seq ?_
  refine gk_seq (by kernel_rfl) ?_
  refine gk_seq (by kernel_rfl) ?_
  refine gk_region (by kernel_rfl) ?_
  refine gl_pure 1 [2, 3, 6] (K' := [(2, .pointer (some ⟨gb1, 0, none⟩)), (3, .pointer (some ⟨g2, 0, none⟩)), (6, .pointer (some ⟨gb1, 0, none⟩))]) (by kernel_rfl) ?_
  refine gl_loadB (T' := 9) (xp := (.tmp 6)) (v := .string a0.f0) (g := gb1) (off := 0) (cs := #[.string a0.f0, .string a0.f1]) (e := 77) (fz := (0, 0)) (by kernel_rfl) (by kernel_rfl) (by kernel_rfl) (List.mem_cons_of_mem _ List.mem_cons_self) (by kernel_rfl) ?_
  refine gl_pure 1 [2, 3, 7, 8] (K' := [(2, .pointer (some ⟨gb1, 0, none⟩)), (3, .pointer (some ⟨g2, 0, none⟩)), (7, .string a0.f0), (8, .pointer (some ⟨g2, 0, none⟩))]) (by kernel_rfl) ?_
  refine gl_loadB (T' := 9) (xp := (.tmp 8)) (v := .string a1.f0) (g := g2) (off := 0) (cs := #[.string a1.f0, .string a1.f1]) (e := 77) (fz := (0, 0)) (by kernel_rfl) (by kernel_rfl) (by kernel_rfl) List.mem_cons_self (by kernel_rfl) ?_
  refine gl_callQ (by kernel_rfl) (strings_Compare_walk (r := (strings_Compare a0.f0 a1.f0))  rfl _) ?_
  refine gl_pure 1 [2, 3, 5] (K' := [(2, .pointer (some ⟨gb1, 0, none⟩)), (3, .pointer (some ⟨g2, 0, none⟩)), (5, .int .i64 (strings_Compare a0.f0 a1.f0))]) (by kernel_rfl) ?_
  refine gl_atE (by kernel_rfl) ?_
  refine ge_seq ?_
  refine gk_seq (by kernel_rfl) ?_
  refine gk_region (by kernel_rfl) ?_
  refine gl_pure 2 [2, 3, 5, 12] (K' := [(2, .pointer (some ⟨gb1, 0, none⟩)), (3, .pointer (some ⟨g2, 0, none⟩)), (5, .int .i64 (strings_Compare a0.f0 a1.f0)), (12, .bool ((strings_Compare a0.f0 a1.f0) != 0))]) (by kernel_rfl) ?_
  refine gl_atE (by kernel_rfl) ?_
  refine ge_seq ?_
  refine gk_cond (b := ((strings_Compare a0.f0 a1.f0) != 0)) (by kernel_rfl) (by kernel_rfl) (fun hc3 => ?_) (fun hc3 => ?_)
  · have hr := scond_t hc3 hr
    refine gk_seq (by kernel_rfl) ?_
    refine gk_region (by kernel_rfl) ?_
    refine gl_pure 2 [4] (K' := [(4, .int .i64 (strings_Compare a0.f0 a1.f0))]) (by kernel_rfl) ?_
    refine gl_atE (by kernel_rfl) ?_
    refine ge_seq ?_
    refine gk_reord (D := L) (Reord.skip (Reord.skip (Reord.refl _))) ?_
    refine gk_ret (by kernel_rfl) ?_
    refine ge_seq_ret ?_
    obtain rfl := some_inj hr
    exact ge_result trivial (ResOk.tmp (by kernel_rfl) ResOk.nil) (Imm.refl _) ⟨rfl, rfl⟩
  · have hr := scond_f hc3 hr
    refine gk_skip (by kernel_rfl) ?_
    refine ge_seq ?_
    refine gk_seq (by kernel_rfl) ?_
    refine gk_region (by kernel_rfl) ?_
    refine gl_pure 1 [3, 14] (K' := [(3, .pointer (some ⟨g2, 0, none⟩)), (14, .pointer (some ⟨gb1, 1, none⟩))]) (by kernel_rfl) ?_
    refine gl_loadB (T' := 9) (xp := (.tmp 14)) (v := .string a0.f1) (g := gb1) (off := 1) (cs := #[.string a0.f0, .string a0.f1]) (e := 77) (fz := (0, 0)) (by kernel_rfl) (by kernel_rfl) (by kernel_rfl) (List.mem_cons_of_mem _ List.mem_cons_self) (by kernel_rfl) ?_
    refine gl_pure 1 [15, 16] (K' := [(15, .string a0.f1), (16, .pointer (some ⟨g2, 1, none⟩))]) (by kernel_rfl) ?_
    refine gl_loadB (T' := 9) (xp := (.tmp 16)) (v := .string a1.f1) (g := g2) (off := 1) (cs := #[.string a1.f0, .string a1.f1]) (e := 77) (fz := (0, 0)) (by kernel_rfl) (by kernel_rfl) (by kernel_rfl) List.mem_cons_self (by kernel_rfl) ?_
    refine gl_callQ (by kernel_rfl) (strings_Compare_walk (r := (strings_Compare a0.f1 a1.f1))  rfl _) ?_
    refine gl_pure 1 [4] (K' := [(4, .int .i64 (strings_Compare a0.f1 a1.f1))]) (by kernel_rfl) ?_
    refine gl_atE (by kernel_rfl) ?_
    refine ge_seq ?_
    refine gk_reord (D := L) (Reord.skip (Reord.skip (Reord.refl _))) ?_
    refine gk_ret (by kernel_rfl) ?_
    obtain rfl := some_inj hr
    exact ge_result trivial (ResOk.tmp (by kernel_rfl) ResOk.nil) (Imm.refl _) ⟨rfl, rfl⟩
theorem labels_Compare_1_impl130  {I : Imm}  : Fn130 I (.func (.func 91) #[] #[]) (fun x0 x1 => some (labels_Compare_1 x0 x1)) := ⟨fun I' hI x0 x1 r hr  L => ⟨91, #[], #[], rfl, ⟨_, Tryz.func91, by kernel_rfl, by kernel_rfl⟩, by
  simp only [List.append_toArray, List.nil_append, List.append_nil, Array.append_empty, Array.empty_append, List.push_append_toArray, List.cons_append]
  exact labels_Compare_1_walk    (some_inj hr) L⟩⟩
noncomputable def labels_Compare (a0 : List S76) (a1 : List S76) : Option Int :=
  Option.bind (slices_CompareFunc a0 a1 (fun x0 x1 => some (labels_Compare_1 x0 x1))) fun (y1 : Int) =>
  some y1
theorem labels_Compare_walk {a0 : List S76} {A0_0 : Option Addr} {n0_0 : Nat} {a1 : List S76} {A1_0 : Option Addr} {n1_0 : Nat} {I : Imm} {r : Int}  (hf0_0 : RepS kS76 I A0_0 n0_0 a0)  (hf1_0 : RepS kS76 I A1_0 n1_0 a1) (hr : labels_Compare a0 a1 = some r) (L : Own) :
    CallsTo Tryz.prog 45 #[.slice A0_0 a0.length n0_0, .slice A1_0 a1.length n1_0] I L (fun v I' L' => v = .int .i64 r ∧ L = L') := by
  unfold labels_Compare at hr
  refine callsTo_body (N := 8) Tryz.func45 (by kernel_rfl) (by kernel_rfl) (by kernel_rfl) ?_
  refine gk_pick [0, 1] (K' := [(0, .slice A0_0 a0.length n0_0), (1, .slice A1_0 a1.length n1_0)]) (by kernel_rfl) ?_
  refine gk_seq (by kernel_rfl) ?_
  refine gk_region (by kernel_rfl) ?_
  refine gl_pure 1 [0, 1] (K' := [(0, .slice A0_0 a0.length n0_0), (1, .slice A1_0 a1.length n1_0)]) (by kernel_rfl) ?_
  refine gl_atE (by kernel_rfl) ?_
  refine ge_seq ?_
  refine gk_seq (by kernel_rfl) ?_
  refine gk_region (by kernel_rfl) ?_
  refine gl_pure 2 [5, 6] (K' := [(5, .slice A0_0 a0.length n0_0), (6, .slice A1_0 a1.length n1_0)]) (by kernel_rfl) ?_
  obtain ⟨y1, hx2, hr⟩ := bind_some hr
  refine gl_callQ (by kernel_rfl) (slices_CompareFunc_walk (r := y1) hf0_0 hf1_0 labels_Compare_1_impl130 hx2 _) ?_
  refine gl_pure 1 [4] (K' := [(4, .int .i64 y1)]) (by kernel_rfl) ?_
  refine gl_atE (by kernel_rfl) ?_
  refine ge_seq ?_
  refine gk_ret (by kernel_rfl) ?_
  obtain rfl := some_inj hr
  exact ge_result trivial (ResOk.tmp (by kernel_rfl) ResOk.nil) (Imm.refl _) ⟨rfl, rfl⟩
noncomputable def vec_Vector_1 (a0 : S38) (a1 : S38) : Option Int :=
  Option.bind (labels_Compare a0.f0 a1.f0) fun (y3 : Int) =>
  some y3
theorem vec_Vector_1_walk {a0 : S38} {A0_0 : Option Addr} {n0_0 : Nat} {b0_1 : Nat} {a1 : S38} {A1_0 : Option Addr} {n1_0 : Nat} {b1_1 : Nat} {I : Imm} {r : Int}  (hf0_0 : RepS kS76 I A0_0 n0_0 a0.f0) (hf0_1 : FRep a0.f1 b0_1)  (hf1_0 : RepS kS76 I A1_0 n1_0 a1.f0) (hf1_1 : FRep a1.f1 b1_1) (hr : vec_Vector_1 a0 a1 = some r) (L : Own) :
    CallsTo Tryz.prog 44 #[.agg #[.slice A0_0 a0.f0.length n0_0, .float .f64 b0_1], .agg #[.slice A1_0 a1.f0.length n1_0, .float .f64 b1_1]] I L (fun v I' L' => v = .int .i64 r ∧ L = L') := by
  unfold vec_Vector_1 at hr
  refine callsTo_body (N := 10) Tryz.func44 (by kernel_rfl) (by kernel_rfl) (by kernel_rfl) ?_
  refine gk_pick [0, 1] (K' := [(0, .agg #[.slice A0_0 a0.f0.length n0_0, .float .f64 b0_1]), (1, .agg #[.slice A1_0 a1.f0.length n1_0, .float .f64 b1_1])]) (by kernel_rfl) ?_
  refine gk_seq (by kernel_rfl) ?_
  refine gk_region (by kernel_rfl) ?_
  refine gl_box (T' := 39) (x := (.tmp 0)) (v := .agg #[.slice A0_0 a0.f0.length n0_0, .float .f64 b0_1]) (cs := #[.slice A0_0 a0.f0.length n0_0, .float .f64 b0_1]) (by kernel_rfl) (by kernel_rfl) (by kernel_rfl) (by kernel_rfl) (fun gb1 => ?_)
  refine gl_box (T' := 39) (x := (.tmp 1)) (v := .agg #[.slice A1_0 a1.f0.length n1_0, .float .f64 b1_1]) (cs := #[.slice A1_0 a1.f0.length n1_0, .float .f64 b1_1]) (by kernel_rfl) (by kernel_rfl) (by kernel_rfl) (by kernel_rfl) (fun g2 => ?_)
  refine gl_pure 1 [2, 3] (K' := [(2, .pointer (some ⟨gb1, 0, none⟩)), (3, .pointer (some ⟨g2, 0, none⟩))]) (by kernel_rfl) ?_
  refine gl_atE (by kernel_rfl) ?_
  refine ge_seq ?_
  refine gk_seq (by kernel_rfl) ?_
  refine gk_region (by kernel_rfl) ?_
  refine gl_pure 1 [3, 5] (K' := [(3, .pointer (some ⟨g2, 0, none⟩)), (5, .pointer (some ⟨gb1, 0, none⟩))]) (by kernel_rfl) ?_
  refine gl_loadB (T' := 36) (xp := (.tmp 5)) (v := .slice A0_0 a0.f0.length n0_0) (g := gb1) (off := 0) (cs := #[.slice A0_0 a0.f0.length n0_0, .float .f64 b0_1]) (e := 39) (fz := (0, 0)) (by kernel_rfl) (by kernel_rfl) (by kernel_rfl) (List.mem_cons_of_mem _ List.mem_cons_self) (by kernel_rfl) ?_
  refine gl_pure 1 [6, 7] (K' := [(6, .slice A0_0 a0.f0.length n0_0), (7, .pointer (some ⟨g2, 0, none⟩))]) (by kernel_rfl) ?_
  refine gl_loadB (T' := 36) (xp := (.tmp 7)) (v := .slice A1_0 a1.f0.length n1_0) (g := g2) (off := 0) (cs := #[.slice A1_0 a1.f0.length n1_0, .float .f64 b1_1]) (e := 39) (fz := (0, 0)) (by kernel_rfl) (by kernel_rfl) (by kernel_rfl) List.mem_cons_self (by kernel_rfl) ?_
  obtain ⟨y3, hx4, hr⟩ := bind_some hr
  refine gl_callQ (by kernel_rfl) (labels_Compare_walk (r := y3) hf0_0 hf1_0 hx4 _) ?_
  refine gl_pure 1 [4] (K' := [(4, .int .i64 y3)]) (by kernel_rfl) ?_
  refine gl_atE (by kernel_rfl) ?_
  refine ge_seq ?_
  refine gk_reord (D := L) (Reord.skip (Reord.skip (Reord.refl _))) ?_
  refine gk_ret (by kernel_rfl) ?_
  obtain rfl := some_inj hr
  exact ge_result trivial (ResOk.tmp (by kernel_rfl) ResOk.nil) (Imm.refl _) ⟨rfl, rfl⟩
def lays_sortK43_ren : Go.Shelf.Ren := ⟨fun x => if x = 6 then 43 else if x = 15 then 89 else if x = 14 then 88 else if x = 28 then 140 else if x = 29 then 141 else if x = 20 then 132 else if x = 21 then 133 else if x = 22 then 134 else if x = 23 then 135 else if x = 24 then 136 else if x = 25 then 137 else if x = 26 then 138 else if x = 27 then 139 else if x = 46 then 168 else if x = 47 then 169 else if x = 48 then 170 else if x = 49 then 171 else if x = 50 then 172 else if x = 57 then 192 else x, fun x => if x = 24 then 39 else if x = 25 then 84 else if x = 39 then 127 else if x = 53 then 157 else if x = 55 then 85 else if x = 46 then 151 else if x = 45 then 150 else if x = 50 then 101 else if x = 66 then 175 else if x = 70 then 179 else if x = 76 then 190 else if x = 77 then 191 else x, fun x => x⟩
theorem lays_sortK43 : Go.Proofs.SlLaysF0.n6 Tryz.prog lays_sortK43_ren := {
  mixed := by kernel_rfl,
  f6 := ⟨Tryz.f43.name, by decide, Tryz.func43.trans (congrArg some (by kernel_rfl))⟩,
  f14 := ⟨Tryz.f88.name, by decide, Tryz.func88.trans (congrArg some (by kernel_rfl))⟩,
  f15 := Tryz.func89.trans (congrArg some (by kernel_rfl)),
  f20 := ⟨Tryz.f132.name, by decide, Tryz.func132.trans (congrArg some (by kernel_rfl))⟩,
  f21 := ⟨Tryz.f133.name, by decide, Tryz.func133.trans (congrArg some (by kernel_rfl))⟩,
  f22 := ⟨Tryz.f134.name, by decide, Tryz.func134.trans (congrArg some (by kernel_rfl))⟩,
  f23 := ⟨Tryz.f135.name, by decide, Tryz.func135.trans (congrArg some (by kernel_rfl))⟩,
  f24 := ⟨Tryz.f136.name, by decide, Tryz.func136.trans (congrArg some (by kernel_rfl))⟩,
  f25 := ⟨Tryz.f137.name, by decide, Tryz.func137.trans (congrArg some (by kernel_rfl))⟩,
  f26 := ⟨Tryz.f138.name, by decide, Tryz.func138.trans (congrArg some (by kernel_rfl))⟩,
  f27 := ⟨Tryz.f139.name, by decide, Tryz.func139.trans (congrArg some (by kernel_rfl))⟩,
  f28 := Tryz.func140.trans (congrArg some (by kernel_rfl)),
  f29 := Tryz.func141.trans (congrArg some (by kernel_rfl)),
  f46 := ⟨Tryz.f168.name, by decide, Tryz.func168.trans (congrArg some (by kernel_rfl))⟩,
  f47 := Tryz.func169.trans (congrArg some (by kernel_rfl)),
  f48 := Tryz.func170.trans (congrArg some (by kernel_rfl)),
  f49 := ⟨Tryz.f171.name, by decide, Tryz.func171.trans (congrArg some (by kernel_rfl))⟩,
  f50 := ⟨Tryz.f172.name, by decide, Tryz.func172.trans (congrArg some (by kernel_rfl))⟩,
  f57 := ⟨Tryz.f192.name, by decide, Tryz.func192.trans (congrArg some (by kernel_rfl))⟩,
  t0 := Tryz.underlying0,
  a0 := Tryz.isAgg0,
  z0 := Tryz.sizeOf0,
  v0 := Tryz.zeroValue0,
  t3 := Tryz.underlying3,
  a3 := Tryz.isAgg3,
  z3 := Tryz.sizeOf3,
  v3 := Tryz.zeroValue3,
  t4 := Tryz.underlying4,
  a4 := Tryz.isAgg4,
  z4 := Tryz.sizeOf4,
  v4 := Tryz.zeroValue4,
  t5 := Tryz.underlying5,
  a5 := Tryz.isAgg5,
  z5 := Tryz.sizeOf5,
  v5 := Tryz.zeroValue5,
  t9 := Tryz.underlying9,
  a9 := Tryz.isAgg9,
  z9 := Tryz.sizeOf9,
  v9 := Tryz.zeroValue9,
  t22 := Tryz.underlying22,
  a22 := Tryz.isAgg22,
  z22 := Tryz.sizeOf22,
  v22 := Tryz.zeroValue22,
  t25 := Tryz.underlying84,
  a25 := Tryz.isAgg84,
  z25 := Tryz.sizeOf84,
  v25 := Tryz.zeroValue84,
  t39 := Tryz.underlying127,
  a39 := Tryz.isAgg127,
  z39 := Tryz.sizeOf127,
  v39 := Tryz.zeroValue127,
  t45 := Tryz.underlying150,
  a45 := Tryz.isAgg150,
  z45 := Tryz.sizeOf150,
  v45 := Tryz.zeroValue150,
  t46 := Tryz.underlying151,
  a46 := Tryz.isAgg151,
  z46 := Tryz.sizeOf151,
  v46 := Tryz.zeroValue151,
  t50 := Tryz.underlying101,
  a50 := Tryz.isAgg101,
  z50 := Tryz.sizeOf101,
  v50 := Tryz.zeroValue101,
  t53 := Tryz.underlying157,
  a53 := Tryz.isAgg157,
  z53 := Tryz.sizeOf157,
  v53 := Tryz.zeroValue157,
  t55 := Tryz.underlying85,
  a55 := Tryz.isAgg85,
  z55 := Tryz.sizeOf85,
  v55 := Tryz.zeroValue85,
  t66 := Tryz.underlying175,
  a66 := Tryz.isAgg175,
  z66 := Tryz.sizeOf175,
  v66 := Tryz.zeroValue175,
  t70 := Tryz.underlying179,
  a70 := Tryz.isAgg179,
  z70 := Tryz.sizeOf179,
  v70 := Tryz.zeroValue179,
  t76 := Tryz.underlying190,
  a76 := Tryz.isAgg190,
  z76 := Tryz.sizeOf190,
  v76 := Tryz.zeroValue190,
  t77 := Tryz.underlying191,
  a77 := Tryz.isAgg191,
  z77 := Tryz.sizeOf191,
  v77 := Tryz.zeroValue191 }
theorem slices_SortFunc_43_44_walk {a0 : List S38} {A : Option Addr} {c : Nat} {C : Own} {I : Imm}  (hO : OwnS kS38 39 I A c a0 C)  (hr : SortAble vec_Vector_1 a0) (L : Own) :
    CallsTo Tryz.prog 43 #[.slice A a0.length c, .func (.func 44) #[] #[]] I (C ++ L) (fun v I' L' => ∃ r C', SortRel vec_Vector_1 a0 r ∧ OwnS kS38 39 I' A c r C' ∧ v = .tuple #[] ∧ C' ++ L = L') :=
  callsTo_sortK lays_sortK43 (by kernel_rfl) hO hr (enters_of Tryz.func44 (by kernel_rfl) rfl)
    (fun {J} {x0 x1} {_ _} {k} hJ h0 h1 hk L => by
      obtain ⟨A0_0, n0_0, b0_1, g0_0, g0_1, rfl⟩ := kS38_open h0
      obtain ⟨A1_0, n1_0, b1_1, g1_0, g1_1, rfl⟩ := kS38_open h1
      simp only [List.append_toArray, List.nil_append, List.append_nil, Array.append_empty, Array.empty_append, List.push_append_toArray, List.cons_append]
      exact vec_Vector_1_walk g0_0 g0_1 g1_0 g1_1  hk L) L
noncomputable def vec_Vector_l18 (a0 : List S38) : Int → Option ((Int) ⊕ ((Unit) ⊕ ((List S38) × Int))) := fun s8 =>
  bif (decide (s8 < (a0.length : Int))) then
  (Option.bind (ix a0 s8) fun (x21 : S38) =>
    Option.bind (labels_Right x21.f0) fun (y35 : Int × Int) =>
    bif (y35.1 != 0) then
    (some (Sum.inr (Sum.inr ([], 41))))
    else
    (some (Sum.inl (IntKind.wrap .i64 (s8 + 1)))))
  else
  (some (Sum.inr (Sum.inl ())))
noncomputable def vec_Vector_l65 (a0 : List S38) : ((List S38) × Int) → Option (((List S38) × Int) ⊕ ((List S38))) := fun s48 =>
  bif (decide (s48.2 < (a0.length : Int))) then
  (Option.bind (ix a0 s48.2) fun (x68 : S38) =>
    Option.bind (slices_Clone x68.f0) fun (y82 : (List S76)) =>
    Option.bind (app s48.1 [(⟨y82, x68.f1⟩ : S38)]) fun (zs99 : List S38) =>
    some (Sum.inl (zs99, (IntKind.wrap .i64 (s48.2 + 1)))))
  else
  (some (Sum.inr s48.1))
noncomputable def vec_Vector_l131 (zs105 : List S38) : Int → Option ((Int) ⊕ ((Unit) ⊕ ((List S38) × Int))) := fun s121 =>
  bif (decide (s121 < (zs105.length : Int))) then
  (Option.bind (ix zs105 (IntKind.wrap .i64 (s121 - 1))) fun (x134 : S38) =>
    Option.bind (ix zs105 s121) fun (x148 : S38) =>
    Option.bind (labels_Compare x134.f0 x148.f0) fun (y162 : Int) =>
    bif (y162 == 0) then
    (some (Sum.inr (Sum.inr ([], 150))))
    else
    (some (Sum.inl (IntKind.wrap .i64 (s121 + 1)))))
  else
  (some (Sum.inr (Sum.inl ())))
noncomputable def vec_Vector (a0 : List S38) : Option ((List S38) × Int) :=
  bif (decide ((a0.length : Int) > 1000)) then
  (some ([], 7))
  else
  (Option.bind (loopO (vec_Vector_l18 a0) 0) fun (r6 : (Unit) ⊕ ((List S38) × Int)) =>
    match r6 with
    | Sum.inl r14 => Option.bind (loopO (vec_Vector_l65 a0) ([], 0)) fun (r46 : (List S38)) =>
      sortBind vec_Vector_1 r46 fun (zs105 : List S38) =>
      Option.bind (loopO (vec_Vector_l131 zs105) 1) fun (r119 : (Unit) ⊕ ((List S38) × Int)) =>
      match r119 with
      | Sum.inl r127 => some (zs105, 0)
      | Sum.inr v165 => some v165
    | Sum.inr v166 => some v166)
theorem vec_Vector_walk {a0 : List S38} {A0_0 : Option Addr} {n0_0 : Nat} {I : Imm} {r : (List S38) × Int} (hG : Gl I)  (hf0_0 : RepS kS38 I A0_0 n0_0 a0) (hr : vec_Vector a0 = some r) (L : Own) :
    CallsTo Tryz.prog 14 #[.slice A0_0 a0.length n0_0] I L (fun v I' L' => ∃ A0 c0 C0, OwnS kS38 39 I' A0 c0 r.1 C0 ∧ v = .tuple #[.slice A0 r.1.length c0, .int .i64 r.2] ∧ C0 ++ L = L') := by
  unfold vec_Vector at hr
  refine callsTo_body (N := 68) Tryz.func14 (by kernel_rfl) (by kernel_rfl) (by kernel_rfl) ?_
  refine gk_pick [0] (K' := [(0, .slice A0_0 a0.length n0_0)]) (by kernel_rfl) ?_
  refine gk_seq (by kernel_rfl) ?_
  refine gk_region (by kernel_rfl) ?_
  refine gl_pure 2 [0] (K' := [(0, .slice A0_0 a0.length n0_0)]) (by kernel_rfl) ?_
  refine gl_atE (by kernel_rfl) ?_
  refine ge_seq ?_
  refine gk_seq (by kernel_rfl) ?_
  refine gk_seq (by kernel_rfl) ?_
  refine gk_region (by kernel_rfl) ?_
  refine gl_pure 3 [0, 14] (K' := [(0, .slice A0_0 a0.length n0_0), (14, .bool (decide ((a0.length : Int) > 1000)))]) (by kernel_rfl) ?_
  refine gl_atE (by kernel_rfl) ?_
  refine ge_seq ?_
  refine gk_cond (b := (decide ((a0.length : Int) > 1000))) (by kernel_rfl) (by kernel_rfl) (fun hc1 => ?_) (fun hc1 => ?_)
  · have hr := cond_t hc1 hr
    refine gk_seq (by kernel_rfl) ?_
    refine gk_region (by kernel_rfl) ?_
    refine gl_pure 2 [2, 3] (K' := [(2, .slice none 0 0), (3, .int .i64 7)]) (by kernel_rfl) ?_
    refine gl_atE (by kernel_rfl) ?_
    refine ge_seq ?_
    refine gk_ret (by kernel_rfl) ?_
    refine ge_seq_ret ?_
    obtain rfl := some_inj hr
    exact ge_result trivial (ResOk.tmp (by kernel_rfl) (ResOk.tmp (by kernel_rfl) ResOk.nil)) (Imm.refl _) ⟨none, 0, [], OwnS.nil _ _ _ _, rfl, rfl⟩
  · have hr := cond_f hc1 hr
    refine gk_skip (by kernel_rfl) ?_
    refine ge_seq ?_
    refine gk_seq (by kernel_rfl) ?_
    refine gk_seq (by kernel_rfl) ?_
    refine gk_region (by kernel_rfl) ?_
    refine gl_pure 3 [0, 15, 16, 17] (K' := [(0, .slice A0_0 a0.length n0_0), (15, .slice A0_0 a0.length n0_0), (16, .int .i64 (a0.length : Int)), (17, .int .i64 0)]) (by kernel_rfl) ?_
    refine gl_atE (by kernel_rfl) ?_
    refine ge_seq ?_
    obtain ⟨r6, hl7, hr⟩ := bind_some hr
    refine gk_join (fun t I' L' => ∃ r14, r6 = Sum.inl r14 ∧ I ≤ I' ∧ L = L' ∧ Knows 68 [(0, .slice A0_0 a0.length n0_0)] t) ?_ ?_
    · refine gk_block (by kernel_rfl) ?_
      refine gk_pick [0, 15, 16, 17] (K' := [(0, .slice A0_0 a0.length n0_0), (15, .slice A0_0 a0.length n0_0), (16, .int .i64 (a0.length : Int)), (17, .int .i64 0)]) (by kernel_rfl) ?_
      intro t hK
      refine gc_loop (vec_Vector_l18 a0) (fun s8 t I' L' => I ≤ I' ∧ L = L' ∧ Knows 68 [(0, .slice A0_0 a0.length n0_0), (15, .slice A0_0 a0.length n0_0), (16, .int .i64 (a0.length : Int)), (17, .int .i64 s8)] t) (by kernel_rfl) ?_ hl7 ⟨(Imm.refl _), rfl, hK⟩
      rintro s8 o9 t I13 L' hb10 ⟨hI11, rfl, hK12⟩
      unfold vec_Vector_l18 at hb10
      refine gk_at hK12 ?_
      refine gk_seq (by kernel_rfl) ?_
      refine gk_region (by kernel_rfl) ?_
      refine gl_pure 1 [0, 15, 16, 17, 18] (K' := [(0, .slice A0_0 a0.length n0_0), (15, .slice A0_0 a0.length n0_0), (16, .int .i64 (a0.length : Int)), (17, .int .i64 s8), (18, .bool (decide (s8 < (a0.length : Int))))]) (by kernel_rfl) ?_
      refine gl_atE (by kernel_rfl) ?_
      refine ge_seq ?_
      refine gk_seq (by kernel_rfl) ?_
      refine gk_cond (b := (decide (s8 < (a0.length : Int)))) (by kernel_rfl) (by kernel_rfl) (fun hc20 => ?_) (fun hc20 => ?_)
      · have hb10 := cond_t hc20 hb10
        refine gk_skip (by kernel_rfl) ?_
        refine ge_seq ?_
        refine gk_seq (by kernel_rfl) ?_
        refine gk_block (by kernel_rfl) ?_
        refine gk_seq (by kernel_rfl) ?_
        refine gk_region (by kernel_rfl) ?_
        obtain ⟨x21, hx22, hb10⟩ := bind_some hb10
        obtain ⟨p23, cs24, hR25, hA26, ha27⟩ := RepS.ixAt hx22 (hf0_0.mono hI11)
        have hi28 := ix_some hx22
        obtain ⟨A29, n30, b32, hf31, hf33, rfl⟩ := kS38_open hR25
        refine gl_indexAddrF (c := n0_0) (T' := 22) (e := 39) (xs := (.tmp 15)) (xi := (.tmp 17)) (kd := .i64) ha27 hi28.1 hi28.2.1 (by kernel_rfl) (by kernel_rfl) (by kernel_rfl) (by kernel_rfl) (by kernel_rfl) ?_
        refine gl_loadA (T' := 39) (xp := (.tmp 19)) (p := p23) (cs := [.slice A29 x21.f0.length n30, .float .f64 b32]) (by kernel_rfl) (by kernel_rfl) (by kernel_rfl) (by kernel_rfl) (hA26.take 2) ?_
        refine gl_alloc (T' := 39) (cs := #[.slice none 0 0, .float .f64 0]) (by kernel_rfl) (by kernel_rfl) (by kernel_rfl) (fun g34 => ?_)
        refine gl_storeB (T' := 39) (xp := (.tmp 5)) (xv := (.tmp 20)) (v := .agg #[.slice A29 x21.f0.length n30, .float .f64 b32]) (g := g34) (off := 0) (cs := #[.slice none 0 0, .float .f64 0]) (cs' := #[.slice A29 x21.f0.length n30, .float .f64 b32]) (by kernel_rfl) (by kernel_rfl) (by kernel_rfl) (by kernel_rfl) (by kernel_rfl) (Upd.set _ _ _ _) ?_ (by kernel_rfl)
        refine gl_atE (by kernel_rfl) ?_
        refine ge_seq ?_
        refine gk_seq (by kernel_rfl) ?_
        refine gk_region (by kernel_rfl) ?_
        refine gl_pure 1 [0, 15, 16, 17, 22] (K' := [(0, .slice A0_0 a0.length n0_0), (15, .slice A0_0 a0.length n0_0), (16, .int .i64 (a0.length : Int)), (17, .int .i64 s8), (22, .pointer (some ⟨g34, 0, none⟩))]) (by kernel_rfl) ?_
        refine gl_loadB (T' := 36) (xp := (.tmp 22)) (v := .slice A29 x21.f0.length n30) (g := g34) (off := 0) (cs := #[.slice A29 x21.f0.length n30, .float .f64 b32]) (e := 39) (fz := (0, 0)) (by kernel_rfl) (by kernel_rfl) (by kernel_rfl) List.mem_cons_self (by kernel_rfl) ?_
        obtain ⟨y35, hx36, hb10⟩ := bind_some hb10
        refine gl_callQ (by kernel_rfl) (labels_Right_walk (r := y35) (hG.mono hI11) hf31 hx36 _) ?_
        refine gl_pure 5 [0, 6, 15, 16, 17] (K' := [(0, .slice A0_0 a0.length n0_0), (6, .int .i64 y35.1), (15, .slice A0_0 a0.length n0_0), (16, .int .i64 (a0.length : Int)), (17, .int .i64 s8)]) (by kernel_rfl) ?_
        refine gl_atE (by kernel_rfl) ?_
        refine ge_seq ?_
        refine gk_seq (by kernel_rfl) ?_
        refine gk_region (by kernel_rfl) ?_
        refine gl_pure 2 [0, 15, 16, 17, 28] (K' := [(0, .slice A0_0 a0.length n0_0), (15, .slice A0_0 a0.length n0_0), (16, .int .i64 (a0.length : Int)), (17, .int .i64 s8), (28, .bool (y35.1 != 0))]) (by kernel_rfl) ?_
        refine gl_atE (by kernel_rfl) ?_
        refine ge_seq ?_
        refine gk_cond (b := (y35.1 != 0)) (by kernel_rfl) (by kernel_rfl) (fun hc37 => ?_) (fun hc37 => ?_)
        · have hb10 := cond_t hc37 hb10
          refine gk_seq (by kernel_rfl) ?_
          refine gk_region (by kernel_rfl) ?_
          refine gl_pure 2 [2, 3] (K' := [(2, .slice none 0 0), (3, .int .i64 41)]) (by kernel_rfl) ?_
          refine gl_atE (by kernel_rfl) ?_
          refine ge_seq ?_
          refine gk_reord (D := L) (Reord.skip (Reord.refl _)) ?_
          refine gk_ret (by kernel_rfl) ?_
          refine ge_block_ret ?_
          refine ge_seq_ret ?_
          obtain rfl := some_inj hb10
          refine ge_round_out (fun hrr => ?_) (by intro h; cases h)
          obtain rfl := hrr
          refine ge_block_ret ?_
          refine ge_seq_ret ?_
          refine ge_seq_ret ?_
          obtain rfl := some_inj hr
          exact ge_result trivial (ResOk.tmp (by kernel_rfl) (ResOk.tmp (by kernel_rfl) ResOk.nil)) hI11 ⟨none, 0, [], OwnS.nil _ _ _ _, rfl, rfl⟩
        · have hb10 := cond_f hc37 hb10
          refine gk_skip (by kernel_rfl) ?_
          refine ge_block_normal ?_
          refine ge_seq ?_
          refine gk_region (by kernel_rfl) ?_
          refine gl_pure 2 [0, 15, 16, 17] (K' := [(0, .slice A0_0 a0.length n0_0), (15, .slice A0_0 a0.length n0_0), (16, .int .i64 (a0.length : Int)), (17, .int .i64 (IntKind.wrap .i64 (s8 + 1)))]) (by kernel_rfl) ?_
          refine gl_reord (D := L) (Reord.skip (Reord.refl _)) ?_
          refine gl_atE (by kernel_rfl) ?_
          obtain rfl := some_inj hb10
          exact ge_round fun t ht => ⟨hI11, rfl, ht.pick (l := [0, 15, 16, 17]) (by kernel_rfl)⟩
      · have hb10 := cond_f hc20 hb10
        refine gk_exit (by kernel_rfl) ?_
        refine ge_seq_exit ?_
        obtain rfl := some_inj hb10
        refine ge_round_out (fun hrr => ?_) (by intro h; cases h)
        obtain rfl := hrr
        refine ge_block_hit (by kernel_rfl) ?_
        exact ge_mid fun t ht => ⟨_, rfl, hI11, rfl, ht.pick (l := [0]) (by kernel_rfl)⟩
    · rintro t I17 L' ⟨r14, rfl, hI15, rfl, hK16⟩
      refine ge_at hK16 ?_
      refine ge_seq ?_
      refine gk_seq (by kernel_rfl) ?_
      refine gk_region (by kernel_rfl) ?_
      refine gl_pure 1 [0, 8] (K' := [(0, .slice A0_0 a0.length n0_0), (8, .slice none 0 0)]) (by kernel_rfl) ?_
      refine gl_atE (by kernel_rfl) ?_
      refine ge_seq ?_
      refine gk_seq (by kernel_rfl) ?_
      refine gk_seq (by kernel_rfl) ?_
      refine gk_region (by kernel_rfl) ?_
      refine gl_pure 3 [8, 30, 31, 32] (K' := [(8, .slice none 0 0), (30, .slice A0_0 a0.length n0_0), (31, .int .i64 (a0.length : Int)), (32, .int .i64 0)]) (by kernel_rfl) ?_
      refine gl_atE (by kernel_rfl) ?_
      refine ge_seq ?_
      obtain ⟨r46, hl47, hr⟩ := bind_some hr
      refine gk_join (fun t I' L' => ∃ A59 n60 C61, OwnS kS38 39 I' A59 n60 r46 C61 ∧ I17 ≤ I' ∧ C61 ++ L = L' ∧ Knows 68 [(8, .slice A59 r46.length n60)] t) ?_ ?_
      · refine gk_block (by kernel_rfl) ?_
        refine gk_pick [8, 30, 31, 32] (K' := [(8, .slice none 0 0), (30, .slice A0_0 a0.length n0_0), (31, .int .i64 (a0.length : Int)), (32, .int .i64 0)]) (by kernel_rfl) ?_
        intro t hK
        refine gc_loop (vec_Vector_l65 a0) (fun s48 t I' L' => ∃ A52 n53 C54, OwnS kS38 39 I' A52 n53 s48.1 C54 ∧ I17 ≤ I' ∧ C54 ++ L = L' ∧ Knows 68 [(8, .slice A52 s48.1.length n53), (30, .slice A0_0 a0.length n0_0), (31, .int .i64 (a0.length : Int)), (32, .int .i64 s48.2)] t) (by kernel_rfl) ?_ hl47 ⟨none, 0, [], OwnS.nil _ _ _ _, (Imm.refl _), rfl, hK⟩
        rintro s48 o49 t I57 L' hb50 ⟨A52, n53, C54, hO55, hI51, rfl, hK56⟩
        unfold vec_Vector_l65 at hb50
        refine gk_at hK56 ?_
        refine gk_seq (by kernel_rfl) ?_
        refine gk_region (by kernel_rfl) ?_
        refine gl_pure 1 [8, 30, 31, 32, 33] (K' := [(8, .slice A52 s48.1.length n53), (30, .slice A0_0 a0.length n0_0), (31, .int .i64 (a0.length : Int)), (32, .int .i64 s48.2), (33, .bool (decide (s48.2 < (a0.length : Int))))]) (by kernel_rfl) ?_
        refine gl_atE (by kernel_rfl) ?_
        refine ge_seq ?_
        refine gk_seq (by kernel_rfl) ?_
        refine gk_cond (b := (decide (s48.2 < (a0.length : Int)))) (by kernel_rfl) (by kernel_rfl) (fun hc67 => ?_) (fun hc67 => ?_)
        · have hb50 := cond_t hc67 hb50
          refine gk_skip (by kernel_rfl) ?_
          refine ge_seq ?_
          refine gk_seq (by kernel_rfl) ?_
          refine gk_block (by kernel_rfl) ?_
          refine gk_seq (by kernel_rfl) ?_
          refine gk_region (by kernel_rfl) ?_
          obtain ⟨x68, hx69, hb50⟩ := bind_some hb50
          obtain ⟨p70, cs71, hR72, hA73, ha74⟩ := RepS.ixAt hx69 (hf0_0.mono (Imm.trans hI15 hI51))
          have hi75 := ix_some hx69
          obtain ⟨A76, n77, b79, hf78, hf80, rfl⟩ := kS38_open hR72
          refine gl_indexAddrF (c := n0_0) (T' := 22) (e := 39) (xs := (.tmp 30)) (xi := (.tmp 32)) (kd := .i64) ha74 hi75.1 hi75.2.1 (by kernel_rfl) (by kernel_rfl) (by kernel_rfl) (by kernel_rfl) (by kernel_rfl) ?_
          refine gl_loadA (T' := 39) (xp := (.tmp 34)) (p := p70) (cs := [.slice A76 x68.f0.length n77, .float .f64 b79]) (by kernel_rfl) (by kernel_rfl) (by kernel_rfl) (by kernel_rfl) (hA73.take 2) ?_
          refine gl_alloc (T' := 39) (cs := #[.slice none 0 0, .float .f64 0]) (by kernel_rfl) (by kernel_rfl) (by kernel_rfl) (fun g81 => ?_)
          refine gl_storeB (T' := 39) (xp := (.tmp 10)) (xv := (.tmp 35)) (v := .agg #[.slice A76 x68.f0.length n77, .float .f64 b79]) (g := g81) (off := 0) (cs := #[.slice none 0 0, .float .f64 0]) (cs' := #[.slice A76 x68.f0.length n77, .float .f64 b79]) (by kernel_rfl) (by kernel_rfl) (by kernel_rfl) (by kernel_rfl) (by kernel_rfl) (Upd.set _ _ _ _) ?_ (by kernel_rfl)
          refine gl_atE (by kernel_rfl) ?_
          refine ge_seq ?_
          refine gk_draw 8 [(0, true), (1, true), (2, true), (4, true), (5, true), (3, false), (6, true), (7, false)] [(g81, .cells #[.slice A76 x68.f0.length n77, .float .f64 b79] 39)] (List.forall_mem_cons.2 ⟨List.mem_cons_self, (fun p hp => by cases hp)⟩) (by kernel_rfl) (by kernel_rfl) (by kernel_rfl) ?_ (by kernel_rfl)
          refine gd_pure 2 [8, 10, 30, 31, 32, 36, 37] (K' := [(8, .slice A52 s48.1.length n53), (10, .pointer (some ⟨g81, 0, none⟩)), (30, .slice A0_0 a0.length n0_0), (31, .int .i64 (a0.length : Int)), (32, .int .i64 s48.2), (36, .slice A52 s48.1.length n53), (37, .pointer (some ⟨g81, 0, none⟩))]) (s' := [(2, true), (4, true), (5, true), (3, false), (6, true), (7, false)]) (CC.refl (List.forall_mem_cons.2 ⟨List.mem_cons_self, (fun p hp => by cases hp)⟩)) (by kernel_rfl) ?_
          refine gd_q (v := .slice A76 x68.f0.length n77) (by kernel_rfl) (by kernel_rfl) (CC.refl (List.forall_mem_cons.2 ⟨List.mem_cons_self, (fun p hp => by cases hp)⟩)) (fun I' L' T hC kk => gl_loadB (T' := 36) (xp := (.tmp 37)) (v := .slice A76 x68.f0.length n77) (g := g81) (off := 0) (cs := #[.slice A76 x68.f0.length n77, .float .f64 b79]) (e := 39) (fz := (0, 0)) (by kernel_rfl) (by kernel_rfl) (by kernel_rfl) (hC.sub _ List.mem_cons_self) (by kernel_rfl) kk) ?_
          refine gd_pure 1 [8, 30, 31, 32, 36, 38, 40] (K' := [(8, .slice A52 s48.1.length n53), (30, .slice A0_0 a0.length n0_0), (31, .int .i64 (a0.length : Int)), (32, .int .i64 s48.2), (36, .slice A52 s48.1.length n53), (38, .slice A76 x68.f0.length n77), (40, .pointer (some ⟨g81, 1, none⟩))]) (s' := [(5, true), (3, false), (6, true), (7, false)]) (CC.refl (List.forall_mem_cons.2 ⟨List.mem_cons_self, (fun p hp => by cases hp)⟩)) (by kernel_rfl) ?_
          refine gd_q (v := .float .f64 b79) (by kernel_rfl) (by kernel_rfl) (CC.refl (List.forall_mem_cons.2 ⟨List.mem_cons_self, (fun p hp => by cases hp)⟩)) (fun I' L' T hC kk => gl_loadB (T' := 37) (xp := (.tmp 40)) (v := .float .f64 b79) (g := g81) (off := 1) (cs := #[.slice A76 x68.f0.length n77, .float .f64 b79]) (e := 39) (fz := (0, 0)) (by kernel_rfl) (by kernel_rfl) (by kernel_rfl) (hC.sub _ List.mem_cons_self) (by kernel_rfl) kk) ?_
          refine gd_one (by kernel_rfl) ?_
          obtain ⟨y82, hx83, hb50⟩ := bind_some hb50
          refine gl_call (by kernel_rfl) (slices_Clone_walk (r := y82) hf78 hx83 _) ?_
          rintro v I84 L85 hI86 ⟨A87, c88, C89, hO90, rfl, rfl⟩
          refine gl_toD (by kernel_rfl) ⟨hI86, (List.forall_mem_cons.2 ⟨(List.mem_append_right _ List.mem_cons_self), (fun p hp => by cases hp)⟩)⟩ ?_
          refine gd_pure 1 [8, 30, 31, 32, 36, 42] (K' := [(8, .slice A52 s48.1.length n53), (30, .slice A0_0 a0.length n0_0), (31, .int .i64 (a0.length : Int)), (32, .int .i64 s48.2), (36, .slice A52 s48.1.length n53), (42, .agg #[.slice A87 y82.length c88, .float .f64 b79])]) (s' := [(7, false)]) (CC.refl (List.forall_mem_cons.2 ⟨(List.mem_append_right _ List.mem_cons_self), (fun p hp => by cases hp)⟩)) (by kernel_rfl) ?_
          refine gd_one (by kernel_rfl) ?_
          refine gl_rest (Tk.step (Upd.rmC _ _) (Tk.nil _)) (fun J91 hJ92 hC93 => ?_)
          have hf94 := (OwnS.rest hO90 hJ92 hC93.left)
          refine gl_buildSlice (T' := 22) (e := 39) (n := 2) (len := 1) (parts := #[(0, (.tmp 42))]) (l := [(0, .agg #[.slice A87 y82.length c88, .float .f64 b79])]) (cs := #[.slice A87 y82.length c88, .float .f64 b79]) (by kernel_rfl) (by kernel_rfl) (by kernel_rfl) (by kernel_rfl) (by kernel_rfl) (fun g95 => ?_)
          have hO96 : OwnS kS38 39 J91 (some ⟨g95, 0, none⟩) 1 [(⟨y82, x68.f1⟩ : S38)] [(g95, .cells #[.slice A87 y82.length c88, .float .f64 b79] 39)] := OwnS.lit (row_cons (l := [.slice A87 y82.length c88, .float .f64 b79]) (kS38_mk (x := (⟨y82, x68.f1⟩ : S38)) hf94 hf80) (row_nil _ _)) rfl rfl rfl
          refine gl_reord (D := [(g95, .cells #[.slice A87 y82.length c88, .float .f64 b79] 39)] ++ ((g81, .cells #[.slice A76 x68.f0.length n77, .float .f64 b79] 39) :: (C54 ++ L))) (Reord.refl _) ?_
          refine gl_toD (by kernel_rfl) ⟨hJ92, (List.forall_mem_cons.2 ⟨(List.mem_append_right _ List.mem_cons_self), (fun p hp => by cases hp)⟩)⟩ ?_
          refine gd_done ?_
          obtain ⟨zs99, hz100, hb50⟩ := bind_some hb50
          refine gl_append (xv := .slice (some ⟨g95, 0, none⟩) [(⟨y82, x68.f1⟩ : S38)].length 1) (d := kS38) (t := 22) (tx := 22) (e := 39) (s := (.tmp 36)) (x := (.tmp 43)) (xs := s48.1) (fun X => [(g95, .cells #[.slice A87 y82.length c88, .float .f64 b79] 39)] ++ ((g81, .cells #[.slice A76 x68.f0.length n77, .float .f64 b79] 39) :: (X ++ L))) hz100 (by kernel_rfl) (by kernel_rfl) (by kernel_rfl) (by kernel_rfl) (by kernel_rfl) (by kernel_rfl) (fun X => (Upd.app _ (Upd.one _ (Upd.head _ X _)))) (hO55.mono (Imm.trans hI86 hJ92)) (SrcOk.slice (c := 1) (e := 39) (n := 2) (OwnS.rd hO96 (Upd.selfC _ _)) (by kernel_rfl)) (fun A101 n102 C103 hO104 => ?_)
          refine gl_pure 1 [8, 30, 31, 32] (K' := [(8, .slice A101 zs99.length n102), (30, .slice A0_0 a0.length n0_0), (31, .int .i64 (a0.length : Int)), (32, .int .i64 s48.2)]) (by kernel_rfl) ?_
          refine gl_atE (by kernel_rfl) ?_
          refine ge_block_normal ?_
          refine ge_seq ?_
          refine gk_region (by kernel_rfl) ?_
          refine gl_pure 2 [8, 30, 31, 32] (K' := [(8, .slice A101 zs99.length n102), (30, .slice A0_0 a0.length n0_0), (31, .int .i64 (a0.length : Int)), (32, .int .i64 (IntKind.wrap .i64 (s48.2 + 1)))]) (by kernel_rfl) ?_
          refine gl_reord (D := C103 ++ L) (Reord.step (Upd.app _ (Upd.one _ (Upd.rmC _ _))) (Reord.skipC (Reord.skip (Reord.refl _)))) ?_
          refine gl_atE (by kernel_rfl) ?_
          obtain rfl := some_inj hb50
          exact ge_round fun t ht => ⟨A101, n102, C103, hO104, (Imm.trans (Imm.trans hI51 hI86) hJ92), rfl, ht.pick (l := [8, 30, 31, 32]) (by kernel_rfl)⟩
        · have hb50 := cond_f hc67 hb50
          refine gk_exit (by kernel_rfl) ?_
          refine ge_seq_exit ?_
          obtain rfl := some_inj hb50
          refine ge_round_out (fun hrr => ?_) (by intro h; cases h)
          obtain rfl := hrr
          refine ge_block_hit (by kernel_rfl) ?_
          exact ge_mid fun t ht => ⟨A52, n53, C54, hO55, hI51, rfl, ht.pick (l := [8]) (by kernel_rfl)⟩
      · rintro t I64 L' ⟨A59, n60, C61, hO62, hI58, rfl, hK63⟩
        refine ge_at hK63 ?_
        refine ge_seq ?_
        refine gk_seq (by kernel_rfl) ?_
        refine gk_region (by kernel_rfl) ?_
        refine gl_pure 1 [8, 46] (K' := [(8, .slice A59 r46.length n60), (46, .slice A59 r46.length n60)]) (by kernel_rfl) ?_
        obtain ⟨hsa106, hsr107⟩ := sortBind_some hr
        refine gl_call (by kernel_rfl) (slices_SortFunc_43_44_walk (a0 := r46) (A := A59) (c := n60) (C := C61) hO62  hsa106 _) ?_
        rintro v I111 L112 hI113 ⟨zs105, C109, hz108, hO110, rfl, rfl⟩
        replace hr := hsr107 _ hz108
        have hl114 : r46.length = zs105.length := hz108.1.length_eq.symm
        try rw [hl114]
        refine gl_atE (by kernel_rfl) ?_
        refine ge_seq ?_
        refine gk_seq (by kernel_rfl) ?_
        refine gk_seq (by kernel_rfl) ?_
        refine gk_region (by kernel_rfl) ?_
        refine gl_pure 1 [8, 11] (K' := [(8, .slice A59 zs105.length n60), (11, .int .i64 1)]) (by kernel_rfl) ?_
        refine gl_atE (by kernel_rfl) ?_
        refine ge_seq ?_
        obtain ⟨r119, hl120, hr⟩ := bind_some hr
        refine gk_join (fun t I' L' => ∃ r127, r119 = Sum.inl r127 ∧ I111 ≤ I' ∧ C109 ++ L = L' ∧ Knows 68 [(8, .slice A59 zs105.length n60)] t) ?_ ?_
        · refine gk_block (by kernel_rfl) ?_
          refine gk_pick [8, 11] (K' := [(8, .slice A59 zs105.length n60), (11, .int .i64 1)]) (by kernel_rfl) ?_
          intro t hK
          refine gc_loop (vec_Vector_l131 zs105) (fun s121 t I' L' => I111 ≤ I' ∧ C109 ++ L = L' ∧ Knows 68 [(8, .slice A59 zs105.length n60), (11, .int .i64 s121)] t) (by kernel_rfl) ?_ hl120 ⟨(Imm.refl _), rfl, hK⟩
          rintro s121 o122 t I126 L' hb123 ⟨hI124, rfl, hK125⟩
          unfold vec_Vector_l131 at hb123
          refine gk_at hK125 ?_
          refine gk_seq (by kernel_rfl) ?_
          refine gk_seq (by kernel_rfl) ?_
          refine gk_region (by kernel_rfl) ?_
          refine gl_pure 4 [8, 11, 51] (K' := [(8, .slice A59 zs105.length n60), (11, .int .i64 s121), (51, .bool (decide (s121 < (zs105.length : Int))))]) (by kernel_rfl) ?_
          refine gl_atE (by kernel_rfl) ?_
          refine ge_seq ?_
          refine gk_cond (b := (decide (s121 < (zs105.length : Int)))) (by kernel_rfl) (by kernel_rfl) (fun hc133 => ?_) (fun hc133 => ?_)
          · have hb123 := cond_t hc133 hb123
            refine gk_skip (by kernel_rfl) ?_
            refine ge_seq ?_
            refine gk_seq (by kernel_rfl) ?_
            refine gk_block (by kernel_rfl) ?_
            refine gk_seq (by kernel_rfl) ?_
            refine gk_draw 11 [(0, true), (1, true), (2, true), (3, true), (4, true), (5, true), (6, true), (7, true), (8, true), (9, true), (10, true)] (C109 ++ []) (List.forall_mem_append.2 ⟨fun q hq => (List.mem_append_left _ hq), (fun p hp => by cases hp)⟩) (by kernel_rfl) (by kernel_rfl) (by kernel_rfl) ?_ (by kernel_rfl)
            refine gd_pure 3 [8, 11, 54, 56] (K' := [(8, .slice A59 zs105.length n60), (11, .int .i64 s121), (54, .slice A59 zs105.length n60), (56, .int .i64 (IntKind.wrap .i64 (s121 - 1)))]) (s' := [(3, true), (4, true), (5, true), (6, true), (7, true), (8, true), (9, true), (10, true)]) (CC.refl (List.forall_mem_append.2 ⟨fun q hq => (List.mem_append_left _ hq), (fun p hp => by cases hp)⟩)) (by kernel_rfl) ?_
            obtain ⟨x134, hx135, hb123⟩ := bind_some hb123
            obtain ⟨p136, cs137, hR138, hA139, ha140, hg147⟩ := OwnS.ixAtG hx135 (hO110.mono hI124)
            have hi141 := ix_some hx135
            obtain ⟨A142, n143, b145, hf144, hf146, rfl⟩ := kS38_open hR138
            refine gd_q (v := .pointer (some p136)) (by kernel_rfl) (by kernel_rfl) (CC.refl (List.forall_mem_append.2 ⟨fun q hq => (List.mem_append_left _ hq), (fun p hp => by cases hp)⟩)) (fun I' L' T hC kk => gl_indexAddrF (c := n60) (T' := 22) (e := 39) (xs := (.tmp 54)) (xi := (.tmp 56)) (kd := .i64) ha140 hi141.1 hi141.2.1 (by kernel_rfl) (by kernel_rfl) (by kernel_rfl) (by kernel_rfl) (by kernel_rfl) kk) ?_
            refine gd_pure 1 [8, 11, 58] (K' := [(8, .slice A59 zs105.length n60), (11, .int .i64 s121), (58, .pointer (some (p136.add 0)))]) (s' := [(5, true), (6, true), (7, true), (8, true), (9, true), (10, true)]) (CC.refl (List.forall_mem_append.2 ⟨fun q hq => (List.mem_append_left _ hq), (fun p hp => by cases hp)⟩)) (by kernel_rfl) ?_
            refine gd_q (v := .slice A142 x134.f0.length n143) (by kernel_rfl) (by kernel_rfl) (CC.refl (List.forall_mem_append.2 ⟨fun q hq => (List.mem_append_left _ hq), (fun p hp => by cases hp)⟩)) (fun I' L' T hC kk => gl_loadO (T' := 36) (xp := (.tmp 58)) (p := (p136.add 0)) (c := .slice A142 x134.f0.length n143) (n := 1) (by kernel_rfl) (by kernel_rfl) (by kernel_rfl) (by kernel_rfl) ((fun I' L' h => (hA139 I' L' h).drop 0) _ _ (fun q hq => hC.sub _ (List.mem_append_left _ hq))) kk) ?_
            refine gd_pure 2 [8, 11, 59, 60, 61] (K' := [(8, .slice A59 zs105.length n60), (11, .int .i64 s121), (59, .slice A142 x134.f0.length n143), (60, .slice A59 zs105.length n60), (61, .int .i64 s121)]) (s' := [(8, true), (9, true), (10, true)]) (CC.refl (List.forall_mem_append.2 ⟨fun q hq => (List.mem_append_left _ hq), (fun p hp => by cases hp)⟩)) (by kernel_rfl) ?_
            obtain ⟨x148, hx149, hb123⟩ := bind_some hb123
            obtain ⟨p150, cs151, hR152, hA153, ha154, hg161⟩ := OwnS.ixAtG hx149 (hO110.mono hI124)
            have hi155 := ix_some hx149
            obtain ⟨A156, n157, b159, hf158, hf160, rfl⟩ := kS38_open hR152
            refine gd_q (v := .pointer (some p150)) (by kernel_rfl) (by kernel_rfl) (CC.refl (List.forall_mem_append.2 ⟨fun q hq => (List.mem_append_left _ hq), (fun p hp => by cases hp)⟩)) (fun I' L' T hC kk => gl_indexAddrF (c := n60) (T' := 22) (e := 39) (xs := (.tmp 60)) (xi := (.tmp 61)) (kd := .i64) ha154 hi155.1 hi155.2.1 (by kernel_rfl) (by kernel_rfl) (by kernel_rfl) (by kernel_rfl) (by kernel_rfl) kk) ?_
            refine gd_pure 1 [8, 11, 59, 63] (K' := [(8, .slice A59 zs105.length n60), (11, .int .i64 s121), (59, .slice A142 x134.f0.length n143), (63, .pointer (some (p150.add 0)))]) (s' := [(10, true)]) (CC.refl (List.forall_mem_append.2 ⟨fun q hq => (List.mem_append_left _ hq), (fun p hp => by cases hp)⟩)) (by kernel_rfl) ?_
            refine gd_q (v := .slice A156 x148.f0.length n157) (by kernel_rfl) (by kernel_rfl) (CC.refl (List.forall_mem_append.2 ⟨fun q hq => (List.mem_append_left _ hq), (fun p hp => by cases hp)⟩)) (fun I' L' T hC kk => gl_loadO (T' := 36) (xp := (.tmp 63)) (p := (p150.add 0)) (c := .slice A156 x148.f0.length n157) (n := 1) (by kernel_rfl) (by kernel_rfl) (by kernel_rfl) (by kernel_rfl) ((fun I' L' h => (hA153 I' L' h).drop 0) _ _ (fun q hq => hC.sub _ (List.mem_append_left _ hq))) kk) ?_
            refine gd_done ?_
            obtain ⟨y162, hx163, hb123⟩ := bind_some hb123
            refine gl_callQ (by kernel_rfl) (labels_Compare_walk (r := y162) hf144 hf158 hx163 _) ?_
            refine gl_pure 1 [8, 11, 66] (K' := [(8, .slice A59 zs105.length n60), (11, .int .i64 s121), (66, .bool (y162 == 0))]) (by kernel_rfl) ?_
            refine gl_atE (by kernel_rfl) ?_
            refine ge_seq ?_
            refine gk_cond (b := (y162 == 0)) (by kernel_rfl) (by kernel_rfl) (fun hc164 => ?_) (fun hc164 => ?_)
            · have hb123 := cond_t hc164 hb123
              refine gk_seq (by kernel_rfl) ?_
              refine gk_region (by kernel_rfl) ?_
              refine gl_pure 2 [2, 3] (K' := [(2, .slice none 0 0), (3, .int .i64 150)]) (by kernel_rfl) ?_
              refine gl_atE (by kernel_rfl) ?_
              refine ge_seq ?_
              refine gk_reord (D := L) (Reord.skipC (Reord.refl _)) ?_
              refine gk_ret (by kernel_rfl) ?_
              refine ge_block_ret ?_
              refine ge_seq_ret ?_
              obtain rfl := some_inj hb123
              refine ge_round_out (fun hrr => ?_) (by intro h; cases h)
              obtain rfl := hrr
              refine ge_block_ret ?_
              refine ge_seq_ret ?_
              refine ge_seq_ret ?_
              obtain rfl := some_inj hr
              exact ge_result trivial (ResOk.tmp (by kernel_rfl) (ResOk.tmp (by kernel_rfl) ResOk.nil)) (Imm.trans (Imm.trans (Imm.trans hI15 hI58) hI113) hI124) ⟨none, 0, [], OwnS.nil _ _ _ _, rfl, rfl⟩
            · have hb123 := cond_f hc164 hb123
              refine gk_skip (by kernel_rfl) ?_
              refine ge_block_normal ?_
              refine ge_seq ?_
              refine gk_region (by kernel_rfl) ?_
              refine gl_pure 3 [8, 11] (K' := [(8, .slice A59 zs105.length n60), (11, .int .i64 (IntKind.wrap .i64 (s121 + 1)))]) (by kernel_rfl) ?_
              refine gl_atE (by kernel_rfl) ?_
              obtain rfl := some_inj hb123
              exact ge_round fun t ht => ⟨hI124, rfl, ht.pick (l := [8, 11]) (by kernel_rfl)⟩
          · have hb123 := cond_f hc133 hb123
            refine gk_exit (by kernel_rfl) ?_
            refine ge_seq_exit ?_
            obtain rfl := some_inj hb123
            refine ge_round_out (fun hrr => ?_) (by intro h; cases h)
            obtain rfl := hrr
            refine ge_block_hit (by kernel_rfl) ?_
            exact ge_mid fun t ht => ⟨_, rfl, hI124, rfl, ht.pick (l := [8]) (by kernel_rfl)⟩
        · rintro t I130 L' ⟨r127, rfl, hI128, rfl, hK129⟩
          refine ge_at hK129 ?_
          refine ge_seq ?_
          refine gk_seq (by kernel_rfl) ?_
          refine gk_region (by kernel_rfl) ?_
          refine gl_pure 3 [2, 3] (K' := [(2, .slice A59 zs105.length n60), (3, .int .i64 0)]) (by kernel_rfl) ?_
          refine gl_atE (by kernel_rfl) ?_
          refine ge_seq ?_
          refine gk_ret (by kernel_rfl) ?_
          obtain rfl := some_inj hr
          exact ge_result trivial (ResOk.tmp (by kernel_rfl) (ResOk.tmp (by kernel_rfl) ResOk.nil)) (Imm.trans (Imm.trans (Imm.trans hI15 hI58) hI113) hI128) ⟨A59, n60, C109, (hO110.mono hI128), rfl, rfl⟩
noncomputable def aggr_wrong_l17 (a0 : List ByteArray) : Int → Option ((Int) ⊕ ((Unit) ⊕ (Int))) := fun s7 =>
  bif (decide (s7 < (a0.length : Int))) then
  (Option.bind (ix a0 s7) fun (x20 : ByteArray) =>
    Option.bind (labels_Name x20) fun (y28 : Bool) =>
    bif (!y28) then
    (some (Sum.inr (Sum.inr 40)))
    else
    (some (Sum.inl (IntKind.wrap .i64 (s7 + 1)))))
  else
  (some (Sum.inr (Sum.inl ())))
noncomputable def aggr_wrong (a0 : List ByteArray) : Option Int :=
  Option.bind (loopO (aggr_wrong_l17 a0) 0) fun (r5 : (Unit) ⊕ (Int)) =>
  match r5 with
  | Sum.inl r13 => some 0
  | Sum.inr v31 => some v31
theorem aggr_wrong_walk {a0 : List ByteArray} {A0_0 : Option Addr} {n0_0 : Nat} {I : Imm} {r : Int}  (hf0_0 : RepS Kd.str I A0_0 n0_0 a0) (hr : aggr_wrong a0 = some r) (L : Own) :
    CallsTo Tryz.prog 53 #[.slice A0_0 a0.length n0_0] I L (fun v I' L' => v = .int .i64 r ∧ L = L') := by
  unfold aggr_wrong at hr
  refine callsTo_body (N := 15) Tryz.func53 (by kernel_rfl) (by kernel_rfl) (by kernel_rfl) ?_
  refine gk_pick [0] (K' := [(0, .slice A0_0 a0.length n0_0)]) (by kernel_rfl) ?_
  refine gk_seq (by kernel_rfl) ?_
  refine gk_region (by kernel_rfl) ?_
  refine gl_pure 1 [0] (K' := [(0, .slice A0_0 a0.length n0_0)]) (by kernel_rfl) ?_
  refine gl_atE (by kernel_rfl) ?_
  refine ge_seq ?_
  refine gk_seq (by kernel_rfl) ?_
  refine gk_seq (by kernel_rfl) ?_
  refine gk_region (by kernel_rfl) ?_
  refine gl_pure 3 [5, 6, 7] (K' := [(5, .slice A0_0 a0.length n0_0), (6, .int .i64 (a0.length : Int)), (7, .int .i64 0)]) (by kernel_rfl) ?_
  refine gl_atE (by kernel_rfl) ?_
  refine ge_seq ?_
  obtain ⟨r5, hl6, hr⟩ := bind_some hr
  refine gk_join (fun t I' L' => ∃ r13, r5 = Sum.inl r13 ∧ I ≤ I' ∧ L = L' ∧ Knows 15 [] t) ?_ ?_
  · refine gk_block (by kernel_rfl) ?_
    refine gk_pick [5, 6, 7] (K' := [(5, .slice A0_0 a0.length n0_0), (6, .int .i64 (a0.length : Int)), (7, .int .i64 0)]) (by kernel_rfl) ?_
    intro t hK
    refine gc_loop (aggr_wrong_l17 a0) (fun s7 t I' L' => I ≤ I' ∧ L = L' ∧ Knows 15 [(5, .slice A0_0 a0.length n0_0), (6, .int .i64 (a0.length : Int)), (7, .int .i64 s7)] t) (by kernel_rfl) ?_ hl6 ⟨(Imm.refl _), rfl, hK⟩
    rintro s7 o8 t I12 L' hb9 ⟨hI10, rfl, hK11⟩
    unfold aggr_wrong_l17 at hb9
    refine gk_at hK11 ?_
    refine gk_seq (by kernel_rfl) ?_
    refine gk_region (by kernel_rfl) ?_
    refine gl_pure 1 [5, 6, 7, 8] (K' := [(5, .slice A0_0 a0.length n0_0), (6, .int .i64 (a0.length : Int)), (7, .int .i64 s7), (8, .bool (decide (s7 < (a0.length : Int))))]) (by kernel_rfl) ?_
    refine gl_atE (by kernel_rfl) ?_
    refine ge_seq ?_
    refine gk_seq (by kernel_rfl) ?_
    refine gk_cond (b := (decide (s7 < (a0.length : Int)))) (by kernel_rfl) (by kernel_rfl) (fun hc19 => ?_) (fun hc19 => ?_)
    · have hb9 := cond_t hc19 hb9
      refine gk_skip (by kernel_rfl) ?_
      refine ge_seq ?_
      refine gk_seq (by kernel_rfl) ?_
      refine gk_block (by kernel_rfl) ?_
      refine gk_seq (by kernel_rfl) ?_
      refine gk_region (by kernel_rfl) ?_
      obtain ⟨x20, hx21, hb9⟩ := bind_some hb9
      obtain ⟨p22, cs23, hR24, hA25, ha26⟩ := RepS.ixAt hx21 (hf0_0.mono hI10)
      have hi27 := ix_some hx21
      obtain rfl := hR24
      refine gl_indexAddrF (c := n0_0) (T' := 23) (e := 9) (xs := (.tmp 5)) (xi := (.tmp 7)) (kd := .i64) ha26 hi27.1 hi27.2.1 (by kernel_rfl) (by kernel_rfl) (by kernel_rfl) (by kernel_rfl) (by kernel_rfl) ?_
      refine gl_load (T' := 9) (xp := (.tmp 9)) (p := p22) (c := .string x20) (n := 1) (by kernel_rfl) (by kernel_rfl) (by kernel_rfl) (by kernel_rfl) hA25 ?_
      refine gl_pure 1 [4, 5, 6, 7] (K' := [(4, .string x20), (5, .slice A0_0 a0.length n0_0), (6, .int .i64 (a0.length : Int)), (7, .int .i64 s7)]) (by kernel_rfl) ?_
      refine gl_atE (by kernel_rfl) ?_
      refine ge_seq ?_
      refine gk_seq (by kernel_rfl) ?_
      refine gk_region (by kernel_rfl) ?_
      refine gl_pure 1 [5, 6, 7, 11] (K' := [(5, .slice A0_0 a0.length n0_0), (6, .int .i64 (a0.length : Int)), (7, .int .i64 s7), (11, .string x20)]) (by kernel_rfl) ?_
      obtain ⟨y28, hx29, hb9⟩ := bind_some hb9
      refine gl_callQ (by kernel_rfl) (labels_Name_walk (r := y28)  hx29 _) ?_
      refine gl_pure 1 [5, 6, 7, 13] (K' := [(5, .slice A0_0 a0.length n0_0), (6, .int .i64 (a0.length : Int)), (7, .int .i64 s7), (13, .bool (!y28))]) (by kernel_rfl) ?_
      refine gl_atE (by kernel_rfl) ?_
      refine ge_seq ?_
      refine gk_cond (b := (!y28)) (by kernel_rfl) (by kernel_rfl) (fun hc30 => ?_) (fun hc30 => ?_)
      · have hb9 := cond_t hc30 hb9
        refine gk_seq (by kernel_rfl) ?_
        refine gk_region (by kernel_rfl) ?_
        refine gl_pure 1 [2] (K' := [(2, .int .i64 40)]) (by kernel_rfl) ?_
        refine gl_atE (by kernel_rfl) ?_
        refine ge_seq ?_
        refine gk_ret (by kernel_rfl) ?_
        refine ge_block_ret ?_
        refine ge_seq_ret ?_
        obtain rfl := some_inj hb9
        refine ge_round_out (fun hrr => ?_) (by intro h; cases h)
        obtain rfl := hrr
        refine ge_block_ret ?_
        refine ge_seq_ret ?_
        refine ge_seq_ret ?_
        obtain rfl := some_inj hr
        exact ge_result trivial (ResOk.tmp (by kernel_rfl) ResOk.nil) hI10 ⟨rfl, rfl⟩
      · have hb9 := cond_f hc30 hb9
        refine gk_skip (by kernel_rfl) ?_
        refine ge_block_normal ?_
        refine ge_seq ?_
        refine gk_region (by kernel_rfl) ?_
        refine gl_pure 2 [5, 6, 7] (K' := [(5, .slice A0_0 a0.length n0_0), (6, .int .i64 (a0.length : Int)), (7, .int .i64 (IntKind.wrap .i64 (s7 + 1)))]) (by kernel_rfl) ?_
        refine gl_atE (by kernel_rfl) ?_
        obtain rfl := some_inj hb9
        exact ge_round fun t ht => ⟨hI10, rfl, ht.pick (l := [5, 6, 7]) (by kernel_rfl)⟩
    · have hb9 := cond_f hc19 hb9
      refine gk_exit (by kernel_rfl) ?_
      refine ge_seq_exit ?_
      obtain rfl := some_inj hb9
      refine ge_round_out (fun hrr => ?_) (by intro h; cases h)
      obtain rfl := hrr
      refine ge_block_hit (by kernel_rfl) ?_
      exact ge_mid fun t ht => ⟨_, rfl, hI10, rfl, ht.pick (l := []) (by kernel_rfl)⟩
  · rintro t I16 L' ⟨r13, rfl, hI14, rfl, hK15⟩
    refine ge_at hK15 ?_
    refine ge_seq ?_
    refine gk_seq (by kernel_rfl) ?_
    refine gk_region (by kernel_rfl) ?_
    refine gl_pure 1 [2] (K' := [(2, .int .i64 0)]) (by kernel_rfl) ?_
    refine gl_atE (by kernel_rfl) ?_
    refine ge_seq ?_
    refine gk_ret (by kernel_rfl) ?_
    obtain rfl := some_inj hr
    exact ge_result trivial (ResOk.tmp (by kernel_rfl) ResOk.nil) hI14 ⟨rfl, rfl⟩
noncomputable def slices_Clone_f76 (a0 : List ByteArray) : Option (List ByteArray) :=
  Option.bind (app ([] : List ByteArray) a0) fun (zs3 : List ByteArray) =>
  some zs3
theorem slices_Clone_f76_walk {a0 : List ByteArray} {A0_0 : Option Addr} {n0_0 : Nat} {I : Imm} {r : (List ByteArray)}  (hf0_0 : RepS Kd.str I A0_0 n0_0 a0) (hr : slices_Clone_f76 a0 = some r) (L : Own) :
    CallsTo Tryz.prog 76 #[.slice A0_0 a0.length n0_0] I L (fun v I' L' => ∃ A0 c0 C0, OwnS Kd.str 9 I' A0 c0 r C0 ∧ v = .slice A0 r.length c0 ∧ C0 ++ L = L') := by
  unfold slices_Clone_f76 at hr
  refine callsTo_body (N := 8) Tryz.func76 (by kernel_rfl) (by kernel_rfl) (by kernel_rfl) ?_
  refine gk_pick [0] (K' := [(0, .slice A0_0 a0.length n0_0)]) (by kernel_rfl) ?_
  refine gk_seq (by kernel_rfl) ?_
  refine gk_region (by kernel_rfl) ?_
  refine gl_pure 1 [0] (K' := [(0, .slice A0_0 a0.length n0_0)]) (by kernel_rfl) ?_
  refine gl_atE (by kernel_rfl) ?_
  refine ge_seq ?_
  refine gk_seq (by kernel_rfl) ?_
  refine gk_seq (by kernel_rfl) ?_
  refine gk_region (by kernel_rfl) ?_
  refine gl_pure 1 [0, 3] (K' := [(0, .slice A0_0 a0.length n0_0), (3, .slice A0_0 a0.length n0_0)]) (by kernel_rfl) ?_
  refine gl_eqNil (A := A0_0) (len := a0.length) (c := n0_0) (a := 0) (b := 0) (t := 23) (t' := 23) (x := (.tmp 3)) (y := (.const (.slice none 0 0))) (by kernel_rfl) (by kernel_rfl) (by kernel_rfl) (by kernel_rfl) (by kernel_rfl) ?_
  refine gl_atE (by kernel_rfl) ?_
  refine ge_seq ?_
  refine gk_cond (b := A0_0.isNone) (by kernel_rfl) (by kernel_rfl) (fun hc1 => ?_) (fun hc1 => ?_)
  · have hr := clone_nil hr (RepS.isNil hf0_0 hc1)
    refine gk_seq (by kernel_rfl) ?_
    refine gk_region (by kernel_rfl) ?_
    refine gl_pure 1 [2] (K' := [(2, .slice none 0 0)]) (by kernel_rfl) ?_
    refine gl_atE (by kernel_rfl) ?_
    refine ge_seq ?_
    refine gk_ret (by kernel_rfl) ?_
    refine ge_seq_ret ?_
    obtain rfl := some_inj hr
    exact ge_result trivial (ResOk.tmp (by kernel_rfl) ResOk.nil) (Imm.refl _) ⟨none, 0, [], OwnS.nil _ _ _ _, rfl, rfl⟩
  · refine gk_skip (by kernel_rfl) ?_
    refine ge_seq ?_
    refine gk_seq (by kernel_rfl) ?_
    refine gk_region (by kernel_rfl) ?_
    refine gl_buildSlice0 (T' := 23) (e := 9) (n := 1) (by kernel_rfl) (by kernel_rfl) (by kernel_rfl) (fun g2 => ?_)
    refine gl_reord (D := [(g2, .cells #[] 9)] ++ L) (Reord.refl _) ?_
    refine gl_pure 1 [5, 6] (K' := [(5, .slice (some ⟨g2, 0, none⟩) ([] : List ByteArray).length 0), (6, .slice A0_0 a0.length n0_0)]) (by kernel_rfl) ?_
    obtain ⟨zs3, hz4, hr⟩ := bind_some hr
    refine gl_append (xv := .slice A0_0 a0.length n0_0) (d := Kd.str) (t := 23) (tx := 23) (e := 9) (s := (.tmp 5)) (x := (.tmp 6)) (xs := ([] : List ByteArray)) (fun X => X ++ L) hz4 (by kernel_rfl) (by kernel_rfl) (by kernel_rfl) (by kernel_rfl) (by kernel_rfl) (by kernel_rfl) (fun X => (Upd.head _ X _)) (OwnS.empty _ _ _ _) (SrcOk.slice (c := n0_0) (e := 9) (n := 1) (RepS.rd hf0_0 _) (by kernel_rfl)) (fun A5 n6 C7 hO8 => ?_)
    refine gl_pure 1 [2] (K' := [(2, .slice A5 zs3.length n6)]) (by kernel_rfl) ?_
    refine gl_atE (by kernel_rfl) ?_
    refine ge_seq ?_
    refine gk_ret (by kernel_rfl) ?_
    obtain rfl := some_inj hr
    exact ge_result trivial (ResOk.tmp (by kernel_rfl) ResOk.nil) (Imm.refl _) ⟨A5, n6, C7, hO8, rfl, rfl⟩
noncomputable def labels_right (a0 : List S76) : Option Int :=
  Option.bind (labels_Right a0) fun (y1 : Int × Int) =>
  some y1.1
theorem labels_right_walk {a0 : List S76} {A0_0 : Option Addr} {n0_0 : Nat} {I : Imm} {r : Int} (hG : Gl I)  (hf0_0 : RepS kS76 I A0_0 n0_0 a0) (hr : labels_right a0 = some r) (L : Own) :
    CallsTo Tryz.prog 106 #[.slice A0_0 a0.length n0_0] I L (fun v I' L' => v = .int .i64 r ∧ L = L') := by
  unfold labels_right at hr
  refine callsTo_body (N := 11) Tryz.func106 (by kernel_rfl) (by kernel_rfl) (by kernel_rfl) ?_
  refine gk_pick [0] (K' := [(0, .slice A0_0 a0.length n0_0)]) (by kernel_rfl) ?_
  refine gk_seq (by kernel_rfl) ?_
  refine gk_region (by kernel_rfl) ?_
  refine gl_pure 1 [0] (K' := [(0, .slice A0_0 a0.length n0_0)]) (by kernel_rfl) ?_
  refine gl_atE (by kernel_rfl) ?_
  refine ge_seq ?_
  refine gk_seq (by kernel_rfl) ?_
  refine gk_region (by kernel_rfl) ?_
  refine gl_pure 1 [6] (K' := [(6, .slice A0_0 a0.length n0_0)]) (by kernel_rfl) ?_
  obtain ⟨y1, hx2, hr⟩ := bind_some hr
  refine gl_callQ (by kernel_rfl) (labels_Right_walk (r := y1) hG hf0_0 hx2 _) ?_
  refine gl_pure 5 [3] (K' := [(3, .int .i64 y1.1)]) (by kernel_rfl) ?_
  refine gl_atE (by kernel_rfl) ?_
  refine ge_seq ?_
  refine gk_seq (by kernel_rfl) ?_
  refine gk_region (by kernel_rfl) ?_
  refine gl_pure 2 [2] (K' := [(2, .int .i64 y1.1)]) (by kernel_rfl) ?_
  refine gl_atE (by kernel_rfl) ?_
  refine ge_seq ?_
  refine gk_ret (by kernel_rfl) ?_
  obtain rfl := some_inj hr
  exact ge_result trivial (ResOk.tmp (by kernel_rfl) ResOk.nil) (Imm.refl _) ⟨rfl, rfl⟩
noncomputable def slices_Index_l17 (a0 : List ByteArray) (a1 : ByteArray) : Int → Option ((Int) ⊕ ((Unit) ⊕ (Int))) := fun s7 =>
  bif (decide (s7 < (a0.length : Int))) then
  (Option.bind (ix a0 s7) fun (x20 : ByteArray) =>
    bif (a1.toList == x20.toList) then
    (some (Sum.inr (Sum.inr s7)))
    else
    (some (Sum.inl (IntKind.wrap .i64 (s7 + 1)))))
  else
  (some (Sum.inr (Sum.inl ())))
noncomputable def slices_Index (a0 : List ByteArray) (a1 : ByteArray) : Option Int :=
  Option.bind (loopO (slices_Index_l17 a0 a1) 0) fun (r5 : (Unit) ⊕ (Int)) =>
  match r5 with
  | Sum.inl r13 => some (-1)
  | Sum.inr v29 => some v29
theorem slices_Index_walk {a0 : List ByteArray} {A0_0 : Option Addr} {n0_0 : Nat} {a1 : ByteArray} {I : Imm} {r : Int}  (hf0_0 : RepS Kd.str I A0_0 n0_0 a0) (hr : slices_Index a0 a1 = some r) (L : Own) :
    CallsTo Tryz.prog 93 #[.slice A0_0 a0.length n0_0, .string a1] I L (fun v I' L' => v = .int .i64 r ∧ L = L') := by
  unfold slices_Index at hr
  refine callsTo_body (N := 19) Tryz.func93 (by kernel_rfl) (by kernel_rfl) (by kernel_rfl) ?_
  refine gk_pick [0, 1] (K' := [(0, .slice A0_0 a0.length n0_0), (1, .string a1)]) (by kernel_rfl) ?_
  refine gk_seq (by kernel_rfl) ?_
  refine gk_region (by kernel_rfl) ?_
  refine gl_pure 1 [0, 1] (K' := [(0, .slice A0_0 a0.length n0_0), (1, .string a1)]) (by kernel_rfl) ?_
  refine gl_atE (by kernel_rfl) ?_
  refine ge_seq ?_
  refine gk_seq (by kernel_rfl) ?_
  refine gk_seq (by kernel_rfl) ?_
  refine gk_region (by kernel_rfl) ?_
  refine gl_pure 3 [0, 1, 7, 8] (K' := [(0, .slice A0_0 a0.length n0_0), (1, .string a1), (7, .int .i64 (a0.length : Int)), (8, .int .i64 0)]) (by kernel_rfl) ?_
  refine gl_atE (by kernel_rfl) ?_
  refine ge_seq ?_
  obtain ⟨r5, hl6, hr⟩ := bind_some hr
  refine gk_join (fun t I' L' => ∃ r13, r5 = Sum.inl r13 ∧ I ≤ I' ∧ L = L' ∧ Knows 19 [] t) ?_ ?_
  · refine gk_block (by kernel_rfl) ?_
    refine gk_pick [0, 1, 7, 8] (K' := [(0, .slice A0_0 a0.length n0_0), (1, .string a1), (7, .int .i64 (a0.length : Int)), (8, .int .i64 0)]) (by kernel_rfl) ?_
    intro t hK
    refine gc_loop (slices_Index_l17 a0 a1) (fun s7 t I' L' => I ≤ I' ∧ L = L' ∧ Knows 19 [(0, .slice A0_0 a0.length n0_0), (1, .string a1), (7, .int .i64 (a0.length : Int)), (8, .int .i64 s7)] t) (by kernel_rfl) ?_ hl6 ⟨(Imm.refl _), rfl, hK⟩
    rintro s7 o8 t I12 L' hb9 ⟨hI10, rfl, hK11⟩
    unfold slices_Index_l17 at hb9
    refine gk_at hK11 ?_
    refine gk_seq (by kernel_rfl) ?_
    refine gk_region (by kernel_rfl) ?_
    refine gl_pure 1 [0, 1, 7, 8, 9] (K' := [(0, .slice A0_0 a0.length n0_0), (1, .string a1), (7, .int .i64 (a0.length : Int)), (8, .int .i64 s7), (9, .bool (decide (s7 < (a0.length : Int))))]) (by kernel_rfl) ?_
    refine gl_atE (by kernel_rfl) ?_
    refine ge_seq ?_
    refine gk_seq (by kernel_rfl) ?_
    refine gk_cond (b := (decide (s7 < (a0.length : Int)))) (by kernel_rfl) (by kernel_rfl) (fun hc19 => ?_) (fun hc19 => ?_)
    · have hb9 := cond_t hc19 hb9
      refine gk_skip (by kernel_rfl) ?_
      refine ge_seq ?_
      refine gk_seq (by kernel_rfl) ?_
      refine gk_block (by kernel_rfl) ?_
      refine gk_seq (by kernel_rfl) ?_
      refine gk_region (by kernel_rfl) ?_
      refine gl_pure 2 [0, 1, 5, 7, 8] (K' := [(0, .slice A0_0 a0.length n0_0), (1, .string a1), (5, .int .i64 s7), (7, .int .i64 (a0.length : Int)), (8, .int .i64 s7)]) (by kernel_rfl) ?_
      refine gl_atE (by kernel_rfl) ?_
      refine ge_seq ?_
      refine gk_seq (by kernel_rfl) ?_
      refine gk_region (by kernel_rfl) ?_
      refine gl_pure 3 [0, 1, 5, 7, 8, 11, 12, 13] (K' := [(0, .slice A0_0 a0.length n0_0), (1, .string a1), (5, .int .i64 s7), (7, .int .i64 (a0.length : Int)), (8, .int .i64 s7), (11, .string a1), (12, .slice A0_0 a0.length n0_0), (13, .int .i64 s7)]) (by kernel_rfl) ?_
      obtain ⟨x20, hx21, hb9⟩ := bind_some hb9
      obtain ⟨p22, cs23, hR24, hA25, ha26⟩ := RepS.ixAt hx21 (hf0_0.mono hI10)
      have hi27 := ix_some hx21
      obtain rfl := hR24
      refine gl_indexAddrF (c := n0_0) (T' := 23) (e := 9) (xs := (.tmp 12)) (xi := (.tmp 13)) (kd := .i64) ha26 hi27.1 hi27.2.1 (by kernel_rfl) (by kernel_rfl) (by kernel_rfl) (by kernel_rfl) (by kernel_rfl) ?_
      refine gl_load (T' := 9) (xp := (.tmp 14)) (p := p22) (c := .string x20) (n := 1) (by kernel_rfl) (by kernel_rfl) (by kernel_rfl) (by kernel_rfl) hA25 ?_
      refine gl_pure 1 [0, 1, 5, 7, 8, 16] (K' := [(0, .slice A0_0 a0.length n0_0), (1, .string a1), (5, .int .i64 s7), (7, .int .i64 (a0.length : Int)), (8, .int .i64 s7), (16, .bool (a1.toList == x20.toList))]) (by kernel_rfl) ?_
      refine gl_atE (by kernel_rfl) ?_
      refine ge_seq ?_
      refine gk_cond (b := (a1.toList == x20.toList)) (by kernel_rfl) (by kernel_rfl) (fun hc28 => ?_) (fun hc28 => ?_)
      · have hb9 := cond_t hc28 hb9
        refine gk_seq (by kernel_rfl) ?_
        refine gk_region (by kernel_rfl) ?_
        refine gl_pure 2 [4] (K' := [(4, .int .i64 s7)]) (by kernel_rfl) ?_
        refine gl_atE (by kernel_rfl) ?_
        refine ge_seq ?_
        refine gk_ret (by kernel_rfl) ?_
        refine ge_block_ret ?_
        refine ge_seq_ret ?_
        obtain rfl := some_inj hb9
        refine ge_round_out (fun hrr => ?_) (by intro h; cases h)
        obtain rfl := hrr
        refine ge_block_ret ?_
        refine ge_seq_ret ?_
        refine ge_seq_ret ?_
        obtain rfl := some_inj hr
        exact ge_result trivial (ResOk.tmp (by kernel_rfl) ResOk.nil) hI10 ⟨rfl, rfl⟩
      · have hb9 := cond_f hc28 hb9
        refine gk_skip (by kernel_rfl) ?_
        refine ge_block_normal ?_
        refine ge_seq ?_
        refine gk_region (by kernel_rfl) ?_
        refine gl_pure 2 [0, 1, 7, 8] (K' := [(0, .slice A0_0 a0.length n0_0), (1, .string a1), (7, .int .i64 (a0.length : Int)), (8, .int .i64 (IntKind.wrap .i64 (s7 + 1)))]) (by kernel_rfl) ?_
        refine gl_atE (by kernel_rfl) ?_
        obtain rfl := some_inj hb9
        exact ge_round fun t ht => ⟨hI10, rfl, ht.pick (l := [0, 1, 7, 8]) (by kernel_rfl)⟩
    · have hb9 := cond_f hc19 hb9
      refine gk_exit (by kernel_rfl) ?_
      refine ge_seq_exit ?_
      obtain rfl := some_inj hb9
      refine ge_round_out (fun hrr => ?_) (by intro h; cases h)
      obtain rfl := hrr
      refine ge_block_hit (by kernel_rfl) ?_
      exact ge_mid fun t ht => ⟨_, rfl, hI10, rfl, ht.pick (l := []) (by kernel_rfl)⟩
  · rintro t I16 L' ⟨r13, rfl, hI14, rfl, hK15⟩
    refine ge_at hK15 ?_
    refine ge_seq ?_
    refine gk_seq (by kernel_rfl) ?_
    refine gk_region (by kernel_rfl) ?_
    refine gl_pure 1 [4] (K' := [(4, .int .i64 (-1))]) (by kernel_rfl) ?_
    refine gl_atE (by kernel_rfl) ?_
    refine ge_seq ?_
    refine gk_ret (by kernel_rfl) ?_
    obtain rfl := some_inj hr
    exact ge_result trivial (ResOk.tmp (by kernel_rfl) ResOk.nil) hI14 ⟨rfl, rfl⟩
noncomputable def slices_Contains (a0 : List ByteArray) (a1 : ByteArray) : Option Bool :=
  Option.bind (slices_Index a0 a1) fun (y1 : Int) =>
  some (decide (y1 ≥ 0))
theorem slices_Contains_walk {a0 : List ByteArray} {A0_0 : Option Addr} {n0_0 : Nat} {a1 : ByteArray} {I : Imm} {r : Bool}  (hf0_0 : RepS Kd.str I A0_0 n0_0 a0) (hr : slices_Contains a0 a1 = some r) (L : Own) :
    CallsTo Tryz.prog 47 #[.slice A0_0 a0.length n0_0, .string a1] I L (fun v I' L' => v = .bool r ∧ L = L') := by
  unfold slices_Contains at hr
  refine callsTo_body (N := 9) Tryz.func47 (by kernel_rfl) (by kernel_rfl) (by kernel_rfl) ?_
  refine gk_pick [0, 1] (K' := [(0, .slice A0_0 a0.length n0_0), (1, .string a1)]) (by kernel_rfl) ?_
  refine gk_seq (by kernel_rfl) ?_
  refine gk_region (by kernel_rfl) ?_
  refine gl_pure 1 [0, 1] (K' := [(0, .slice A0_0 a0.length n0_0), (1, .string a1)]) (by kernel_rfl) ?_
  refine gl_atE (by kernel_rfl) ?_
  refine ge_seq ?_
  refine gk_seq (by kernel_rfl) ?_
  refine gk_region (by kernel_rfl) ?_
  refine gl_pure 2 [5, 6] (K' := [(5, .slice A0_0 a0.length n0_0), (6, .string a1)]) (by kernel_rfl) ?_
  obtain ⟨y1, hx2, hr⟩ := bind_some hr
  refine gl_callQ (by kernel_rfl) (slices_Index_walk (r := y1) hf0_0 hx2 _) ?_
  refine gl_pure 2 [4] (K' := [(4, .bool (decide (y1 ≥ 0)))]) (by kernel_rfl) ?_
  refine gl_atE (by kernel_rfl) ?_
  refine ge_seq ?_
  refine gk_ret (by kernel_rfl) ?_
  obtain rfl := some_inj hr
  exact ge_result trivial (ResOk.tmp (by kernel_rfl) ResOk.nil) (Imm.refl _) ⟨rfl, rfl⟩
noncomputable def labels_pick_l28 (a0 : List S76) (a1 : Bool) (a2 : List ByteArray) : ((List S76) × Int) → Option (((List S76) × Int) ⊕ ((List S76))) := fun s11 =>
  bif (decide (s11.2 < (a0.length : Int))) then
  (Option.bind (ix a0 s11.2) fun (x31 : S76) =>
    Option.bind (slices_Contains a2 x31.f0) fun (y40 : Bool) =>
    Option.bind (bif (y40 == a1) then
      (Option.bind (app s11.1 [x31]) fun (zs56 : List S76) =>
        some zs56)
      else
      (some s11.1)) fun (j42 : (List S76)) =>
    some (Sum.inl (j42, (IntKind.wrap .i64 (s11.2 + 1)))))
  else
  (some (Sum.inr s11.1))
noncomputable def labels_pick (a0 : List S76) (a1 : Bool) (a2 : List ByteArray) : Option (List S76) :=
  Option.bind (loopO (labels_pick_l28 a0 a1 a2) ([], 0)) fun (r9 : (List S76)) =>
  some r9
theorem labels_pick_walk {a0 : List S76} {A0_0 : Option Addr} {n0_0 : Nat} {a1 : Bool} {a2 : List ByteArray} {A2_0 : Option Addr} {n2_0 : Nat} {I : Imm} {r : (List S76)}  (hf0_0 : RepS kS76 I A0_0 n0_0 a0)  (hf2_0 : RepS Kd.str I A2_0 n2_0 a2) (hr : labels_pick a0 a1 a2 = some r) (L : Own) :
    CallsTo Tryz.prog 120 #[.slice A0_0 a0.length n0_0, .bool a1, .slice A2_0 a2.length n2_0] I L (fun v I' L' => ∃ A0 c0 C0, OwnS kS76 77 I' A0 c0 r C0 ∧ v = .slice A0 r.length c0 ∧ C0 ++ L = L') := by
  unfold labels_pick at hr
  refine callsTo_body (N := 28) Tryz.func120 (by kernel_rfl) (by kernel_rfl) (by kernel_rfl) ?_
  refine gk_pick [0, 1, 2] (K' := [(0, .slice A0_0 a0.length n0_0), (1, .bool a1), (2, .slice A2_0 a2.length n2_0)]) (by kernel_rfl) ?_
  refine gk_seq (by kernel_rfl) ?_
  refine gk_region (by kernel_rfl) ?_
  refine gl_pure 1 [0, 1, 2] (K' := [(0, .slice A0_0 a0.length n0_0), (1, .bool a1), (2, .slice A2_0 a2.length n2_0)]) (by kernel_rfl) ?_
  refine gl_atE (by kernel_rfl) ?_
  refine ge_seq ?_
  refine gk_seq (by kernel_rfl) ?_
  refine gk_region (by kernel_rfl) ?_
  refine gl_pure 1 [0, 1, 2, 7] (K' := [(0, .slice A0_0 a0.length n0_0), (1, .bool a1), (2, .slice A2_0 a2.length n2_0), (7, .slice none 0 0)]) (by kernel_rfl) ?_
  refine gl_atE (by kernel_rfl) ?_
  refine ge_seq ?_
  refine gk_seq (by kernel_rfl) ?_
  refine gk_seq (by kernel_rfl) ?_
  refine gk_region (by kernel_rfl) ?_
  refine gl_pure 3 [1, 2, 7, 10, 11, 12] (K' := [(1, .bool a1), (2, .slice A2_0 a2.length n2_0), (7, .slice none 0 0), (10, .slice A0_0 a0.length n0_0), (11, .int .i64 (a0.length : Int)), (12, .int .i64 0)]) (by kernel_rfl) ?_
  refine gl_atE (by kernel_rfl) ?_
  refine ge_seq ?_
  obtain ⟨r9, hl10, hr⟩ := bind_some hr
  refine gk_join (fun t I' L' => ∃ A22 n23 C24, OwnS kS76 77 I' A22 n23 r9 C24 ∧ I ≤ I' ∧ C24 ++ L = L' ∧ Knows 28 [(7, .slice A22 r9.length n23)] t) ?_ ?_
  · refine gk_block (by kernel_rfl) ?_
    refine gk_pick [1, 2, 7, 10, 11, 12] (K' := [(1, .bool a1), (2, .slice A2_0 a2.length n2_0), (7, .slice none 0 0), (10, .slice A0_0 a0.length n0_0), (11, .int .i64 (a0.length : Int)), (12, .int .i64 0)]) (by kernel_rfl) ?_
    intro t hK
    refine gc_loop (labels_pick_l28 a0 a1 a2) (fun s11 t I' L' => ∃ A15 n16 C17, OwnS kS76 77 I' A15 n16 s11.1 C17 ∧ I ≤ I' ∧ C17 ++ L = L' ∧ Knows 28 [(1, .bool a1), (2, .slice A2_0 a2.length n2_0), (7, .slice A15 s11.1.length n16), (10, .slice A0_0 a0.length n0_0), (11, .int .i64 (a0.length : Int)), (12, .int .i64 s11.2)] t) (by kernel_rfl) ?_ hl10 ⟨none, 0, [], OwnS.nil _ _ _ _, (Imm.refl _), rfl, hK⟩
    rintro s11 o12 t I20 L' hb13 ⟨A15, n16, C17, hO18, hI14, rfl, hK19⟩
    unfold labels_pick_l28 at hb13
    refine gk_at hK19 ?_
    refine gk_seq (by kernel_rfl) ?_
    refine gk_region (by kernel_rfl) ?_
    refine gl_pure 1 [1, 2, 7, 10, 11, 12, 13] (K' := [(1, .bool a1), (2, .slice A2_0 a2.length n2_0), (7, .slice A15 s11.1.length n16), (10, .slice A0_0 a0.length n0_0), (11, .int .i64 (a0.length : Int)), (12, .int .i64 s11.2), (13, .bool (decide (s11.2 < (a0.length : Int))))]) (by kernel_rfl) ?_
    refine gl_atE (by kernel_rfl) ?_
    refine ge_seq ?_
    refine gk_seq (by kernel_rfl) ?_
    refine gk_cond (b := (decide (s11.2 < (a0.length : Int)))) (by kernel_rfl) (by kernel_rfl) (fun hc30 => ?_) (fun hc30 => ?_)
    · have hb13 := cond_t hc30 hb13
      refine gk_skip (by kernel_rfl) ?_
      refine ge_seq ?_
      refine gk_seq (by kernel_rfl) ?_
      refine gk_block (by kernel_rfl) ?_
      refine gk_seq (by kernel_rfl) ?_
      refine gk_region (by kernel_rfl) ?_
      obtain ⟨x31, hx32, hb13⟩ := bind_some hb13
      obtain ⟨p33, cs34, hR35, hA36, ha37⟩ := RepS.ixAt hx32 (hf0_0.mono hI14)
      have hi38 := ix_some hx32
      obtain rfl := kS76_open hR35
      refine gl_indexAddrF (c := n0_0) (T' := 36) (e := 77) (xs := (.tmp 10)) (xi := (.tmp 12)) (kd := .i64) ha37 hi38.1 hi38.2.1 (by kernel_rfl) (by kernel_rfl) (by kernel_rfl) (by kernel_rfl) (by kernel_rfl) ?_
      refine gl_loadA (T' := 77) (xp := (.tmp 14)) (p := p33) (cs := [.string x31.f0, .string x31.f1]) (by kernel_rfl) (by kernel_rfl) (by kernel_rfl) (by kernel_rfl) (hA36.take 2) ?_
      refine gl_alloc (T' := 77) (cs := #[.string (⟨#[]⟩ : ByteArray), .string (⟨#[]⟩ : ByteArray)]) (by kernel_rfl) (by kernel_rfl) (by kernel_rfl) (fun g39 => ?_)
      refine gl_storeB (T' := 77) (xp := (.tmp 9)) (xv := (.tmp 15)) (v := .agg #[.string x31.f0, .string x31.f1]) (g := g39) (off := 0) (cs := #[.string (⟨#[]⟩ : ByteArray), .string (⟨#[]⟩ : ByteArray)]) (cs' := #[.string x31.f0, .string x31.f1]) (by kernel_rfl) (by kernel_rfl) (by kernel_rfl) (by kernel_rfl) (by kernel_rfl) (Upd.set _ _ _ _) ?_ (by kernel_rfl)
      refine gl_atE (by kernel_rfl) ?_
      refine ge_seq ?_
      refine gk_seq (by kernel_rfl) ?_
      refine gk_region (by kernel_rfl) ?_
      refine gl_pure 2 [1, 2, 7, 9, 10, 11, 12, 16, 17] (K' := [(1, .bool a1), (2, .slice A2_0 a2.length n2_0), (7, .slice A15 s11.1.length n16), (9, .pointer (some ⟨g39, 0, none⟩)), (10, .slice A0_0 a0.length n0_0), (11, .int .i64 (a0.length : Int)), (12, .int .i64 s11.2), (16, .slice A2_0 a2.length n2_0), (17, .pointer (some ⟨g39, 0, none⟩))]) (by kernel_rfl) ?_
      refine gl_loadB (T' := 9) (xp := (.tmp 17)) (v := .string x31.f0) (g := g39) (off := 0) (cs := #[.string x31.f0, .string x31.f1]) (e := 77) (fz := (0, 0)) (by kernel_rfl) (by kernel_rfl) (by kernel_rfl) List.mem_cons_self (by kernel_rfl) ?_
      obtain ⟨y40, hx41, hb13⟩ := bind_some hb13
      refine gl_callQ (by kernel_rfl) (slices_Contains_walk (r := y40) (hf2_0.mono hI14) hx41 _) ?_
      refine gl_pure 2 [1, 2, 7, 9, 10, 11, 12, 21] (K' := [(1, .bool a1), (2, .slice A2_0 a2.length n2_0), (7, .slice A15 s11.1.length n16), (9, .pointer (some ⟨g39, 0, none⟩)), (10, .slice A0_0 a0.length n0_0), (11, .int .i64 (a0.length : Int)), (12, .int .i64 s11.2), (21, .bool (y40 == a1))]) (by kernel_rfl) ?_
      refine gl_atE (by kernel_rfl) ?_
      refine ge_seq ?_
      obtain ⟨j42, hj43, hb13⟩ := bind_some hb13
      refine gk_join (fun t I' L' => ∃ A45 n46 C47, OwnS kS76 77 I' A45 n46 j42 C47 ∧ I20 ≤ I' ∧ C47 ++ L = L' ∧ Knows 28 [(1, .bool a1), (2, .slice A2_0 a2.length n2_0), (7, .slice A45 j42.length n46), (10, .slice A0_0 a0.length n0_0), (11, .int .i64 (a0.length : Int)), (12, .int .i64 s11.2)] t) ?_ ?_
      · refine gk_cond (b := (y40 == a1)) (by kernel_rfl) (by kernel_rfl) (fun hc51 => ?_) (fun hc51 => ?_)
        · have hj43 := cond_t hc51 hj43
          refine gk_region (by kernel_rfl) ?_
          refine gl_pure 1 [1, 2, 9, 10, 11, 12, 22] (K' := [(1, .bool a1), (2, .slice A2_0 a2.length n2_0), (9, .pointer (some ⟨g39, 0, none⟩)), (10, .slice A0_0 a0.length n0_0), (11, .int .i64 (a0.length : Int)), (12, .int .i64 s11.2), (22, .slice A15 s11.1.length n16)]) (by kernel_rfl) ?_
          refine gl_loadB (T' := 77) (xp := (.tmp 9)) (v := .agg #[.string x31.f0, .string x31.f1]) (g := g39) (off := 0) (cs := #[.string x31.f0, .string x31.f1]) (e := 77) (fz := (0, 0)) (by kernel_rfl) (by kernel_rfl) (by kernel_rfl) List.mem_cons_self (by kernel_rfl) ?_
          refine gl_buildSlice (T' := 36) (e := 77) (n := 2) (len := 1) (parts := #[(0, (.tmp 23))]) (l := [(0, .agg #[.string x31.f0, .string x31.f1])]) (cs := #[.string x31.f0, .string x31.f1]) (by kernel_rfl) (by kernel_rfl) (by kernel_rfl) (by kernel_rfl) (by kernel_rfl) (fun g52 => ?_)
          have hO53 : OwnS kS76 77 I20 (some ⟨g52, 0, none⟩) 1 [x31] [(g52, .cells #[.string x31.f0, .string x31.f1] 77)] := OwnS.lit (row_cons (l := [.string x31.f0, .string x31.f1]) (kS76_mk (x := x31) ) (row_nil _ _)) rfl rfl rfl
          refine gl_reord (D := [(g52, .cells #[.string x31.f0, .string x31.f1] 77)] ++ ((g39, .cells #[.string x31.f0, .string x31.f1] 77) :: (C17 ++ L))) (Reord.refl _) ?_
          obtain ⟨zs56, hz57, hj43⟩ := bind_some hj43
          refine gl_append (xv := .slice (some ⟨g52, 0, none⟩) [x31].length 1) (d := kS76) (t := 36) (tx := 36) (e := 77) (s := (.tmp 22)) (x := (.tmp 24)) (xs := s11.1) (fun X => [(g52, .cells #[.string x31.f0, .string x31.f1] 77)] ++ ((g39, .cells #[.string x31.f0, .string x31.f1] 77) :: (X ++ L))) hz57 (by kernel_rfl) (by kernel_rfl) (by kernel_rfl) (by kernel_rfl) (by kernel_rfl) (by kernel_rfl) (fun X => (Upd.app _ (Upd.one _ (Upd.head _ X _)))) hO18 (SrcOk.slice (c := 1) (e := 77) (n := 2) (OwnS.rd hO53 (Upd.selfC _ _)) (by kernel_rfl)) (fun A58 n59 C60 hO61 => ?_)
          refine gl_pure 1 [1, 2, 7, 10, 11, 12] (K' := [(1, .bool a1), (2, .slice A2_0 a2.length n2_0), (7, .slice A58 zs56.length n59), (10, .slice A0_0 a0.length n0_0), (11, .int .i64 (a0.length : Int)), (12, .int .i64 s11.2)]) (by kernel_rfl) ?_
          refine gl_reord (D := C60 ++ L) (Reord.step (Upd.app _ (Upd.one _ (Upd.rmC _ _))) (Reord.skipC (Reord.skip (Reord.refl _)))) ?_
          refine gl_atE (by kernel_rfl) ?_
          obtain rfl := some_inj hj43
          exact ge_mid fun t ht => ⟨A58, n59, C60, hO61, (Imm.refl _), rfl, ht.pick (l := [1, 2, 7, 10, 11, 12]) (by kernel_rfl)⟩
        · have hj43 := cond_f hc51 hj43
          refine gk_reord (D := C17 ++ L) (Reord.step (Upd.one _ (Upd.rmC _ _)) (Reord.skip (Reord.refl _))) ?_
          refine gk_skip (by kernel_rfl) ?_
          obtain rfl := some_inj hj43
          exact ge_mid fun t ht => ⟨A15, n16, C17, hO18, (Imm.refl _), rfl, ht.pick (l := [1, 2, 7, 10, 11, 12]) (by kernel_rfl)⟩
      · rintro t I50 L' ⟨A45, n46, C47, hO48, hI44, rfl, hK49⟩
        refine ge_at hK49 ?_
        refine ge_block_normal ?_
        refine ge_seq ?_
        refine gk_region (by kernel_rfl) ?_
        refine gl_pure 2 [1, 2, 7, 10, 11, 12] (K' := [(1, .bool a1), (2, .slice A2_0 a2.length n2_0), (7, .slice A45 j42.length n46), (10, .slice A0_0 a0.length n0_0), (11, .int .i64 (a0.length : Int)), (12, .int .i64 (IntKind.wrap .i64 (s11.2 + 1)))]) (by kernel_rfl) ?_
        refine gl_atE (by kernel_rfl) ?_
        obtain rfl := some_inj hb13
        exact ge_round fun t ht => ⟨A45, n46, C47, hO48, (Imm.trans hI14 hI44), rfl, ht.pick (l := [1, 2, 7, 10, 11, 12]) (by kernel_rfl)⟩
    · have hb13 := cond_f hc30 hb13
      refine gk_exit (by kernel_rfl) ?_
      refine ge_seq_exit ?_
      obtain rfl := some_inj hb13
      refine ge_round_out (fun hrr => ?_) (by intro h; cases h)
      obtain rfl := hrr
      refine ge_block_hit (by kernel_rfl) ?_
      exact ge_mid fun t ht => ⟨A15, n16, C17, hO18, hI14, rfl, ht.pick (l := [7]) (by kernel_rfl)⟩
  · rintro t I27 L' ⟨A22, n23, C24, hO25, hI21, rfl, hK26⟩
    refine ge_at hK26 ?_
    refine ge_seq ?_
    refine gk_seq (by kernel_rfl) ?_
    refine gk_region (by kernel_rfl) ?_
    refine gl_pure 2 [6] (K' := [(6, .slice A22 r9.length n23)]) (by kernel_rfl) ?_
    refine gl_atE (by kernel_rfl) ?_
    refine ge_seq ?_
    refine gk_ret (by kernel_rfl) ?_
    obtain rfl := some_inj hr
    exact ge_result trivial (ResOk.tmp (by kernel_rfl) ResOk.nil) hI21 ⟨A22, n23, C24, hO25, rfl, rfl⟩
noncomputable def labels_Without (a0 : List S76) (a1 : List ByteArray) : Option ((List S76) × Int) :=
  Option.bind (labels_right a0) fun (y1 : Int) =>
  bif (y1 != 0) then
  (some ([], y1))
  else
  (Option.bind (labels_pick a0 false a1) fun (y4 : (List S76)) =>
    some (y4, 0))
theorem labels_Without_walk {a0 : List S76} {A0_0 : Option Addr} {n0_0 : Nat} {a1 : List ByteArray} {A1_0 : Option Addr} {n1_0 : Nat} {I : Imm} {r : (List S76) × Int} (hG : Gl I)  (hf0_0 : RepS kS76 I A0_0 n0_0 a0)  (hf1_0 : RepS Kd.str I A1_0 n1_0 a1) (hr : labels_Without a0 a1 = some r) (L : Own) :
    CallsTo Tryz.prog 75 #[.slice A0_0 a0.length n0_0, .slice A1_0 a1.length n1_0] I L (fun v I' L' => ∃ A0 c0 C0, OwnS kS76 77 I' A0 c0 r.1 C0 ∧ v = .tuple #[.slice A0 r.1.length c0, .int .i64 r.2] ∧ C0 ++ L = L') := by
  unfold labels_Without at hr
  refine callsTo_body (N := 15) Tryz.func75 (by kernel_rfl) (by kernel_rfl) (by kernel_rfl) ?_
  refine gk_pick [0, 1] (K' := [(0, .slice A0_0 a0.length n0_0), (1, .slice A1_0 a1.length n1_0)]) (by kernel_rfl) ?_
  refine gk_seq (by kernel_rfl) ?_
  refine gk_region (by kernel_rfl) ?_
  refine gl_pure 2 [0, 1] (K' := [(0, .slice A0_0 a0.length n0_0), (1, .slice A1_0 a1.length n1_0)]) (by kernel_rfl) ?_
  refine gl_atE (by kernel_rfl) ?_
  refine ge_seq ?_
  refine gk_seq (by kernel_rfl) ?_
  refine gk_seq (by kernel_rfl) ?_
  refine gk_region (by kernel_rfl) ?_
  refine gl_pure 1 [0, 1, 7] (K' := [(0, .slice A0_0 a0.length n0_0), (1, .slice A1_0 a1.length n1_0), (7, .slice A0_0 a0.length n0_0)]) (by kernel_rfl) ?_
  obtain ⟨y1, hx2, hr⟩ := bind_some hr
  refine gl_callQ (by kernel_rfl) (labels_right_walk (r := y1) hG hf0_0 hx2 _) ?_
  refine gl_pure 1 [0, 1, 6] (K' := [(0, .slice A0_0 a0.length n0_0), (1, .slice A1_0 a1.length n1_0), (6, .int .i64 y1)]) (by kernel_rfl) ?_
  refine gl_atE (by kernel_rfl) ?_
  refine ge_seq ?_
  refine gk_seq (by kernel_rfl) ?_
  refine gk_region (by kernel_rfl) ?_
  refine gl_pure 2 [0, 1, 6, 10] (K' := [(0, .slice A0_0 a0.length n0_0), (1, .slice A1_0 a1.length n1_0), (6, .int .i64 y1), (10, .bool (y1 != 0))]) (by kernel_rfl) ?_
  refine gl_atE (by kernel_rfl) ?_
  refine ge_seq ?_
  refine gk_cond (b := (y1 != 0)) (by kernel_rfl) (by kernel_rfl) (fun hc3 => ?_) (fun hc3 => ?_)
  · have hr := cond_t hc3 hr
    refine gk_seq (by kernel_rfl) ?_
    refine gk_region (by kernel_rfl) ?_
    refine gl_pure 3 [4, 5] (K' := [(4, .slice none 0 0), (5, .int .i64 y1)]) (by kernel_rfl) ?_
    refine gl_atE (by kernel_rfl) ?_
    refine ge_seq ?_
    refine gk_ret (by kernel_rfl) ?_
    refine ge_seq_ret ?_
    obtain rfl := some_inj hr
    exact ge_result trivial (ResOk.tmp (by kernel_rfl) (ResOk.tmp (by kernel_rfl) ResOk.nil)) (Imm.refl _) ⟨none, 0, [], OwnS.nil _ _ _ _, rfl, rfl⟩
  · have hr := cond_f hc3 hr
    refine gk_skip (by kernel_rfl) ?_
    refine ge_seq ?_
    refine gk_seq (by kernel_rfl) ?_
    refine gk_region (by kernel_rfl) ?_
    refine gl_pure 2 [12, 13] (K' := [(12, .slice A0_0 a0.length n0_0), (13, .slice A1_0 a1.length n1_0)]) (by kernel_rfl) ?_
    obtain ⟨y4, hx5, hr⟩ := bind_some hr
    refine gl_call (by kernel_rfl) (labels_pick_walk (r := y4) hf0_0 hf1_0 hx5 _) ?_
    rintro v I6 L7 hI8 ⟨A9, c10, C11, hO12, rfl, rfl⟩
    refine gl_pure 2 [4, 5] (K' := [(4, .slice A9 y4.length c10), (5, .int .i64 0)]) (by kernel_rfl) ?_
    refine gl_atE (by kernel_rfl) ?_
    refine ge_seq ?_
    refine gk_ret (by kernel_rfl) ?_
    obtain rfl := some_inj hr
    exact ge_result trivial (ResOk.tmp (by kernel_rfl) (ResOk.tmp (by kernel_rfl) ResOk.nil)) hI8 ⟨A9, c10, C11, hO12, rfl, rfl⟩
noncomputable def labels_Keep (a0 : List S76) (a1 : List ByteArray) : Option ((List S76) × Int) :=
  Option.bind (labels_right a0) fun (y1 : Int) =>
  bif (y1 != 0) then
  (some ([], y1))
  else
  (Option.bind (labels_pick a0 true a1) fun (y4 : (List S76)) =>
    some (y4, 0))
theorem labels_Keep_walk {a0 : List S76} {A0_0 : Option Addr} {n0_0 : Nat} {a1 : List ByteArray} {A1_0 : Option Addr} {n1_0 : Nat} {I : Imm} {r : (List S76) × Int} (hG : Gl I)  (hf0_0 : RepS kS76 I A0_0 n0_0 a0)  (hf1_0 : RepS Kd.str I A1_0 n1_0 a1) (hr : labels_Keep a0 a1 = some r) (L : Own) :
    CallsTo Tryz.prog 74 #[.slice A0_0 a0.length n0_0, .slice A1_0 a1.length n1_0] I L (fun v I' L' => ∃ A0 c0 C0, OwnS kS76 77 I' A0 c0 r.1 C0 ∧ v = .tuple #[.slice A0 r.1.length c0, .int .i64 r.2] ∧ C0 ++ L = L') := by
  unfold labels_Keep at hr
  refine callsTo_body (N := 15) Tryz.func74 (by kernel_rfl) (by kernel_rfl) (by kernel_rfl) ?_
  refine gk_pick [0, 1] (K' := [(0, .slice A0_0 a0.length n0_0), (1, .slice A1_0 a1.length n1_0)]) (by kernel_rfl) ?_
  refine gk_seq (by kernel_rfl) ?_
  refine gk_region (by kernel_rfl) ?_
  refine gl_pure 2 [0, 1] (K' := [(0, .slice A0_0 a0.length n0_0), (1, .slice A1_0 a1.length n1_0)]) (by kernel_rfl) ?_
  refine gl_atE (by kernel_rfl) ?_
  refine ge_seq ?_
  refine gk_seq (by kernel_rfl) ?_
  refine gk_seq (by kernel_rfl) ?_
  refine gk_region (by kernel_rfl) ?_
  refine gl_pure 1 [0, 1, 7] (K' := [(0, .slice A0_0 a0.length n0_0), (1, .slice A1_0 a1.length n1_0), (7, .slice A0_0 a0.length n0_0)]) (by kernel_rfl) ?_
  obtain ⟨y1, hx2, hr⟩ := bind_some hr
  refine gl_callQ (by kernel_rfl) (labels_right_walk (r := y1) hG hf0_0 hx2 _) ?_
  refine gl_pure 1 [0, 1, 6] (K' := [(0, .slice A0_0 a0.length n0_0), (1, .slice A1_0 a1.length n1_0), (6, .int .i64 y1)]) (by kernel_rfl) ?_
  refine gl_atE (by kernel_rfl) ?_
  refine ge_seq ?_
  refine gk_seq (by kernel_rfl) ?_
  refine gk_region (by kernel_rfl) ?_
  refine gl_pure 2 [0, 1, 6, 10] (K' := [(0, .slice A0_0 a0.length n0_0), (1, .slice A1_0 a1.length n1_0), (6, .int .i64 y1), (10, .bool (y1 != 0))]) (by kernel_rfl) ?_
  refine gl_atE (by kernel_rfl) ?_
  refine ge_seq ?_
  refine gk_cond (b := (y1 != 0)) (by kernel_rfl) (by kernel_rfl) (fun hc3 => ?_) (fun hc3 => ?_)
  · have hr := cond_t hc3 hr
    refine gk_seq (by kernel_rfl) ?_
    refine gk_region (by kernel_rfl) ?_
    refine gl_pure 3 [4, 5] (K' := [(4, .slice none 0 0), (5, .int .i64 y1)]) (by kernel_rfl) ?_
    refine gl_atE (by kernel_rfl) ?_
    refine ge_seq ?_
    refine gk_ret (by kernel_rfl) ?_
    refine ge_seq_ret ?_
    obtain rfl := some_inj hr
    exact ge_result trivial (ResOk.tmp (by kernel_rfl) (ResOk.tmp (by kernel_rfl) ResOk.nil)) (Imm.refl _) ⟨none, 0, [], OwnS.nil _ _ _ _, rfl, rfl⟩
  · have hr := cond_f hc3 hr
    refine gk_skip (by kernel_rfl) ?_
    refine ge_seq ?_
    refine gk_seq (by kernel_rfl) ?_
    refine gk_region (by kernel_rfl) ?_
    refine gl_pure 2 [12, 13] (K' := [(12, .slice A0_0 a0.length n0_0), (13, .slice A1_0 a1.length n1_0)]) (by kernel_rfl) ?_
    obtain ⟨y4, hx5, hr⟩ := bind_some hr
    refine gl_call (by kernel_rfl) (labels_pick_walk (r := y4) hf0_0 hf1_0 hx5 _) ?_
    rintro v I6 L7 hI8 ⟨A9, c10, C11, hO12, rfl, rfl⟩
    refine gl_pure 2 [4, 5] (K' := [(4, .slice A9 y4.length c10), (5, .int .i64 0)]) (by kernel_rfl) ?_
    refine gl_atE (by kernel_rfl) ?_
    refine ge_seq ?_
    refine gk_ret (by kernel_rfl) ?_
    obtain rfl := some_inj hr
    exact ge_result trivial (ResOk.tmp (by kernel_rfl) (ResOk.tmp (by kernel_rfl) ResOk.nil)) hI8 ⟨A9, c10, C11, hO12, rfl, rfl⟩
noncomputable def aggr_group (a0 : List S76) (a1 : List ByteArray) (a2 : Bool) : Option (List S76) :=
  bif a2 then
  (Option.bind (slices_Clone_f76 a1) fun (y2 : (List ByteArray)) =>
    Option.bind (app y2 [(⟨#[95, 95, 110, 97, 109, 101, 95, 95]⟩ : ByteArray)]) fun (zs15 : List ByteArray) =>
    Option.bind (labels_Without a0 zs15) fun (y25 : (List S76) × Int) =>
    some y25.1)
  else
  (Option.bind (labels_Keep a0 a1) fun (y34 : (List S76) × Int) =>
    some y34.1)
theorem aggr_group_walk {a0 : List S76} {A0_0 : Option Addr} {n0_0 : Nat} {a1 : List ByteArray} {A1_0 : Option Addr} {n1_0 : Nat} {a2 : Bool} {I : Imm} {r : (List S76)} (hG : Gl I)  (hf0_0 : RepS kS76 I A0_0 n0_0 a0)  (hf1_0 : RepS Kd.str I A1_0 n1_0 a1) (hr : aggr_group a0 a1 a2 = some r) (L : Own) :
    CallsTo Tryz.prog 51 #[.slice A0_0 a0.length n0_0, .slice A1_0 a1.length n1_0, .bool a2] I L (fun v I' L' => ∃ A0 c0 C0, OwnS kS76 77 I' A0 c0 r C0 ∧ v = .slice A0 r.length c0 ∧ C0 ++ L = L') := by
  unfold aggr_group at hr
  refine callsTo_body (N := 29) Tryz.func51 (by kernel_rfl) (by kernel_rfl) (by kernel_rfl) ?_
  refine gk_pick [0, 1, 2] (K' := [(0, .slice A0_0 a0.length n0_0), (1, .slice A1_0 a1.length n1_0), (2, .bool a2)]) (by kernel_rfl) ?_
  refine gk_seq (by kernel_rfl) ?_
  refine gk_region (by kernel_rfl) ?_
  refine gl_pure 1 [0, 1, 2] (K' := [(0, .slice A0_0 a0.length n0_0), (1, .slice A1_0 a1.length n1_0), (2, .bool a2)]) (by kernel_rfl) ?_
  refine gl_atE (by kernel_rfl) ?_
  refine ge_seq ?_
  refine gk_seq (by kernel_rfl) ?_
  refine gk_seq (by kernel_rfl) ?_
  refine gk_region (by kernel_rfl) ?_
  refine gl_pure 1 [0, 1, 11] (K' := [(0, .slice A0_0 a0.length n0_0), (1, .slice A1_0 a1.length n1_0), (11, .bool a2)]) (by kernel_rfl) ?_
  refine gl_atE (by kernel_rfl) ?_
  refine ge_seq ?_
  refine gk_cond (b := a2) (by kernel_rfl) (by kernel_rfl) (fun hc1 => ?_) (fun hc1 => ?_)
  · have hr := cond_t hc1 hr
    refine gk_seq (by kernel_rfl) ?_
    refine gk_region (by kernel_rfl) ?_
    refine gl_pure 2 [13, 14] (K' := [(13, .slice A0_0 a0.length n0_0), (14, .slice A1_0 a1.length n1_0)]) (by kernel_rfl) ?_
    obtain ⟨y2, hx3, hr⟩ := bind_some hr
    refine gl_call (by kernel_rfl) (slices_Clone_f76_walk (r := y2) hf1_0 hx3 _) ?_
    rintro v I4 L5 hI6 ⟨A7, c8, C9, hO10, rfl, rfl⟩
    refine gl_buildSlice (T' := 23) (e := 9) (n := 1) (len := 1) (parts := #[(0, (.const (.string (⟨#[95, 95, 110, 97, 109, 101, 95, 95]⟩ : ByteArray))))]) (l := [(0, .string (⟨#[95, 95, 110, 97, 109, 101, 95, 95]⟩ : ByteArray))]) (cs := #[.string (⟨#[95, 95, 110, 97, 109, 101, 95, 95]⟩ : ByteArray)]) (by kernel_rfl) (by kernel_rfl) (by kernel_rfl) (by kernel_rfl) (by kernel_rfl) (fun g11 => ?_)
    have hO12 : OwnS Kd.str 9 I4 (some ⟨g11, 0, none⟩) 1 [(⟨#[95, 95, 110, 97, 109, 101, 95, 95]⟩ : ByteArray)] [(g11, .cells #[.string (⟨#[95, 95, 110, 97, 109, 101, 95, 95]⟩ : ByteArray)] 9)] := OwnS.lit (row_cons (l := [.string (⟨#[95, 95, 110, 97, 109, 101, 95, 95]⟩ : ByteArray)]) rfl (row_nil _ _)) rfl rfl rfl
    refine gl_reord (D := [(g11, .cells #[.string (⟨#[95, 95, 110, 97, 109, 101, 95, 95]⟩ : ByteArray)] 9)] ++ (C9 ++ L)) (Reord.refl _) ?_
    obtain ⟨zs15, hz16, hr⟩ := bind_some hr
    refine gl_append (xv := .slice (some ⟨g11, 0, none⟩) [(⟨#[95, 95, 110, 97, 109, 101, 95, 95]⟩ : ByteArray)].length 1) (d := Kd.str) (t := 23) (tx := 23) (e := 9) (s := (.tmp 15)) (x := (.tmp 16)) (xs := y2) (fun X => [(g11, .cells #[.string (⟨#[95, 95, 110, 97, 109, 101, 95, 95]⟩ : ByteArray)] 9)] ++ (X ++ L)) hz16 (by kernel_rfl) (by kernel_rfl) (by kernel_rfl) (by kernel_rfl) (by kernel_rfl) (by kernel_rfl) (fun X => (Upd.app _ (Upd.head _ X _))) hO10 (SrcOk.slice (c := 1) (e := 9) (n := 1) (OwnS.rd hO12 (Upd.selfC _ _)) (by kernel_rfl)) (fun A17 n18 C19 hO20 => ?_)
    refine gl_rest (Tk.step (Upd.app _ (Upd.rmC _ _)) (Tk.nil _)) (fun J21 hJ22 hC23 => ?_)
    have hf24 := (OwnS.rest hO20 hJ22 hC23.left)
    obtain ⟨y25, hx26, hr⟩ := bind_some hr
    refine gl_call (by kernel_rfl) (labels_Without_walk (r := y25) (hG.mono (Imm.trans hI6 hJ22)) (hf0_0.mono (Imm.trans hI6 hJ22)) hf24 hx26 _) ?_
    rintro v I27 L28 hI29 ⟨A30, c31, C32, hO33, rfl, rfl⟩
    refine gl_pure 5 [7] (K' := [(7, .slice A30 y25.1.length c31)]) (by kernel_rfl) ?_
    refine gl_atE (by kernel_rfl) ?_
    refine ge_seq ?_
    refine gk_seq (by kernel_rfl) ?_
    refine gk_region (by kernel_rfl) ?_
    refine gl_pure 2 [6] (K' := [(6, .slice A30 y25.1.length c31)]) (by kernel_rfl) ?_
    refine gl_atE (by kernel_rfl) ?_
    refine ge_seq ?_
    refine gk_reord (D := C32 ++ L) (Reord.step (Upd.rmC _ _) (Reord.skipC (Reord.refl _))) ?_
    refine gk_ret (by kernel_rfl) ?_
    refine ge_seq_ret ?_
    obtain rfl := some_inj hr
    exact ge_result trivial (ResOk.tmp (by kernel_rfl) ResOk.nil) (Imm.trans (Imm.trans hI6 hJ22) hI29) ⟨A30, c31, C32, hO33, rfl, rfl⟩
  · have hr := cond_f hc1 hr
    refine gk_skip (by kernel_rfl) ?_
    refine ge_seq ?_
    refine gk_seq (by kernel_rfl) ?_
    refine gk_region (by kernel_rfl) ?_
    refine gl_pure 2 [23, 24] (K' := [(23, .slice A0_0 a0.length n0_0), (24, .slice A1_0 a1.length n1_0)]) (by kernel_rfl) ?_
    obtain ⟨y34, hx35, hr⟩ := bind_some hr
    refine gl_call (by kernel_rfl) (labels_Keep_walk (r := y34) hG hf0_0 hf1_0 hx35 _) ?_
    rintro v I36 L37 hI38 ⟨A39, c40, C41, hO42, rfl, rfl⟩
    refine gl_pure 5 [9] (K' := [(9, .slice A39 y34.1.length c40)]) (by kernel_rfl) ?_
    refine gl_atE (by kernel_rfl) ?_
    refine ge_seq ?_
    refine gk_seq (by kernel_rfl) ?_
    refine gk_region (by kernel_rfl) ?_
    refine gl_pure 2 [6] (K' := [(6, .slice A39 y34.1.length c40)]) (by kernel_rfl) ?_
    refine gl_atE (by kernel_rfl) ?_
    refine ge_seq ?_
    refine gk_ret (by kernel_rfl) ?_
    obtain rfl := some_inj hr
    exact ge_result trivial (ResOk.tmp (by kernel_rfl) ResOk.nil) hI38 ⟨A39, c40, C41, hO42, rfl, rfl⟩
noncomputable def vint_joined (a0 : List Int) (a1 : List Int) : Option (List Int) :=
  Option.bind (mkrow (0 : Int) 0 (IntKind.wrap .i64 ((a0.length : Int) + (a1.length : Int)))) fun (xs1 : List Int) =>
  Option.bind (app xs1 a0) fun (zs6 : List Int) =>
  Option.bind (app zs6 a1) fun (zs12 : List Int) =>
  some zs12
theorem vint_joined_walk {a0 : List Int} {A0_0 : Option Addr} {n0_0 : Nat} {a1 : List Int} {A1_0 : Option Addr} {n1_0 : Nat} {I : Imm} {r : (List Int)}  (hf0_0 : RepS (Kd.int .u8) I A0_0 n0_0 a0)  (hf1_0 : RepS (Kd.int .u8) I A1_0 n1_0 a1) (hr : vint_joined a0 a1 = some r) (L : Own) :
    CallsTo Tryz.prog 146 #[.slice A0_0 a0.length n0_0, .slice A1_0 a1.length n1_0] I L (fun v I' L' => ∃ A0 c0 C0, OwnS (Kd.int .u8) 5 I' A0 c0 r C0 ∧ v = .slice A0 r.length c0 ∧ C0 ++ L = L') := by
  unfold vint_joined at hr
  refine callsTo_body (N := 17) Tryz.func146 (by kernel_rfl) (by kernel_rfl) (by kernel_rfl) ?_
  refine gk_pick [0, 1] (K' := [(0, .slice A0_0 a0.length n0_0), (1, .slice A1_0 a1.length n1_0)]) (by kernel_rfl) ?_
  refine gk_seq (by kernel_rfl) ?_
  refine gk_region (by kernel_rfl) ?_
  refine gl_pure 1 [0, 1] (K' := [(0, .slice A0_0 a0.length n0_0), (1, .slice A1_0 a1.length n1_0)]) (by kernel_rfl) ?_
  refine gl_atE (by kernel_rfl) ?_
  refine ge_seq ?_
  refine gk_seq (by kernel_rfl) ?_
  refine gk_region (by kernel_rfl) ?_
  refine gl_pure 5 [0, 1, 10] (K' := [(0, .slice A0_0 a0.length n0_0), (1, .slice A1_0 a1.length n1_0), (10, .int .i64 (IntKind.wrap .i64 ((a0.length : Int) + (a1.length : Int))))]) (by kernel_rfl) ?_
  obtain ⟨xs1, hx2, hr⟩ := bind_some hr
  refine gl_makeSlice (d := (Kd.int .u8)) (T' := 98) (e := 5) (lx := (.const (.int .i64 0))) (cx := (.tmp 10)) (kl := .i64) (kc := .i64) (zc := #[.int .u8 0]) hx2 (by kernel_rfl) (by kernel_rfl) (by kernel_rfl) (by kernel_rfl) (by kernel_rfl) (by kernel_rfl) (by kernel_rfl) rfl (fun A3 C4 hO5 => ?_)
  refine gl_pure 1 [0, 1, 5] (K' := [(0, .slice A0_0 a0.length n0_0), (1, .slice A1_0 a1.length n1_0), (5, .slice A3 xs1.length ((IntKind.wrap .i64 ((a0.length : Int) + (a1.length : Int))).toNat))]) (by kernel_rfl) ?_
  refine gl_atE (by kernel_rfl) ?_
  refine ge_seq ?_
  refine gk_seq (by kernel_rfl) ?_
  refine gk_region (by kernel_rfl) ?_
  refine gl_pure 2 [1, 12, 13] (K' := [(1, .slice A1_0 a1.length n1_0), (12, .slice A3 xs1.length ((IntKind.wrap .i64 ((a0.length : Int) + (a1.length : Int))).toNat)), (13, .slice A0_0 a0.length n0_0)]) (by kernel_rfl) ?_
  obtain ⟨zs6, hz7, hr⟩ := bind_some hr
  refine gl_append (xv := .slice A0_0 a0.length n0_0) (d := (Kd.int .u8)) (t := 98) (tx := 98) (e := 5) (s := (.tmp 12)) (x := (.tmp 13)) (xs := xs1) (fun X => X ++ L) hz7 (by kernel_rfl) (by kernel_rfl) (by kernel_rfl) (by kernel_rfl) (by kernel_rfl) (by kernel_rfl) (fun X => (Upd.head _ X _)) hO5 (SrcOk.slice (c := n0_0) (e := 5) (n := 1) (RepS.rd hf0_0 _) (by kernel_rfl)) (fun A8 n9 C10 hO11 => ?_)
  refine gl_pure 1 [14, 15] (K' := [(14, .slice A8 zs6.length n9), (15, .slice A1_0 a1.length n1_0)]) (by kernel_rfl) ?_
  obtain ⟨zs12, hz13, hr⟩ := bind_some hr
  refine gl_append (xv := .slice A1_0 a1.length n1_0) (d := (Kd.int .u8)) (t := 98) (tx := 98) (e := 5) (s := (.tmp 14)) (x := (.tmp 15)) (xs := zs6) (fun X => X ++ L) hz13 (by kernel_rfl) (by kernel_rfl) (by kernel_rfl) (by kernel_rfl) (by kernel_rfl) (by kernel_rfl) (fun X => (Upd.head _ X _)) hO11 (SrcOk.slice (c := n1_0) (e := 5) (n := 1) (RepS.rd hf1_0 _) (by kernel_rfl)) (fun A14 n15 C16 hO17 => ?_)
  refine gl_pure 1 [4] (K' := [(4, .slice A14 zs12.length n15)]) (by kernel_rfl) ?_
  refine gl_atE (by kernel_rfl) ?_
  refine ge_seq ?_
  refine gk_ret (by kernel_rfl) ?_
  obtain rfl := some_inj hr
  exact ge_result trivial (ResOk.tmp (by kernel_rfl) ResOk.nil) (Imm.refl _) ⟨A14, n15, C16, hO17, rfl, rfl⟩
noncomputable def vint_PutU_l28 : (Int × (List Int)) → Option ((Int × (List Int)) ⊕ (Int × (List Int))) := fun s11 =>
  bif (decide (s11.1 ≥ 128)) then
  (Option.bind (app s11.2 [(bitOr .u8 (IntKind.wrap .u8 s11.1) 128)]) fun (zs35 : List Int) =>
    some (Sum.inl ((shr .u64 s11.1 7), zs35)))
  else
  (some (Sum.inr (s11.1, s11.2)))
noncomputable def vint_PutU (a0 : List Int) (a1 : Int) : Option (List Int) :=
  Option.bind (loopO vint_PutU_l28 (a1, [])) fun (r9 : Int × (List Int)) =>
  Option.bind (app r9.2 [(IntKind.wrap .u8 r9.1)]) fun (zs45 : List Int) =>
  Option.bind (vint_joined a0 zs45) fun (y55 : (List Int)) =>
  some y55
theorem vint_PutU_walk {a0 : List Int} {A0_0 : Option Addr} {n0_0 : Nat} {a1 : Int} {I : Imm} {r : (List Int)}  (hf0_0 : RepS (Kd.int .u8) I A0_0 n0_0 a0) (hr : vint_PutU a0 a1 = some r) (L : Own) :
    CallsTo Tryz.prog 107 #[.slice A0_0 a0.length n0_0, .int .u64 a1] I L (fun v I' L' => ∃ A0 c0 C0, OwnS (Kd.int .u8) 5 I' A0 c0 r C0 ∧ v = .slice A0 r.length c0 ∧ C0 ++ L = L') := by
  unfold vint_PutU at hr
  refine callsTo_body (N := 23) Tryz.func107 (by kernel_rfl) (by kernel_rfl) (by kernel_rfl) ?_
  refine gk_pick [0, 1] (K' := [(0, .slice A0_0 a0.length n0_0), (1, .int .u64 a1)]) (by kernel_rfl) ?_
  refine gk_seq (by kernel_rfl) ?_
  refine gk_region (by kernel_rfl) ?_
  refine gl_pure 1 [0, 1] (K' := [(0, .slice A0_0 a0.length n0_0), (1, .int .u64 a1)]) (by kernel_rfl) ?_
  refine gl_atE (by kernel_rfl) ?_
  refine ge_seq ?_
  refine gk_seq (by kernel_rfl) ?_
  refine gk_region (by kernel_rfl) ?_
  refine gl_pure 1 [0, 1, 5] (K' := [(0, .slice A0_0 a0.length n0_0), (1, .int .u64 a1), (5, .slice none 0 0)]) (by kernel_rfl) ?_
  refine gl_atE (by kernel_rfl) ?_
  refine ge_seq ?_
  refine gk_seq (by kernel_rfl) ?_
  obtain ⟨r9, hl10, hr⟩ := bind_some hr
  refine gk_join (fun t I' L' => ∃ A22 n23 C24, OwnS (Kd.int .u8) 5 I' A22 n23 r9.2 C24 ∧ I ≤ I' ∧ C24 ++ L = L' ∧ Knows 23 [(0, .slice A0_0 a0.length n0_0), (1, .int .u64 r9.1), (5, .slice A22 r9.2.length n23)] t) ?_ ?_
  · refine gk_block (by kernel_rfl) ?_
    refine gk_pick [0, 1, 5] (K' := [(0, .slice A0_0 a0.length n0_0), (1, .int .u64 a1), (5, .slice none 0 0)]) (by kernel_rfl) ?_
    intro t hK
    refine gc_loop (vint_PutU_l28) (fun s11 t I' L' => ∃ A15 n16 C17, OwnS (Kd.int .u8) 5 I' A15 n16 s11.2 C17 ∧ I ≤ I' ∧ C17 ++ L = L' ∧ Knows 23 [(0, .slice A0_0 a0.length n0_0), (1, .int .u64 s11.1), (5, .slice A15 s11.2.length n16)] t) (by kernel_rfl) ?_ hl10 ⟨none, 0, [], OwnS.nil _ _ _ _, (Imm.refl _), rfl, hK⟩
    rintro s11 o12 t I20 L' hb13 ⟨A15, n16, C17, hO18, hI14, rfl, hK19⟩
    unfold vint_PutU_l28 at hb13
    refine gk_at hK19 ?_
    refine gk_seq (by kernel_rfl) ?_
    refine gk_seq (by kernel_rfl) ?_
    refine gk_region (by kernel_rfl) ?_
    refine gl_pure 2 [0, 1, 5, 7] (K' := [(0, .slice A0_0 a0.length n0_0), (1, .int .u64 s11.1), (5, .slice A15 s11.2.length n16), (7, .bool (decide (s11.1 ≥ 128)))]) (by kernel_rfl) ?_
    refine gl_atE (by kernel_rfl) ?_
    refine ge_seq ?_
    refine gk_cond (b := (decide (s11.1 ≥ 128))) (by kernel_rfl) (by kernel_rfl) (fun hc30 => ?_) (fun hc30 => ?_)
    · have hb13 := cond_t hc30 hb13
      refine gk_skip (by kernel_rfl) ?_
      refine ge_seq ?_
      refine gk_seq (by kernel_rfl) ?_
      refine gk_block (by kernel_rfl) ?_
      refine gk_region (by kernel_rfl) ?_
      refine gl_pure 4 [0, 1, 10, 13] (K' := [(0, .slice A0_0 a0.length n0_0), (1, .int .u64 s11.1), (10, .slice A15 s11.2.length n16), (13, .int .u8 (bitOr .u8 (IntKind.wrap .u8 s11.1) 128))]) (by kernel_rfl) ?_
      refine gl_buildSlice (T' := 98) (e := 5) (n := 1) (len := 1) (parts := #[(0, (.tmp 13))]) (l := [(0, .int .u8 (bitOr .u8 (IntKind.wrap .u8 s11.1) 128))]) (cs := #[.int .u8 (bitOr .u8 (IntKind.wrap .u8 s11.1) 128)]) (by kernel_rfl) (by kernel_rfl) (by kernel_rfl) (by kernel_rfl) (by kernel_rfl) (fun g31 => ?_)
      have hO32 : OwnS (Kd.int .u8) 5 I20 (some ⟨g31, 0, none⟩) 1 [(bitOr .u8 (IntKind.wrap .u8 s11.1) 128)] [(g31, .cells #[.int .u8 (bitOr .u8 (IntKind.wrap .u8 s11.1) 128)] 5)] := OwnS.lit (row_cons (l := [.int .u8 (bitOr .u8 (IntKind.wrap .u8 s11.1) 128)]) rfl (row_nil _ _)) rfl rfl rfl
      refine gl_reord (D := [(g31, .cells #[.int .u8 (bitOr .u8 (IntKind.wrap .u8 s11.1) 128)] 5)] ++ (C17 ++ L)) (Reord.refl _) ?_
      obtain ⟨zs35, hz36, hb13⟩ := bind_some hb13
      refine gl_append (xv := .slice (some ⟨g31, 0, none⟩) [(bitOr .u8 (IntKind.wrap .u8 s11.1) 128)].length 1) (d := (Kd.int .u8)) (t := 98) (tx := 98) (e := 5) (s := (.tmp 10)) (x := (.tmp 14)) (xs := s11.2) (fun X => [(g31, .cells #[.int .u8 (bitOr .u8 (IntKind.wrap .u8 s11.1) 128)] 5)] ++ (X ++ L)) hz36 (by kernel_rfl) (by kernel_rfl) (by kernel_rfl) (by kernel_rfl) (by kernel_rfl) (by kernel_rfl) (fun X => (Upd.app _ (Upd.head _ X _))) hO18 (SrcOk.slice (c := 1) (e := 5) (n := 1) (OwnS.rd hO32 (Upd.selfC _ _)) (by kernel_rfl)) (fun A37 n38 C39 hO40 => ?_)
      refine gl_pure 1 [0, 1, 5] (K' := [(0, .slice A0_0 a0.length n0_0), (1, .int .u64 s11.1), (5, .slice A37 zs35.length n38)]) (by kernel_rfl) ?_
      refine gl_atE (by kernel_rfl) ?_
      refine ge_block_normal ?_
      refine ge_seq ?_
      refine gk_region (by kernel_rfl) ?_
      refine gl_pure 3 [0, 1, 5] (K' := [(0, .slice A0_0 a0.length n0_0), (1, .int .u64 (shr .u64 s11.1 7)), (5, .slice A37 zs35.length n38)]) (by kernel_rfl) ?_
      refine gl_reord (D := C39 ++ L) (Reord.step (Upd.app _ (Upd.rmC _ _)) (Reord.skipC (Reord.refl _))) ?_
      refine gl_atE (by kernel_rfl) ?_
      obtain rfl := some_inj hb13
      exact ge_round fun t ht => ⟨A37, n38, C39, hO40, hI14, rfl, ht.pick (l := [0, 1, 5]) (by kernel_rfl)⟩
    · have hb13 := cond_f hc30 hb13
      refine gk_exit (by kernel_rfl) ?_
      refine ge_seq_exit ?_
      obtain rfl := some_inj hb13
      refine ge_round_out (fun hrr => ?_) (by intro h; cases h)
      obtain rfl := hrr
      refine ge_block_hit (by kernel_rfl) ?_
      exact ge_mid fun t ht => ⟨A15, n16, C17, hO18, hI14, rfl, ht.pick (l := [0, 1, 5]) (by kernel_rfl)⟩
  · rintro t I27 L' ⟨A22, n23, C24, hO25, hI21, rfl, hK26⟩
    refine ge_at hK26 ?_
    refine ge_seq ?_
    refine gk_seq (by kernel_rfl) ?_
    refine gk_region (by kernel_rfl) ?_
    refine gl_pure 4 [16, 17, 19] (K' := [(16, .slice A0_0 a0.length n0_0), (17, .slice A22 r9.2.length n23), (19, .int .u8 (IntKind.wrap .u8 r9.1))]) (by kernel_rfl) ?_
    refine gl_buildSlice (T' := 98) (e := 5) (n := 1) (len := 1) (parts := #[(0, (.tmp 19))]) (l := [(0, .int .u8 (IntKind.wrap .u8 r9.1))]) (cs := #[.int .u8 (IntKind.wrap .u8 r9.1)]) (by kernel_rfl) (by kernel_rfl) (by kernel_rfl) (by kernel_rfl) (by kernel_rfl) (fun g41 => ?_)
    have hO42 : OwnS (Kd.int .u8) 5 I27 (some ⟨g41, 0, none⟩) 1 [(IntKind.wrap .u8 r9.1)] [(g41, .cells #[.int .u8 (IntKind.wrap .u8 r9.1)] 5)] := OwnS.lit (row_cons (l := [.int .u8 (IntKind.wrap .u8 r9.1)]) rfl (row_nil _ _)) rfl rfl rfl
    refine gl_reord (D := [(g41, .cells #[.int .u8 (IntKind.wrap .u8 r9.1)] 5)] ++ (C24 ++ L)) (Reord.refl _) ?_
    obtain ⟨zs45, hz46, hr⟩ := bind_some hr
    refine gl_append (xv := .slice (some ⟨g41, 0, none⟩) [(IntKind.wrap .u8 r9.1)].length 1) (d := (Kd.int .u8)) (t := 98) (tx := 98) (e := 5) (s := (.tmp 17)) (x := (.tmp 20)) (xs := r9.2) (fun X => [(g41, .cells #[.int .u8 (IntKind.wrap .u8 r9.1)] 5)] ++ (X ++ L)) hz46 (by kernel_rfl) (by kernel_rfl) (by kernel_rfl) (by kernel_rfl) (by kernel_rfl) (by kernel_rfl) (fun X => (Upd.app _ (Upd.head _ X _))) hO25 (SrcOk.slice (c := 1) (e := 5) (n := 1) (OwnS.rd hO42 (Upd.selfC _ _)) (by kernel_rfl)) (fun A47 n48 C49 hO50 => ?_)
    refine gl_rest (Tk.step (Upd.app _ (Upd.rmC _ _)) (Tk.nil _)) (fun J51 hJ52 hC53 => ?_)
    have hf54 := (OwnS.rest hO50 hJ52 hC53.left)
    obtain ⟨y55, hx56, hr⟩ := bind_some hr
    refine gl_call (by kernel_rfl) (vint_joined_walk (r := y55) (hf0_0.mono (Imm.trans hI21 hJ52)) hf54 hx56 _) ?_
    rintro v I57 L58 hI59 ⟨A60, c61, C62, hO63, rfl, rfl⟩
    refine gl_pure 1 [4] (K' := [(4, .slice A60 y55.length c61)]) (by kernel_rfl) ?_
    refine gl_atE (by kernel_rfl) ?_
    refine ge_seq ?_
    refine gk_reord (D := C62 ++ L) (Reord.step (Upd.rmC _ _) (Reord.skipC (Reord.refl _))) ?_
    refine gk_ret (by kernel_rfl) ?_
    obtain rfl := some_inj hr
    exact ge_result trivial (ResOk.tmp (by kernel_rfl) ResOk.nil) (Imm.trans (Imm.trans hI21 hJ52) hI59) ⟨A60, c61, C62, hO63, rfl, rfl⟩
noncomputable def vint_PutText (a0 : List Int) (a1 : ByteArray) : Option (List Int) :=
  Option.bind (vint_PutU a0 (IntKind.wrap .u64 (a1.size : Int))) fun (y1 : (List Int)) =>
  Option.bind (sb a1) fun (l10 : List Int) =>
  Option.bind (vint_joined y1 l10) fun (y21 : (List Int)) =>
  some y21
theorem vint_PutText_walk {a0 : List Int} {A0_0 : Option Addr} {n0_0 : Nat} {a1 : ByteArray} {I : Imm} {r : (List Int)}  (hf0_0 : RepS (Kd.int .u8) I A0_0 n0_0 a0) (hr : vint_PutText a0 a1 = some r) (L : Own) :
    CallsTo Tryz.prog 108 #[.slice A0_0 a0.length n0_0, .string a1] I L (fun v I' L' => ∃ A0 c0 C0, OwnS (Kd.int .u8) 5 I' A0 c0 r C0 ∧ v = .slice A0 r.length c0 ∧ C0 ++ L = L') := by
  unfold vint_PutText at hr
  refine callsTo_body (N := 13) Tryz.func108 (by kernel_rfl) (by kernel_rfl) (by kernel_rfl) ?_
  refine gk_pick [0, 1] (K' := [(0, .slice A0_0 a0.length n0_0), (1, .string a1)]) (by kernel_rfl) ?_
  refine gk_seq (by kernel_rfl) ?_
  refine gk_region (by kernel_rfl) ?_
  refine gl_pure 1 [0, 1] (K' := [(0, .slice A0_0 a0.length n0_0), (1, .string a1)]) (by kernel_rfl) ?_
  refine gl_atE (by kernel_rfl) ?_
  refine ge_seq ?_
  refine gk_seq (by kernel_rfl) ?_
  refine gk_region (by kernel_rfl) ?_
  refine gl_pure 4 [1, 5, 8] (K' := [(1, .string a1), (5, .slice A0_0 a0.length n0_0), (8, .int .u64 (IntKind.wrap .u64 (a1.size : Int)))]) (by kernel_rfl) ?_
  obtain ⟨y1, hx2, hr⟩ := bind_some hr
  refine gl_call (by kernel_rfl) (vint_PutU_walk (r := y1) hf0_0 hx2 _) ?_
  rintro v I3 L4 hI5 ⟨A6, c7, C8, hO9, rfl, rfl⟩
  refine gl_pure 1 [9, 10] (K' := [(9, .slice A6 y1.length c7), (10, .string a1)]) (by kernel_rfl) ?_
  obtain ⟨l10, hx11, hr⟩ := bind_some hr
  refine gl_strBytes (src := 9) (dst := 98) (e := 5) (n := 1) (x := (.tmp 10)) hx11 (by kernel_rfl) (by kernel_rfl) (by kernel_rfl) (by kernel_rfl) (by kernel_rfl) (by kernel_rfl) (fun A12 n13 C14 hO15 => ?_)
  refine gl_rest (Tk.step (Upd.rmC _ _) (Tk.step (Upd.rmC _ _) (Tk.nil _))) (fun J16 hJ17 hC18 => ?_)
  have hf19 := (OwnS.rest hO15 hJ17 hC18.left)
  have hf20 := (OwnS.rest hO9 hJ17 hC18.right.left)
  obtain ⟨y21, hx22, hr⟩ := bind_some hr
  refine gl_call (by kernel_rfl) (vint_joined_walk (r := y21) hf20 hf19 hx22 _) ?_
  rintro v I23 L24 hI25 ⟨A26, c27, C28, hO29, rfl, rfl⟩
  refine gl_pure 1 [4] (K' := [(4, .slice A26 y21.length c27)]) (by kernel_rfl) ?_
  refine gl_atE (by kernel_rfl) ?_
  refine ge_seq ?_
  refine gk_ret (by kernel_rfl) ?_
  obtain rfl := some_inj hr
  exact ge_result trivial (ResOk.tmp (by kernel_rfl) ResOk.nil) (Imm.trans (Imm.trans hI5 hJ17) hI25) ⟨A26, c27, C28, hO29, rfl, rfl⟩
noncomputable def labels_Put_l40 (a1 : List S76) : ((List Int) × Int) → Option (((List Int) × Int) ⊕ ((List Int))) := fun s23 =>
  bif (decide (s23.2 < (a1.length : Int))) then
  (Option.bind (ix a1 s23.2) fun (x43 : S76) =>
    Option.bind (vint_PutText s23.1 x43.f0) fun (y56 : (List Int)) =>
    Option.bind (vint_PutText y56 x43.f1) fun (y69 : (List Int)) =>
    some (Sum.inl (y69, (IntKind.wrap .i64 (s23.2 + 1)))))
  else
  (some (Sum.inr s23.1))
noncomputable def labels_Put (a0 : List Int) (a1 : List S76) : Option ((List Int) × Int) :=
  Option.bind (labels_right a1) fun (y1 : Int) =>
  bif (y1 != 0) then
  (some ([], y1))
  else
  (Option.bind (vint_PutU a0 (IntKind.wrap .u64 (a1.length : Int))) fun (y4 : (List Int)) =>
    Option.bind (loopO (labels_Put_l40 a1) (y4, 0)) fun (r21 : (List Int)) =>
    some (r21, 0))
theorem labels_Put_walk {a0 : List Int} {A0_0 : Option Addr} {n0_0 : Nat} {a1 : List S76} {A1_0 : Option Addr} {n1_0 : Nat} {I : Imm} {r : (List Int) × Int} (hG : Gl I)  (hf0_0 : RepS (Kd.int .u8) I A0_0 n0_0 a0)  (hf1_0 : RepS kS76 I A1_0 n1_0 a1) (hr : labels_Put a0 a1 = some r) (L : Own) :
    CallsTo Tryz.prog 54 #[.slice A0_0 a0.length n0_0, .slice A1_0 a1.length n1_0] I L (fun v I' L' => ∃ A0 c0 C0, OwnS (Kd.int .u8) 5 I' A0 c0 r.1 C0 ∧ v = .tuple #[.slice A0 r.1.length c0, .int .i64 r.2] ∧ C0 ++ L = L') := by
  unfold labels_Put at hr
  refine callsTo_body (N := 35) Tryz.func54 (by kernel_rfl) (by kernel_rfl) (by kernel_rfl) ?_
  refine gk_pick [0, 1] (K' := [(0, .slice A0_0 a0.length n0_0), (1, .slice A1_0 a1.length n1_0)]) (by kernel_rfl) ?_
  refine gk_seq (by kernel_rfl) ?_
  refine gk_region (by kernel_rfl) ?_
  refine gl_pure 2 [0, 1] (K' := [(0, .slice A0_0 a0.length n0_0), (1, .slice A1_0 a1.length n1_0)]) (by kernel_rfl) ?_
  refine gl_atE (by kernel_rfl) ?_
  refine ge_seq ?_
  refine gk_seq (by kernel_rfl) ?_
  refine gk_seq (by kernel_rfl) ?_
  refine gk_region (by kernel_rfl) ?_
  refine gl_pure 1 [0, 1, 10] (K' := [(0, .slice A0_0 a0.length n0_0), (1, .slice A1_0 a1.length n1_0), (10, .slice A1_0 a1.length n1_0)]) (by kernel_rfl) ?_
  obtain ⟨y1, hx2, hr⟩ := bind_some hr
  refine gl_callQ (by kernel_rfl) (labels_right_walk (r := y1) hG hf1_0 hx2 _) ?_
  refine gl_pure 1 [0, 1, 6] (K' := [(0, .slice A0_0 a0.length n0_0), (1, .slice A1_0 a1.length n1_0), (6, .int .i64 y1)]) (by kernel_rfl) ?_
  refine gl_atE (by kernel_rfl) ?_
  refine ge_seq ?_
  refine gk_seq (by kernel_rfl) ?_
  refine gk_region (by kernel_rfl) ?_
  refine gl_pure 2 [0, 1, 6, 13] (K' := [(0, .slice A0_0 a0.length n0_0), (1, .slice A1_0 a1.length n1_0), (6, .int .i64 y1), (13, .bool (y1 != 0))]) (by kernel_rfl) ?_
  refine gl_atE (by kernel_rfl) ?_
  refine ge_seq ?_
  refine gk_cond (b := (y1 != 0)) (by kernel_rfl) (by kernel_rfl) (fun hc3 => ?_) (fun hc3 => ?_)
  · have hr := cond_t hc3 hr
    refine gk_seq (by kernel_rfl) ?_
    refine gk_region (by kernel_rfl) ?_
    refine gl_pure 3 [4, 5] (K' := [(4, .slice none 0 0), (5, .int .i64 y1)]) (by kernel_rfl) ?_
    refine gl_atE (by kernel_rfl) ?_
    refine ge_seq ?_
    refine gk_ret (by kernel_rfl) ?_
    refine ge_seq_ret ?_
    obtain rfl := some_inj hr
    exact ge_result trivial (ResOk.tmp (by kernel_rfl) (ResOk.tmp (by kernel_rfl) ResOk.nil)) (Imm.refl _) ⟨none, 0, [], OwnS.nil _ _ _ _, rfl, rfl⟩
  · have hr := cond_f hc3 hr
    refine gk_skip (by kernel_rfl) ?_
    refine ge_seq ?_
    refine gk_seq (by kernel_rfl) ?_
    refine gk_region (by kernel_rfl) ?_
    refine gl_pure 4 [1, 15, 18] (K' := [(1, .slice A1_0 a1.length n1_0), (15, .slice A0_0 a0.length n0_0), (18, .int .u64 (IntKind.wrap .u64 (a1.length : Int)))]) (by kernel_rfl) ?_
    obtain ⟨y4, hx5, hr⟩ := bind_some hr
    refine gl_call (by kernel_rfl) (vint_PutU_walk (r := y4) hf0_0 hx5 _) ?_
    rintro v I6 L7 hI8 ⟨A9, c10, C11, hO12, rfl, rfl⟩
    refine gl_pure 1 [1, 7] (K' := [(1, .slice A1_0 a1.length n1_0), (7, .slice A9 y4.length c10)]) (by kernel_rfl) ?_
    refine gl_atE (by kernel_rfl) ?_
    refine ge_seq ?_
    refine gk_seq (by kernel_rfl) ?_
    refine gk_seq (by kernel_rfl) ?_
    refine gk_region (by kernel_rfl) ?_
    refine gl_pure 3 [7, 20, 21, 22] (K' := [(7, .slice A9 y4.length c10), (20, .slice A1_0 a1.length n1_0), (21, .int .i64 (a1.length : Int)), (22, .int .i64 0)]) (by kernel_rfl) ?_
    refine gl_atE (by kernel_rfl) ?_
    refine ge_seq ?_
    obtain ⟨r21, hl22, hr⟩ := bind_some hr
    refine gk_join (fun t I' L' => ∃ A34 n35 C36, OwnS (Kd.int .u8) 5 I' A34 n35 r21 C36 ∧ I6 ≤ I' ∧ C36 ++ L = L' ∧ Knows 35 [(7, .slice A34 r21.length n35)] t) ?_ ?_
    · refine gk_block (by kernel_rfl) ?_
      refine gk_pick [7, 20, 21, 22] (K' := [(7, .slice A9 y4.length c10), (20, .slice A1_0 a1.length n1_0), (21, .int .i64 (a1.length : Int)), (22, .int .i64 0)]) (by kernel_rfl) ?_
      intro t hK
      refine gc_loop (labels_Put_l40 a1) (fun s23 t I' L' => ∃ A27 n28 C29, OwnS (Kd.int .u8) 5 I' A27 n28 s23.1 C29 ∧ I6 ≤ I' ∧ C29 ++ L = L' ∧ Knows 35 [(7, .slice A27 s23.1.length n28), (20, .slice A1_0 a1.length n1_0), (21, .int .i64 (a1.length : Int)), (22, .int .i64 s23.2)] t) (by kernel_rfl) ?_ hl22 ⟨A9, c10, C11, hO12, (Imm.refl _), rfl, hK⟩
      rintro s23 o24 t I32 L' hb25 ⟨A27, n28, C29, hO30, hI26, rfl, hK31⟩
      unfold labels_Put_l40 at hb25
      refine gk_at hK31 ?_
      refine gk_seq (by kernel_rfl) ?_
      refine gk_region (by kernel_rfl) ?_
      refine gl_pure 1 [7, 20, 21, 22, 23] (K' := [(7, .slice A27 s23.1.length n28), (20, .slice A1_0 a1.length n1_0), (21, .int .i64 (a1.length : Int)), (22, .int .i64 s23.2), (23, .bool (decide (s23.2 < (a1.length : Int))))]) (by kernel_rfl) ?_
      refine gl_atE (by kernel_rfl) ?_
      refine ge_seq ?_
      refine gk_seq (by kernel_rfl) ?_
      refine gk_cond (b := (decide (s23.2 < (a1.length : Int)))) (by kernel_rfl) (by kernel_rfl) (fun hc42 => ?_) (fun hc42 => ?_)
      · have hb25 := cond_t hc42 hb25
        refine gk_skip (by kernel_rfl) ?_
        refine ge_seq ?_
        refine gk_seq (by kernel_rfl) ?_
        refine gk_block (by kernel_rfl) ?_
        refine gk_seq (by kernel_rfl) ?_
        refine gk_region (by kernel_rfl) ?_
        obtain ⟨x43, hx44, hb25⟩ := bind_some hb25
        obtain ⟨p45, cs46, hR47, hA48, ha49⟩ := RepS.ixAt hx44 (hf1_0.mono (Imm.trans hI8 hI26))
        have hi50 := ix_some hx44
        obtain rfl := kS76_open hR47
        refine gl_indexAddrF (c := n1_0) (T' := 36) (e := 77) (xs := (.tmp 20)) (xi := (.tmp 22)) (kd := .i64) ha49 hi50.1 hi50.2.1 (by kernel_rfl) (by kernel_rfl) (by kernel_rfl) (by kernel_rfl) (by kernel_rfl) ?_
        refine gl_loadA (T' := 77) (xp := (.tmp 24)) (p := p45) (cs := [.string x43.f0, .string x43.f1]) (by kernel_rfl) (by kernel_rfl) (by kernel_rfl) (by kernel_rfl) (hA48.take 2) ?_
        refine gl_alloc (T' := 77) (cs := #[.string (⟨#[]⟩ : ByteArray), .string (⟨#[]⟩ : ByteArray)]) (by kernel_rfl) (by kernel_rfl) (by kernel_rfl) (fun g51 => ?_)
        refine gl_storeB (T' := 77) (xp := (.tmp 9)) (xv := (.tmp 25)) (v := .agg #[.string x43.f0, .string x43.f1]) (g := g51) (off := 0) (cs := #[.string (⟨#[]⟩ : ByteArray), .string (⟨#[]⟩ : ByteArray)]) (cs' := #[.string x43.f0, .string x43.f1]) (by kernel_rfl) (by kernel_rfl) (by kernel_rfl) (by kernel_rfl) (by kernel_rfl) (Upd.set _ _ _ _) ?_ (by kernel_rfl)
        refine gl_atE (by kernel_rfl) ?_
        refine ge_seq ?_
        refine gk_draw 6 [(0, true), (1, true), (2, true), (4, true), (5, true), (3, false)] [(g51, .cells #[.string x43.f0, .string x43.f1] 77)] (List.forall_mem_cons.2 ⟨List.mem_cons_self, (fun p hp => by cases hp)⟩) (by kernel_rfl) (by kernel_rfl) (by kernel_rfl) ?_ (by kernel_rfl)
        refine gd_pure 2 [7, 9, 20, 21, 22, 26, 27] (K' := [(7, .slice A27 s23.1.length n28), (9, .pointer (some ⟨g51, 0, none⟩)), (20, .slice A1_0 a1.length n1_0), (21, .int .i64 (a1.length : Int)), (22, .int .i64 s23.2), (26, .slice A27 s23.1.length n28), (27, .pointer (some ⟨g51, 0, none⟩))]) (s' := [(2, true), (4, true), (5, true), (3, false)]) (CC.refl (List.forall_mem_cons.2 ⟨List.mem_cons_self, (fun p hp => by cases hp)⟩)) (by kernel_rfl) ?_
        refine gd_q (v := .string x43.f0) (by kernel_rfl) (by kernel_rfl) (CC.refl (List.forall_mem_cons.2 ⟨List.mem_cons_self, (fun p hp => by cases hp)⟩)) (fun I' L' T hC kk => gl_loadB (T' := 9) (xp := (.tmp 27)) (v := .string x43.f0) (g := g51) (off := 0) (cs := #[.string x43.f0, .string x43.f1]) (e := 77) (fz := (0, 0)) (by kernel_rfl) (by kernel_rfl) (by kernel_rfl) (hC.sub _ List.mem_cons_self) (by kernel_rfl) kk) ?_
        refine gd_pure 1 [7, 20, 21, 22, 26, 28, 30] (K' := [(7, .slice A27 s23.1.length n28), (20, .slice A1_0 a1.length n1_0), (21, .int .i64 (a1.length : Int)), (22, .int .i64 s23.2), (26, .slice A27 s23.1.length n28), (28, .string x43.f0), (30, .pointer (some ⟨g51, 1, none⟩))]) (s' := [(5, true), (3, false)]) (CC.refl (List.forall_mem_cons.2 ⟨List.mem_cons_self, (fun p hp => by cases hp)⟩)) (by kernel_rfl) ?_
        refine gd_q (v := .string x43.f1) (by kernel_rfl) (by kernel_rfl) (CC.refl (List.forall_mem_cons.2 ⟨List.mem_cons_self, (fun p hp => by cases hp)⟩)) (fun I' L' T hC kk => gl_loadB (T' := 9) (xp := (.tmp 30)) (v := .string x43.f1) (g := g51) (off := 1) (cs := #[.string x43.f0, .string x43.f1]) (e := 77) (fz := (0, 0)) (by kernel_rfl) (by kernel_rfl) (by kernel_rfl) (hC.sub _ List.mem_cons_self) (by kernel_rfl) kk) ?_
        refine gd_one (by kernel_rfl) ?_
        refine gl_rest (Tk.step (Upd.one _ (Upd.rmC _ _)) (Tk.nil _)) (fun J52 hJ53 hC54 => ?_)
        have hf55 := (OwnS.rest hO30 hJ53 hC54.left)
        obtain ⟨y56, hx57, hb25⟩ := bind_some hb25
        refine gl_call (by kernel_rfl) (vint_PutText_walk (r := y56) hf55 hx57 _) ?_
        rintro v I58 L59 hI60 ⟨A61, c62, C63, hO64, rfl, rfl⟩
        refine gl_toD (by kernel_rfl) ⟨(Imm.trans hJ53 hI60), (List.forall_mem_cons.2 ⟨(List.mem_append_right _ List.mem_cons_self), (fun p hp => by cases hp)⟩)⟩ ?_
        refine gd_done ?_
        refine gl_rest (Tk.step (Upd.rmC _ _) (Tk.nil _)) (fun J65 hJ66 hC67 => ?_)
        have hf68 := (OwnS.rest hO64 hJ66 hC67.left)
        obtain ⟨y69, hx70, hb25⟩ := bind_some hb25
        refine gl_call (by kernel_rfl) (vint_PutText_walk (r := y69) hf68 hx70 _) ?_
        rintro v I71 L72 hI73 ⟨A74, c75, C76, hO77, rfl, rfl⟩
        refine gl_pure 1 [7, 20, 21, 22] (K' := [(7, .slice A74 y69.length c75), (20, .slice A1_0 a1.length n1_0), (21, .int .i64 (a1.length : Int)), (22, .int .i64 s23.2)]) (by kernel_rfl) ?_
        refine gl_atE (by kernel_rfl) ?_
        refine ge_block_normal ?_
        refine ge_seq ?_
        refine gk_region (by kernel_rfl) ?_
        refine gl_pure 2 [7, 20, 21, 22] (K' := [(7, .slice A74 y69.length c75), (20, .slice A1_0 a1.length n1_0), (21, .int .i64 (a1.length : Int)), (22, .int .i64 (IntKind.wrap .i64 (s23.2 + 1)))]) (by kernel_rfl) ?_
        refine gl_reord (D := C76 ++ L) (Reord.step (Upd.rmC _ _) (Reord.skip (Reord.refl _))) ?_
        refine gl_atE (by kernel_rfl) ?_
        obtain rfl := some_inj hb25
        exact ge_round fun t ht => ⟨A74, c75, C76, hO77, (Imm.trans (Imm.trans (Imm.trans (Imm.trans hI26 hJ53) hI60) hJ66) hI73), rfl, ht.pick (l := [7, 20, 21, 22]) (by kernel_rfl)⟩
      · have hb25 := cond_f hc42 hb25
        refine gk_exit (by kernel_rfl) ?_
        refine ge_seq_exit ?_
        obtain rfl := some_inj hb25
        refine ge_round_out (fun hrr => ?_) (by intro h; cases h)
        obtain rfl := hrr
        refine ge_block_hit (by kernel_rfl) ?_
        exact ge_mid fun t ht => ⟨A27, n28, C29, hO30, hI26, rfl, ht.pick (l := [7]) (by kernel_rfl)⟩
    · rintro t I39 L' ⟨A34, n35, C36, hO37, hI33, rfl, hK38⟩
      refine ge_at hK38 ?_
      refine ge_seq ?_
      refine gk_seq (by kernel_rfl) ?_
      refine gk_region (by kernel_rfl) ?_
      refine gl_pure 3 [4, 5] (K' := [(4, .slice A34 r21.length n35), (5, .int .i64 0)]) (by kernel_rfl) ?_
      refine gl_atE (by kernel_rfl) ?_
      refine ge_seq ?_
      refine gk_ret (by kernel_rfl) ?_
      obtain rfl := some_inj hr
      exact ge_result trivial (ResOk.tmp (by kernel_rfl) (ResOk.tmp (by kernel_rfl) ResOk.nil)) (Imm.trans hI8 hI33) ⟨A34, n35, C36, hO37, rfl, rfl⟩
noncomputable def aggr_Groups_1 (a0 : Int) (a1 : Int) (a2 : List (List S76)) : Option Int :=
  Option.bind (ix a2 a0) fun (x1 : List S76) =>
  Option.bind (ix a2 a1) fun (x12 : List S76) =>
  Option.bind (labels_Compare x1 x12) fun (y23 : Int) =>
  some y23
theorem aggr_Groups_1_walk {a0 : Int} {a1 : Int} {a2 : List (List S76)} {p2 : Addr} {A2_0 : Option Addr} {n2_0 : Nat} {I : Imm} {r : Int} (hp2 : RunAt I p2 [.slice A2_0 a2.length n2_0]) (hf2_0 : RepS (Kd.sl kS76) I A2_0 n2_0 a2) (hr : aggr_Groups_1 a0 a1 a2 = some r) (L : Own) :
    CallsTo Tryz.prog 56 #[.int .i64 a0, .int .i64 a1, .pointer (some p2)] I L (fun v I' L' => v = .int .i64 r ∧ L = L') := by
  unfold aggr_Groups_1 at hr
  refine callsTo_body (N := 15) Tryz.func56 (by kernel_rfl) (by kernel_rfl) (by kernel_rfl) ?_
  refine gk_pick [0, 1, 2] (K' := [(0, .int .i64 a0), (1, .int .i64 a1), (2, .pointer (some p2))]) (by kernel_rfl) ?_
  refine gk_seq (by kernel_rfl) ?_
  refine gk_region (by kernel_rfl) ?_
  refine gl_pure 1 [0, 1, 2] (K' := [(0, .int .i64 a0), (1, .int .i64 a1), (2, .pointer (some p2))]) (by kernel_rfl) ?_
  refine gl_atE (by kernel_rfl) ?_
  refine ge_seq ?_
  refine gk_seq (by kernel_rfl) ?_
  refine gk_draw 8 [(0, true), (1, true), (2, true), (3, true), (4, true), (5, true), (6, true), (7, true)] [] (fun p hp => by cases hp) (by kernel_rfl) (by kernel_rfl) (by kernel_rfl) ?_ (by kernel_rfl)
  refine gd_q (v := .slice A2_0 a2.length n2_0) (by kernel_rfl) (by kernel_rfl) (CC.refl (fun p hp => by cases hp)) (fun I' L' T hC kk => gl_load (T' := 97) (xp := (.tmp 2)) (p := p2) (c := .slice A2_0 a2.length n2_0) (n := 1) (by kernel_rfl) (by kernel_rfl) (by kernel_rfl) (by kernel_rfl) (hp2.mono hC.le) kk) ?_
  refine gd_pure 1 [1, 2, 6, 7] (K' := [(1, .int .i64 a1), (2, .pointer (some p2)), (6, .slice A2_0 a2.length n2_0), (7, .int .i64 a0)]) (s' := [(2, true), (3, true), (4, true), (5, true), (6, true), (7, true)]) (CC.refl (fun p hp => by cases hp)) (by kernel_rfl) ?_
  obtain ⟨x1, hx2, hr⟩ := bind_some hr
  obtain ⟨p3, cs4, hR5, hA6, ha7⟩ := RepS.ixAt hx2 hf2_0
  have hi8 := ix_some hx2
  obtain ⟨A9, n10, rfl, hf11⟩ := sl_open hR5
  refine gd_q (v := .pointer (some p3)) (by kernel_rfl) (by kernel_rfl) (CC.refl (fun p hp => by cases hp)) (fun I' L' T hC kk => gl_indexAddrF (c := n2_0) (T' := 97) (e := 36) (xs := (.tmp 6)) (xi := (.tmp 7)) (kd := .i64) ha7 hi8.1 hi8.2.1 (by kernel_rfl) (by kernel_rfl) (by kernel_rfl) (by kernel_rfl) (by kernel_rfl) kk) ?_
  refine gd_q (v := .slice A9 x1.length n10) (by kernel_rfl) (by kernel_rfl) (CC.refl (fun p hp => by cases hp)) (fun I' L' T hC kk => gl_load (T' := 36) (xp := (.tmp 8)) (p := p3) (c := .slice A9 x1.length n10) (n := 1) (by kernel_rfl) (by kernel_rfl) (by kernel_rfl) (by kernel_rfl) (hA6.mono hC.le) kk) ?_
  refine gd_q (v := .slice A2_0 a2.length n2_0) (by kernel_rfl) (by kernel_rfl) (CC.refl (fun p hp => by cases hp)) (fun I' L' T hC kk => gl_load (T' := 97) (xp := (.tmp 2)) (p := p2) (c := .slice A2_0 a2.length n2_0) (n := 1) (by kernel_rfl) (by kernel_rfl) (by kernel_rfl) (by kernel_rfl) (hp2.mono hC.le) kk) ?_
  refine gd_pure 1 [9, 10, 11] (K' := [(9, .slice A9 x1.length n10), (10, .slice A2_0 a2.length n2_0), (11, .int .i64 a1)]) (s' := [(6, true), (7, true)]) (CC.refl (fun p hp => by cases hp)) (by kernel_rfl) ?_
  obtain ⟨x12, hx13, hr⟩ := bind_some hr
  obtain ⟨p14, cs15, hR16, hA17, ha18⟩ := RepS.ixAt hx13 hf2_0
  have hi19 := ix_some hx13
  obtain ⟨A20, n21, rfl, hf22⟩ := sl_open hR16
  refine gd_q (v := .pointer (some p14)) (by kernel_rfl) (by kernel_rfl) (CC.refl (fun p hp => by cases hp)) (fun I' L' T hC kk => gl_indexAddrF (c := n2_0) (T' := 97) (e := 36) (xs := (.tmp 10)) (xi := (.tmp 11)) (kd := .i64) ha18 hi19.1 hi19.2.1 (by kernel_rfl) (by kernel_rfl) (by kernel_rfl) (by kernel_rfl) (by kernel_rfl) kk) ?_
  refine gd_q (v := .slice A20 x12.length n21) (by kernel_rfl) (by kernel_rfl) (CC.refl (fun p hp => by cases hp)) (fun I' L' T hC kk => gl_load (T' := 36) (xp := (.tmp 12)) (p := p14) (c := .slice A20 x12.length n21) (n := 1) (by kernel_rfl) (by kernel_rfl) (by kernel_rfl) (by kernel_rfl) (hA17.mono hC.le) kk) ?_
  refine gd_done ?_
  obtain ⟨y23, hx24, hr⟩ := bind_some hr
  refine gl_callQ (by kernel_rfl) (labels_Compare_walk (r := y23) hf11 hf22 hx24 _) ?_
  refine gl_pure 1 [5] (K' := [(5, .int .i64 y23)]) (by kernel_rfl) ?_
  refine gl_atE (by kernel_rfl) ?_
  refine ge_seq ?_
  refine gk_ret (by kernel_rfl) ?_
  obtain rfl := some_inj hr
  exact ge_result trivial (ResOk.tmp (by kernel_rfl) ResOk.nil) (Imm.refl _) ⟨rfl, rfl⟩
def lays_sort1_ren : Go.Shelf.Ren := ⟨fun x => if x = 6 then 55 else if x = 15 then 89 else if x = 14 then 109 else if x = 28 then 140 else if x = 29 then 141 else if x = 20 then 147 else if x = 21 then 148 else if x = 22 then 149 else if x = 23 then 150 else if x = 24 then 151 else if x = 25 then 152 else if x = 26 then 153 else if x = 27 then 154 else if x = 46 then 177 else if x = 47 then 169 else if x = 48 then 170 else if x = 49 then 178 else if x = 50 then 179 else if x = 57 then 197 else x, fun x => if x = 22 then 34 else if x = 24 then 3 else if x = 25 then 103 else if x = 39 then 127 else if x = 53 then 157 else if x = 55 then 85 else if x = 46 then 151 else if x = 45 then 150 else if x = 50 then 101 else if x = 66 then 175 else if x = 70 then 179 else if x = 76 then 190 else if x = 77 then 191 else x, fun x => x⟩
theorem lays_sort1 : Go.Proofs.SlLaysF.n6 Tryz.prog lays_sort1_ren := {
  mixed := by kernel_rfl,
  f6 := ⟨Tryz.f55.name, by decide, Tryz.func55.trans (congrArg some (by kernel_rfl))⟩,
  f14 := ⟨Tryz.f109.name, by decide, Tryz.func109.trans (congrArg some (by kernel_rfl))⟩,
  f15 := Tryz.func89.trans (congrArg some (by kernel_rfl)),
  f20 := ⟨Tryz.f147.name, by decide, Tryz.func147.trans (congrArg some (by kernel_rfl))⟩,
  f21 := ⟨Tryz.f148.name, by decide, Tryz.func148.trans (congrArg some (by kernel_rfl))⟩,
  f22 := ⟨Tryz.f149.name, by decide, Tryz.func149.trans (congrArg some (by kernel_rfl))⟩,
  f23 := ⟨Tryz.f150.name, by decide, Tryz.func150.trans (congrArg some (by kernel_rfl))⟩,
  f24 := ⟨Tryz.f151.name, by decide, Tryz.func151.trans (congrArg some (by kernel_rfl))⟩,
  f25 := ⟨Tryz.f152.name, by decide, Tryz.func152.trans (congrArg some (by kernel_rfl))⟩,
  f26 := ⟨Tryz.f153.name, by decide, Tryz.func153.trans (congrArg some (by kernel_rfl))⟩,
  f27 := ⟨Tryz.f154.name, by decide, Tryz.func154.trans (congrArg some (by kernel_rfl))⟩,
  f28 := Tryz.func140.trans (congrArg some (by kernel_rfl)),
  f29 := Tryz.func141.trans (congrArg some (by kernel_rfl)),
  f46 := ⟨Tryz.f177.name, by decide, Tryz.func177.trans (congrArg some (by kernel_rfl))⟩,
  f47 := Tryz.func169.trans (congrArg some (by kernel_rfl)),
  f48 := Tryz.func170.trans (congrArg some (by kernel_rfl)),
  f49 := ⟨Tryz.f178.name, by decide, Tryz.func178.trans (congrArg some (by kernel_rfl))⟩,
  f50 := ⟨Tryz.f179.name, by decide, Tryz.func179.trans (congrArg some (by kernel_rfl))⟩,
  f57 := ⟨Tryz.f197.name, by decide, Tryz.func197.trans (congrArg some (by kernel_rfl))⟩,
  t0 := Tryz.underlying0,
  a0 := Tryz.isAgg0,
  z0 := Tryz.sizeOf0,
  v0 := Tryz.zeroValue0,
  t3 := Tryz.underlying3,
  a3 := Tryz.isAgg3,
  z3 := Tryz.sizeOf3,
  v3 := Tryz.zeroValue3,
  t4 := Tryz.underlying4,
  a4 := Tryz.isAgg4,
  z4 := Tryz.sizeOf4,
  v4 := Tryz.zeroValue4,
  t5 := Tryz.underlying5,
  a5 := Tryz.isAgg5,
  z5 := Tryz.sizeOf5,
  v5 := Tryz.zeroValue5,
  t9 := Tryz.underlying9,
  a9 := Tryz.isAgg9,
  z9 := Tryz.sizeOf9,
  v9 := Tryz.zeroValue9,
  t22 := Tryz.underlying34,
  a22 := Tryz.isAgg34,
  z22 := Tryz.sizeOf34,
  v22 := Tryz.zeroValue34,
  a24 := Tryz.isAgg3,
  z24 := Tryz.sizeOf3,
  t25 := Tryz.underlying103,
  a25 := Tryz.isAgg103,
  z25 := Tryz.sizeOf103,
  v25 := Tryz.zeroValue103,
  t39 := Tryz.underlying127,
  a39 := Tryz.isAgg127,
  z39 := Tryz.sizeOf127,
  v39 := Tryz.zeroValue127,
  t45 := Tryz.underlying150,
  a45 := Tryz.isAgg150,
  z45 := Tryz.sizeOf150,
  v45 := Tryz.zeroValue150,
  t46 := Tryz.underlying151,
  a46 := Tryz.isAgg151,
  z46 := Tryz.sizeOf151,
  v46 := Tryz.zeroValue151,
  t50 := Tryz.underlying101,
  a50 := Tryz.isAgg101,
  z50 := Tryz.sizeOf101,
  v50 := Tryz.zeroValue101,
  t53 := Tryz.underlying157,
  a53 := Tryz.isAgg157,
  z53 := Tryz.sizeOf157,
  v53 := Tryz.zeroValue157,
  t55 := Tryz.underlying85,
  a55 := Tryz.isAgg85,
  z55 := Tryz.sizeOf85,
  v55 := Tryz.zeroValue85,
  t66 := Tryz.underlying175,
  a66 := Tryz.isAgg175,
  z66 := Tryz.sizeOf175,
  v66 := Tryz.zeroValue175,
  t70 := Tryz.underlying179,
  a70 := Tryz.isAgg179,
  z70 := Tryz.sizeOf179,
  v70 := Tryz.zeroValue179,
  t76 := Tryz.underlying190,
  a76 := Tryz.isAgg190,
  z76 := Tryz.sizeOf190,
  v76 := Tryz.zeroValue190,
  t77 := Tryz.underlying191,
  a77 := Tryz.isAgg191,
  z77 := Tryz.sizeOf191,
  v77 := Tryz.zeroValue191 }
theorem slices_SortFunc_55_56_walk {a0 : List Int} {A : Option Addr} {c : Nat} {C : Own} {I : Imm} {a2 : List (List S76)} {p2 : Addr} {A2_0 : Option Addr} {n2_0 : Nat} (hO : OwnS (Kd.int .i64) 3 I A c a0 C) (hp2 : RunAt I p2 [.slice A2_0 a2.length n2_0]) (hf2_0 : RepS (Kd.sl kS76) I A2_0 n2_0 a2) (hr : SortAble (fun x0 x1 => aggr_Groups_1 x0 x1 a2) a0) (L : Own) :
    CallsTo Tryz.prog 55 #[.slice A a0.length c, .func (.func 56) #[] #[.pointer (some p2)]] I (C ++ L) (fun v I' L' => ∃ r C', SortRel (fun x0 x1 => aggr_Groups_1 x0 x1 a2) a0 r ∧ OwnS (Kd.int .i64) 3 I' A c r C' ∧ v = .tuple #[] ∧ C' ++ L = L') :=
  callsTo_sort1 lays_sort1 rfl hO hr (enters_of Tryz.func56 (by kernel_rfl) rfl)
    (fun {J} {x0 x1} {_ _} {k} hJ h0 h1 hk L => by
      cases h0
      cases h1
      simp only [List.append_toArray, List.nil_append, List.append_nil, Array.append_empty, Array.empty_append, List.push_append_toArray, List.cons_append]
      exact aggr_Groups_1_walk  (hp2.monoH hJ) (hf2_0.monoH hJ) hk L) L
end Go.Proofs.YtkjkkimnjpodiaaGreatDoor
