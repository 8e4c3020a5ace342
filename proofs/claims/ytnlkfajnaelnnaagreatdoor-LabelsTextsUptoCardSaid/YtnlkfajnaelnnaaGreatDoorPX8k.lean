/- Plain laws: the document's reader: braces, and Parse up to the labels that are read. -/
import Derived.Test.YtnlkfajnaelnnaaGreatDoorQ1dk
import Derived.Test.YtnlkfajnaelnnaaGreatDoorGB30k
import Derived.Test.YtnlkfajnaelnnaaGreatDoorRows
import Derived.Deep.Slices
import Derived.Below
import Derived.Test.YtnlkfajnaelnnaaGreatDoorPA3k
import Derived.Lib.ValidLaws
set_option linter.unusedVariables false
set_option linter.unusedSimpArgs false
set_option maxRecDepth 100000
namespace Go.Proofs.YtnlkfajnaelnnaaGreatDoor
open Go.GB
/-! 4 tocsinlaw04_LabelsTexts  -/
noncomputable def tocsinlaw04_LabelsTexts (a0 : List S49) (a1 : ByteArray) : Option Bool :=
 Option.bind (tocsinlaw04_Lent a0) fun (y1 : (List S49 × List S49)) =>
 Option.bind (labels_Print y1.1) fun (y11 : ByteArray × Int) =>
 Option.bind (tocsinref04_Print a0) fun (y13 : ByteArray × Int) =>
 Option.bind (bif (!(y11.1.toList == y13.1.toList)) then
  (some true)
  else
  (bif (y11.2 != y13.2) then
   (some true)
   else
   (Option.bind (tocsinlaw04_Kept (y1.1, y1.2) a0) fun (y22 : Bool) =>
    some (!y22)))) fun (j15 : Bool) =>
 bif j15 then
 (some false)
 else
 (Option.bind (labels_Parse a1) fun (y25 : (List S49) × Int × Int) =>
  Option.bind (labels_Parse a1) fun (y34 : (List S49) × Int × Int) =>
  Option.bind (tocsinref04_Parse a1) fun (y43 : (List S49) × Int × Int) =>
  Option.bind (Option.bind (tocsinlaw04_same y25.1 y43.1) fun (y57 : Bool) =>
   bif (!y57) then
   (some true)
   else
   (bif (y25.2.1 != y43.2.1) then
    (some true)
    else
    (some (y25.2.2 != y43.2.2)))) fun (j52 : Bool) =>
  bif j52 then
  (some false)
  else
  (Option.bind (tocsinlaw04_Spoil_f28 y25.1) fun (y62 : Unit) =>
   Option.bind (Option.bind (tocsinlaw04_same y34.1 y43.1) fun (y72 : Bool) =>
    bif y72 then
    (Option.bind tocsinlaw04_awake fun (y75 : Bool) =>
     some y75)
    else
    (some false)) fun (j67 : Bool) =>
   some j67))
theorem tocsinlaw04_LabelsTexts_walk {a0 : List S49} {A0_0 : Option Addr} {n0_0 : Nat} {a1 : ByteArray} {I : Imm} {r : Bool} (hG : Gl I)  (hf0_0 : RepS kS49 I A0_0 n0_0 a0) (hr : tocsinlaw04_LabelsTexts a0 a1 = some r) (L : Own) :
  CallsTo Tryz.prog 4 #[.slice A0_0 a0.length n0_0, .string a1] I L (fun v I' L' => v = .bool r ∧ L = L') := by
 unfold tocsinlaw04_LabelsTexts at hr
 refine callsTo_body (N := 85) Tryz.func4 (by kernel_rfl) (by kernel_rfl) (by kernel_rfl) ?_
 refine qq [0, 1] [(0, .slice A0_0 a0.length n0_0), (1, .string a1)] (qk (qR (qp 1 [0, 1] [(0, .slice A0_0 a0.length n0_0), (1, .string a1)] (qE (qs (qk (qR (qp 1 [0, 1, 19] [(0, .slice A0_0 a0.length n0_0), (1, .string a1), (19, .slice A0_0 a0.length n0_0)] ?_))))))))
 obtain ⟨y1, hx2, hr⟩ := bind_some hr
 refine gl_call (by kernel_rfl) (tocsinlaw04_Lent_walk (r := y1) hf0_0 hx2 _) ?_
 rintro v I3 L4 hI5 ⟨A6, c7, C8, hO9, hO10, rfl, rfl⟩
 refine qp 1 [0, 1, 5] [(0, .slice A0_0 a0.length n0_0), (1, .string a1), (5, .slice A6 y1.1.length c7)] (qE (qs (qk (qR (qp 1 [0, 1, 5, 22] [(0, .slice A0_0 a0.length n0_0), (1, .string a1), (5, .slice A6 y1.1.length c7), (22, .slice A6 y1.1.length c7)] ?_)))))
 obtain ⟨y11, hx12, hr⟩ := bind_some hr
 refine gl_callB (r := .tuple #[.string y11.1, .int .i64 y11.2]) (Tk.step (Upd.rmC _ _) (Tk.nil _)) (by kernel_rfl) (fun J hJ hC => labels_Print_walk (r := y11) (hG.mono (Imm.trans hI5 hJ)) (RepS.head hO10 (OwnS.rest hO9 hJ hC.left)) hx12 _) ?_
 refine qp 5 [0, 1, 5, 6, 7] [(0, .slice A0_0 a0.length n0_0), (1, .string a1), (5, .slice A6 y1.1.length c7), (6, .string y11.1), (7, .int .i64 y11.2)] (qE (qs (qk (qR (qp 1 [0, 1, 5, 6, 7, 27] [(0, .slice A0_0 a0.length n0_0), (1, .string a1), (5, .slice A6 y1.1.length c7), (6, .string y11.1), (7, .int .i64 y11.2), (27, .slice A0_0 a0.length n0_0)] ?_)))))
 obtain ⟨y13, hx14, hr⟩ := bind_some hr
 refine gl_callQ (by kernel_rfl) (tocsinref04_Print_walk (r := y13) (hf0_0.mono hI5) hx14 _) ?_
 refine qp 5 [0, 1, 5, 6, 7, 8, 9] [(0, .slice A0_0 a0.length n0_0), (1, .string a1), (5, .slice A6 y1.1.length c7), (6, .string y11.1), (7, .int .i64 y11.2), (8, .string y13.1), (9, .int .i64 y13.2)] (qE (qs (qk (qk ?_))))
 obtain ⟨j15, hj16, hr⟩ := bind_some hr
 refine gk_join (fun t I' L' => I3 ≤ I' ∧ L = L' ∧ Knows 85 [(1, .string a1), (44, .bool j15)] t) ?_ ?_
 ·refine qR (qp 4 [0, 1, 5, 7, 9, 34] [(0, .slice A0_0 a0.length n0_0), (1, .string a1), (5, .slice A6 y1.1.length c7), (7, .int .i64 y11.2), (9, .int .i64 y13.2), (34, .bool (!(y11.1.toList == y13.1.toList)))] ?_)
  refine gl_case 34 (b := (!(y11.1.toList == y13.1.toList))) (by kernel_rfl) (fun hc20 => ?_) (fun hc20 => ?_)
  ·have hj16 := cond_t hc20 hj16
   refine qp 10 [1, 44] [(1, .string a1), (44, .bool true)] ?_
   refine gl_reord (D := L) (Reord.skipC (Reord.refl _)) ?_
   refine qE ?_
   obtain rfl := some_inj hj16
   exact ge_mid fun t ht => ⟨(Imm.refl _), rfl, ht.pick (l := [1, 44]) (by kernel_rfl)⟩
  ·have hj16 := cond_f hc20 hj16
   refine qp 5 [0, 1, 5, 39] [(0, .slice A0_0 a0.length n0_0), (1, .string a1), (5, .slice A6 y1.1.length c7), (39, .bool (y11.2 != y13.2))] ?_
   refine gl_case 39 (b := (y11.2 != y13.2)) (by kernel_rfl) (fun hc21 => ?_) (fun hc21 => ?_)
   ·have hj16 := cond_t hc21 hj16
    refine qp 5 [1, 44] [(1, .string a1), (44, .bool true)] ?_
    refine gl_reord (D := L) (Reord.skipC (Reord.refl _)) ?_
    refine qE ?_
    obtain rfl := some_inj hj16
    exact ge_mid fun t ht => ⟨(Imm.refl _), rfl, ht.pick (l := [1, 44]) (by kernel_rfl)⟩
   ·have hj16 := cond_f hc21 hj16
    refine qp 2 [1, 39, 40, 41] [(1, .string a1), (39, .bool false), (40, .slice A6 y1.1.length c7), (41, .slice A0_0 a0.length n0_0)] ?_
    obtain ⟨y22, hx23, hj16⟩ := bind_some hj16
    refine gl_callB (r := .bool y22) (Tk.step (Upd.rmC _ _) (Tk.nil _)) (by kernel_rfl) (fun J hJ hC => tocsinlaw04_Kept_walk (r := y22) (RepS.head hO10 (OwnS.rest hO9 hJ hC.left)) (OwnS.rest hO9 hJ hC.left) (hf0_0.mono (Imm.trans hI5 hJ)) hx23 _) ?_
    refine qp 2 [1, 44] [(1, .string a1), (44, .bool (!y22))] ?_
    refine gl_reord (D := L) (Reord.skipC (Reord.refl _)) ?_
    refine qE ?_
    obtain rfl := some_inj hj16
    exact ge_mid fun t ht => ⟨(Imm.refl _), rfl, ht.pick (l := [1, 44]) (by kernel_rfl)⟩
 ·rintro t I19 L' ⟨hI17, rfl, hK18⟩
  refine ge_at hK18 ?_
  refine qs ?_
  refine gk_cond (b := j15) (by kernel_rfl) (by kernel_rfl) (fun hc24 => ?_) (fun hc24 => ?_)
  ·have hr := cond_t hc24 hr
   refine qk (qR (qp 1 [4] [(4, .bool false)] (qE (qs (qt (qu ?_))))))
   obtain rfl := some_inj hr
   exact ge_result trivial (ResOk.tmp (by kernel_rfl) ResOk.nil) (Imm.trans hI5 hI17) ⟨rfl, rfl⟩
  ·have hr := cond_f hc24 hr
   refine qx (qs (qk (qR (qp 1 [1, 46] [(1, .string a1), (46, .string a1)] ?_))))
   obtain ⟨y25, hx26, hr⟩ := bind_some hr
   refine gl_call (by kernel_rfl) (labels_Parse_walk (r := y25) (hG.mono (Imm.trans hI5 hI17)) hx26 _) ?_
   rintro v I27 L28 hI29 ⟨A30, c31, C32, hO33, rfl, rfl⟩
   refine qp 7 [1, 10, 11, 12] [(1, .string a1), (10, .slice A30 y25.1.length c31), (11, .int .i64 y25.2.1), (12, .int .i64 y25.2.2)] (qE (qs (qk (qR (qp 1 [1, 10, 11, 12, 52] [(1, .string a1), (10, .slice A30 y25.1.length c31), (11, .int .i64 y25.2.1), (12, .int .i64 y25.2.2), (52, .string a1)] ?_)))))
   obtain ⟨y34, hx35, hr⟩ := bind_some hr
   refine gl_call (by kernel_rfl) (labels_Parse_walk (r := y34) (hG.mono (Imm.trans (Imm.trans hI5 hI17) hI29)) hx35 _) ?_
   rintro v I36 L37 hI38 ⟨A39, c40, C41, hO42, rfl, rfl⟩
   refine qp 7 [1, 10, 11, 12, 13] [(1, .string a1), (10, .slice A30 y25.1.length c31), (11, .int .i64 y25.2.1), (12, .int .i64 y25.2.2), (13, .slice A39 y34.1.length c40)] (qE (qs (qk (qR (qp 1 [10, 11, 12, 13, 58] [(10, .slice A30 y25.1.length c31), (11, .int .i64 y25.2.1), (12, .int .i64 y25.2.2), (13, .slice A39 y34.1.length c40), (58, .string a1)] ?_)))))
   obtain ⟨y43, hx44, hr⟩ := bind_some hr
   refine gl_call (by kernel_rfl) (tocsinref04_Parse_walk (r := y43)  hx44 _) ?_
   rintro v I45 L46 hI47 ⟨A48, c49, C50, hO51, rfl, rfl⟩
   refine qp 7 [10, 11, 12, 13, 16, 17, 18] [(10, .slice A30 y25.1.length c31), (11, .int .i64 y25.2.1), (12, .int .i64 y25.2.2), (13, .slice A39 y34.1.length c40), (16, .slice A48 y43.1.length c49), (17, .int .i64 y43.2.1), (18, .int .i64 y43.2.2)] (qE (qs (qk (qk ?_))))
   obtain ⟨j52, hj53, hr⟩ := bind_some hr
   refine gk_join (fun t I' L' => I45 ≤ I' ∧ C50 ++ (C41 ++ (C32 ++ L)) = L' ∧ Knows 85 [(10, .slice A30 y25.1.length c31), (13, .slice A39 y34.1.length c40), (16, .slice A48 y43.1.length c49), (76, .bool j52)] t) ?_ ?_
   ·refine qR (qp 2 [10, 11, 12, 13, 16, 17, 18, 63, 64] [(10, .slice A30 y25.1.length c31), (11, .int .i64 y25.2.1), (12, .int .i64 y25.2.2), (13, .slice A39 y34.1.length c40), (16, .slice A48 y43.1.length c49), (17, .int .i64 y43.2.1), (18, .int .i64 y43.2.2), (63, .slice A30 y25.1.length c31), (64, .slice A48 y43.1.length c49)] ?_)
    obtain ⟨y57, hx58, hj53⟩ := bind_some hj53
    refine gl_callB (r := .bool y57) (Tk.step (Upd.rmC _ _) (Tk.step (Upd.app _ (Upd.rmC _ _)) (Tk.nil _))) (by kernel_rfl) (fun J hJ hC => tocsinlaw04_same_walk (r := y57) (OwnS.rest (hO33.mono (Imm.trans hI38 hI47)) hJ hC.right.left) (OwnS.rest hO51 hJ hC.left) hx58 _) ?_
    refine qp 2 [10, 11, 12, 13, 16, 17, 18, 67] [(10, .slice A30 y25.1.length c31), (11, .int .i64 y25.2.1), (12, .int .i64 y25.2.2), (13, .slice A39 y34.1.length c40), (16, .slice A48 y43.1.length c49), (17, .int .i64 y43.2.1), (18, .int .i64 y43.2.2), (67, .bool (!y57))] ?_
    refine gl_case 67 (b := (!y57)) (by kernel_rfl) (fun hc59 => ?_) (fun hc59 => ?_)
    ·have hj53 := cond_t hc59 hj53
     refine qp 9 [10, 13, 16, 76] [(10, .slice A30 y25.1.length c31), (13, .slice A39 y34.1.length c40), (16, .slice A48 y43.1.length c49), (76, .bool true)] (qE ?_)
     obtain rfl := some_inj hj53
     exact ge_mid fun t ht => ⟨(Imm.refl _), rfl, ht.pick (l := [10, 13, 16, 76]) (by kernel_rfl)⟩
    ·have hj53 := cond_f hc59 hj53
     refine qp 5 [10, 12, 13, 16, 18, 72] [(10, .slice A30 y25.1.length c31), (12, .int .i64 y25.2.2), (13, .slice A39 y34.1.length c40), (16, .slice A48 y43.1.length c49), (18, .int .i64 y43.2.2), (72, .bool (y25.2.1 != y43.2.1))] ?_
     refine gl_case 72 (b := (y25.2.1 != y43.2.1)) (by kernel_rfl) (fun hc60 => ?_) (fun hc60 => ?_)
     ·have hj53 := cond_t hc60 hj53
      refine qp 4 [10, 13, 16, 76] [(10, .slice A30 y25.1.length c31), (13, .slice A39 y34.1.length c40), (16, .slice A48 y43.1.length c49), (76, .bool true)] (qE ?_)
      obtain rfl := some_inj hj53
      exact ge_mid fun t ht => ⟨(Imm.refl _), rfl, ht.pick (l := [10, 13, 16, 76]) (by kernel_rfl)⟩
     ·have hj53 := cond_f hc60 hj53
      refine qp 4 [10, 13, 16, 76] [(10, .slice A30 y25.1.length c31), (13, .slice A39 y34.1.length c40), (16, .slice A48 y43.1.length c49), (76, .bool (y25.2.2 != y43.2.2))] (qE ?_)
      obtain rfl := some_inj hj53
      exact ge_mid fun t ht => ⟨(Imm.refl _), rfl, ht.pick (l := [10, 13, 16, 76]) (by kernel_rfl)⟩
   ·rintro t I56 L' ⟨hI54, rfl, hK55⟩
    refine ge_at hK55 ?_
    refine qs ?_
    refine gk_cond (b := j52) (by kernel_rfl) (by kernel_rfl) (fun hc61 => ?_) (fun hc61 => ?_)
    ·have hr := cond_t hc61 hr
     refine qk (qR (qp 1 [4] [(4, .bool false)] (qE (qs ?_))))
     refine gk_reord (D := L) (Reord.skipC (Reord.skipC (Reord.skipC (Reord.refl _)))) ?_
     refine qt (qu ?_)
     obtain rfl := some_inj hr
     exact ge_result trivial (ResOk.tmp (by kernel_rfl) ResOk.nil) (Imm.trans (Imm.trans (Imm.trans (Imm.trans (Imm.trans hI5 hI17) hI29) hI38) hI47) hI54) ⟨rfl, rfl⟩
    ·have hr := cond_f hc61 hr
     refine qx (qs (qk (qR (qp 1 [13, 16, 77] [(13, .slice A39 y34.1.length c40), (16, .slice A48 y43.1.length c49), (77, .slice A30 y25.1.length c31)] ?_))))
     obtain ⟨y62, hx63, hr⟩ := bind_some hr
     refine gl_reord (D := C32 ++ (C50 ++ (C41 ++ L))) (Reord.step (Upd.app _ (Upd.app _ (Upd.rmC _ _))) (Reord.step (Upd.rmC _ _) (Reord.step (Upd.rmC _ _) (Reord.refl _)))) ?_
     refine gl_call (by kernel_rfl) (tocsinlaw04_Spoil_f28_walk (r := y62) (A0 := A30) (c0 := c31) (C0 := C32) (a0 := y25.1) (hO33.mono (Imm.trans (Imm.trans hI38 hI47) hI54)) hx63 _) ?_
     rintro v I64 L65 hI66 ⟨rfl, rfl⟩
     refine qE (qs (qk ?_))
     obtain ⟨j67, hj68, hr⟩ := bind_some hr
     refine gk_join (fun t I' L' => I64 ≤ I' ∧ L = L' ∧ Knows 85 [(4, .bool j67)] t) ?_ ?_
     ·refine qR (qp 2 [79, 80] [(79, .slice A39 y34.1.length c40), (80, .slice A48 y43.1.length c49)] ?_)
      obtain ⟨y72, hx73, hj68⟩ := bind_some hj68
      refine gl_callB (r := .bool y72) (Tk.step (Upd.rmC _ _) (Tk.step (Upd.rmC _ _) (Tk.nil _))) (by kernel_rfl) (fun J hJ hC => tocsinlaw04_same_walk (r := y72) (OwnS.rest (hO42.mono (Imm.trans (Imm.trans hI47 hI54) hI66)) hJ hC.right.left) (OwnS.rest (hO51.mono (Imm.trans hI54 hI66)) hJ hC.left) hx73 _) ?_
      refine qp 1 [82] [(82, .bool y72)] ?_
      refine gl_case 82 (b := y72) (by kernel_rfl) (fun hc74 => ?_) (fun hc74 => ?_)
      ·have hj68 := cond_t hc74 hj68
       obtain ⟨y75, hx76, hj68⟩ := bind_some hj68
       refine gl_callQ (by kernel_rfl) (tocsinlaw04_awake_walk (r := y75) (hG.mono (Imm.trans (Imm.trans (Imm.trans (Imm.trans (Imm.trans (Imm.trans hI5 hI17) hI29) hI38) hI47) hI54) hI66)) hx76 _) ?_
       refine qp 2 [4] [(4, .bool y75)] ?_
       refine gl_reord (D := L) (Reord.skipC (Reord.skipC (Reord.refl _))) ?_
       refine qE ?_
       obtain rfl := some_inj hj68
       exact ge_mid fun t ht => ⟨(Imm.refl _), rfl, ht.pick (l := [4]) (by kernel_rfl)⟩
      ·have hj68 := cond_f hc74 hj68
       refine qp 3 [4] [(4, .bool false)] ?_
       refine gl_reord (D := L) (Reord.skipC (Reord.skipC (Reord.refl _))) ?_
       refine qE ?_
       obtain rfl := some_inj hj68
       exact ge_mid fun t ht => ⟨(Imm.refl _), rfl, ht.pick (l := [4]) (by kernel_rfl)⟩
     ·rintro t I71 L' ⟨hI69, rfl, hK70⟩
      refine ge_at hK70 ?_
      refine qs (qt ?_)
      obtain rfl := some_inj hr
      exact ge_result trivial (ResOk.tmp (by kernel_rfl) ResOk.nil) (Imm.trans (Imm.trans (Imm.trans (Imm.trans (Imm.trans (Imm.trans (Imm.trans hI5 hI17) hI29) hI38) hI47) hI54) hI66) hI69) ⟨rfl, rfl⟩
/-! 120 vint_joined  -/
/-! 86 vint_PutU  -/
/-! 87 vint_PutText  -/
/-! 42 labels_Put  -/
/-! 90 vint_U  -/
/-! 91 vint_Text  -/
/-! 44 labels_Read  -/
/-! 10 tocsinlaw04_LabelsBack  -/
end Go.Proofs.YtnlkfajnaelnnaaGreatDoor

/- From data that are read to what the walks ask: rows. -/
set_option linter.unusedVariables false
set_option linter.unusedSimpArgs false
namespace Go.GB
open Go Go.RowKit
open Go.Proofs.YtnlkfajnaelnnaaGreatDoor.Rows (uptoBulk uptoBulkAll)

def immOf (W : World) : Imm := ⟨fun b => W.heap[b]?, W.os, W.tape, W.output, 0⟩
theorem holds_immOf (W : World) : Holds (immOf W) [] W := ⟨fun _ _ h => h, by simp, by simp, by simp, rfl, rfl, rfl, Nat.zero_le _⟩
theorem below_of {I' : Imm} {L' : Own} {W W' : World} (h : Holds I' L' W') (hI : immOf W ≤ I') : Below W.heap.size W W' := by
  refine ⟨by rw [h.os, hI.os]; rfl, by rw [h.tape, hI.tape]; rfl, by rw [h.out, hI.out]; rfl, ?_, fun k hk => ?_⟩
  · rcases Nat.eq_zero_or_pos W.heap.size with h0 | h0
    · omega
    · have : W.heap[W.heap.size - 1]? = some (W.heap[W.heap.size - 1]'(by omega)) := Array.getElem?_eq_getElem _
      have := lt_of_heap (h.imm _ _ (hI.h _ _ this))
      omega
  · have : W.heap[k]? = some (W.heap[k]) := Array.getElem?_eq_getElem hk
    rw [this]; exact h.imm _ _ (hI.h _ _ this)
theorem imm_cell {W : World} {a : Addr} {v : Value} (h : W.cell? a = some v) : (immOf W).cell a = some v := h
theorem run_of_cells {W : World} {a : Addr} {n : Nat} {cs : List Value} (h : W.cells? 0 a n = some cs) : RunAt (immOf W) a cs := fun j v hj => by
  unfold World.cells? at h
  rw [if_pos (Nat.zero_le _)] at h
  have hl := mapM_some_length h
  have hj' : j < n := by have := (List.getElem?_eq_some_iff.1 hj).1; simpa [hl] using this
  have := mapM_some_get h j j (by simp [hj'])
  exact imm_cell (this.trans hj)

def Reads {α : Type} (P : Program) (T : TypeId) (d : Kd α) (w : α → Nat → Prop) : Prop := ∀ {H : Type} {enc : TypeId × Value → H} {W : World} {spare : Nat → Bool} {held : Bool} {fuel : Nat} {cs : List Value} {x : DataW H × List MemPlace},
  DataW.trod enc P W 0 spare held fuel T cs = some x → uptoBulk x.1 ≤ 1048576 → ∃ y, d.R (immOf W) y cs ∧ w y (uptoBulk x.1)
theorem reads_str {P : Program} {T : TypeId} (h : P.underlying T = some .string) : Reads P T Kd.str wStr := fun ht _ => by
  obtain ⟨n, rfl, rfl, _⟩ := DataW.trod_string h ht
  exact ⟨n, rfl, by simp [uptoBulk, wStr]⟩
theorem bulk_pos {H : Type} (d : DataW H) : 1 ≤ uptoBulk d := by
  cases d with
  | lit l => cases l <;> simp [uptoBulk]
  | _ => simp [uptoBulk]
theorem bulkAll_ge {H : Type} : ∀ (l : List (DataW H)), l.length ≤ uptoBulkAll l
  | [] => by simp
  | d :: r => by have := bulk_pos d; have := bulkAll_ge r; simp only [uptoBulkAll, List.length_cons]; omega
theorem bulkAll_mem {H : Type} {d : DataW H} : ∀ {l : List (DataW H)}, d ∈ l → uptoBulk d ≤ uptoBulkAll l
  | [], h => by cases h
  | e :: r, h => by
    simp only [uptoBulkAll]
    rcases List.mem_cons.1 h with rfl | h
    · omega
    · have := bulkAll_mem h; omega
theorem choose_list {α : Type} {p : Nat → α → Prop} : ∀ (n : Nat), (∀ i, i < n → ∃ y, p i y) → ∃ xs : List α, xs.length = n ∧ ∀ i x, xs[i]? = some x → p i x
  | 0, _ => ⟨[], rfl, fun i x h => by simp at h⟩
  | m + 1, key => by
    obtain ⟨xs, hxl, hx⟩ := choose_list m (fun i hi => key i (by omega))
    obtain ⟨y, hy⟩ := key m (by omega)
    refine ⟨xs ++ [y], by simp [hxl], fun i x h => ?_⟩
    rcases Nat.lt_or_ge i m with hi | hi
    · rw [List.getElem?_append_left (by omega)] at h; exact hx i x h
    · rw [List.getElem?_append_right (by omega), hxl] at h
      have hi0 : i - m = 0 := by have := (List.getElem?_eq_some_iff.1 h).1; simpa using this
      rw [hi0] at h
      simp only [List.getElem?_cons_zero, Option.some.injEq] at h
      subst h
      rw [show i = m from by omega]
      exact hy
theorem wSl_of {α H : Type} {w : α → Nat → Prop} : ∀ (xs : List α) (es : List (DataW H)), xs.length = es.length → (∀ (i : Nat) (x : α) (e : DataW H), xs[i]? = some x → es[i]? = some e → w x (uptoBulk e)) → wSl w xs (uptoBulkAll es)
  | [], _, _, _ => trivial
  | x :: r, [], h, _ => by simp at h
  | x :: r, e :: es, h, hw => ⟨uptoBulk e, uptoBulkAll es, hw 0 x e rfl rfl, wSl_of r es (by simpa using h) (fun i x' e' h1 h2 => hw (i + 1) x' e' (by simpa using h1) (by simpa using h2)), by simp [uptoBulkAll], bulk_pos e⟩
theorem reads_slice {α : Type} {P : Program} {T e : TypeId} {d : Kd α} {w : α → Nat → Prop} (hu : P.underlying T = some (.slice e)) (hn : P.cellsOf e = d.n) (hr : Reads P e d w) : Reads P T (Kd.sl d) (wSl w) := by
  intro H enc W spare held fuel cs x ht hb
  rcases DataW.trod_slice hu ht with ⟨rfl, rfl⟩ | ⟨a, len, cap, elems, rest, n, rfl, rfl, rfl, _, hlc, hcm, hel, hat, _, _⟩
  · exact ⟨[], ⟨none, 0, rfl, RepS.nil _ _⟩, trivial⟩
  · simp only [uptoBulk] at hb
    have hlen := bulkAll_ge (elems.map (·.1))
    rw [List.length_map, hel] at hlen
    have key : ∀ i, i < len → ∃ y, (∃ cs', d.R (immOf W) y cs' ∧ RunAt (immOf W) (a.add (i * d.n)) cs') ∧ ∀ e, (elems.map (·.1))[i]? = some e → w y (uptoBulk e) := fun i hi => by
      have h1 := hat i hi
      have hie : i < elems.length := by omega
      rw [List.getElem?_eq_getElem hie] at h1
      simp only [Option.bind_eq_some_iff] at h1
      obtain ⟨cs', h2, h3⟩ := h1
      obtain ⟨y, hy, hw⟩ := hr h3 (by
        have := bulkAll_mem (l := elems.map (·.1)) (List.mem_map_of_mem (List.getElem_mem hie))
        omega)
      refine ⟨y, ⟨cs', hy, ?_⟩, fun e he => ?_⟩
      · rw [← hn]
        exact run_of_cells h2
      · rw [List.getElem?_map, List.getElem?_eq_getElem hie] at he
        cases he; exact hw
    have hex := choose_list (p := fun i y => (∃ cs', d.R (immOf W) y cs' ∧ RunAt (immOf W) (a.add (i * d.n)) cs') ∧ ∀ e, (elems.map (·.1))[i]? = some e → w y (uptoBulk e)) len key
    obtain ⟨xs, hxl, hx⟩ := hex
    refine ⟨xs, ⟨some a, cap, by rw [hxl], by omega, by unfold maxLen'; omega, fun i x h => ?_⟩, ?_⟩
    · obtain ⟨⟨cs', h1, h2⟩, _⟩ := hx i x h
      exact ⟨a, cs', rfl, h1, h2⟩
    · exact (wSl_of xs (elems.map (·.1)) (by simp [hxl, hel]) (fun i x e h1 h2 => (hx i x h1).2 e h2)).le (by simp only [uptoBulk]; omega)
theorem pairR {α β : Type} {a : Kd α} {b : Kd β} {I : Imm} {x : α} {y : β} {cs : List Value} {o n m : Nat} (h0 : a.R I x ((cs.drop o).take n)) (h1 : b.R I y (cs.drop m)) (hm : m = o + n) : (Kd.pair a b).R I (x, y) (cs.drop o) := by
  subst hm
  exact ⟨(cs.drop o).take n, (cs.drop o).drop n, (List.take_append_drop _ _).symm, h0, by rw [List.drop_drop]; exact h1⟩
theorem lastR {α : Type} {a : Kd α} {I : Imm} {x : α} {cs : List Value} {o n : Nat} (h : a.R I x ((cs.drop o).take n)) (hl : cs.length = o + n) : a.R I x (cs.drop o) := by
  rwa [List.take_of_length_le (by rw [List.length_drop]; omega)] at h
def fieldD (P : Program) (T : TypeId) (i : Nat) : Field := (P.fieldsOf T).getD i default
/-- A field of a struct that is read. -/
theorem field_read {α : Type} {H : Type} {enc : TypeId × Value → H} {P : Program} {W : World} {spare : Nat → Bool} {held : Bool} {m : Nat} {T t : TypeId} {d : Kd α} {w : α → Nat → Prop} {cs : List Value} {xs : List (DataW H × List MemPlace)} {x : DataW H × List MemPlace} {i o n : Nat}
    (hf : ∀ (i : Nat) (f : Field), (P.fieldsOf T)[i]? = some f → DataW.trod enc P W 0 spare held m f.type ((cs.drop f.offset).take (P.cellsOf f.type)) = xs[i]?)
    (hx : xs[i]? = some x) (h1 : (P.fieldsOf T)[i]? = some (fieldD P T i)) (h2 : (fieldD P T i).type = t) (h3 : (fieldD P T i).offset = o) (h4 : P.cellsOf t = n) (hr : Reads P t d w) (hb : uptoBulk x.1 ≤ 1048576) : ∃ y, d.R (immOf W) y ((cs.drop o).take n) ∧ w y (uptoBulk x.1) := by
  have := hf i _ h1
  rw [hx, h2, h3, h4] at this
  exact hr this hb
theorem calls_of {P : Program} {f : FuncId} {args : Array Value} {W : World} {b : Value} (h : CallsTo P f args (immOf W) [] (fun v I' L' => v = b ∧ [] = L')) : Calls P f args W fun e W' => e = .returned b ∧ Below W.heap.size W W' :=
  (h W (holds_immOf W)).mono fun e W' ⟨v, I', L', he, hI, hh, hv, _⟩ => ⟨by rw [he, hv], below_of hh hI⟩
end Go.GB

/- Plain laws: the document's Utf8 is the library's. -/
set_option linter.unusedVariables false
set_option linter.unusedSimpArgs false
set_option maxRecDepth 100000
namespace Go.Proofs.YtnlkfajnaelnnaaGreatDoor
open Go.GB Go.Lib
/-- The byte at a place, 0 behind the end. -/
def bat (s : ByteArray) (i : Nat) : Nat := (s.data.toList.getD i 0).toNat
theorem bat_lt (s : ByteArray) (i : Nat) : bat s i < 256 := UInt8.toNat_lt _
theorem bx_bat {s : ByteArray} {i : Nat} (h : i < s.size) : bx s (i : Int) = some ((bat s i : Nat) : Int) := bx_at h
theorem fin_and {P : Nat → Prop} (h : ∀ c : Fin 256, P c.val) {n : Nat} (hn : n < 256) : P n := h ⟨n, hn⟩
theorem l79_end {s : ByteArray} {i n least r0 : Nat} {r k : Nat} (h : n < k) (hk : k < 100) : loopO (tocsinref01_Utf8_l79 s (i : Int) ((n : Int), (least : Int), (r0 : Int))) ((r : Int), (k : Int)) = some (.inl (r : Int)) := by
  refine loopO_done ?_
  unfold tocsinref01_Utf8_l79
  rw [show decide (((r : Int), (k : Int)).2 ≤ ((n : Int), (least : Int), (r0 : Int)).1) = false from decide_eq_false (by show ¬ ((k : Int) ≤ (n : Int)); omega)]
  rfl
theorem l79_step {s : ByteArray} {i n least r0 : Nat} {r k : Nat} (hs : s.size < 4611686018427387904) (hi : i < s.size) (h : k ≤ n) (hn : n ≤ 3) (hr : r < 16777216) :
    tocsinref01_Utf8_l79 s (i : Int) ((n : Int), (least : Int), (r0 : Int)) ((r : Int), (k : Int)) =
      if i + k < s.size ∧ bat s (i + k) / 64 = 2 then some (.inl (((r * 64 + bat s (i + k) % 64 : Nat) : Int), ((k + 1 : Nat) : Int))) else some (.inr (.inr (.inr (.inr (.inr false))))) := by
  unfold tocsinref01_Utf8_l79
  simp only
  rw [show decide ((k : Int) ≤ (n : Int)) = true from decide_eq_true (by omega)]
  have e1 : IntKind.wrap .i64 ((i : Int) + (k : Int)) = ((i + k : Nat) : Int) := by rw [wrap64 (by omega) (by omega)]; omega
  simp only [cond_true, e1]
  by_cases hlt : i + k < s.size
  · rw [show decide (((i + k : Nat) : Int) ≥ (s.size : Int)) = false from decide_eq_false (by omega)]
    have hb := bat_lt s (i + k)
    have h1 : (bitAnd .u8 ((bat s (i + k) : Nat) : Int) 192 != 128) = !(decide (bat s (i + k) / 64 = 2)) := fin_and (P := fun n => (bitAnd .u8 ((n : Nat) : Int) 192 != 128) = !(decide (n / 64 = 2))) and192 hb
    have h2 : bitAnd .u8 ((bat s (i + k) : Nat) : Int) 63 = ((bat s (i + k) % 64 : Nat) : Int) := fin_and (P := fun n => bitAnd .u8 ((n : Nat) : Int) 63 = ((n % 64 : Nat) : Int)) and63 hb
    simp only [cond_false, bx_bat hlt, Option.bind_some, h1, h2]
    by_cases hc : bat s (i + k) / 64 = 2
    · rw [if_pos ⟨hlt, hc⟩]
      simp only [hc, decide_true, Bool.not_true, cond_false, bx_bat hlt, Option.bind_some, h2]
      have e2 : IntKind.wrap .i64 ((r : Int) * 64) = ((r * 64 : Nat) : Int) := by rw [wrap64 (by omega) (by omega)]; omega
      have e3 : IntKind.wrap .i64 ((bat s (i + k) % 64 : Nat) : Int) = ((bat s (i + k) % 64 : Nat) : Int) := wrap64 (by omega) (by omega)
      have e4 : IntKind.wrap .i64 (((r * 64 : Nat) : Int) + ((bat s (i + k) % 64 : Nat) : Int)) = ((r * 64 + bat s (i + k) % 64 : Nat) : Int) := by rw [wrap64 (by omega) (by omega)]; omega
      have e5 : IntKind.wrap .i64 ((k : Int) + 1) = ((k + 1 : Nat) : Int) := wrap_up (by omega)
      rw [e2, e3, e4, e5]
    · rw [if_neg (fun h => hc h.2)]
      simp only [hc, decide_false, Bool.not_false, cond_true]
  · rw [show decide (((i + k : Nat) : Int) ≥ (s.size : Int)) = true from decide_eq_true (by omega), if_neg (fun h => hlt h.1)]
    simp
/-- What a lead byte says: how many follow, the least, what it bears. -/
def leadN (c : Nat) : Option (Nat × Nat × Nat) := if 194 ≤ c ∧ c < 224 then some (1, 128, c % 32) else if 224 ≤ c ∧ c < 240 then some (2, 2048, c % 16) else if 240 ≤ c ∧ c < 245 then some (3, 65536, c % 8) else none
theorem l79_all {s : ByteArray} {i n least r0 : Nat} (hs : s.size < 4611686018427387904) (hi : i < s.size) (hn : 1 ≤ n ∧ n ≤ 3) (hr : r0 < 32) :
    loopO (tocsinref01_Utf8_l79 s (i : Int) ((n : Int), (least : Int), (r0 : Int))) ((r0 : Int), 1) =
      if (i + 1 < s.size ∧ bat s (i + 1) / 64 = 2) ∧ (2 ≤ n → i + 2 < s.size ∧ bat s (i + 2) / 64 = 2) ∧ (3 ≤ n → i + 3 < s.size ∧ bat s (i + 3) / 64 = 2) then
        some (.inl ((if n = 1 then r0 * 64 + bat s (i + 1) % 64 else if n = 2 then (r0 * 64 + bat s (i + 1) % 64) * 64 + bat s (i + 2) % 64 else ((r0 * 64 + bat s (i + 1) % 64) * 64 + bat s (i + 2) % 64) * 64 + bat s (i + 3) % 64 : Nat) : Int))
      else some (.inr (.inr (.inr (.inr false)))) := by
  have h1 := l79_step (s := s) (i := i) (n := n) (least := least) (r0 := r0) (r := r0) (k := 1) hs hi (by omega) hn.2 (by omega)
  by_cases c1 : i + 1 < s.size ∧ bat s (i + 1) / 64 = 2
  · rw [if_pos c1] at h1
    rw [show (1 : Int) = ((1 : Nat) : Int) from rfl, loopO_step h1]
    have b1 := bat_lt s (i + 1)
    by_cases n1 : n = 1
    · subst n1
      rw [l79_end (by omega) (by omega), if_pos ⟨c1, by omega, by omega⟩, if_pos rfl]
    · have h2 := l79_step (s := s) (i := i) (n := n) (least := least) (r0 := r0) (r := r0 * 64 + bat s (i + 1) % 64) (k := 2) hs hi (by omega) hn.2 (by omega)
      by_cases c2 : i + 2 < s.size ∧ bat s (i + 2) / 64 = 2
      · rw [if_pos c2] at h2
        rw [show ((1 + 1 : Nat) : Int) = ((2 : Nat) : Int) from rfl, loopO_step h2]
        have b2 := bat_lt s (i + 2)
        by_cases n2 : n = 2
        · subst n2
          rw [l79_end (by omega) (by omega), if_pos ⟨c1, fun _ => c2, by omega⟩]
          rfl
        · have h3 := l79_step (s := s) (i := i) (n := n) (least := least) (r0 := r0) (r := (r0 * 64 + bat s (i + 1) % 64) * 64 + bat s (i + 2) % 64) (k := 3) hs hi (by omega) hn.2 (by omega)
          by_cases c3 : i + 3 < s.size ∧ bat s (i + 3) / 64 = 2
          · rw [if_pos c3] at h3
            rw [show ((2 + 1 : Nat) : Int) = ((3 : Nat) : Int) from rfl, loopO_step h3, l79_end (by omega) (by omega), if_pos ⟨c1, fun _ => c2, fun _ => c3⟩, if_neg n1, if_neg n2]
          · rw [if_neg c3] at h3
            rw [show ((2 + 1 : Nat) : Int) = ((3 : Nat) : Int) from rfl, loopO_done h3, if_neg (fun h => c3 (h.2.2 (by omega)))]
      · rw [if_neg c2] at h2
        rw [show ((1 + 1 : Nat) : Int) = ((2 : Nat) : Int) from rfl, loopO_done h2, if_neg (fun h => c2 (h.2.1 (by omega)))]
  · rw [if_neg c1] at h1
    rw [show (1 : Int) = ((1 : Nat) : Int) from rfl, loopO_done h1, if_neg (fun h => c1 h.1)]
def contN (s : ByteArray) (i n least r0 : Nat) : Option Nat :=
  if (i + 1 < s.size ∧ bat s (i + 1) / 64 = 2) ∧ (2 ≤ n → i + 2 < s.size ∧ bat s (i + 2) / 64 = 2) ∧ (3 ≤ n → i + 3 < s.size ∧ bat s (i + 3) / 64 = 2) then
    (let r := if n = 1 then r0 * 64 + bat s (i + 1) % 64 else if n = 2 then (r0 * 64 + bat s (i + 1) % 64) * 64 + bat s (i + 2) % 64 else ((r0 * 64 + bat s (i + 1) % 64) * 64 + bat s (i + 2) % 64) * 64 + bat s (i + 3) % 64
     if r < least ∨ r > 1114111 ∨ (55296 ≤ r ∧ r < 57344) then none else some (i + n + 1))
  else none
/-- One round of the document's loop: the place behind the rune, or none. -/
def stepN (s : ByteArray) (i : Nat) : Option Nat :=
  if bat s i < 128 then some (i + 1) else match leadN (bat s i) with
    | none => none
    | some (n, least, r0) => contN s i n least r0
theorem l17_tail {s : ByteArray} {i n least r0 : Nat} (hs : s.size < 4611686018427387904) (hi : i < s.size) (hn : 1 ≤ n ∧ n ≤ 3) (hr : r0 < 32) (hl : least ≤ 65536) {X : Option ((Int) ⊕ ((Int) ⊕ ((Unit) ⊕ (Bool))))}
    (hX : X = Option.bind (loopO (tocsinref01_Utf8_l79 s (i : Int) ((n : Int), (least : Int), (r0 : Int))) ((r0 : Int), 1)) fun (r67 : (Int) ⊕ ((Int) ⊕ ((Int) ⊕ ((Unit) ⊕ (Bool))))) =>
          match r67 with
          | Sum.inl r75 => bif (((decide (r75 < (least : Int))) || (decide (r75 > 1114111))) || ((decide (r75 ≥ 55296)) && (decide (r75 < 57344)))) then
            (some (Sum.inr (Sum.inr (Sum.inr false))))
            else
            (some (Sum.inl (IntKind.wrap .i64 ((IntKind.wrap .i64 ((i : Int) + (n : Int))) + 1))))
          | Sum.inr v102 => some v102) :
    X = match contN s i n least r0 with
      | some j => some (Sum.inl (j : Int))
      | none => some (Sum.inr (Sum.inr (Sum.inr false))) := by
  subst hX
  rw [l79_all hs hi hn hr]
  unfold contN
  split
  · simp only [Option.bind_some]
    generalize (if n = 1 then r0 * 64 + bat s (i + 1) % 64 else if n = 2 then (r0 * 64 + bat s (i + 1) % 64) * 64 + bat s (i + 2) % 64 else ((r0 * 64 + bat s (i + 1) % 64) * 64 + bat s (i + 2) % 64) * 64 + bat s (i + 3) % 64) = r
    have e1 : IntKind.wrap .i64 (IntKind.wrap .i64 ((i : Int) + (n : Int)) + 1) = ((i + n + 1 : Nat) : Int) := by
      rw [wrap64 (x := (i : Int) + (n : Int)) (by omega) (by omega), wrap64 (by omega) (by omega)]; omega
    rw [e1]
    by_cases hb : r < least ∨ r > 1114111 ∨ (55296 ≤ r ∧ r < 57344)
    · rw [if_pos hb]
      have : (((decide ((r : Int) < (least : Int))) || (decide ((r : Int) > 1114111))) || ((decide ((r : Int) ≥ 55296)) && (decide ((r : Int) < 57344)))) = true := by
        simp only [Bool.or_eq_true, Bool.and_eq_true, decide_eq_true_eq]; omega
      rw [this]; rfl
    · rw [if_neg hb]
      have : (((decide ((r : Int) < (least : Int))) || (decide ((r : Int) > 1114111))) || ((decide ((r : Int) ≥ 55296)) && (decide ((r : Int) < 57344)))) = false := by
        rw [Bool.eq_false_iff]
        simp only [ne_eq, Bool.or_eq_true, Bool.and_eq_true, decide_eq_true_eq]; omega
      rw [this]; rfl
  · rfl
theorem l17_round {s : ByteArray} {i : Nat} (hs : s.size < 4611686018427387904) (hi : i < s.size) :
    tocsinref01_Utf8_l17 s (i : Int) = match stepN s i with | some j => some (.inl (j : Int)) | none => some (.inr (.inr false)) := by
  unfold tocsinref01_Utf8_l17
  have hb := bat_lt s i
  have w1 : IntKind.wrap .i64 ((bat s i : Nat) : Int) = ((bat s i : Nat) : Int) := wrap64 (by omega) (by omega)
  rw [show decide ((i : Int) < (s.size : Int)) = true from decide_eq_true (by omega)]
  simp only [cond_true, bx_bat hi, Option.bind_some, w1]
  unfold stepN
  by_cases h0 : bat s i < 128
  · rw [if_pos h0, show decide (((bat s i : Nat) : Int) < 128) = true from decide_eq_true (by omega), show IntKind.wrap .i64 ((i : Int) + 1) = ((i + 1 : Nat) : Int) from by rw [wrap64 (by omega) (by omega)]; omega]
    rfl
  · rw [if_neg h0, show decide (((bat s i : Nat) : Int) < 128) = false from decide_eq_false (by omega)]
    simp only [cond_false]
    have a31 : bitAnd .i64 ((bat s i : Nat) : Int) 31 = ((bat s i % 32 : Nat) : Int) := fin_and (P := fun n => bitAnd .i64 ((n : Nat) : Int) 31 = ((n % 32 : Nat) : Int)) and31 hb
    have a15 : bitAnd .i64 ((bat s i : Nat) : Int) 15 = ((bat s i % 16 : Nat) : Int) := fin_and (P := fun n => bitAnd .i64 ((n : Nat) : Int) 15 = ((n % 16 : Nat) : Int)) and15 hb
    have a7 : bitAnd .i64 ((bat s i : Nat) : Int) 7 = ((bat s i % 8 : Nat) : Int) := fin_and (P := fun n => bitAnd .i64 ((n : Nat) : Int) 7 = ((n % 8 : Nat) : Int)) Go.GB.and7 hb
    simp only [a31, a15, a7]
    unfold leadN
    by_cases c1 : 194 ≤ bat s i ∧ bat s i < 224
    · have : ((decide (((bat s i : Nat) : Int) ≥ 194)) && (decide (((bat s i : Nat) : Int) < 224))) = true := by simp only [Bool.and_eq_true, decide_eq_true_eq]; omega
      simp only [this, cond_true, Option.bind_some, if_pos c1]
      have hT := l17_tail (s := s) (i := i) (n := 1) (least := 128) (r0 := bat s i % 32) hs hi (by omega) (by omega) (by omega) rfl
      simp only [show ((1 : Nat) : Int) = 1 from rfl, show ((128 : Nat) : Int) = 128 from rfl] at hT
      refine Eq.trans (congrArg (fun X => Option.bind X _) hT) ?_
      cases contN s i 1 128 (bat s i % 32) <;> rfl
    · have f1 : ((decide (((bat s i : Nat) : Int) ≥ 194)) && (decide (((bat s i : Nat) : Int) < 224))) = false := by rw [Bool.eq_false_iff]; simp only [ne_eq, Bool.and_eq_true, decide_eq_true_eq]; omega
      simp only [f1, cond_false, if_neg c1]
      by_cases c2 : 224 ≤ bat s i ∧ bat s i < 240
      · have : ((decide (((bat s i : Nat) : Int) ≥ 224)) && (decide (((bat s i : Nat) : Int) < 240))) = true := by simp only [Bool.and_eq_true, decide_eq_true_eq]; omega
        simp only [this, cond_true, Option.bind_some, if_pos c2]
        have hT := l17_tail (s := s) (i := i) (n := 2) (least := 2048) (r0 := bat s i % 16) hs hi (by omega) (by omega) (by omega) rfl
        simp only [show ((2 : Nat) : Int) = 2 from rfl, show ((2048 : Nat) : Int) = 2048 from rfl] at hT
        refine Eq.trans (congrArg (fun X => Option.bind X _) hT) ?_
        cases contN s i 2 2048 (bat s i % 16) <;> rfl
      · have f2 : ((decide (((bat s i : Nat) : Int) ≥ 224)) && (decide (((bat s i : Nat) : Int) < 240))) = false := by rw [Bool.eq_false_iff]; simp only [ne_eq, Bool.and_eq_true, decide_eq_true_eq]; omega
        simp only [f2, cond_false, if_neg c2]
        by_cases c3 : 240 ≤ bat s i ∧ bat s i < 245
        · have : ((decide (((bat s i : Nat) : Int) ≥ 240)) && (decide (((bat s i : Nat) : Int) < 245))) = true := by simp only [Bool.and_eq_true, decide_eq_true_eq]; omega
          simp only [this, cond_true, Option.bind_some, if_pos c3]
          have hT := l17_tail (s := s) (i := i) (n := 3) (least := 65536) (r0 := bat s i % 8) hs hi (by omega) (by omega) (by omega) rfl
          simp only [show ((3 : Nat) : Int) = 3 from rfl, show ((65536 : Nat) : Int) = 65536 from rfl] at hT
          refine Eq.trans (congrArg (fun X => Option.bind X _) hT) ?_
          cases contN s i 3 65536 (bat s i % 8) <;> rfl
        · have f3 : ((decide (((bat s i : Nat) : Int) ≥ 240)) && (decide (((bat s i : Nat) : Int) < 245))) = false := by rw [Bool.eq_false_iff]; simp only [ne_eq, Bool.and_eq_true, decide_eq_true_eq]; omega
          simp only [f3, cond_false, if_neg c3, Option.bind_some]
theorem getD_drop (l : List UInt8) (i k : Nat) : (l.drop i).getD k 0 = l.getD (i + k) 0 := by simp [List.getD_eq_getElem?_getD, List.getElem?_drop]
theorem dec2 {n c b1 b2 b3 : Nat} (hc : 194 ≤ c ∧ c < 224) : decodeN n c b1 b2 b3 = if 1 < n ∧ b1 / 64 = 2 then (c % 32 * 64 + b1 % 64, 2) else (65533, 1) := by
  unfold decodeN
  rw [if_neg (by omega)]
  by_cases h : 1 < n ∧ b1 / 64 = 2
  · rw [if_pos ⟨by omega, h⟩, if_pos (by omega), if_pos h]
  · rw [if_neg (fun g => h g.2), if_neg (fun g => h g.2.1), if_neg (fun g => h g.2.1), if_neg h]
theorem dec3 {n c b1 b2 b3 : Nat} (hc : 224 ≤ c ∧ c < 240) : decodeN n c b1 b2 b3 = if (1 < n ∧ b1 / 64 = 2) ∧ (2 < n ∧ b2 / 64 = 2) then
    (if (c % 16 * 64 + b1 % 64) * 64 + b2 % 64 < 2048 ∨ (55296 ≤ (c % 16 * 64 + b1 % 64) * 64 + b2 % 64 ∧ (c % 16 * 64 + b1 % 64) * 64 + b2 % 64 < 57344) then (65533, 1) else ((c % 16 * 64 + b1 % 64) * 64 + b2 % 64, 3)) else (65533, 1) := by
  unfold decodeN
  rw [if_neg (by omega), if_neg (by omega)]
  by_cases h : (1 < n ∧ b1 / 64 = 2) ∧ (2 < n ∧ b2 / 64 = 2)
  · rw [if_pos ⟨by omega, h⟩, if_pos h]
    have e : c % 16 * 4096 + b1 % 64 * 64 + b2 % 64 = (c % 16 * 64 + b1 % 64) * 64 + b2 % 64 := by omega
    rw [e]
    by_cases h2 : (c % 16 * 64 + b1 % 64) * 64 + b2 % 64 < 2048 ∨ (55296 ≤ (c % 16 * 64 + b1 % 64) * 64 + b2 % 64 ∧ (c % 16 * 64 + b1 % 64) * 64 + b2 % 64 < 57344)
    · rw [if_pos h2, if_neg (by omega)]
    · rw [if_neg h2, if_pos (by omega)]
  · rw [if_neg (fun g => h g.2), if_neg (fun g => h ⟨g.2.1, g.2.2.1⟩), if_neg h]
theorem dec4 {n c b1 b2 b3 : Nat} (hc : 240 ≤ c ∧ c < 245) : decodeN n c b1 b2 b3 = if (1 < n ∧ b1 / 64 = 2) ∧ (2 < n ∧ b2 / 64 = 2) ∧ (3 < n ∧ b3 / 64 = 2) then
    (if ((c % 8 * 64 + b1 % 64) * 64 + b2 % 64) * 64 + b3 % 64 < 65536 ∨ 1114111 < ((c % 8 * 64 + b1 % 64) * 64 + b2 % 64) * 64 + b3 % 64 then (65533, 1) else (((c % 8 * 64 + b1 % 64) * 64 + b2 % 64) * 64 + b3 % 64, 4)) else (65533, 1) := by
  unfold decodeN
  rw [if_neg (by omega), if_neg (by omega), if_neg (by omega)]
  by_cases h : (1 < n ∧ b1 / 64 = 2) ∧ (2 < n ∧ b2 / 64 = 2) ∧ (3 < n ∧ b3 / 64 = 2)
  · rw [if_pos ⟨by omega, h⟩, if_pos h]
    have e : c % 8 * 262144 + b1 % 64 * 4096 + b2 % 64 * 64 + b3 % 64 = ((c % 8 * 64 + b1 % 64) * 64 + b2 % 64) * 64 + b3 % 64 := by omega
    rw [e]
    by_cases h2 : ((c % 8 * 64 + b1 % 64) * 64 + b2 % 64) * 64 + b3 % 64 < 65536 ∨ 1114111 < ((c % 8 * 64 + b1 % 64) * 64 + b2 % 64) * 64 + b3 % 64
    · rw [if_pos h2, if_neg (by omega)]
    · rw [if_neg h2, if_pos (by omega)]
  · rw [if_neg (fun g => h g.2), if_neg h]
set_option maxHeartbeats 1000000 in
/-- The document's round and the library's are one. -/
theorem stepN_valid {s : ByteArray} {i : Nat} (hi : i < s.size) : validD (s.data.toList.drop i) = match stepN s i with | some j => validD (s.data.toList.drop j) | none => false := by
  have hl : s.data.toList.length = s.size := size_list s
  have hne : s.data.toList.drop i ≠ [] := by intro h; have := congrArg List.length h; simp at this; omega
  have hlen : (s.data.toList.drop i).length = s.size - i := by rw [List.length_drop, hl]
  rw [validD_step _ hne, decodeL_N, hlen]
  simp only [getD_drop, Nat.add_zero]
  have b0 := bat_lt s i
  change (if (decodeN (s.size - i) (bat s i) (bat s (i + 1)) (bat s (i + 2)) (bat s (i + 3))).1 = 65533 ∧ (decodeN (s.size - i) (bat s i) (bat s (i + 1)) (bat s (i + 2)) (bat s (i + 3))).2 = 1 then false else validD ((s.data.toList.drop i).drop (decodeN (s.size - i) (bat s i) (bat s (i + 1)) (bat s (i + 2)) (bat s (i + 3))).2)) = _
  rw [List.drop_drop]
  unfold stepN leadN
  by_cases h0 : bat s i < 128
  · rw [if_pos h0, show decodeN (s.size - i) (bat s i) (bat s (i + 1)) (bat s (i + 2)) (bat s (i + 3)) = (bat s i, 1) from by unfold decodeN; rw [if_pos h0]]
    rw [if_neg (by simp; omega)]
  · rw [if_neg h0]
    by_cases c1 : 194 ≤ bat s i ∧ bat s i < 224
    · rw [if_pos c1, dec2 c1]
      show _ = match contN s i 1 128 (bat s i % 32) with | some j => validD (s.data.toList.drop j) | none => false
      by_cases k1 : i + 1 < s.size ∧ bat s (i + 1) / 64 = 2
      · have e : contN s i 1 128 (bat s i % 32) = some (i + 1 + 1) := by
          unfold contN
          rw [if_pos ⟨k1, by omega, by omega⟩]
          simp only [if_true]
          rw [if_neg (by omega)]
        rw [e, if_pos (show 1 < s.size - i ∧ bat s (i + 1) / 64 = 2 from ⟨by omega, k1.2⟩), if_neg (by simp)]; rfl
      · have e : contN s i 1 128 (bat s i % 32) = none := by
          unfold contN
          rw [if_neg (fun g => k1 g.1)]
        rw [e, if_neg (show ¬ (1 < s.size - i ∧ bat s (i + 1) / 64 = 2) from fun g => k1 ⟨by omega, g.2⟩), if_pos ⟨rfl, rfl⟩]
    · rw [if_neg c1]
      by_cases c2 : 224 ≤ bat s i ∧ bat s i < 240
      · rw [if_pos c2, dec3 c2]
        show _ = match contN s i 2 2048 (bat s i % 16) with | some j => validD (s.data.toList.drop j) | none => false
        by_cases k1 : (i + 1 < s.size ∧ bat s (i + 1) / 64 = 2) ∧ (i + 2 < s.size ∧ bat s (i + 2) / 64 = 2)
        · rw [if_pos (show (1 < s.size - i ∧ bat s (i + 1) / 64 = 2) ∧ (2 < s.size - i ∧ bat s (i + 2) / 64 = 2) from ⟨⟨by omega, k1.1.2⟩, by omega, k1.2.2⟩)]
          by_cases k2 : (bat s i % 16 * 64 + bat s (i + 1) % 64) * 64 + bat s (i + 2) % 64 < 2048 ∨ (55296 ≤ (bat s i % 16 * 64 + bat s (i + 1) % 64) * 64 + bat s (i + 2) % 64 ∧ (bat s i % 16 * 64 + bat s (i + 1) % 64) * 64 + bat s (i + 2) % 64 < 57344)
          · have e : contN s i 2 2048 (bat s i % 16) = none := by
              unfold contN
              rw [if_pos ⟨k1.1, fun _ => k1.2, by omega⟩]
              simp only [show ¬ (2 : Nat) = 1 from by omega, if_false, if_true]
              rw [if_pos (by omega)]
            rw [e, if_pos k2, if_pos ⟨rfl, rfl⟩]
          · have e : contN s i 2 2048 (bat s i % 16) = some (i + 2 + 1) := by
              unfold contN
              rw [if_pos ⟨k1.1, fun _ => k1.2, by omega⟩]
              simp only [show ¬ (2 : Nat) = 1 from by omega, if_false, if_true]
              rw [if_neg (by omega)]
            rw [e, if_neg k2, if_neg (by simp)]; rfl
        · have e : contN s i 2 2048 (bat s i % 16) = none := by
            unfold contN
            rw [if_neg (fun g => k1 ⟨g.1, g.2.1 (by omega)⟩)]
          rw [e, if_neg (show ¬ ((1 < s.size - i ∧ bat s (i + 1) / 64 = 2) ∧ (2 < s.size - i ∧ bat s (i + 2) / 64 = 2)) from fun g => k1 ⟨⟨by omega, g.1.2⟩, by omega, g.2.2⟩), if_pos ⟨rfl, rfl⟩]
      · rw [if_neg c2]
        by_cases c3 : 240 ≤ bat s i ∧ bat s i < 245
        · rw [if_pos c3, dec4 c3]
          show _ = match contN s i 3 65536 (bat s i % 8) with | some j => validD (s.data.toList.drop j) | none => false
          by_cases k1 : (i + 1 < s.size ∧ bat s (i + 1) / 64 = 2) ∧ (i + 2 < s.size ∧ bat s (i + 2) / 64 = 2) ∧ (i + 3 < s.size ∧ bat s (i + 3) / 64 = 2)
          · rw [if_pos (show (1 < s.size - i ∧ bat s (i + 1) / 64 = 2) ∧ (2 < s.size - i ∧ bat s (i + 2) / 64 = 2) ∧ (3 < s.size - i ∧ bat s (i + 3) / 64 = 2) from ⟨⟨by omega, k1.1.2⟩, ⟨by omega, k1.2.1.2⟩, by omega, k1.2.2.2⟩)]
            by_cases k2 : ((bat s i % 8 * 64 + bat s (i + 1) % 64) * 64 + bat s (i + 2) % 64) * 64 + bat s (i + 3) % 64 < 65536 ∨ 1114111 < ((bat s i % 8 * 64 + bat s (i + 1) % 64) * 64 + bat s (i + 2) % 64) * 64 + bat s (i + 3) % 64
            · have e : contN s i 3 65536 (bat s i % 8) = none := by
                unfold contN
                rw [if_pos ⟨k1.1, fun _ => k1.2.1, fun _ => k1.2.2⟩]
                simp only [show ¬ (3 : Nat) = 1 from by omega, show ¬ (3 : Nat) = 2 from by omega, if_false]
                rw [if_pos (by omega)]
              rw [e, if_pos k2, if_pos ⟨rfl, rfl⟩]
            · have e : contN s i 3 65536 (bat s i % 8) = some (i + 3 + 1) := by
                unfold contN
                rw [if_pos ⟨k1.1, fun _ => k1.2.1, fun _ => k1.2.2⟩]
                simp only [show ¬ (3 : Nat) = 1 from by omega, show ¬ (3 : Nat) = 2 from by omega, if_false]
                rw [if_neg (by omega)]
              rw [e, if_neg k2, if_neg (by simp)]; rfl
          · have e : contN s i 3 65536 (bat s i % 8) = none := by
              unfold contN
              rw [if_neg (fun g => k1 ⟨g.1, g.2.1 (by omega), g.2.2 (by omega)⟩)]
            rw [e, if_neg (show ¬ ((1 < s.size - i ∧ bat s (i + 1) / 64 = 2) ∧ (2 < s.size - i ∧ bat s (i + 2) / 64 = 2) ∧ (3 < s.size - i ∧ bat s (i + 3) / 64 = 2)) from fun g => k1 ⟨⟨by omega, g.1.2⟩, ⟨by omega, g.2.1.2⟩, by omega, g.2.2.2⟩), if_pos ⟨rfl, rfl⟩]
        · rw [if_neg c3, decodeN_bad _ _ _ _ _ (by omega)]
          simp
theorem contN_some {s : ByteArray} {i n least r0 j : Nat} (h : contN s i n least r0 = some j) : j = i + n + 1 ∧ (i + 1 < s.size ∧ bat s (i + 1) / 64 = 2) ∧ (2 ≤ n → i + 2 < s.size ∧ bat s (i + 2) / 64 = 2) ∧ (3 ≤ n → i + 3 < s.size ∧ bat s (i + 3) / 64 = 2) := by
  unfold contN at h
  split at h
  · rename_i hc
    refine ⟨?_, hc⟩
    have : ∀ (p : Prop) [Decidable p], (if p then none else some (i + n + 1)) = some j → j = i + n + 1 := fun p _ hp => by
      split at hp <;> cases hp
      rfl
    exact this _ h
  · cases h
theorem stepN_up {s : ByteArray} {i j : Nat} (h : stepN s i = some j) : i < j := by
  unfold stepN at h
  split at h
  · cases h; omega
  · split at h
    · cases h
    · have := (contN_some h).1; omega
theorem stepN_le {s : ByteArray} {i j : Nat} (hi : i < s.size) (h : stepN s i = some j) : j ≤ s.size := by
  unfold stepN at h
  split at h
  · cases h; omega
  · unfold leadN at h
    split at h
    · cases h
    · rename_i n least r0 hl
      obtain ⟨rfl, h1, h2, h3⟩ := contN_some h
      split at hl
      · cases hl; omega
      · split at hl
        · cases hl; have := h2 (by omega); omega
        · split at hl
          · cases hl; have := h3 (by omega); omega
          · cases hl
theorem utf8_loop {s : ByteArray} (hs : s.size < 4611686018427387904) : ∀ d i : Nat, s.size - i = d → i ≤ s.size → loopO (tocsinref01_Utf8_l17 s) (i : Int) = some (if validD (s.data.toList.drop i) then .inl () else .inr false) := by
  intro d
  induction d using Nat.strongRecOn with
  | _ d ih =>
    intro i hd hi
    by_cases hlt : i < s.size
    · have hr := l17_round hs hlt
      have hv := stepN_valid hlt
      cases hn : stepN s i with
      | none =>
        rw [hn] at hr hv
        rw [loopO_done hr, hv]; rfl
      | some j =>
        rw [hn] at hr hv
        have h1 := stepN_up hn
        have h2 := stepN_le hlt hn
        rw [loopO_step hr, hv]
        exact ih (s.size - j) (by omega) j rfl h2
    · have : i = s.size := by omega
      subst this
      have he : tocsinref01_Utf8_l17 s (s.size : Int) = some (.inr (.inl ())) := by
        unfold tocsinref01_Utf8_l17
        rw [show decide ((s.size : Int) < (s.size : Int)) = false from decide_eq_false (by omega)]
        rfl
      rw [loopO_done he]
      rw [show s.data.toList.drop s.size = [] from List.drop_eq_nil_of_le (Nat.le_of_eq (size_list s))]
      rfl
/-- The document's Utf8 is the library's ValidString. -/
theorem refUtf8_eq {s : ByteArray} (hs : s.size < 4611686018427387904) : tocsinref01_Utf8 s = some (validD s.data.toList) := by
  unfold tocsinref01_Utf8
  have := utf8_loop hs s.size 0 (by omega) (by omega)
  rw [show ((0 : Nat) : Int) = 0 from rfl, List.drop_zero] at this
  rw [this]
  cases validD s.data.toList <;> rfl
theorem valid_eq {s : ByteArray} (hs : s.size < 4611686018427387904) : utf8_ValidString s = some (validD s.data.toList) := by
  unfold utf8_ValidString
  rw [if_pos (by omega)]
end Go.Proofs.YtnlkfajnaelnnaaGreatDoor

/- Plain laws: names, values, label sets: the program's are the document's. -/
set_option linter.unusedVariables false
set_option linter.unusedSimpArgs false
set_option maxRecDepth 100000
namespace Go.Proofs.YtnlkfajnaelnnaaGreatDoor
open Go.GB Go.Lib
theorem ix_bytes {s : ByteArray} {i : Nat} (h : i < s.size) : ix (bytesOf s) (i : Int) = some ((bat s i : Nat) : Int) := by
  rw [ix_nat]
  unfold bytesOf bat
  have : i < s.data.toList.length := by rw [size_list]; exact h
  rw [List.getElem?_map, List.getElem?_eq_getElem this, List.getD_eq_getElem?_getD, List.getElem?_eq_getElem this]
  rfl
noncomputable def namedB (s : ByteArray) (most : Nat) (colon : Bool) : Bool := decide (s.size ≠ 0) && (decide (s.size ≤ most) && (!labels_digit (bat s 0) && (List.range s.size).all fun i => labels_letter (bat s i) || (labels_digit (bat s i) || (colon && ((bat s i : Nat) : Int) == 58))))
theorem named_eq (s : ByteArray) {most : Nat} (hm : most ≤ 2147483648) (colon : Bool) : labels_named s (most : Int) colon = some (namedB s most colon) := by
  unfold labels_named namedB
  rw [nil_size]
  by_cases h0 : s.size = 0
  · simp [h0]
  · by_cases h1 : s.size ≤ most
    · have e1 : decide ((s.size : Int) > (most : Int)) = false := decide_eq_false (by omega)
      have e2 : bx s 0 = some ((bat s 0 : Nat) : Int) := bx_bat (i := 0) (by omega)
      simp only [h0, decide_false, cond_false, e1, e2, Option.bind_some, not_false_eq_true, ne_eq, decide_true, h1, Bool.true_and]
      cases hd : labels_digit ((bat s 0 : Nat) : Int) with
      | true => simp
      | false =>
        have e3 : sb s = some (bytesOf s) := by unfold sb maxLen'; rw [if_pos (by omega)]
        simp only [cond_false, e3, Option.bind_some, Bool.not_false, Bool.true_and]
        rw [up_all (n := s.size) (fun i => labels_letter (bat s i) || (labels_digit (bat s i) || (colon && ((bat s i : Nat) : Int) == 58))) (fun i hi => ?_) ?_]
        · simp only [Option.bind_some]
          cases (List.range s.size).all fun i => labels_letter (bat s i) || (labels_digit (bat s i) || (colon && ((bat s i : Nat) : Int) == 58)) <;> rfl
        · unfold labels_named_l33
          rw [show decide ((s.size : Int) < ((bytesOf s).length : Int)) = false from decide_eq_false (by rw [bytesOf_length]; omega)]
          rfl
        · unfold labels_named_l33
          rw [show decide ((i : Int) < ((bytesOf s).length : Int)) = true from decide_eq_true (by rw [bytesOf_length]; omega)]
          simp only [cond_true, ix_bytes hi, Option.bind_some, wrap_up (show i < 4294967296 by omega)]
          cases labels_letter ((bat s i : Nat) : Int) <;> cases labels_digit ((bat s i : Nat) : Int) <;> cases (colon && ((bat s i : Nat) : Int) == 58) <;> rfl
    · have e1 : decide ((s.size : Int) > (most : Int)) = true := decide_eq_true (by omega)
      simp only [h0, h1, decide_false, decide_true, cond_false, e1, cond_true, Option.bind_some, ne_eq, not_false_eq_true, Bool.false_and, Bool.and_false]
theorem Name_eq (s : ByteArray) : labels_Name s = some (namedB s 64 false) := by
  unfold labels_Name
  rw [show (64 : Int) = ((64 : Nat) : Int) from rfl, named_eq s (by omega) false]
  rfl
theorem let_not_dig (c : Int) : labels_letter c = true → labels_digit c = false := by
  unfold labels_letter labels_digit
  intro h
  rw [Bool.eq_false_iff]
  simp only [Bool.or_eq_true, Bool.and_eq_true, decide_eq_true_eq, beq_iff_eq] at h
  simp only [ne_eq, Bool.and_eq_true, decide_eq_true_eq]
  omega
theorem refName_eq (s : ByteArray) : tocsinref04_Name s = some (namedB s 64 false) := by
  unfold tocsinref04_Name namedB
  rw [nil_size]
  by_cases h0 : s.size = 0
  · simp [h0]
  · by_cases h1 : s.size ≤ 64
    · have e1 : decide ((s.size : Int) > 64) = false := decide_eq_false (by omega)
      simp only [h0, decide_false, e1, Bool.or_self, cond_false, not_false_eq_true, ne_eq, decide_true, h1, Bool.true_and]
      have hq : (!labels_digit ((bat s 0 : Nat) : Int) && (List.range s.size).all fun i => labels_letter (bat s i) || (labels_digit (bat s i) || (false && ((bat s i : Nat) : Int) == 58))) = (List.range s.size).all fun i => labels_letter (bat s i) || (decide (i ≠ 0) && labels_digit (bat s i)) := by
        rw [Bool.eq_iff_iff, Bool.and_eq_true, List.all_eq_true, List.all_eq_true]
        constructor
        · rintro ⟨h2, h3⟩ i hi
          have := h3 i hi
          by_cases hi0 : i = 0
          · subst hi0
            simp only [Bool.not_eq_true'] at h2
            simpa [h2] using this
          · simpa [hi0] using this
        · intro h3
          refine ⟨?_, fun i hi => ?_⟩
          · have := h3 0 (List.mem_range.2 (by omega))
            simp only [ne_eq, not_true_eq_false, decide_false, Bool.false_and, Bool.or_false] at this
            rw [let_not_dig _ this]; rfl
          · have := h3 i hi
            simp only [Bool.or_eq_true, Bool.and_eq_true] at this ⊢
            rcases this with h | h
            · exact .inl h
            · exact .inr (.inl h.2)
      rw [hq, up_all (n := s.size) (fun i => labels_letter (bat s i) || (decide (i ≠ 0) && labels_digit (bat s i))) (fun i hi => ?_) ?_]
      · simp only [Option.bind_some]
        cases (List.range s.size).all fun i => labels_letter (bat s i) || (decide (i ≠ 0) && labels_digit (bat s i)) <;> rfl
      · unfold tocsinref04_Name_l24
        rw [show decide ((s.size : Int) < (s.size : Int)) = false from decide_eq_false (by omega)]
        rfl
      · unfold tocsinref04_Name_l24
        rw [show decide ((i : Int) < (s.size : Int)) = true from decide_eq_true (by omega)]
        have el : ∀ c, tocsinref04_letter c = labels_letter c := fun _ => rfl
        have ed : ∀ c, tocsinref04_digit c = labels_digit c := fun _ => rfl
        simp only [cond_true, bx_bat hi, Option.bind_some, wrap_up (show i < 4294967296 by omega), el, ed]
        by_cases hi0 : i = 0
        · subst hi0
          cases labels_letter ((bat s 0 : Nat) : Int) <;> rfl
        · have e2 : ((i : Int) == 0) = false := by rw [beq_eq_false_iff_ne]; omega
          simp only [e2, hi0, cond_false]
          cases labels_letter ((bat s i : Nat) : Int) <;> cases labels_digit ((bat s i : Nat) : Int) <;> simp [hi0]
    · have e1 : decide ((s.size : Int) > 64) = true := decide_eq_true (by omega)
      simp only [e1, h1, Bool.or_true, cond_true, decide_false, Bool.false_and, Bool.and_false]
noncomputable def valueE (s : ByteArray) : Int := if s.size = 0 then 41 else if s.size > 256 then 4 else if validD s.data.toList then 0 else 12
theorem value_eq (s : ByteArray) : labels_value s = some (valueE s) := by
  unfold labels_value valueE
  rw [nil_size]
  by_cases h0 : s.size = 0
  · simp [h0]
  · by_cases h1 : s.size > 256
    · simp [h0, h1, show decide ((s.size : Int) > 256) = true from decide_eq_true (by omega)]
    · have e1 : decide ((s.size : Int) > 256) = false := decide_eq_false (by omega)
      simp only [h0, decide_false, cond_false, e1, valid_eq (show s.size < 4611686018427387904 by omega), Option.bind_some, if_false, h1]
      cases validD s.data.toList <;> rfl
noncomputable def oneE (x : S49) : Int := if namedB x.f0 64 false then valueE x.f1 else 40
theorem refOne_eq (x : S49) : tocsinref04_one x = some (oneE x) := by
  unfold tocsinref04_one oneE
  rw [refName_eq, nil_size]
  simp only [Option.bind_some]
  cases namedB x.f0 64 false with
  | false => rfl
  | true =>
    simp only [Bool.not_true, cond_false, if_true]
    unfold valueE
    by_cases h0 : x.f1.size = 0
    · simp [h0]
    · by_cases h1 : x.f1.size > 256
      · simp [h0, h1, show decide ((x.f1.size : Int) > 256) = true from decide_eq_true (by omega)]
      · have e1 : decide ((x.f1.size : Int) > 256) = false := decide_eq_false (by omega)
        simp only [h0, decide_false, cond_false, e1, refUtf8_eq (show x.f1.size < 4611686018427387904 by omega), Option.bind_some, if_false, h1]
        cases validD x.f1.data.toList <;> rfl
/-- The first fault of a label set, at a place. -/
noncomputable def faultAt (l : List S49) (i : Nat) : Option (Int × Int) := match l[i]? with
  | none => none
  | some x => if oneE x ≠ 0 then some (oneE x, (i : Int)) else if i = 0 then none else match l[i - 1]? with
    | none => none
    | some y => if cmpS y.f0 x.f0 = -1 then none else some (3, (i : Int))
noncomputable def rightE (l : List S49) : Int × Int := if l.length > 16 then (8, 0) else ((List.range l.length).findSome? (faultAt l)).getD (0, 0)
theorem oneE_ne {x : S49} (h : namedB x.f0 64 false = false) : oneE x = 40 := by unfold oneE; rw [h]; rfl
theorem ix_prev {α : Type} {l : List α} {i : Nat} (h0 : 0 < i) (hi : i < 4294967296) : ix l (IntKind.wrap .i64 ((i : Int) - 1)) = l[i - 1]? := by
  rw [wrap64 (by omega) (by omega), show (i : Int) - 1 = ((i - 1 : Nat) : Int) by omega, ix_nat]
theorem Right_eq (l : List S49) : labels_Right l = some (rightE l) := by
  unfold labels_Right rightE
  by_cases hl : l.length > 16
  · simp [hl, show decide ((l.length : Int) > 16) = true from decide_eq_true (by omega)]
  · rw [show decide ((l.length : Int) > 16) = false from decide_eq_false (by omega), if_neg hl]
    simp only [cond_false]
    rw [up_find (n := l.length) (faultAt l) (fun i hi => ?_) ?_]
    · simp only [Option.bind_some]
      cases (List.range l.length).findSome? (faultAt l) <;> rfl
    · unfold labels_Right_l18
      rw [show decide ((l.length : Int) < (l.length : Int)) = false from decide_eq_false (by omega)]
      rfl
    · unfold labels_Right_l18 faultAt
      have hx : l[i]? = some l[i] := List.getElem?_eq_getElem hi
      rw [show decide ((i : Int) < (l.length : Int)) = true from decide_eq_true (by omega)]
      simp only [cond_true, ix_nat, hx, Option.bind_some, Name_eq, value_eq]
      cases hn : namedB l[i].f0 64 false with
      | false => rw [oneE_ne hn]; rfl
      | true =>
        have ho : oneE l[i] = valueE l[i].f1 := by unfold oneE; rw [hn]; rfl
        rw [ho]
        simp only [Bool.not_true, cond_false]
        by_cases hv : valueE l[i].f1 = 0
        · have e2 : (valueE l[i].f1 != 0) = false := by simp [hv]
          rw [if_neg (by simpa using hv)]
          simp only [e2, cond_false, wrap_up (show i < 4294967296 by omega)]
          by_cases hi0 : i = 0
          · subst hi0
            simp
          · have e3 : decide ((i : Int) > 0) = true := decide_eq_true (by omega)
            have hy : l[i - 1]? = some (l[i - 1]'(by omega)) := List.getElem?_eq_getElem (by omega)
            rw [if_neg hi0]
            simp only [e3, cond_true, ix_prev (show 0 < i by omega) (show i < 4294967296 by omega), hy, Option.bind_some, less_eq, beq_eq]
            have hs := cmpS_swap (l[i - 1]'(by omega)).f0 l[i].f0
            have hr := cmpS_range (l[i - 1]'(by omega)).f0 l[i].f0
            by_cases hc : cmpS (l[i - 1]'(by omega)).f0 l[i].f0 = -1
            · rw [if_pos hc]
              have : (decide (cmpS l[i].f0 (l[i - 1]'(by omega)).f0 = -1) || decide (cmpS l[i].f0 (l[i - 1]'(by omega)).f0 = 0)) = false := by
                rw [Bool.eq_false_iff]; simp only [ne_eq, Bool.or_eq_true, decide_eq_true_eq]; omega
              rw [this]; rfl
            · rw [if_neg hc]
              have : (decide (cmpS l[i].f0 (l[i - 1]'(by omega)).f0 = -1) || decide (cmpS l[i].f0 (l[i - 1]'(by omega)).f0 = 0)) = true := by
                simp only [Bool.or_eq_true, decide_eq_true_eq]; omega
              rw [this]; rfl
        · have e2 : (valueE l[i].f1 != 0) = true := by simpa using hv
          rw [if_pos hv]
          simp only [e2, cond_true]
theorem refRight_eq (l : List S49) : tocsinref04_Right l = some (rightE l) := by
  unfold tocsinref04_Right rightE
  by_cases hl : l.length > 16
  · simp [hl, show decide ((l.length : Int) > 16) = true from decide_eq_true (by omega)]
  · rw [show decide ((l.length : Int) > 16) = false from decide_eq_false (by omega), if_neg hl]
    simp only [cond_false]
    rw [up_find (n := l.length) (faultAt l) (fun i hi => ?_) ?_]
    · simp only [Option.bind_some]
      cases (List.range l.length).findSome? (faultAt l) <;> rfl
    · unfold tocsinref04_Right_l18
      rw [show decide ((l.length : Int) < (l.length : Int)) = false from decide_eq_false (by omega)]
      rfl
    · unfold tocsinref04_Right_l18 faultAt
      have hx : l[i]? = some l[i] := List.getElem?_eq_getElem hi
      rw [show decide ((i : Int) < (l.length : Int)) = true from decide_eq_true (by omega)]
      simp only [cond_true, ix_nat, hx, Option.bind_some, refOne_eq]
      by_cases hv : oneE l[i] = 0
      · have e2 : (oneE l[i] != 0) = false := by simp [hv]
        rw [if_neg (by simpa using hv)]
        simp only [e2, cond_false, wrap_up (show i < 4294967296 by omega)]
        by_cases hi0 : i = 0
        · subst hi0
          simp
        · have e3 : decide ((i : Int) > 0) = true := decide_eq_true (by omega)
          have hy : l[i - 1]? = some (l[i - 1]'(by omega)) := List.getElem?_eq_getElem (by omega)
          rw [if_neg hi0]
          simp only [e3, cond_true, ix_prev (show 0 < i by omega) (show i < 4294967296 by omega), hy, Option.bind_some, less_eq]
          by_cases hc : cmpS (l[i - 1]'(by omega)).f0 l[i].f0 = -1
          · rw [if_pos hc, decide_eq_true hc]; rfl
          · rw [if_neg hc, decide_eq_false hc]; rfl
      · have e2 : (oneE l[i] != 0) = true := by simpa using hv
        rw [if_pos hv]
        simp only [e2, cond_true]
end Go.Proofs.YtnlkfajnaelnnaaGreatDoor

/- Plain laws: what a right label set is made of. -/
set_option linter.unusedVariables false
set_option linter.unusedSimpArgs false
set_option maxRecDepth 100000
namespace Go.Proofs.YtnlkfajnaelnnaaGreatDoor
open Go.GB Go.Lib
theorem faultAt_ne {l : List S49} {i : Nat} {v : Int × Int} (h : faultAt l i = some v) : v.1 ≠ 0 := by
  unfold faultAt at h
  split at h
  · cases h
  · rename_i x _
    by_cases h1 : oneE x ≠ 0
    · rw [if_pos h1] at h; cases h; exact h1
    · rw [if_neg h1] at h
      split at h
      · cases h
      · split at h
        · cases h
        · split at h
          · cases h
          · cases h; show (3 : Int) ≠ 0; decide
theorem right_none {l : List S49} (h : (rightE l).1 = 0) : l.length ≤ 16 ∧ ∀ i, i < l.length → faultAt l i = none := by
  unfold rightE at h
  split at h
  · cases h
  · refine ⟨by omega, fun i hi => ?_⟩
    cases hf : (List.range l.length).findSome? (faultAt l) with
    | some v =>
      rw [hf] at h
      obtain ⟨j, _, hj⟩ := List.exists_of_findSome?_eq_some hf
      exact absurd h (faultAt_ne hj)
    | none => rw [List.findSome?_eq_none_iff] at hf; exact hf i (List.mem_range.2 hi)
theorem one_parts {x : S49} (h : oneE x = 0) : namedB x.f0 64 false = true ∧ x.f1.size ≠ 0 ∧ x.f1.size ≤ 256 ∧ validD x.f1.data.toList = true := by
  unfold oneE at h
  cases hn : namedB x.f0 64 false with
  | false => rw [hn] at h; cases h
  | true =>
    rw [hn] at h
    simp only [if_true] at h
    unfold valueE at h
    by_cases h0 : x.f1.size = 0
    · rw [if_pos h0] at h; cases h
    · rw [if_neg h0] at h
      by_cases h1 : x.f1.size > 256
      · rw [if_pos h1] at h; cases h
      · rw [if_neg h1] at h
        cases hv : validD x.f1.data.toList with
        | false => rw [hv] at h; cases h
        | true => exact ⟨rfl, h0, by omega, rfl⟩
theorem named_valid {s : ByteArray} {most : Nat} {c : Bool} (h : namedB s most c = true) : s.size ≤ most ∧ s.size ≠ 0 ∧ validD s.data.toList = true := by
  unfold namedB at h
  simp only [Bool.and_eq_true, decide_eq_true_eq, List.all_eq_true, Bool.not_eq_true'] at h
  obtain ⟨h0, h1, _, h2⟩ := h
  refine ⟨h1, h0, ?_⟩
  have := validD_ascii s.data.toList.length s.data.toList (fun b hb => by
    rw [List.take_length] at hb
    obtain ⟨i, hi, rfl⟩ := List.getElem_of_mem hb
    have h3 := h2 i (List.mem_range.2 (by rw [← size_list]; exact hi))
    have e : bat s i = (s.data.toList[i]).toNat := by
      unfold bat
      rw [List.getD_eq_getElem?_getD, List.getElem?_eq_getElem hi]; rfl
    rw [e] at h3
    unfold labels_letter labels_digit at h3
    simp only [Bool.or_eq_true, Bool.and_eq_true, decide_eq_true_eq, beq_iff_eq] at h3
    omega)
  rw [this, List.drop_length]
  rfl
theorem right_parts {l : List S49} (h : (rightE l).1 = 0) : l.length ≤ 16 ∧ ∀ x ∈ l, oneE x = 0 := by
  obtain ⟨h1, h2⟩ := right_none h
  refine ⟨h1, fun x hx => ?_⟩
  obtain ⟨i, hi, rfl⟩ := List.getElem_of_mem hx
  have := h2 i hi
  unfold faultAt at this
  rw [List.getElem?_eq_getElem hi] at this
  simp only at this
  by_cases h0 : oneE l[i] ≠ 0
  · rw [if_pos h0] at this; cases this
  · simpa using h0
end Go.Proofs.YtnlkfajnaelnnaaGreatDoor

set_option linter.unusedVariables false
namespace Go.GB
/-! bytes -/
/-- how many bytes of a kind stand ahead -/
def runL (p : Nat → Bool) (l : List UInt8) : Nat := (l.takeWhile fun c => p c.toNat).length
/-- the byte at a place; 0 behind the end -/
def gB (l : List UInt8) (i : Nat) : Nat := (l.getD i 0).toNat
theorem gB_drop (l : List UInt8) (a i : Nat) : gB (l.drop a) i = gB l (a + i) := by simp [gB, List.getD, List.getElem?_drop]
theorem runL_le (p : Nat → Bool) (l : List UInt8) : runL p l ≤ l.length := by
  unfold runL; exact (List.takeWhile_sublist _).length_le
theorem runL_cons (p : Nat → Bool) (c : UInt8) (l : List UInt8) : runL p (c :: l) = if p c.toNat then runL p l + 1 else 0 := by
  unfold runL; rw [List.takeWhile_cons]; split <;> simp
theorem runL_end {p : Nat → Bool} {l : List UInt8} (h : runL p l < l.length) : p (gB l (runL p l)) = false := by
  induction l with
  | nil => simp at h
  | cons c l ih =>
    rw [runL_cons] at h ⊢
    split
    · rename_i hc
      rw [if_pos hc] at h
      have := ih (by simpa using h)
      simpa [gB] using this
    · rename_i hc; simpa [gB] using hc
theorem runL_step {p : Nat → Bool} {l : List UInt8} {i : Nat} (hi : i < l.length) : runL p (l.drop i) = if p (gB l i) then runL p (l.drop (i + 1)) + 1 else 0 := by
  rw [List.drop_eq_getElem_cons hi, runL_cons]
  simp [gB, List.getD, List.getElem?_eq_getElem hi]
theorem runL_out {p : Nat → Bool} {l : List UInt8} {i : Nat} (hi : l.length ≤ i) : runL p (l.drop i) = 0 := by rw [List.drop_eq_nil_of_le hi]; rfl
/-! numbers -/
end Go.GB

/- Plain laws: a label set's text as it is read, over lists of bytes and places. -/
set_option linter.unusedVariables false
set_option linter.unusedSimpArgs false
set_option maxRecDepth 100000
namespace Go.Proofs.YtnlkfajnaelnnaaGreatDoor
open Go.GB Go.Lib
/-! ### bytes -/
abbrev tl (s : ByteArray) : List UInt8 := s.data.toList
theorem tl_len (s : ByteArray) : (tl s).length = s.size := size_list s
theorem ba_ext {a b : ByteArray} (h : tl a = tl b) : a = b := by
  cases a with | mk a => cases b with | mk b => exact congrArg _ (Array.toList_inj.1 h)
theorem gB_out {l : List UInt8} {i : Nat} (h : l.length ≤ i) : gB l i = 0 := by unfold gB; rw [List.getD_eq_getElem?_getD, List.getElem?_eq_none h]; rfl
theorem gB_in {l : List UInt8} {i : Nat} (h : 0 < gB l i) : i < l.length := by
  rcases Nat.lt_or_ge i l.length with h1 | h1
  · exact h1
  · rw [gB_out h1] at h; omega
theorem bx_tl {s : ByteArray} {i : Nat} (h : i < s.size) : bx s (i : Int) = some ((gB (tl s) i : Nat) : Int) := bx_at h
theorem tl_extract (s : ByteArray) (a b : Nat) : tl (s.extract a b) = ((tl s).drop a).take (b - a) := by
  show (s.extract a b).data.toList = _
  rw [ByteArray.data_extract, Array.toList_extract, List.extract_eq_take_drop]
theorem sx_tl {s : ByteArray} {a b : Nat} (h : a ≤ b) (hb : b ≤ s.size) : sx s (a : Int) (b : Int) = some (s.extract a b) := by
  unfold sx
  rw [if_pos ⟨by omega, by omega, by omega⟩]; rfl
theorem gB_head {l r : List UInt8} {i : Nat} {c : UInt8} (h : l.drop i = c :: r) : gB l i = c.toNat := by
  have := gB_drop l i 0
  rw [h, Nat.add_zero] at this
  exact this.symm
theorem drop_more {l r : List UInt8} {i : Nat} (p : List UInt8) (h : l.drop i = p ++ r) : l.drop (i + p.length) = r := by
  rw [← List.drop_drop, h, List.drop_left]
theorem drop_one {l r : List UInt8} {i : Nat} {c : UInt8} (h : l.drop i = c :: r) : l.drop (i + 1) = r := drop_more [c] h
/-! ### the parts of a text -/
def blN (c : Nat) : Bool := decide (c = 32) || decide (c = 9)
def blk (l : List UInt8) (i : Nat) : Nat := i + runL blN (l.drop i)
noncomputable def namN (colon : Bool) (c : Nat) : Bool := labels_letter (c : Int) || (labels_digit (c : Int) || (colon && ((c : Int) == 58)))
noncomputable def runN (l : List UInt8) (colon : Bool) (i : Nat) : Nat := i + runL (namN colon) (l.drop i)
/-- what stands in quotes, behind the first one: the place of the first fault, or the text and the place behind it -/
def valL : List UInt8 → Nat → List UInt8 → Nat ⊕ (List UInt8 × Nat)
  | [], i, _ => .inl i
  | [c], i, acc => if c.toNat = 34 then .inr (acc, i + 1) else .inl (i + 1)
  | c :: d :: r, i, acc =>
    if c.toNat = 34 then .inr (acc, i + 1)
    else if c.toNat ≠ 92 then valL (d :: r) (i + 1) (acc ++ [c])
    else if d.toNat = 110 then valL r (i + 2) (acc ++ [10])
    else if d.toNat = 92 ∨ d.toNat = 34 then valL r (i + 2) (acc ++ [d])
    else .inl i
def valP (l : List UInt8) (i : Nat) : Nat ⊕ (List UInt8 × Nat) := if gB l (blk l i) = 34 then valL (l.drop (blk l i + 1)) (blk l i + 1) [] else .inl (blk l i)
noncomputable def itemP (s : ByteArray) (i : Nat) : Nat ⊕ (S49 × Nat) :=
  if namedB (s.extract i (runN (tl s) false i)) 64 false = true then
    (if gB (tl s) (blk (tl s) (runN (tl s) false i)) = 61 then
      (match valP (tl s) (blk (tl s) (runN (tl s) false i) + 1) with
      | .inl p => .inl p
      | .inr v => .inr (⟨s.extract i (runN (tl s) false i), ⟨v.1.toArray⟩⟩, v.2))
    else .inl (blk (tl s) (runN (tl s) false i)))
  else .inl i
noncomputable def setL : Nat → ByteArray → Nat → List S49 → Nat ⊕ (List S49 × Nat)
  | 0, _, i, _ => .inl i
  | f + 1, s, i, acc =>
    if gB (tl s) (blk (tl s) i) = 125 then .inr (acc, blk (tl s) i + 1)
    else match itemP s (blk (tl s) i) with
      | .inl p => .inl p
      | .inr (x, p) =>
        if gB (tl s) (blk (tl s) p) = 44 then setL f s (blk (tl s) p + 1) (acc ++ [x])
        else if gB (tl s) (blk (tl s) p) = 125 then .inr (acc ++ [x], blk (tl s) p + 1)
        else .inl (blk (tl s) p)
/-- behind a label -/
noncomputable def tailL (f : Nat) (s : ByteArray) (p : Nat) (acc : List S49) : Nat ⊕ (List S49 × Nat) :=
  if gB (tl s) (blk (tl s) p) = 44 then setL f s (blk (tl s) p + 1) acc
  else if gB (tl s) (blk (tl s) p) = 125 then .inr (acc, blk (tl s) p + 1)
  else .inl (blk (tl s) p)
def finL (s : ByteArray) (p : Nat) (l : List S49) : Nat ⊕ List S49 := if blk (tl s) p < s.size then .inl (blk (tl s) p) else .inr l
noncomputable def bracesL (s : ByteArray) (i : Nat) (l : List S49) : Nat ⊕ List S49 := match setL (s.size + 1) s i [] with
  | .inl p => .inl p
  | .inr (x, p) => finL s p (l ++ x)
def metricT : ByteArray := ⟨#[95, 95, 110, 97, 109, 101, 95, 95]⟩
noncomputable def parseL (s : ByteArray) : Nat ⊕ List S49 :=
  if gB (tl s) (blk (tl s) 0) = 123 then bracesL s (blk (tl s) 0 + 1) []
  else if namedB (s.extract (blk (tl s) 0) (runN (tl s) true (blk (tl s) 0))) 256 true = true then
    (if gB (tl s) (blk (tl s) (runN (tl s) true (blk (tl s) 0))) = 123 then bracesL s (blk (tl s) (runN (tl s) true (blk (tl s) 0)) + 1) [⟨metricT, s.extract (blk (tl s) 0) (runN (tl s) true (blk (tl s) 0))⟩]
    else finL s (runN (tl s) true (blk (tl s) 0)) [⟨metricT, s.extract (blk (tl s) 0) (runN (tl s) true (blk (tl s) 0))⟩])
  else .inl (blk (tl s) 0)
/-! ### places -/
theorem blk_le {l : List UInt8} {i : Nat} (h : i ≤ l.length) : i ≤ blk l i ∧ blk l i ≤ l.length := by
  have := runL_le blN (l.drop i)
  rw [List.length_drop] at this
  unfold blk; omega
theorem runN_le {l : List UInt8} {c : Bool} {i : Nat} (h : i ≤ l.length) : i ≤ runN l c i ∧ runN l c i ≤ l.length := by
  have := runL_le (namN c) (l.drop i)
  rw [List.length_drop] at this
  unfold runN; omega
theorem blk_none {l : List UInt8} {i : Nat} (h : blN (gB l i) = false) : blk l i = i := by
  unfold blk
  rcases Nat.lt_or_ge i l.length with h1 | h1
  · rw [runL_step h1, h]; simp
  · rw [runL_out h1]; omega
theorem blk_end {l : List UInt8} (i : Nat) : blN (gB l (blk l i)) = false := by
  unfold blk
  rcases Nat.lt_or_ge (i + runL blN (l.drop i)) l.length with h1 | h1
  · rw [← gB_drop]; exact runL_end (by rw [List.length_drop]; omega)
  · rw [gB_out h1]; decide
theorem blk_blk (l : List UInt8) (i : Nat) : blk l (blk l i) = blk l i := blk_none (blk_end i)
theorem valL_le : ∀ (r : List UInt8) (i : Nat) (acc : List UInt8) {v : List UInt8 × Nat}, valL r i acc = .inr v → i < v.2 ∧ v.2 ≤ i + r.length
  | [], i, acc, v, h => by simp [valL] at h
  | [c], i, acc, v, h => by
    unfold valL at h
    split at h <;> cases h
    simp
  | c :: d :: r, i, acc, v, h => by
    unfold valL at h
    split at h
    · cases h; simp
    · split at h
      · have := valL_le (d :: r) _ _ h; simp at this ⊢; omega
      · split at h
        · have := valL_le r _ _ h; simp at this ⊢; omega
        · split at h
          · have := valL_le r _ _ h; simp at this ⊢; omega
          · cases h
theorem valP_le {l : List UInt8} {i : Nat} {v : List UInt8 × Nat} (hi : i ≤ l.length) (h : valP l i = .inr v) : i < v.2 ∧ v.2 ≤ l.length := by
  unfold valP at h
  split at h
  · rename_i h1
    have h2 := gB_in (l := l) (i := blk l i) (by omega)
    have h3 := valL_le _ _ _ h
    have h4 := blk_le hi
    rw [List.length_drop] at h3
    omega
  · cases h
theorem itemP_le {s : ByteArray} {i : Nat} {x : S49} {p : Nat} (hi : i ≤ s.size) (h : itemP s i = .inr (x, p)) : i < p ∧ p ≤ s.size := by
  unfold itemP at h
  rw [← tl_len] at hi ⊢
  have h1 := runN_le (c := false) hi
  have h2 := blk_le h1.2
  split at h
  · split at h
    · rename_i h3
      have h4 := gB_in (l := tl s) (i := blk (tl s) (runN (tl s) false i)) (by omega)
      split at h
      · cases h
      · rename_i v hv
        have := valP_le (by omega) hv
        cases h
        omega
    · cases h
  · cases h
end Go.Proofs.YtnlkfajnaelnnaaGreatDoor

/- Plain laws: a label set's text, there and back (lists of bytes). -/
set_option linter.unusedVariables false
set_option linter.unusedSimpArgs false
set_option maxRecDepth 100000
namespace Go.Proofs.YtnlkfajnaelnnaaGreatDoor
open Go.GB Go.Lib


def itemT (x : S49) : List UInt8 := tl x.f0 ++ 61 :: 34 :: (qBody (tl x.f1) ++ [34])
def bodyT : List S49 → List UInt8
  | [] => []
  | [x] => itemT x
  | x :: y :: r => itemT x ++ 44 :: bodyT (y :: r)
theorem namN_123 : namN true 123 = false := by unfold namN labels_letter labels_digit; decide +kernel
/-- what is printed -/
def printT (ahead : Option ByteArray) (rest : List S49) : List UInt8 := match ahead with
  | some v => if rest = [] then tl v else tl v ++ 123 :: (bodyT rest ++ [125])
  | none => 123 :: (bodyT rest ++ [125])
end Go.Proofs.YtnlkfajnaelnnaaGreatDoor

/- Plain laws: the program's reader reads as the lists say. -/
set_option linter.unusedVariables false
set_option linter.unusedSimpArgs false
set_option maxRecDepth 100000
namespace Go.GB
theorem wrapN {n : Nat} {z : Int} (h : z = (n : Int)) (hn : n < 9223372036854775808) : IntKind.wrap .i64 z = (n : Int) := by rw [wrap64 (by omega) (by omega), h]
/-- a loop that counts a run -/
theorem loop_run {body : Int → Option (Int ⊕ Int)} {l : List UInt8} {p : Nat → Bool}
    (h : ∀ k : Nat, k ≤ l.length → body (k : Int) = some (if k < l.length ∧ p (gB l k) = true then .inl ((k + 1 : Nat) : Int) else .inr (k : Int))) :
    ∀ d k : Nat, k + d = l.length → loopO body (k : Int) = some ((k + runL p (l.drop k) : Nat) : Int)
  | 0, k, hd => by
    have := h k (by omega)
    rw [if_neg (by omega)] at this
    rw [loopO_done this, runL_out (by omega), Nat.add_zero]
  | d + 1, k, hd => by
    have h1 := h k (by omega)
    rw [runL_step (by omega)]
    by_cases hp : p (gB l k) = true
    · rw [if_pos ⟨by omega, hp⟩] at h1
      rw [if_pos hp, loopO_step h1, loop_run h d (k + 1) (by omega)]
      congr 2; omega
    · rw [if_neg (fun h => hp h.2)] at h1
      rw [if_neg hp, loopO_done h1, Nat.add_zero]
end Go.GB
namespace Go.Proofs.YtnlkfajnaelnnaaGreatDoor
open Go.GB Go.Lib
/-! ### one byte -/
def bI (l : List UInt8) : List Int := l.map fun b => (b.toNat : Int)
theorem bI_len (l : List UInt8) : (bI l).length = l.length := by simp [bI]
theorem bI_add (l : List UInt8) (c : UInt8) : bI l ++ [(c.toNat : Int)] = bI (l ++ [c]) := by simp [bI]
theorem strO_bI (l : List UInt8) : strO (bI l) = some ⟨l.toArray⟩ := by
  unfold strO
  rw [if_pos (fun x hx => by obtain ⟨b, _, rfl⟩ := List.mem_map.1 hx; have := UInt8.toNat_lt b; omega)]
  congr 3
  unfold bI
  rw [List.map_map]
  conv => rhs; rw [← List.map_id l]
  refine List.map_congr_left fun b _ => ?_
  simp
theorem beqN {a k : Nat} : (((a : Nat) : Int) == ((k : Nat) : Int)) = decide (a = k) := by
  rw [Bool.eq_iff_iff, beq_iff_eq, decide_eq_true_eq]; omega
theorem blN_int {c : Nat} : (bif ((c : Int) == 32) then some true else some ((c : Int) == 9)) = some (blN c) := by
  have e1 : ((c : Int) == 32) = decide (c = 32) := beqN (k := 32)
  have e2 : ((c : Int) == 9) = decide (c = 9) := beqN (k := 9)
  rw [e1, e2]; unfold blN
  cases decide (c = 32) <;> rfl
theorem blanks_eq {s : ByteArray} {b : Int} {i : Nat} (hs : s.size < 4294967296) (hi : i ≤ s.size) : labels_reader_blanks ⟨s, (i : Int), b⟩ = some ⟨s, ((blk (tl s) i : Nat) : Int), b⟩ := by
  unfold labels_reader_blanks
  rw [loop_run (l := tl s) (p := blN) (fun k hk => ?_) (s.size - i) i (by rw [tl_len]; omega)]
  · rfl
  · rw [tl_len] at hk ⊢
    unfold labels_reader_blanks_l16
    by_cases h : k < s.size
    · rw [decide_eq_true (show ((k : Int) < (s.size : Int)) by omega)]
      simp only [cond_true, bx_tl h, Option.bind_some, blN_int, wrap_up (show k < 4294967296 by omega), h, true_and]
      cases blN (gB (tl s) k) <;> rfl
    · rw [decide_eq_false (show ¬((k : Int) < (s.size : Int)) by omega)]
      simp only [cond_false, Option.bind_some, h, false_and, if_false]
theorem fail_on {s : ByteArray} {i : Int} {p : Nat} : labels_reader_fail ⟨s, i, -1⟩ (p : Int) = some ⟨s, i, (p : Int)⟩ := rfl
theorem fail_off {s : ByteArray} {i : Int} {b : Nat} {p : Int} : labels_reader_fail ⟨s, i, (b : Int)⟩ p = some ⟨s, i, (b : Int)⟩ := by
  unfold labels_reader_fail
  rw [show decide (((b : Nat) : Int) < 0) = false from decide_eq_false (by omega)]; rfl
theorem off_ge (b : Nat) : decide (((b : Nat) : Int) ≥ 0) = true := decide_eq_true (by omega)
theorem next_off {s : ByteArray} {i : Int} {b : Nat} {c : Int} : labels_reader_next ⟨s, i, (b : Int)⟩ c = some (false, ⟨s, i, (b : Int)⟩) := by
  unfold labels_reader_next; rw [off_ge]; rfl
theorem want_off {s : ByteArray} {i : Int} {b : Nat} {c : Int} : labels_reader_want ⟨s, i, (b : Int)⟩ c = some ⟨s, i, (b : Int)⟩ := by
  unfold labels_reader_want; rw [next_off]
  simp only [Option.bind_some, Bool.not_false, cond_true, fail_off]
theorem value_off {s : ByteArray} {i : Int} {b : Nat} : labels_reader_value ⟨s, i, (b : Int)⟩ = some (⟨#[]⟩, ⟨s, i, (b : Int)⟩) := by
  unfold labels_reader_value; rw [want_off]
  simp only [Option.bind_some]
  rw [loopO_done (r := Sum.inl (s, i, (b : Int))) (by unfold labels_reader_value_l35; rw [show decide (((b : Nat) : Int) < 0) = false from decide_eq_false (by omega)]; rfl)]
  simp only [Option.bind_some, fail_off]
theorem next_on {s : ByteArray} {i c : Nat} (hs : s.size < 4294967296) (hi : i ≤ s.size) (hc : 0 < c) : labels_reader_next ⟨s, (i : Int), -1⟩ (c : Int) =
    some (if gB (tl s) (blk (tl s) i) = c then (true, ⟨s, ((blk (tl s) i + 1 : Nat) : Int), -1⟩) else (false, ⟨s, ((blk (tl s) i : Nat) : Int), -1⟩)) := by
  unfold labels_reader_next
  rw [show decide ((-1 : Int) ≥ 0) = false from rfl]
  simp only [cond_false, blanks_eq hs hi, Option.bind_some]
  by_cases h : blk (tl s) i < s.size
  · rw [show decide (((blk (tl s) i : Nat) : Int) ≥ (s.size : Int)) = false from decide_eq_false (by omega)]
    simp only [cond_false, bx_tl h, Option.bind_some, bne, beqN]
    by_cases hg : gB (tl s) (blk (tl s) i) = c
    · simp only [hg, decide_true, Bool.not_true, cond_false, if_true, wrap_up (show blk (tl s) i < 4294967296 by omega)]
    · simp only [hg, decide_false, Bool.not_false, cond_true, if_false]
  · rw [show decide (((blk (tl s) i : Nat) : Int) ≥ (s.size : Int)) = true from decide_eq_true (by omega)]
    rw [if_neg (fun e => by rw [gB_out (by rw [tl_len]; omega)] at e; omega)]
    rfl
theorem want_on {s : ByteArray} {i c : Nat} (hs : s.size < 4294967296) (hi : i ≤ s.size) (hc : 0 < c) : labels_reader_want ⟨s, (i : Int), -1⟩ (c : Int) =
    some (if gB (tl s) (blk (tl s) i) = c then ⟨s, ((blk (tl s) i + 1 : Nat) : Int), -1⟩ else ⟨s, ((blk (tl s) i : Nat) : Int), ((blk (tl s) i : Nat) : Int)⟩) := by
  unfold labels_reader_want
  rw [next_on hs hi hc]
  by_cases hg : gB (tl s) (blk (tl s) i) = c
  · simp only [hg, if_true, Option.bind_some, Bool.not_true, cond_false]
  · simp only [hg, if_false, Option.bind_some, Bool.not_false, cond_true, fail_on]
theorem nam_int {c : Nat} {col : Bool} : (bif labels_letter (c : Int) then some true else bif labels_digit (c : Int) then some true else bif col then some ((c : Int) == 58) else some false) = some (namN col c) := by
  unfold namN
  cases labels_letter (c : Int) <;> cases labels_digit (c : Int) <;> cases col <;> rfl
theorem name_loop {s : ByteArray} {b : Int} {i : Nat} {col : Bool} (hs : s.size < 4294967296) (hi : i ≤ s.size) : loopO (labels_reader_name_l22 col ⟨s, (i : Int), b⟩) (i : Int) = some ((runN (tl s) col i : Nat) : Int) := by
  rw [loop_run (l := tl s) (p := namN col) (fun k hk => ?_) (s.size - i) i (by rw [tl_len]; omega)]
  · rfl
  · rw [tl_len] at hk ⊢
    unfold labels_reader_name_l22
    by_cases h : k < s.size
    · rw [decide_eq_true (show ((k : Int) < (s.size : Int)) by omega)]
      simp only [cond_true, bx_tl h, Option.bind_some, nam_int, wrap_up (show k < 4294967296 by omega), h, true_and]
      cases namN col (gB (tl s) k) <;> rfl
    · rw [decide_eq_false (show ¬((k : Int) < (s.size : Int)) by omega)]
      simp only [cond_false, Option.bind_some, h, false_and, if_false]
theorem empty_run {s : ByteArray} {a b : Nat} (h : a ≤ b) (hb : b ≤ s.size) : ((s.extract a b).toList == (⟨#[]⟩ : ByteArray).toList) = decide (a = b) := by
  rw [nil_size]
  have : (s.extract a b).size = b - a := by rw [← tl_len, tl_extract, List.length_take, List.length_drop, tl_len]; omega
  rw [this, Bool.eq_iff_iff, decide_eq_true_eq, decide_eq_true_eq]; omega
/-- the fault of a name -/
theorem name_fault {s : ByteArray} {a b : Nat} (h : a ≤ b) (hb : b ≤ s.size) : (Option.bind (bif ((s.extract a b).toList == (⟨#[]⟩ : ByteArray).toList) then
          (Option.bind (labels_reader_fail (⟨s, (b : Int), -1⟩ : S89) (b : Int)) fun (y69 : S89) =>
            some (y69.f0, y69.f1, y69.f2))
          else
          (some (s, (b : Int), -1))) fun (j63 : ByteArray × Int × Int) =>
        Option.bind (labels_reader_fail (⟨j63.1, j63.2.1, j63.2.2⟩ : S89) (a : Int)) fun (y74 : S89) =>
        some (y74.f0, y74.f1, y74.f2)) = some (s, (b : Int), (a : Int)) := by
  rw [empty_run h hb]
  by_cases e : a = b
  · subst e; simp only [decide_true, cond_true, fail_on, Option.bind_some, fail_off]
  · simp only [e, decide_false, cond_false, fail_on, Option.bind_some]
theorem name_on {s : ByteArray} {i m : Nat} {col : Bool} (hs : s.size < 4294967296) (hi : i ≤ s.size) (hm : m = if col then 256 else 64)
    (hM : ∀ t : ByteArray, labels_Metric t = some (namedB t 256 true)) : labels_reader_name ⟨s, (i : Int), -1⟩ col =
    some (s.extract (blk (tl s) i) (runN (tl s) col (blk (tl s) i)), ⟨s, ((runN (tl s) col (blk (tl s) i) : Nat) : Int), if namedB (s.extract (blk (tl s) i) (runN (tl s) col (blk (tl s) i))) m col = true then -1 else ((blk (tl s) i : Nat) : Int)⟩) := by
  have hb := blk_le (l := tl s) (i := i) (by rw [tl_len]; exact hi)
  have hr := runN_le (l := tl s) (c := col) (i := blk (tl s) i) hb.2
  rw [tl_len] at hb hr
  have hj : ∀ x : ByteArray, (bif col then
      (Option.bind (labels_Metric x) fun (y48 : Bool) =>
        bif (!y48) then
        (some true)
        else
        (bif (!col) then
          (Option.bind (labels_Name x) fun (y52 : Bool) =>
            some (!y52))
          else
          (some false)))
      else
      (bif (!col) then
        (Option.bind (labels_Name x) fun (y55 : Bool) =>
          some (!y55))
        else
        (some false))) = some (!namedB x m col) := by
    intro x
    cases col with
    | true => rw [hm, hM]; simp only [Option.bind_some, cond_true, Bool.not_true, cond_false, if_true]; cases namedB x 256 true <;> rfl
    | false => rw [hm, Name_eq]; simp only [Option.bind_some, cond_true, Bool.not_false, cond_false, Bool.false_eq_true, if_false]
  unfold labels_reader_name
  rw [show decide ((-1 : Int) ≥ 0) = false from rfl]
  simp only [cond_false, blanks_eq hs hi, Option.bind_some, name_loop hs hb.2, sx_tl hr.1 hr.2, hj, name_fault hr.1 hr.2]
  cases namedB (s.extract (blk (tl s) i) (runN (tl s) col (blk (tl s) i))) m col with
  | true => simp only [Bool.not_true, cond_false, Option.bind_some, if_true]
  | false => simp only [Bool.not_false, cond_true, name_fault hr.1 hr.2, Option.bind_some, Bool.false_eq_true, if_false]
end Go.Proofs.YtnlkfajnaelnnaaGreatDoor

/- Plain laws: the program's reader: values, braces. -/
set_option linter.unusedVariables false
set_option linter.unusedSimpArgs false
set_option maxRecDepth 100000
namespace Go.Proofs.YtnlkfajnaelnnaaGreatDoor
open Go.GB Go.Lib
theorem write_eq {l : List UInt8} {c : UInt8} (h : l.length < 2147483648) : strings_Builder_WriteByte ⟨bI l⟩ (c.toNat : Int) = some ((), ⟨bI (l ++ [c])⟩) := by
  unfold strings_Builder_WriteByte strings_Builder_copyCheck
  rw [app_eq (by rw [bI_len]; simp; omega), bI_add]; rfl
theorem drop_in {s : ByteArray} {i : Nat} {c : UInt8} {r : List UInt8} (h : (tl s).drop i = c :: r) : i < s.size ∧ bx s (i : Int) = some (c.toNat : Int) := by
  have h1 : i < s.size := by
    have := congrArg List.length h
    rw [List.length_drop, tl_len] at this
    simp at this; omega
  exact ⟨h1, by rw [bx_tl h1, gB_head h]⟩
theorem lit {c k : Nat} {x : Int} (hx : x = (k : Int)) : ((c : Int) == x) = decide (c = k) := by rw [hx]; exact beqN
section
variable {s : ByteArray} {i : Nat} {acc : List UInt8}
theorem vl_stop {j : Int} {b : Nat} {l : List Int} : labels_reader_value_l35 (s, j, (b : Int), (), l) = some (.inr (.inl (s, j, (b : Int)))) := by
  unfold labels_reader_value_l35
  rw [show decide (((b : Nat) : Int) < 0) = false from decide_eq_false (by omega)]; rfl
theorem vl_end (h : (tl s).drop i = []) : labels_reader_value_l35 (s, (i : Int), -1, (), bI acc) = some (.inr (.inl (s, (i : Int), -1))) := by
  unfold labels_reader_value_l35
  have : s.size ≤ i := by have := List.drop_eq_nil_iff.1 h; rwa [tl_len] at this
  rw [show decide ((i : Int) < (s.size : Int)) = false from decide_eq_false (by omega)]; rfl
theorem vl_quote {c : UInt8} {r : List UInt8} (hs : s.size < 2147483648) (h : (tl s).drop i = c :: r) (hc : c.toNat = 34) : labels_reader_value_l35 (s, (i : Int), -1, (), bI acc) = some (.inr (.inr (⟨acc.toArray⟩, ⟨s, ((i + 1 : Nat) : Int), -1⟩))) := by
  obtain ⟨h1, h2⟩ := drop_in h
  unfold labels_reader_value_l35
  rw [show decide ((i : Int) < (s.size : Int)) = true from decide_eq_true (by omega)]
  simp only [show decide ((-1 : Int) < 0) = true from rfl, Bool.and_self, cond_true, h2, Option.bind_some, lit (k := 34) (x := 34) rfl, hc, decide_true, strings_Builder_String, strO_bI, wrap_up (show i < 4294967296 by omega)]
theorem vl_plain {c : UInt8} {r : List UInt8} (hs : s.size < 2147483648) (ha : acc.length ≤ i) (h : (tl s).drop i = c :: r) (hc : c.toNat ≠ 34) (hd : c.toNat ≠ 92) : labels_reader_value_l35 (s, (i : Int), -1, (), bI acc) = some (.inl (s, ((i + 1 : Nat) : Int), -1, (), bI (acc ++ [c]))) := by
  obtain ⟨h1, h2⟩ := drop_in h
  unfold labels_reader_value_l35
  rw [show decide ((i : Int) < (s.size : Int)) = true from decide_eq_true (by omega)]
  simp only [show decide ((-1 : Int) < 0) = true from rfl, Bool.and_self, cond_true, h2, Option.bind_some, lit (k := 34) (x := 34) rfl, lit (k := 92) (x := 92) rfl, bne, hc, hd, decide_false, cond_false, Bool.not_false, write_eq (show acc.length < 2147483648 by omega), wrap_up (show i < 4294967296 by omega)]
theorem vl_last {c : UInt8} (hs : s.size < 2147483648) (h : (tl s).drop i = [c]) (hd : c.toNat = 92) : labels_reader_value_l35 (s, (i : Int), -1, (), bI acc) = some (.inl (s, ((i + 1 : Nat) : Int), ((i + 1 : Nat) : Int), (), bI acc)) := by
  obtain ⟨h1, h2⟩ := drop_in h
  have h3 : i + 1 = s.size := by
    have := congrArg List.length h
    rw [List.length_drop, tl_len] at this
    simp at this; omega
  unfold labels_reader_value_l35
  rw [show decide ((i : Int) < (s.size : Int)) = true from decide_eq_true (by omega)]
  simp only [show decide ((-1 : Int) < 0) = true from rfl, Bool.and_self, cond_true, h2, Option.bind_some, lit (k := 34) (x := 34) rfl, lit (k := 92) (x := 92) rfl, bne, hd, decide_true, decide_false, cond_false, Bool.not_true, wrap_up (show i < 4294967296 by omega),
    show decide (((i + 1 : Nat) : Int) ≥ (s.size : Int)) = true from decide_eq_true (by omega), fail_on, show decide ((92 : Nat) = 34) = false from rfl]
theorem vl_esc {c d e : UInt8} {r : List UInt8} (hs : s.size < 2147483648) (ha : acc.length ≤ i) (h : (tl s).drop i = c :: d :: r) (hc : c.toNat = 92) (hd : (d.toNat = 110 ∧ e = 10) ∨ ((d.toNat = 92 ∨ d.toNat = 34) ∧ e = d)) :
    labels_reader_value_l35 (s, (i : Int), -1, (), bI acc) = some (.inl (s, ((i + 2 : Nat) : Int), -1, (), bI (acc ++ [e]))) := by
  obtain ⟨h1, h2⟩ := drop_in h
  obtain ⟨h3, h4⟩ := drop_in (drop_one h)
  unfold labels_reader_value_l35
  rw [show decide ((i : Int) < (s.size : Int)) = true from decide_eq_true (by omega)]
  simp only [show decide ((-1 : Int) < 0) = true from rfl, Bool.and_self, cond_true, h2, Option.bind_some, lit (k := 34) (x := 34) rfl, lit (k := 92) (x := 92) rfl, lit (k := 110) (x := 110) rfl, bne, hc, decide_true, decide_false, cond_false, Bool.not_true, wrap_up (show i < 4294967296 by omega), wrap_up (show i + 1 < 4294967296 by omega),
    show decide (((i + 1 : Nat) : Int) ≥ (s.size : Int)) = false from decide_eq_false (by omega), show decide ((92 : Nat) = 34) = false from rfl, h4]
  have hw := fun (c : UInt8) => write_eq (l := acc) (c := c) (show acc.length < 2147483648 by omega)
  rcases hd with ⟨hd, rfl⟩ | ⟨hd, rfl⟩
  · have := hw 10
    rw [show (((10 : UInt8).toNat : Nat) : Int) = 10 from rfl] at this
    simp only [hd, decide_true, cond_true, this, Option.bind_some, wrap_up (show i + 1 < 4294967296 by omega)]
  · have e1 : decide (e.toNat = 110) = false := decide_eq_false (by omega)
    have e2 : (decide (e.toNat = 92) || decide (e.toNat = 34)) = true := by rw [Bool.or_eq_true, decide_eq_true_eq, decide_eq_true_eq]; exact hd
    simp only [e1, e2, cond_true, cond_false, hw, Option.bind_some, wrap_up (show i + 1 < 4294967296 by omega)]
theorem vl_bad {c d : UInt8} {r : List UInt8} (hs : s.size < 2147483648) (h : (tl s).drop i = c :: d :: r) (hc : c.toNat = 92) (hd : d.toNat ≠ 110 ∧ d.toNat ≠ 92 ∧ d.toNat ≠ 34) :
    labels_reader_value_l35 (s, (i : Int), -1, (), bI acc) = some (.inl (s, ((i + 2 : Nat) : Int), (i : Int), (), bI acc)) := by
  obtain ⟨h1, h2⟩ := drop_in h
  obtain ⟨h3, h4⟩ := drop_in (drop_one h)
  unfold labels_reader_value_l35
  rw [show decide ((i : Int) < (s.size : Int)) = true from decide_eq_true (by omega)]
  simp only [show decide ((-1 : Int) < 0) = true from rfl, Bool.and_self, cond_true, h2, Option.bind_some, lit (k := 34) (x := 34) rfl, lit (k := 92) (x := 92) rfl, lit (k := 110) (x := 110) rfl, bne, hc, hd, decide_true, decide_false, cond_false, Bool.not_true, wrap_up (show i < 4294967296 by omega), wrap_up (show i + 1 < 4294967296 by omega),
    show decide (((i + 1 : Nat) : Int) ≥ (s.size : Int)) = false from decide_eq_false (by omega), show decide ((92 : Nat) = 34) = false from rfl, h4, Bool.or_self, wrapN (show (((i + 1 : Nat) : Int) - 1) = ((i : Nat) : Int) by omega) (by omega), fail_on]
end
/-- what a value comes to -/
def VP (s : ByteArray) (v : Nat ⊕ (List UInt8 × Nat)) (r : (ByteArray × Int × Int) ⊕ (ByteArray × S89)) : Prop := match v with
  | .inl p => ∃ j : Nat, j ≤ s.size ∧ ((r = .inl (s, (j : Int), (p : Int))) ∨ (r = .inl (s, (j : Int), -1) ∧ p = s.size))
  | .inr v => r = .inr (⟨v.1.toArray⟩, ⟨s, (v.2 : Int), -1⟩)
theorem vl_loop {s : ByteArray} (hs : s.size < 2147483648) : ∀ (rest : List UInt8) (i : Nat) (acc : List UInt8), (tl s).drop i = rest → i ≤ s.size → acc.length ≤ i →
    ∃ r, loopO labels_reader_value_l35 (s, (i : Int), -1, (), bI acc) = some r ∧ VP s (valL rest i acc) r
  | [], i, acc, h, hi, ha => by
    refine ⟨_, loopO_done (vl_end h), i, hi, .inr ⟨rfl, ?_⟩⟩
    have := List.drop_eq_nil_iff.1 h
    rw [tl_len] at this; omega
  | [c], i, acc, h, hi, ha => by
    have h1 := (drop_in h).1
    have h3 : i + 1 = s.size := by
      have := congrArg List.length h
      rw [List.length_drop, tl_len] at this
      simp at this; omega
    rw [valL]
    by_cases hc : c.toNat = 34
    · rw [if_pos hc]
      exact ⟨_, loopO_done (vl_quote hs h hc), rfl⟩
    · rw [if_neg hc]
      by_cases hd : c.toNat = 92
      · rw [loopO_step (vl_last hs h hd)]
        exact ⟨_, loopO_done vl_stop, i + 1, by omega, .inl rfl⟩
      · rw [loopO_step (vl_plain hs ha h hc hd)]
        exact ⟨_, loopO_done (vl_end (drop_one h)), i + 1, by omega, .inr ⟨rfl, h3⟩⟩
  | c :: d :: r, i, acc, h, hi, ha => by
    have h1 := (drop_in h).1
    have h2 := (drop_in (drop_one h)).1
    rw [valL]
    by_cases hc : c.toNat = 34
    · rw [if_pos hc]
      exact ⟨_, loopO_done (vl_quote hs h hc), rfl⟩
    · rw [if_neg hc]
      by_cases hd : c.toNat = 92
      · rw [if_neg (by omega)]
        by_cases k1 : d.toNat = 110
        · rw [if_pos k1, loopO_step (vl_esc hs ha h hd (.inl ⟨k1, rfl⟩))]
          exact vl_loop hs r (i + 2) _ (drop_one (drop_one h)) (by omega) (by simp; omega)
        · rw [if_neg k1]
          by_cases k2 : d.toNat = 92 ∨ d.toNat = 34
          · rw [if_pos k2, loopO_step (vl_esc hs ha h hd (.inr ⟨k2, rfl⟩))]
            exact vl_loop hs r (i + 2) _ (drop_one (drop_one h)) (by omega) (by simp; omega)
          · rw [if_neg k2, loopO_step (vl_bad hs h hd (by omega))]
            exact ⟨_, loopO_done vl_stop, i + 2, by omega, .inl rfl⟩
      · rw [if_pos hd, loopO_step (vl_plain hs ha h hc hd)]
        exact vl_loop hs (d :: r) (i + 1) _ (drop_one h) (by omega) (by simp; omega)
/-- values -/
theorem value_on {s : ByteArray} {i : Nat} (hs : s.size < 2147483648) (hi : i ≤ s.size) : match valP (tl s) i with
    | .inl p => ∃ j : Nat, j ≤ s.size ∧ labels_reader_value ⟨s, (i : Int), -1⟩ = some (⟨#[]⟩, ⟨s, (j : Int), (p : Int)⟩)
    | .inr v => labels_reader_value ⟨s, (i : Int), -1⟩ = some (⟨v.1.toArray⟩, ⟨s, (v.2 : Int), -1⟩) := by
  have hb := blk_le (l := tl s) (i := i) (by rw [tl_len]; exact hi)
  rw [tl_len] at hb
  have hw := want_on (c := 34) (show s.size < 4294967296 by omega) hi (by omega)
  rw [show ((34 : Nat) : Int) = 34 from rfl] at hw
  unfold valP labels_reader_value
  rw [hw]
  by_cases h1 : gB (tl s) (blk (tl s) i) = 34
  · have h2 := gB_in (l := tl s) (i := blk (tl s) i) (by omega)
    rw [tl_len] at h2
    obtain ⟨r, k1, k2⟩ := vl_loop hs _ (blk (tl s) i + 1) [] rfl (by omega) (by simp)
    rw [show bI [] = ([] : List Int) from rfl] at k1
    simp only [h1, if_true, Option.bind_some, k1]
    cases hv : valL ((tl s).drop (blk (tl s) i + 1)) (blk (tl s) i + 1) [] with
    | inl p =>
      rw [hv] at k2
      obtain ⟨j, hj, rfl | ⟨rfl, hp⟩⟩ := k2
      · exact ⟨j, hj, by simp only [fail_off, Option.bind_some]⟩
      · exact ⟨j, hj, by rw [hp]; simp only [fail_on, Option.bind_some]⟩
    | inr v =>
      rw [hv] at k2
      have k3 : r = _ := k2
      subst k3
      rfl
  · rw [if_neg h1]
    simp only [h1, if_false, Option.bind_some]
    refine ⟨blk (tl s) i, hb.2, ?_⟩
    rw [loopO_done vl_stop]
    simp only [Option.bind_some, fail_off]
/-- what a list in braces comes to -/
def DP (s : ByteArray) (v : Nat ⊕ (List S49 × Nat)) (r : ((List S49) × ByteArray × Int × Int) ⊕ ((List S49) × S89)) : Prop := match v with
  | .inl p => ∃ (m : List S49) (j : Nat), m.length ≤ j ∧ j ≤ s.size ∧ r = .inr (m, ⟨s, (j : Int), (p : Int)⟩)
  | .inr v => v.1.length ≤ v.2 ∧ v.2 ≤ s.size ∧ (r = .inl (v.1, s, (v.2 : Int), -1) ∨ r = .inr (v.1, ⟨s, (v.2 : Int), -1⟩))
theorem set_loop {s : ByteArray} (hs : s.size < 2147483648) (hM : ∀ t : ByteArray, labels_Metric t = some (namedB t 256 true)) : ∀ (f i : Nat) (acc : List S49), s.size < f + i → i ≤ s.size → acc.length ≤ i →
    ∃ r, loopO labels_reader_braces_l29 (s, (i : Int), -1, acc) = some r ∧ DP s (setL f s i acc) r
  | 0, i, acc, hf, hi, ha => absurd hf (by omega)
  | f + 1, i, acc, hf, hi, ha => by
    have hs4 : s.size < 4294967296 := by omega
    have hb := blk_le (l := tl s) (i := i) (by rw [tl_len]; exact hi)
    rw [tl_len] at hb
    have n1 := next_on (c := 125) hs4 hi (by omega)
    rw [show ((125 : Nat) : Int) = 125 from rfl] at n1
    rw [setL]
    by_cases h1 : gB (tl s) (blk (tl s) i) = 125
    · have h2 := gB_in (l := tl s) (i := blk (tl s) i) (by omega)
      rw [tl_len] at h2
      rw [if_pos h1]
      refine ⟨_, loopO_done (r := .inl (acc, s, ((blk (tl s) i + 1 : Nat) : Int), -1)) ?_, by simp only; omega, h2, .inl rfl⟩
      unfold labels_reader_braces_l29
      simp only [n1, h1, if_true, Option.bind_some, Bool.not_true, cond_false]
    · rw [if_neg h1]
      have hr := runN_le (l := tl s) (c := false) (i := blk (tl s) i) (by rw [tl_len]; exact hb.2)
      rw [tl_len] at hr
      have hb2 := blk_le (l := tl s) (i := runN (tl s) false (blk (tl s) i)) (by rw [tl_len]; exact hr.2)
      rw [tl_len] at hb2
      have m1 := name_on (m := 64) (col := false) hs4 hb.2 rfl hM
      rw [blk_blk] at m1
      unfold itemP
      by_cases h3 : namedB (s.extract (blk (tl s) i) (runN (tl s) false (blk (tl s) i))) 64 false = true
      · rw [if_pos h3]
        simp only [h3, if_true] at m1
        have w1 := want_on (c := 61) hs4 hr.2 (by omega)
        rw [show ((61 : Nat) : Int) = 61 from rfl] at w1
        by_cases h4 : gB (tl s) (blk (tl s) (runN (tl s) false (blk (tl s) i))) = 61
        · have h5 := gB_in (l := tl s) (i := blk (tl s) (runN (tl s) false (blk (tl s) i))) (by omega)
          rw [tl_len] at h5
          rw [if_pos h4]
          simp only [h4, if_true] at w1
          have v1 := value_on (i := blk (tl s) (runN (tl s) false (blk (tl s) i)) + 1) hs h5
          cases hv : valP (tl s) (blk (tl s) (runN (tl s) false (blk (tl s) i)) + 1) with
          | inl p =>
            rw [hv] at v1
            obtain ⟨j, hj, v1⟩ := v1
            refine ⟨_, loopO_done (r := .inr ([], ⟨s, (j : Int), (p : Int)⟩)) ?_, [], j, by simp, hj, rfl⟩
            unfold labels_reader_braces_l29
            simp only [n1, h1, if_false, Option.bind_some, Bool.not_false, cond_true, m1, w1, v1, off_ge]
          | inr v =>
            rw [hv] at v1
            simp only at v1
            have hp := valP_le (by rw [tl_len]; omega) hv
            rw [tl_len] at hp
            have hb3 := blk_le (l := tl s) (i := v.2) (by rw [tl_len]; exact hp.2)
            rw [tl_len] at hb3
            have n2 := next_on (c := 44) hs4 hp.2 (by omega)
            rw [show ((44 : Nat) : Int) = 44 from rfl] at n2
            have w2 := want_on (c := 125) hs4 hb3.2 (by omega)
            rw [show ((125 : Nat) : Int) = 125 from rfl, blk_blk] at w2
            have a1 : app acc [(⟨s.extract (blk (tl s) i) (runN (tl s) false (blk (tl s) i)), ⟨v.1.toArray⟩⟩ : S49)] = some (acc ++ [⟨s.extract (blk (tl s) i) (runN (tl s) false (blk (tl s) i)), ⟨v.1.toArray⟩⟩]) := app_eq (by simp; omega)
            simp only
            by_cases h6 : gB (tl s) (blk (tl s) v.2) = 44
            · have h7 := gB_in (l := tl s) (i := blk (tl s) v.2) (by omega)
              rw [tl_len] at h7
              rw [if_pos h6]
              simp only [h6, if_true] at n2
              rw [loopO_step (s' := (s, ((blk (tl s) v.2 + 1 : Nat) : Int), -1, acc ++ [⟨s.extract (blk (tl s) i) (runN (tl s) false (blk (tl s) i)), ⟨v.1.toArray⟩⟩])) (by
                unfold labels_reader_braces_l29
                simp only [n1, h1, if_false, Option.bind_some, Bool.not_false, cond_true, m1, w1, v1, show decide ((-1 : Int) ≥ 0) = false from rfl, cond_false, a1, n2, Bool.not_true])]
              exact set_loop hs hM f (blk (tl s) v.2 + 1) _ (by omega) (by omega) (by simp; omega)
            · rw [if_neg h6]
              simp only [h6, if_false] at n2
              by_cases h8 : gB (tl s) (blk (tl s) v.2) = 125
              · have h7 := gB_in (l := tl s) (i := blk (tl s) v.2) (by omega)
                rw [tl_len] at h7
                rw [if_pos h8]
                simp only [h8, if_true] at w2
                refine ⟨_, loopO_done (r := .inr (acc ++ [⟨s.extract (blk (tl s) i) (runN (tl s) false (blk (tl s) i)), ⟨v.1.toArray⟩⟩], ⟨s, ((blk (tl s) v.2 + 1 : Nat) : Int), -1⟩)) ?_, by simp; omega, by simp only; omega, .inr rfl⟩
                unfold labels_reader_braces_l29
                simp only [n1, h1, if_false, Option.bind_some, Bool.not_false, cond_true, m1, w1, v1, show decide ((-1 : Int) ≥ 0) = false from rfl, cond_false, a1, n2, w2]
              · rw [if_neg h8]
                simp only [h8, if_false] at w2
                refine ⟨_, loopO_done (r := .inr (acc ++ [⟨s.extract (blk (tl s) i) (runN (tl s) false (blk (tl s) i)), ⟨v.1.toArray⟩⟩], ⟨s, ((blk (tl s) v.2 : Nat) : Int), ((blk (tl s) v.2 : Nat) : Int)⟩)) ?_, _, blk (tl s) v.2, by simp; omega, hb3.2, rfl⟩
                unfold labels_reader_braces_l29
                simp only [n1, h1, if_false, Option.bind_some, Bool.not_false, cond_true, m1, w1, v1, show decide ((-1 : Int) ≥ 0) = false from rfl, cond_false, a1, n2, w2]
        · rw [if_neg h4]
          simp only [h4, if_false] at w1
          refine ⟨_, loopO_done (r := .inr ([], ⟨s, ((blk (tl s) (runN (tl s) false (blk (tl s) i)) : Nat) : Int), ((blk (tl s) (runN (tl s) false (blk (tl s) i)) : Nat) : Int)⟩)) ?_, [], _, by simp, hb2.2, rfl⟩
          unfold labels_reader_braces_l29
          simp only [n1, h1, if_false, Option.bind_some, Bool.not_false, cond_true, m1, w1, value_off, off_ge]
      · rw [if_neg h3]
        simp only [h3, if_false, Bool.false_eq_true] at m1
        refine ⟨_, loopO_done (r := .inr ([], ⟨s, ((runN (tl s) false (blk (tl s) i) : Nat) : Int), ((blk (tl s) i : Nat) : Int)⟩)) ?_, [], _, by simp, hr.2, rfl⟩
        unfold labels_reader_braces_l29
        simp only [n1, h1, if_false, Option.bind_some, Bool.not_false, cond_true, m1, want_off, value_off, off_ge]
end Go.Proofs.YtnlkfajnaelnnaaGreatDoor

/- Plain laws: the document's reader reads as the lists say: places, names, values. -/
set_option linter.unusedVariables false
set_option linter.unusedSimpArgs false
set_option maxRecDepth 100000
namespace Go.Proofs.YtnlkfajnaelnnaaGreatDoor
open Go.GB Go.Lib
theorem tBlanks {s : ByteArray} {b : Int} {i : Nat} (hs : s.size < 4294967296) (hi : i ≤ s.size) : tocsinref04_Text_Blanks ⟨s, (i : Int), b⟩ = some ⟨s, ((blk (tl s) i : Nat) : Int), b⟩ := by
  unfold tocsinref04_Text_Blanks
  rw [loop_run (l := tl s) (p := blN) (fun k hk => ?_) (s.size - i) i (by rw [tl_len]; omega)]
  · rfl
  · rw [tl_len] at hk ⊢
    unfold tocsinref04_Text_Blanks_l16
    by_cases h : k < s.size
    · rw [decide_eq_true (show ((k : Int) < (s.size : Int)) by omega)]
      simp only [cond_true, bx_tl h, Option.bind_some, blN_int, wrap_up (show k < 4294967296 by omega), h, true_and]
      cases blN (gB (tl s) k) <;> rfl
    · rw [decide_eq_false (show ¬((k : Int) < (s.size : Int)) by omega)]
      simp only [cond_false, Option.bind_some, h, false_and, if_false]
theorem tFail_on {s : ByteArray} {i : Int} {p : Nat} (hp : p < 4294967296) : tocsinref04_Text_Fail ⟨s, i, 0⟩ (p : Int) = some ⟨s, i, ((p + 1 : Nat) : Int)⟩ := by
  unfold tocsinref04_Text_Fail
  simp only [show ((0 : Int) == 0) = true from rfl, cond_true, Option.bind_some, wrap_up hp]
theorem ne_zero (p : Nat) : ((((p + 1 : Nat) : Int)) == 0) = false := by rw [beq_eq_false_iff_ne]; omega
theorem tFail_off {s : ByteArray} {i : Int} {b : Nat} {p : Int} : tocsinref04_Text_Fail ⟨s, i, ((b + 1 : Nat) : Int)⟩ p = some ⟨s, i, ((b + 1 : Nat) : Int)⟩ := by
  unfold tocsinref04_Text_Fail
  simp only [ne_zero, cond_false, Option.bind_some]
theorem tIs {s : ByteArray} {i c : Nat} {b : Int} (hs : s.size < 4294967296) (hi : i ≤ s.size) (hc : 0 < c) : tocsinref04_Text_Is ⟨s, (i : Int), b⟩ (c : Int) =
    some (if gB (tl s) (blk (tl s) i) = c then (true, ⟨s, ((blk (tl s) i + 1 : Nat) : Int), b⟩) else (false, ⟨s, ((blk (tl s) i : Nat) : Int), b⟩)) := by
  unfold tocsinref04_Text_Is
  simp only [tBlanks hs hi, Option.bind_some]
  by_cases h : blk (tl s) i < s.size
  · rw [show decide (((blk (tl s) i : Nat) : Int) < (s.size : Int)) = true from decide_eq_true (by omega)]
    simp only [cond_true, bx_tl h, Option.bind_some, beqN]
    by_cases hg : gB (tl s) (blk (tl s) i) = c
    · simp only [hg, decide_true, cond_true, if_true, wrap_up (show blk (tl s) i < 4294967296 by omega)]
    · simp only [hg, decide_false, cond_false, if_false]
  · rw [show decide (((blk (tl s) i : Nat) : Int) < (s.size : Int)) = false from decide_eq_false (by omega)]
    rw [if_neg (fun e => by rw [gB_out (by rw [tl_len]; omega)] at e; omega)]
    rfl
theorem tWant_on {s : ByteArray} {i c : Nat} (hs : s.size < 4294967200) (hi : i ≤ s.size) (hc : 0 < c) : tocsinref04_Text_Want ⟨s, (i : Int), 0⟩ (c : Int) =
    some (if gB (tl s) (blk (tl s) i) = c then ⟨s, ((blk (tl s) i + 1 : Nat) : Int), 0⟩ else ⟨s, ((blk (tl s) i : Nat) : Int), ((blk (tl s) i + 1 : Nat) : Int)⟩) := by
  have hb := blk_le (l := tl s) (i := i) (by rw [tl_len]; exact hi)
  rw [tl_len] at hb
  unfold tocsinref04_Text_Want
  simp only [show ((0 : Int) == 0) = true from rfl, cond_true, tIs (show s.size < 4294967296 by omega) hi hc, Option.bind_some]
  by_cases hg : gB (tl s) (blk (tl s) i) = c
  · simp only [hg, if_true, Option.bind_some, Bool.not_true, cond_false]
  · simp only [hg, if_false, Option.bind_some, Bool.not_false, cond_true, tFail_on (show blk (tl s) i < 4294967296 by omega)]
theorem tWant_off {s : ByteArray} {i : Int} {b : Nat} {c : Int} : tocsinref04_Text_Want ⟨s, i, ((b + 1 : Nat) : Int)⟩ c = some ⟨s, i, ((b + 1 : Nat) : Int)⟩ := by
  unfold tocsinref04_Text_Want
  simp only [ne_zero, cond_false, Option.bind_some]
theorem tLetter (c : Int) : tocsinref04_letter c = labels_letter c := rfl
theorem tDigit (c : Int) : tocsinref04_digit c = labels_digit c := rfl
theorem tRun {s : ByteArray} {b : Int} {i : Nat} {col : Bool} (hs : s.size < 4294967296) (hi : i ≤ s.size) : tocsinref04_Text_Run ⟨s, (i : Int), b⟩ col =
    some (s.extract (blk (tl s) i) (runN (tl s) col (blk (tl s) i)), ⟨s, ((runN (tl s) col (blk (tl s) i) : Nat) : Int), b⟩) := by
  have hb := blk_le (l := tl s) (i := i) (by rw [tl_len]; exact hi)
  have hr := runN_le (l := tl s) (c := col) (i := blk (tl s) i) hb.2
  rw [tl_len] at hb hr
  have hl : loopO (tocsinref04_Text_Run_l21 col ⟨s, ((blk (tl s) i : Nat) : Int), b⟩) ((blk (tl s) i : Nat) : Int) = some ((runN (tl s) col (blk (tl s) i) : Nat) : Int) := by
    rw [loop_run (l := tl s) (p := namN col) (fun k hk => ?_) (s.size - blk (tl s) i) (blk (tl s) i) (by rw [tl_len]; omega)]
    · rfl
    · rw [tl_len] at hk ⊢
      unfold tocsinref04_Text_Run_l21
      by_cases h : k < s.size
      · rw [decide_eq_true (show ((k : Int) < (s.size : Int)) by omega)]
        simp only [cond_true, bx_tl h, Option.bind_some, tLetter, tDigit, nam_int, wrap_up (show k < 4294967296 by omega), h, true_and]
        cases namN col (gB (tl s) k) <;> rfl
      · rw [decide_eq_false (show ¬((k : Int) < (s.size : Int)) by omega)]
        simp only [cond_false, Option.bind_some, h, false_and, if_false]
  unfold tocsinref04_Text_Run
  simp only [tBlanks hs hi, Option.bind_some, hl, sx_tl hr.1 hr.2]
section
variable {s : ByteArray} {i : Nat} {acc : List UInt8}
theorem tl_stop {j : Int} {b : Nat} {l : List Int} : tocsinref04_Text_Value_l30 (s, j, ((b + 1 : Nat) : Int), l) = some (.inr (.inl (s, j, ((b + 1 : Nat) : Int)))) := by
  unfold tocsinref04_Text_Value_l30
  simp only [ne_zero, cond_false]
theorem tl_end (hs : s.size < 2147483640) (h : (tl s).drop i = []) (hi : i ≤ s.size) : tocsinref04_Text_Value_l30 (s, (i : Int), 0, bI acc) = some (.inr (.inl (s, (i : Int), ((s.size + 1 : Nat) : Int)))) := by
  have : i = s.size := by have := List.drop_eq_nil_iff.1 h; rw [tl_len] at this; omega
  subst this
  unfold tocsinref04_Text_Value_l30
  simp only [show ((0 : Int) == 0) = true from rfl, cond_true, show decide ((s.size : Int) ≥ (s.size : Int)) = true from decide_eq_true (by omega), tFail_on (show s.size < 4294967296 by omega), Option.bind_some]
theorem ofB_bI (l : List UInt8) : ofBytes (bI l) = ⟨l.toArray⟩ := by
  refine ba_ext ?_
  show (ofBytes (bI l)).data.toList = l
  rw [ofBytes_toList]
  unfold bI
  rw [List.map_map]
  conv => rhs; rw [← List.map_id l]
  refine List.map_congr_left fun b _ => ?_
  simp
theorem tl_quote {c : UInt8} {r : List UInt8} (hs : s.size < 2147483640) (h : (tl s).drop i = c :: r) (hc : c.toNat = 34) : tocsinref04_Text_Value_l30 (s, (i : Int), 0, bI acc) = some (.inr (.inr (⟨acc.toArray⟩, ⟨s, ((i + 1 : Nat) : Int), 0⟩))) := by
  obtain ⟨h1, h2⟩ := drop_in h
  unfold tocsinref04_Text_Value_l30
  simp only [show ((0 : Int) == 0) = true from rfl, cond_true, show decide ((i : Int) ≥ (s.size : Int)) = false from decide_eq_false (by omega), cond_false, h2, Option.bind_some, lit (k := 34) (x := 34) rfl, hc, decide_true, wrap_up (show i < 4294967296 by omega)]
  rw [ofB_bI]
theorem tl_plain {c : UInt8} {r : List UInt8} (hs : s.size < 2147483640) (ha : acc.length ≤ i) (h : (tl s).drop i = c :: r) (hc : c.toNat ≠ 34) (hd : c.toNat ≠ 92) : tocsinref04_Text_Value_l30 (s, (i : Int), 0, bI acc) = some (.inl (s, ((i + 1 : Nat) : Int), 0, bI (acc ++ [c]))) := by
  obtain ⟨h1, h2⟩ := drop_in h
  have a1 : app (bI acc) [(c.toNat : Int)] = some (bI (acc ++ [c])) := by rw [app_eq (by rw [bI_len]; simp; omega), bI_add]
  unfold tocsinref04_Text_Value_l30
  simp only [show ((0 : Int) == 0) = true from rfl, cond_true, show decide ((i : Int) ≥ (s.size : Int)) = false from decide_eq_false (by omega), cond_false, h2, Option.bind_some, lit (k := 34) (x := 34) rfl, lit (k := 92) (x := 92) rfl, hc, hd, decide_false, wrap_up (show i < 4294967296 by omega), a1]
theorem tl_last {c : UInt8} (hs : s.size < 2147483640) (h : (tl s).drop i = [c]) (hd : c.toNat = 92) : tocsinref04_Text_Value_l30 (s, (i : Int), 0, bI acc) = some (.inr (.inl (s, ((i + 1 : Nat) : Int), ((i + 1 + 1 : Nat) : Int)))) := by
  obtain ⟨h1, h2⟩ := drop_in h
  have h3 : i + 1 = s.size := by
    have := congrArg List.length h
    rw [List.length_drop, tl_len] at this
    simp at this; omega
  unfold tocsinref04_Text_Value_l30
  simp only [show ((0 : Int) == 0) = true from rfl, cond_true, show decide ((i : Int) ≥ (s.size : Int)) = false from decide_eq_false (by omega), cond_false, h2, Option.bind_some, lit (k := 34) (x := 34) rfl, lit (k := 92) (x := 92) rfl, hd, decide_true, show decide ((92 : Nat) = 34) = false from rfl, wrap_up (show i < 4294967296 by omega),
    show decide (((i + 1 : Nat) : Int) ≥ (s.size : Int)) = true from decide_eq_true (by omega), tFail_on (show i + 1 < 4294967296 by omega)]
theorem tl_esc {c d e : UInt8} {r : List UInt8} (hs : s.size < 2147483640) (ha : acc.length ≤ i) (h : (tl s).drop i = c :: d :: r) (hc : c.toNat = 92) (hd : (d.toNat = 110 ∧ e = 10) ∨ ((d.toNat = 92 ∨ d.toNat = 34) ∧ e = d)) :
    tocsinref04_Text_Value_l30 (s, (i : Int), 0, bI acc) = some (.inl (s, ((i + 2 : Nat) : Int), 0, bI (acc ++ [e]))) := by
  obtain ⟨h1, h2⟩ := drop_in h
  obtain ⟨h3, h4⟩ := drop_in (drop_one h)
  have a1 : app (bI acc) [(e.toNat : Int)] = some (bI (acc ++ [e])) := by rw [app_eq (by rw [bI_len]; simp; omega), bI_add]
  unfold tocsinref04_Text_Value_l30
  simp only [show ((0 : Int) == 0) = true from rfl, cond_true, show decide ((i : Int) ≥ (s.size : Int)) = false from decide_eq_false (by omega), cond_false, h2, Option.bind_some, lit (k := 34) (x := 34) rfl, lit (k := 92) (x := 92) rfl, lit (k := 110) (x := 110) rfl, hc, decide_true, show decide ((92 : Nat) = 34) = false from rfl, wrap_up (show i < 4294967296 by omega),
    show decide (((i + 1 : Nat) : Int) ≥ (s.size : Int)) = false from decide_eq_false (by omega), h4, bne]
  rcases hd with ⟨hd, rfl⟩ | ⟨hd, rfl⟩
  · rw [show (((10 : UInt8).toNat : Nat) : Int) = 10 from rfl] at a1
    simp only [hd, decide_true, cond_true, Option.bind_some, a1, wrap_up (show i + 1 < 4294967296 by omega)]
  · have e1 : decide (e.toNat = 110) = false := decide_eq_false (by omega)
    have e2 : (!decide (e.toNat = 92) && !decide (e.toNat = 34)) = false := by
      rcases hd with hd | hd <;> simp [hd]
    simp only [e1, e2, cond_true, cond_false, a1, Option.bind_some, wrap_up (show i + 1 < 4294967296 by omega)]
theorem tl_bad {c d : UInt8} {r : List UInt8} (hs : s.size < 2147483640) (ha : acc.length ≤ i) (h : (tl s).drop i = c :: d :: r) (hc : c.toNat = 92) (hd : d.toNat ≠ 110 ∧ d.toNat ≠ 92 ∧ d.toNat ≠ 34) :
    ∃ z, tocsinref04_Text_Value_l30 (s, (i : Int), 0, bI acc) = some (.inl (s, ((i + 2 : Nat) : Int), ((i + 1 : Nat) : Int), z)) := by
  obtain ⟨h1, h2⟩ := drop_in h
  obtain ⟨h3, h4⟩ := drop_in (drop_one h)
  have a1 : app (bI acc) [(d.toNat : Int)] = some (bI (acc ++ [d])) := by rw [app_eq (by rw [bI_len]; simp; omega), bI_add]
  refine ⟨bI (acc ++ [d]), ?_⟩
  unfold tocsinref04_Text_Value_l30
  simp only [show ((0 : Int) == 0) = true from rfl, cond_true, show decide ((i : Int) ≥ (s.size : Int)) = false from decide_eq_false (by omega), cond_false, h2, Option.bind_some, lit (k := 34) (x := 34) rfl, lit (k := 92) (x := 92) rfl, lit (k := 110) (x := 110) rfl, hc, decide_true, show decide ((92 : Nat) = 34) = false from rfl, wrap_up (show i < 4294967296 by omega), wrap_up (show i + 1 < 4294967296 by omega),
    show decide (((i + 1 : Nat) : Int) ≥ (s.size : Int)) = false from decide_eq_false (by omega), h4, bne, hd, decide_false, Bool.not_false, Bool.and_self, wrapN (show (((i + 1 : Nat) : Int) - 1) = ((i : Nat) : Int) by omega) (by omega), tFail_on (show i < 4294967296 by omega), a1]
end
/-- what a value comes to -/
def VT (s : ByteArray) (v : Nat ⊕ (List UInt8 × Nat)) (r : (ByteArray × Int × Int) ⊕ (ByteArray × S97)) : Prop := match v with
  | .inl p => ∃ j : Nat, j ≤ s.size ∧ r = .inl (s, (j : Int), ((p + 1 : Nat) : Int))
  | .inr v => r = .inr (⟨v.1.toArray⟩, ⟨s, (v.2 : Int), 0⟩)
theorem tl_loop {s : ByteArray} (hs : s.size < 2147483640) : ∀ (rest : List UInt8) (i : Nat) (acc : List UInt8), (tl s).drop i = rest → i ≤ s.size → acc.length ≤ i →
    ∃ r, loopO tocsinref04_Text_Value_l30 (s, (i : Int), 0, bI acc) = some r ∧ VT s (valL rest i acc) r
  | [], i, acc, h, hi, ha => by
    have h2 : i = s.size := by have := List.drop_eq_nil_iff.1 h; rw [tl_len] at this; omega
    exact ⟨_, loopO_done (tl_end hs h hi), i, hi, by rw [h2]⟩
  | [c], i, acc, h, hi, ha => by
    have h1 := (drop_in h).1
    have h3 : i + 1 = s.size := by
      have := congrArg List.length h
      rw [List.length_drop, tl_len] at this
      simp at this; omega
    rw [valL]
    by_cases hc : c.toNat = 34
    · rw [if_pos hc]
      exact ⟨_, loopO_done (tl_quote hs h hc), rfl⟩
    · rw [if_neg hc]
      by_cases hd : c.toNat = 92
      · exact ⟨_, loopO_done (tl_last hs h hd), i + 1, by omega, rfl⟩
      · rw [loopO_step (tl_plain hs ha h hc hd)]
        exact ⟨_, loopO_done (tl_end hs (drop_one h) (by omega)), i + 1, by omega, by rw [h3]⟩
  | c :: d :: r, i, acc, h, hi, ha => by
    have h1 := (drop_in h).1
    have h2 := (drop_in (drop_one h)).1
    rw [valL]
    by_cases hc : c.toNat = 34
    · rw [if_pos hc]
      exact ⟨_, loopO_done (tl_quote hs h hc), rfl⟩
    · rw [if_neg hc]
      by_cases hd : c.toNat = 92
      · rw [if_neg (by omega)]
        by_cases k1 : d.toNat = 110
        · rw [if_pos k1, loopO_step (tl_esc hs ha h hd (.inl ⟨k1, rfl⟩))]
          exact tl_loop hs r (i + 2) _ (drop_one (drop_one h)) (by omega) (by simp; omega)
        · rw [if_neg k1]
          by_cases k2 : d.toNat = 92 ∨ d.toNat = 34
          · rw [if_pos k2, loopO_step (tl_esc hs ha h hd (.inr ⟨k2, rfl⟩))]
            exact tl_loop hs r (i + 2) _ (drop_one (drop_one h)) (by omega) (by simp; omega)
          · rw [if_neg k2]
            obtain ⟨z, hz⟩ := tl_bad hs ha h hd (by omega)
            rw [loopO_step hz]
            exact ⟨_, loopO_done tl_stop, i + 2, by omega, rfl⟩
      · rw [if_pos hd, loopO_step (tl_plain hs ha h hc hd)]
        exact tl_loop hs (d :: r) (i + 1) _ (drop_one h) (by omega) (by simp; omega)
theorem tValue_off {s : ByteArray} {i : Int} {b : Nat} : tocsinref04_Text_Value ⟨s, i, ((b + 1 : Nat) : Int)⟩ = some (⟨#[]⟩, ⟨s, i, ((b + 1 : Nat) : Int)⟩) := by
  unfold tocsinref04_Text_Value; rw [tWant_off]
  simp only [Option.bind_some]
  rw [loopO_done tl_stop]; rfl
theorem tValue_on {s : ByteArray} {i : Nat} (hs : s.size < 2147483640) (hi : i ≤ s.size) : match valP (tl s) i with
    | .inl p => ∃ j : Nat, j ≤ s.size ∧ tocsinref04_Text_Value ⟨s, (i : Int), 0⟩ = some (⟨#[]⟩, ⟨s, (j : Int), ((p + 1 : Nat) : Int)⟩)
    | .inr v => tocsinref04_Text_Value ⟨s, (i : Int), 0⟩ = some (⟨v.1.toArray⟩, ⟨s, (v.2 : Int), 0⟩) := by
  have hb := blk_le (l := tl s) (i := i) (by rw [tl_len]; exact hi)
  rw [tl_len] at hb
  have hw := tWant_on (c := 34) (show s.size < 4294967200 by omega) hi (by omega)
  rw [show ((34 : Nat) : Int) = 34 from rfl] at hw
  unfold valP tocsinref04_Text_Value
  rw [hw]
  by_cases h1 : gB (tl s) (blk (tl s) i) = 34
  · have h2 := gB_in (l := tl s) (i := blk (tl s) i) (by omega)
    rw [tl_len] at h2
    obtain ⟨r, k1, k2⟩ := tl_loop hs _ (blk (tl s) i + 1) [] rfl (by omega) (by simp)
    rw [show bI [] = ([] : List Int) from rfl] at k1
    simp only [h1, if_true, Option.bind_some, k1]
    cases hv : valL ((tl s).drop (blk (tl s) i + 1)) (blk (tl s) i + 1) [] with
    | inl p =>
      rw [hv] at k2
      obtain ⟨j, hj, rfl⟩ := k2
      exact ⟨j, hj, rfl⟩
    | inr v =>
      rw [hv] at k2
      have k3 : r = _ := k2
      subst k3
      rfl
  · rw [if_neg h1]
    simp only [h1, if_false, Option.bind_some]
    refine ⟨blk (tl s) i, hb.2, ?_⟩
    rw [loopO_done tl_stop]; rfl
end Go.Proofs.YtnlkfajnaelnnaaGreatDoor

/- Plain laws: the program's Parse, up to the labels that are read. -/
set_option linter.unusedVariables false
set_option linter.unusedSimpArgs false
set_option maxRecDepth 100000
namespace Go.Proofs.YtnlkfajnaelnnaaGreatDoor
open Go.GB Go.Lib
theorem braces_on {s : ByteArray} {i : Nat} (hs : s.size < 2147483648) (hM : ∀ t : ByteArray, labels_Metric t = some (namedB t 256 true)) (hi : i ≤ s.size) : match setL (s.size + 1) s i [] with
    | .inl p => ∃ (m : List S49) (j : Nat), m.length ≤ s.size ∧ j ≤ s.size ∧ labels_reader_braces ⟨s, (i : Int), -1⟩ = some (m, ⟨s, (j : Int), (p : Int)⟩)
    | .inr v => v.1.length ≤ s.size ∧ v.2 ≤ s.size ∧ labels_reader_braces ⟨s, (i : Int), -1⟩ = some (v.1, ⟨s, (v.2 : Int), -1⟩) := by
  obtain ⟨r, h1, h2⟩ := set_loop hs hM (s.size + 1) i [] (by omega) hi (by simp)
  cases hv : setL (s.size + 1) s i [] with
  | inl p =>
    rw [hv] at h2
    obtain ⟨m, j, h3, h4, rfl⟩ := h2
    refine ⟨m, j, by omega, h4, ?_⟩
    unfold labels_reader_braces
    simp only [h1, Option.bind_some]
  | inr v =>
    rw [hv] at h2
    obtain ⟨h3, h4, rfl | rfl⟩ := h2 <;>
    · refine ⟨by omega, h4, ?_⟩
      unfold labels_reader_braces
      simp only [h1, Option.bind_some]
/-- what is made of the labels -/
noncomputable def afterP (m : List S49) : Option (List S49 × Int × Int) :=
  Option.bind (labels_sorted m) fun (y103 : (List S49) × Bool) =>
      bif y103.2 then
      (some ([], 6, 0))
      else
      (Option.bind (labels_Right y103.1) fun (y113 : Int × Int) =>
        bif (y113.1 != 0) then
        (some ([], y113.1, y113.2))
        else
        (some (y103.1, 0, 0)))
noncomputable def tailP (a0 : ByteArray) (j51 : (List S49) × ByteArray × Int × Int) : Option (List S49 × Int × Int) :=
    Option.bind (labels_reader_blanks (⟨j51.2.1, j51.2.2.1, j51.2.2.2⟩ : S89)) fun (y76 : S89) =>
    Option.bind (bif ((decide (y76.f2 < 0)) && (decide (y76.f1 < (a0.size : Int)))) then
      (Option.bind (labels_reader_fail y76 y76.f1) fun (y93 : S89) =>
        some (y93.f0, y93.f1, y93.f2))
      else
      (some (y76.f0, y76.f1, y76.f2))) fun (j87 : ByteArray × Int × Int) =>
    bif (decide (j87.2.2 ≥ 0)) then
    (some ([], 3, j87.2.2))
    else
    afterP j51.1
theorem tail_off {s : ByteArray} {m : List S49} {j p : Nat} (hs : s.size < 4294967296) (hj : j ≤ s.size) : tailP s (m, s, (j : Int), (p : Int)) = some ([], 3, (p : Int)) := by
  unfold tailP
  simp only [blanks_eq hs hj, Option.bind_some, show decide (((p : Nat) : Int) < 0) = false from decide_eq_false (by omega), Bool.false_and, cond_false, off_ge, cond_true]
/-- what is answered, by the labels or the fault -/
noncomputable def answP (v : Nat ⊕ List S49) : Option (List S49 × Int × Int) := match v with
  | .inl p => some ([], 3, (p : Int))
  | .inr m => afterP m
theorem tail_on {s : ByteArray} {m : List S49} {j : Nat} (hs : s.size < 4294967296) (hj : j ≤ s.size) : tailP s (m, s, (j : Int), -1) = answP (finL s j m) := by
  unfold tailP finL
  have hb := blk_le (l := tl s) (i := j) (by rw [tl_len]; exact hj)
  by_cases h : blk (tl s) j < s.size
  · simp only [blanks_eq hs hj, Option.bind_some, show decide ((-1 : Int) < 0) = true from rfl, show decide (((blk (tl s) j : Nat) : Int) < (s.size : Int)) = true from decide_eq_true (by omega), Bool.and_self, cond_true, fail_on, off_ge, if_pos h]
    rfl
  · simp only [blanks_eq hs hj, Option.bind_some, show decide ((-1 : Int) < 0) = true from rfl, show decide (((blk (tl s) j : Nat) : Int) < (s.size : Int)) = false from decide_eq_false (by omega), Bool.and_false, cond_false, show decide ((-1 : Int) ≥ 0) = false from rfl, if_neg h]
    rfl
/-- behind the first brace -/
theorem tail_braces {s : ByteArray} {i : Nat} {l : List S49} (hs : s.size < 2147483640) (hM : ∀ t : ByteArray, labels_Metric t = some (namedB t 256 true)) (hi : i ≤ s.size) (hl : l.length ≤ 1) :
    (Option.bind (Option.bind (labels_reader_braces ⟨s, (i : Int), -1⟩) fun (y61 : (List S49) × S89) =>
        Option.bind (app l y61.1) fun (zs70 : List S49) =>
        some (zs70, y61.2.f0, y61.2.f1, y61.2.f2)) (tailP s)) = answP (bracesL s i l) := by
  have h1 := braces_on (i := i) (show s.size < 2147483648 by omega) hM hi
  unfold bracesL
  cases hv : setL (s.size + 1) s i [] with
  | inl p =>
    rw [hv] at h1
    obtain ⟨m, j, h2, h3, h4⟩ := h1
    simp only [h4, Option.bind_some, app_eq (show l.length + m.length ≤ 2147483648 by omega), tail_off (show s.size < 4294967296 by omega) h3]
    rfl
  | inr v =>
    rw [hv] at h1
    obtain ⟨h2, h3, h4⟩ := h1
    simp only [h4, Option.bind_some, app_eq (show l.length + v.1.length ≤ 2147483648 by omega), tail_on (show s.size < 4294967296 by omega) h3]
theorem Parse_read {s : ByteArray} (hs : s.size ≤ 65536) (hM : ∀ t : ByteArray, labels_Metric t = some (namedB t 256 true)) : labels_Parse s = answP (parseL s) := by
  have hs4 : s.size < 4294967296 := by omega
  have b0 := blanks_eq (s := s) (b := -1) (i := 0) hs4 (by omega)
  rw [show ((0 : Nat) : Int) = 0 from rfl] at b0
  have hb := blk_le (l := tl s) (i := 0) (by omega)
  rw [tl_len] at hb
  unfold labels_Parse parseL
  rw [show decide ((s.size : Int) > 65536) = false from decide_eq_false (by omega)]
  simp only [cond_false, b0, Option.bind_some]
  by_cases h1 : gB (tl s) (blk (tl s) 0) = 123
  · have h2 := gB_in (l := tl s) (i := blk (tl s) 0) (by omega)
    rw [tl_len] at h2
    have n1 := next_on (c := 123) hs4 hb.2 (by omega)
    rw [show ((123 : Nat) : Int) = 123 from rfl, blk_blk, if_pos h1] at n1
    rw [if_pos h1, show decide (((blk (tl s) 0 : Nat) : Int) < (s.size : Int)) = true from decide_eq_true (by omega)]
    simp only [cond_true, bx_tl h2, h1, Option.bind_some, show (((123 : Nat) : Int) == 123) = true from rfl, Bool.not_true, cond_false, n1]
    exact tail_braces (by omega) hM (by omega) (by simp)
  · rw [if_neg h1]
    have hj : (bif decide (((blk (tl s) 0 : Nat) : Int) < (s.size : Int)) then Option.bind (bx s ((blk (tl s) 0 : Nat) : Int)) fun (c14 : Int) => some (c14 == 123) else some false) = some false := by
      by_cases h2 : blk (tl s) 0 < s.size
      · rw [decide_eq_true (show ((blk (tl s) 0 : Nat) : Int) < (s.size : Int) by omega)]
        simp only [cond_true, bx_tl h2, Option.bind_some, lit (k := 123) (x := 123) rfl, h1, decide_false]
      · rw [decide_eq_false (show ¬((blk (tl s) 0 : Nat) : Int) < (s.size : Int) by omega)]; rfl
    have hr := runN_le (l := tl s) (c := true) (i := blk (tl s) 0) (by rw [tl_len]; exact hb.2)
    rw [tl_len] at hr
    have hb2 := blk_le (l := tl s) (i := runN (tl s) true (blk (tl s) 0)) (by rw [tl_len]; exact hr.2)
    rw [tl_len] at hb2
    have m1 := name_on (m := 256) (col := true) hs4 hb.2 rfl hM
    rw [blk_blk] at m1
    have a1 : app ([] : List S49) [(⟨metricT, s.extract (blk (tl s) 0) (runN (tl s) true (blk (tl s) 0))⟩ : S49)] = some [⟨metricT, s.extract (blk (tl s) 0) (runN (tl s) true (blk (tl s) 0))⟩] := app_eq (by simp)
    unfold metricT at a1
    simp only [hj, Option.bind_some, Bool.not_false, cond_true, m1, a1]
    by_cases h3 : namedB (s.extract (blk (tl s) 0) (runN (tl s) true (blk (tl s) 0))) 256 true = true
    · have n1 := next_on (c := 123) hs4 hb2.2 (by omega)
      rw [show ((123 : Nat) : Int) = 123 from rfl, blk_blk] at n1
      simp only [h3, if_true, blanks_eq hs4 hr.2, Option.bind_some, n1]
      by_cases h4 : gB (tl s) (blk (tl s) (runN (tl s) true (blk (tl s) 0))) = 123
      · have h5 := gB_in (l := tl s) (i := blk (tl s) (runN (tl s) true (blk (tl s) 0))) (by omega)
        rw [tl_len] at h5
        simp only [h4, if_true, cond_true]
        exact tail_braces (l := [⟨metricT, s.extract (blk (tl s) 0) (runN (tl s) true (blk (tl s) 0))⟩]) (by omega) hM (by omega) (by simp)
      · simp only [h4, if_false, cond_false, Option.bind_some]
        have := tail_on (s := s) (m := [⟨metricT, s.extract (blk (tl s) 0) (runN (tl s) true (blk (tl s) 0))⟩]) (j := blk (tl s) (runN (tl s) true (blk (tl s) 0))) hs4 hb2.2
        rw [show finL s (blk (tl s) (runN (tl s) true (blk (tl s) 0))) [⟨metricT, s.extract (blk (tl s) 0) (runN (tl s) true (blk (tl s) 0))⟩] = finL s (runN (tl s) true (blk (tl s) 0)) [⟨metricT, s.extract (blk (tl s) 0) (runN (tl s) true (blk (tl s) 0))⟩] by unfold finL; rw [blk_blk]] at this
        exact this
    · simp only [h3, if_false, Bool.false_eq_true, blanks_eq hs4 hr.2, Option.bind_some, next_off, cond_false]
      exact tail_off hs4 hb2.2
end Go.Proofs.YtnlkfajnaelnnaaGreatDoor

set_option linter.unusedVariables false
set_option linter.unusedSimpArgs false
set_option maxRecDepth 100000
namespace Go.Proofs.YtnlkfajnaelnnaaGreatDoor
open Go.GB Go.Lib
noncomputable def setB (acc : List S49) (j45 : ByteArray × Int × Int) : Option ((ByteArray × Int × Int × (List S49)) ⊕ (((List S49) × ByteArray × Int × Int) ⊕ ((List S49) × S97))) :=
      Option.bind (tocsinref04_Text_Blanks (⟨j45.1, j45.2.1, j45.2.2⟩ : S97)) fun (y67 : S97) =>
      Option.bind (tocsinref04_Text_Run y67 false) fun (y72 : ByteArray × S97) =>
      Option.bind (bif (y72.2.f2 == 0) then
        (Option.bind (tocsinref04_Name y72.1) fun (y83 : Bool) =>
          some (!y83))
        else
        (some false)) fun (j77 : Bool) =>
      Option.bind (bif j77 then
        (Option.bind (tocsinref04_Text_Fail y72.2 y67.f1) fun (y91 : S97) =>
          some (y91.f0, y91.f1, y91.f2))
        else
        (some (y72.2.f0, y72.2.f1, y72.2.f2))) fun (j85 : ByteArray × Int × Int) =>
      Option.bind (tocsinref04_Text_Want (⟨j85.1, j85.2.1, j85.2.2⟩ : S97) 61) fun (y96 : S97) =>
      Option.bind (tocsinref04_Text_Value y96) fun (y101 : ByteArray × S97) =>
      Option.bind (app acc [(⟨y72.1, y101.1⟩ : S49)]) fun (zs110 : List S49) =>
      some (Sum.inl (y101.2.f0, y101.2.f1, y101.2.f2, zs110))
theorem setB_off {s : ByteArray} {acc : List S49} {j b : Nat} (hs : s.size < 2147483640) (hj : j ≤ s.size) (ha : acc.length ≤ s.size) :
    ∃ (j' : Nat) (zs : List S49), j' ≤ s.size ∧ zs.length ≤ s.size + 1 ∧ setB acc (s, (j : Int), ((b + 1 : Nat) : Int)) = some (.inl (s, (j' : Int), ((b + 1 : Nat) : Int), zs)) := by
  have hb := blk_le (l := tl s) (i := j) (by rw [tl_len]; exact hj)
  have hr := runN_le (l := tl s) (c := false) (i := blk (tl s) j) hb.2
  rw [tl_len] at hb hr
  have r1 := tRun (b := ((b + 1 : Nat) : Int)) (col := false) (show s.size < 4294967296 by omega) hb.2
  rw [blk_blk] at r1
  refine ⟨runN (tl s) false (blk (tl s) j), acc ++ [⟨s.extract (blk (tl s) j) (runN (tl s) false (blk (tl s) j)), ⟨#[]⟩⟩], hr.2, by simp; omega, ?_⟩
  unfold setB
  simp only [tBlanks (show s.size < 4294967296 by omega) hj, Option.bind_some, r1, ne_zero, cond_false, tWant_off, tValue_off, app_eq (show acc.length + [(⟨s.extract (blk (tl s) j) (runN (tl s) false (blk (tl s) j)), ⟨#[]⟩⟩ : S49)].length ≤ 2147483648 by simp; omega)]
theorem setB_on {s : ByteArray} {acc : List S49} {j : Nat} (hs : s.size < 2147483640) (hj : j ≤ s.size) (ha : acc.length ≤ s.size) (hk : blk (tl s) j = j) : match itemP s j with
    | .inl p => ∃ (j' : Nat) (zs : List S49), j' ≤ s.size ∧ zs.length ≤ s.size + 1 ∧ setB acc (s, (j : Int), 0) = some (.inl (s, (j' : Int), ((p + 1 : Nat) : Int), zs))
    | .inr v => setB acc (s, (j : Int), 0) = some (.inl (s, (v.2 : Int), 0, acc ++ [v.1])) := by
  have hs4 : s.size < 4294967296 := by omega
  have hr := runN_le (l := tl s) (c := false) (i := j) (by rw [tl_len]; exact hj)
  rw [tl_len] at hr
  have hb := blk_le (l := tl s) (i := runN (tl s) false j) (by rw [tl_len]; exact hr.2)
  rw [tl_len] at hb
  have r1 := tRun (b := 0) (col := false) hs4 hj
  rw [hk] at r1
  have b1 := tBlanks (b := 0) hs4 hj
  rw [hk] at b1
  have hap : ∀ y : S49, app acc [y] = some (acc ++ [y]) := fun y => app_eq (by simp; omega)
  unfold itemP setB
  by_cases h1 : namedB (s.extract j (runN (tl s) false j)) 64 false = true
  · rw [if_pos h1]
    have w1 := tWant_on (c := 61) (show s.size < 4294967200 by omega) hr.2 (by omega)
    rw [show ((61 : Nat) : Int) = 61 from rfl] at w1
    by_cases h2 : gB (tl s) (blk (tl s) (runN (tl s) false j)) = 61
    · have h3 := gB_in (l := tl s) (i := blk (tl s) (runN (tl s) false j)) (by omega)
      rw [tl_len] at h3
      rw [if_pos h2]
      rw [if_pos h2] at w1
      have v1 := tValue_on (i := blk (tl s) (runN (tl s) false j) + 1) hs h3
      cases hv : valP (tl s) (blk (tl s) (runN (tl s) false j) + 1) with
      | inl p =>
        rw [hv] at v1
        obtain ⟨j', hj', v1⟩ := v1
        refine ⟨j', acc ++ [⟨s.extract j (runN (tl s) false j), ⟨#[]⟩⟩], hj', ?_, by
          simp only [b1, Option.bind_some, r1, show ((0 : Int) == 0) = true from rfl, cond_true, refName_eq, h1, Bool.not_true, cond_false, w1, v1, hap]⟩
        simp; omega
      | inr v =>
        rw [hv] at v1
        simp only at v1
        simp only [b1, Option.bind_some, r1, show ((0 : Int) == 0) = true from rfl, cond_true, refName_eq, h1, Bool.not_true, cond_false, w1, v1, hap]
    · rw [if_neg h2]
      rw [if_neg h2] at w1
      refine ⟨_, acc ++ [⟨s.extract j (runN (tl s) false j), ⟨#[]⟩⟩], hb.2, ?_, by
        simp only [b1, Option.bind_some, r1, show ((0 : Int) == 0) = true from rfl, cond_true, refName_eq, h1, Bool.not_true, cond_false, w1, tValue_off, hap]⟩
      simp; omega
  · rw [if_neg h1]
    have h2 : namedB (s.extract j (runN (tl s) false j)) 64 false = false := by simpa using h1
    refine ⟨_, acc ++ [⟨s.extract j (runN (tl s) false j), ⟨#[]⟩⟩], hr.2, ?_, by
      simp only [b1, Option.bind_some, r1, show ((0 : Int) == 0) = true from rfl, cond_true, refName_eq, h2, Bool.not_false, tFail_on (show j < 4294967296 by omega), tWant_off, tValue_off, hap]⟩
    simp; omega
/-- what a list in braces comes to -/
def DT (s : ByteArray) (v : Nat ⊕ (List S49 × Nat)) (r : ((List S49) × ByteArray × Int × Int) ⊕ ((List S49) × S97)) : Prop := match v with
  | .inl p => ∃ (m : List S49) (j : Nat), m.length ≤ s.size + 1 ∧ j ≤ s.size ∧ r = .inl (m, s, (j : Int), ((p + 1 : Nat) : Int))
  | .inr v => v.1.length ≤ v.2 ∧ v.2 ≤ s.size ∧ (r = .inl (v.1, s, (v.2 : Int), 0) ∨ r = .inr (v.1, ⟨s, (v.2 : Int), 0⟩))
theorem ts_stop {s : ByteArray} {j : Int} {b : Nat} {zs : List S49} : tocsinref04_Text_set_l29 (s, j, ((b + 1 : Nat) : Int), zs) = some (.inr (.inl (zs, s, j, ((b + 1 : Nat) : Int)))) := by
  unfold tocsinref04_Text_set_l29
  simp only [ne_zero, cond_false, Option.bind_some]
set_option maxHeartbeats 1600000 in
/-- behind a label -/
theorem tail_loop {s : ByteArray} (hs : s.size < 2147483640) : ∀ (f i : Nat) (acc : List S49), s.size < f + i → i ≤ s.size → acc.length ≤ i → acc ≠ [] →
    ∃ r, loopO tocsinref04_Text_set_l29 (s, (i : Int), 0, acc) = some r ∧ DT s (tailL f s i acc) r := by
  intro f
  induction f with
  | zero => intro i acc hf hi; exact absurd hf (by omega)
  | succ f ih =>
    intro i acc hf hi ha hne
    have hs4 : s.size < 4294967296 := by omega
    have hb := blk_le (l := tl s) (i := i) (by rw [tl_len]; exact hi)
    rw [tl_len] at hb
    have i1 := tIs (b := 0) (c := 125) hs4 hi (by omega)
    rw [show ((125 : Nat) : Int) = 125 from rfl] at i1
    have hl : decide (((acc.length : Nat) : Int) > 0) = true := decide_eq_true (by
      have := List.length_pos_iff.2 hne
      omega)
    have w1 := tWant_on (c := 44) (show s.size < 4294967200 by omega) hb.2 (by omega)
    rw [show ((44 : Nat) : Int) = 44 from rfl, blk_blk] at w1
    unfold tailL
    by_cases h1 : gB (tl s) (blk (tl s) i) = 44
    · have h2 := gB_in (l := tl s) (i := blk (tl s) i) (by omega)
      rw [tl_len] at h2
      have n1 : ¬ gB (tl s) (blk (tl s) i) = 125 := by omega
      rw [if_pos h1]
      rw [if_neg n1] at i1
      rw [if_pos h1] at w1
      have hb2 := blk_le (l := tl s) (i := blk (tl s) i + 1) (by rw [tl_len]; exact h2)
      rw [tl_len] at hb2
      have i2 := tIs (b := 0) (c := 125) hs4 h2 (by omega)
      rw [show ((125 : Nat) : Int) = 125 from rfl] at i2
      rw [setL]
      by_cases h3 : gB (tl s) (blk (tl s) (blk (tl s) i + 1)) = 125
      · have h4 := gB_in (l := tl s) (i := blk (tl s) (blk (tl s) i + 1)) (by omega)
        rw [tl_len] at h4
        rw [if_pos h3]
        rw [if_pos h3] at i2
        refine ⟨_, loopO_done (r := .inr (acc, ⟨s, ((blk (tl s) (blk (tl s) i + 1) + 1 : Nat) : Int), 0⟩)) ?_, by simp only; omega, h4, .inr rfl⟩
        unfold tocsinref04_Text_set_l29
        simp only [show ((0 : Int) == 0) = true from rfl, cond_true, i1, Option.bind_some, Bool.not_false, hl, w1, i2]
      · rw [if_neg h3]
        rw [if_neg h3] at i2
        have k1 := setB_on (acc := acc) hs hb2.2 (by omega) (blk_blk (tl s) (blk (tl s) i + 1))
        have hround : tocsinref04_Text_set_l29 (s, (i : Int), 0, acc) = setB acc (s, ((blk (tl s) (blk (tl s) i + 1) : Nat) : Int), 0) := by
          unfold tocsinref04_Text_set_l29
          simp only [show ((0 : Int) == 0) = true from rfl, cond_true, i1, Option.bind_some, Bool.not_false, hl, w1, i2, cond_false]
          rfl
        cases hv : itemP s (blk (tl s) (blk (tl s) i + 1)) with
        | inl p =>
          rw [hv] at k1
          obtain ⟨j', zs, k2, k3, k4⟩ := k1
          rw [loopO_step (hround.trans k4)]
          exact ⟨_, loopO_done ts_stop, zs, j', k3, k2, rfl⟩
        | inr v =>
          rw [hv] at k1
          obtain ⟨x, p⟩ := v
          have hp := itemP_le hb2.2 hv
          rw [loopO_step (hround.trans k1)]
          have q := ih p (acc ++ [x]) (by omega) hp.2 (by rw [List.length_append]; simp only [List.length_cons, List.length_nil]; omega) (by simp)
          unfold tailL at q
          exact q
    · rw [if_neg h1]
      rw [if_neg h1] at w1
      by_cases h2 : gB (tl s) (blk (tl s) i) = 125
      · have h4 := gB_in (l := tl s) (i := blk (tl s) i) (by omega)
        rw [tl_len] at h4
        rw [if_pos h2]
        rw [if_pos h2] at i1
        refine ⟨_, loopO_done (r := .inl (acc, s, ((blk (tl s) i + 1 : Nat) : Int), 0)) ?_, by simp only; omega, h4, .inl rfl⟩
        unfold tocsinref04_Text_set_l29
        simp only [show ((0 : Int) == 0) = true from rfl, cond_true, i1, Option.bind_some, Bool.not_true, cond_false]
      · rw [if_neg h2]
        rw [if_neg h2] at i1
        obtain ⟨j', zs, k2, k3, k4⟩ := setB_off (acc := acc) (j := blk (tl s) i) (b := blk (tl s) i) hs hb.2 (by omega)
        have hround : tocsinref04_Text_set_l29 (s, (i : Int), 0, acc) = setB acc (s, ((blk (tl s) i : Nat) : Int), ((blk (tl s) i + 1 : Nat) : Int)) := by
          unfold tocsinref04_Text_set_l29
          simp only [show ((0 : Int) == 0) = true from rfl, cond_true, i1, Option.bind_some, Bool.not_false, hl, w1, cond_false, ne_zero]
          rfl
        rw [loopO_step (hround.trans k4)]
        exact ⟨_, loopO_done ts_stop, zs, j', k3, k2, rfl⟩
theorem tset_on {s : ByteArray} {i : Nat} (hs : s.size < 2147483640) (hi : i ≤ s.size) : match setL (s.size + 1) s i [] with
    | .inl p => ∃ (m : List S49) (j : Nat), m.length ≤ s.size + 1 ∧ j ≤ s.size ∧ tocsinref04_Text_set ⟨s, (i : Int), 0⟩ = some (m, ⟨s, (j : Int), ((p + 1 : Nat) : Int)⟩)
    | .inr v => v.1.length ≤ s.size ∧ v.2 ≤ s.size ∧ tocsinref04_Text_set ⟨s, (i : Int), 0⟩ = some (v.1, ⟨s, (v.2 : Int), 0⟩) := by
  have hs4 : s.size < 4294967296 := by omega
  have hb := blk_le (l := tl s) (i := i) (by rw [tl_len]; exact hi)
  rw [tl_len] at hb
  have i1 := tIs (b := 0) (c := 125) hs4 hi (by omega)
  rw [show ((125 : Nat) : Int) = 125 from rfl] at i1
  have key : ∃ r, loopO tocsinref04_Text_set_l29 (s, (i : Int), 0, []) = some r ∧ DT s (setL (s.size + 1) s i []) r := by
    rw [setL]
    by_cases h2 : gB (tl s) (blk (tl s) i) = 125
    · have h4 := gB_in (l := tl s) (i := blk (tl s) i) (by omega)
      rw [tl_len] at h4
      rw [if_pos h2]
      rw [if_pos h2] at i1
      refine ⟨_, loopO_done (r := .inl ([], s, ((blk (tl s) i + 1 : Nat) : Int), 0)) ?_, by simp, h4, .inl rfl⟩
      unfold tocsinref04_Text_set_l29
      simp only [show ((0 : Int) == 0) = true from rfl, cond_true, i1, Option.bind_some, Bool.not_true, cond_false]
    · rw [if_neg h2]
      rw [if_neg h2] at i1
      have k1 := setB_on (acc := []) hs hb.2 (by simp) (blk_blk (tl s) i)
      have hround : tocsinref04_Text_set_l29 (s, (i : Int), 0, []) = setB [] (s, ((blk (tl s) i : Nat) : Int), 0) := by
        unfold tocsinref04_Text_set_l29
        simp only [show ((0 : Int) == 0) = true from rfl, cond_true, i1, Option.bind_some, Bool.not_false, show decide ((([] : List S49).length : Int) > 0) = false from rfl, cond_false]
        rfl
      cases hv : itemP s (blk (tl s) i) with
      | inl p =>
        rw [hv] at k1
        obtain ⟨j', zs, k2, k3, k4⟩ := k1
        rw [loopO_step (hround.trans k4)]
        exact ⟨_, loopO_done ts_stop, zs, j', k3, k2, rfl⟩
      | inr v =>
        rw [hv] at k1
        obtain ⟨x, p⟩ := v
        have hp := itemP_le hb.2 hv
        rw [loopO_step (hround.trans k1)]
        have q := tail_loop hs s.size p ([] ++ [x]) (by omega) hp.2 (by simp; omega) (by simp)
        unfold tailL at q
        exact q
  obtain ⟨r, h1, h2⟩ := key
  cases hv : setL (s.size + 1) s i [] with
  | inl p =>
    rw [hv] at h2
    obtain ⟨m, j, h3, h4, rfl⟩ := h2
    refine ⟨m, j, h3, h4, ?_⟩
    unfold tocsinref04_Text_set
    simp only [h1, Option.bind_some]
  | inr v =>
    rw [hv] at h2
    obtain ⟨h3, h4, rfl | rfl⟩ := h2 <;>
    · refine ⟨by omega, h4, ?_⟩
      unfold tocsinref04_Text_set
      simp only [h1, Option.bind_some]
theorem tset_off {s : ByteArray} {i : Int} {b : Nat} : tocsinref04_Text_set ⟨s, i, ((b + 1 : Nat) : Int)⟩ = some ([], ⟨s, i, ((b + 1 : Nat) : Int)⟩) := by
  unfold tocsinref04_Text_set
  simp only [loopO_done ts_stop, Option.bind_some]
/-- what is made of the labels -/
noncomputable def afterT (m : List S49) : Option (List S49 × Int × Int) :=
    Option.bind (tocsinref04_twice m) fun (y105 : Bool) =>
      bif y105 then
      (some ([], 6, 0))
      else
      (Option.bind (tocsinref04_full m) fun (y112 : (List S49)) =>
        Option.bind (tocsinref04_sorted y112) fun (y125 : (List S49)) =>
        Option.bind (tocsinref04_Right y125) fun (y134 : Int × Int) =>
        bif (y134.1 != 0) then
        (some ([], y134.1, y134.2))
        else
        (some (y125, 0, 0)))
noncomputable def tailT (a0 : ByteArray) (j57 : (List S49) × ByteArray × Int × Int) : Option (List S49 × Int × Int) :=
    Option.bind (tocsinref04_Text_Blanks (⟨j57.2.1, j57.2.2.1, j57.2.2.2⟩ : S97)) fun (y88 : S97) =>
    Option.bind (bif (decide (y88.f1 < (a0.size : Int))) then
      (Option.bind (tocsinref04_Text_Fail y88 y88.f1) fun (y99 : S97) =>
        some (y99.f0, y99.f1, y99.f2))
      else
      (some (y88.f0, y88.f1, y88.f2))) fun (j93 : ByteArray × Int × Int) =>
    bif (decide (j93.2.2 > 0)) then
    (some ([], 3, (IntKind.wrap .i64 (j93.2.2 - 1))))
    else
    afterT j57.1
theorem wr_back {p : Nat} (h : p < 4294967296) : IntKind.wrap .i64 (((p + 1 : Nat) : Int) - 1) = (p : Int) := wrapN (by omega) (by omega)
theorem gt_zero (p : Nat) : decide (((p + 1 : Nat) : Int) > 0) = true := decide_eq_true (by omega)
theorem tailT_off {s : ByteArray} {m : List S49} {j p : Nat} (hs : s.size < 4294967296) (hj : j ≤ s.size) (hp : p < 4294967296) : tailT s (m, s, (j : Int), ((p + 1 : Nat) : Int)) = some ([], 3, (p : Int)) := by
  unfold tailT
  simp only [tBlanks hs hj, Option.bind_some, tFail_off]
  cases decide (((blk (tl s) j : Nat) : Int) < (s.size : Int)) <;> simp only [cond_true, cond_false, Option.bind_some, gt_zero, wr_back hp]
noncomputable def answT (v : Nat ⊕ List S49) : Option (List S49 × Int × Int) := match v with
  | .inl p => some ([], 3, (p : Int))
  | .inr m => afterT m
theorem tailT_on {s : ByteArray} {m : List S49} {j : Nat} (hs : s.size < 4294967296) (hj : j ≤ s.size) : tailT s (m, s, (j : Int), 0) = answT (finL s j m) := by
  unfold tailT finL
  have hb := blk_le (l := tl s) (i := j) (by rw [tl_len]; exact hj)
  by_cases h : blk (tl s) j < s.size
  · simp only [tBlanks hs hj, Option.bind_some, show decide (((blk (tl s) j : Nat) : Int) < (s.size : Int)) = true from decide_eq_true (by omega), cond_true, tFail_on (show blk (tl s) j < 4294967296 by omega), gt_zero, wr_back (show blk (tl s) j < 4294967296 by omega), if_pos h]
    rfl
  · simp only [tBlanks hs hj, Option.bind_some, show decide (((blk (tl s) j : Nat) : Int) < (s.size : Int)) = false from decide_eq_false (by omega), cond_false, show decide ((0 : Int) > 0) = false from rfl, if_neg h]
    rfl
theorem valL_inl : ∀ (r : List UInt8) (k : Nat) (a : List UInt8) {q : Nat}, valL r k a = .inl q → q ≤ k + r.length
  | [], k, a, q, h => by rw [valL] at h; cases h; simp
  | [c], k, a, q, h => by
    rw [valL] at h
    split at h <;> cases h
    simp
  | c :: d :: r, k, a, q, h => by
    rw [valL] at h
    split at h
    · cases h
    · split at h
      · have := valL_inl (d :: r) _ _ h; simp at this ⊢; omega
      · split at h
        · have := valL_inl r _ _ h; simp at this ⊢; omega
        · split at h
          · have := valL_inl r _ _ h; simp at this ⊢; omega
          · cases h; simp
theorem setL_inl {s : ByteArray} : ∀ (f i : Nat) (acc : List S49) {p : Nat}, i ≤ s.size → setL f s i acc = .inl p → p ≤ s.size
  | 0, i, acc, p, hi, h => by rw [setL] at h; cases h; exact hi
  | f + 1, i, acc, p, hi, h => by
    have hb := blk_le (l := tl s) (i := i) (by rw [tl_len]; exact hi)
    rw [tl_len] at hb
    rw [setL] at h
    split at h
    · cases h
    · split at h
      · rename_i q hq
        cases h
        unfold itemP at hq
        have hr := runN_le (l := tl s) (c := false) (i := blk (tl s) i) (by rw [tl_len]; exact hb.2)
        have hb2 := blk_le hr.2
        rw [tl_len] at hr hb2
        split at hq
        · split at hq
          · rename_i h5
            have h6 := gB_in (l := tl s) (i := blk (tl s) (runN (tl s) false (blk (tl s) i))) (by omega)
            rw [tl_len] at h6
            split at hq
            · rename_i q' hq'
              cases hq
              unfold valP at hq'
              have hb3 := blk_le (l := tl s) (i := blk (tl s) (runN (tl s) false (blk (tl s) i)) + 1) (by rw [tl_len]; exact h6)
              rw [tl_len] at hb3
              split at hq'
              · rename_i h7
                have h8 := gB_in (l := tl s) (i := blk (tl s) (blk (tl s) (runN (tl s) false (blk (tl s) i)) + 1)) (by omega)
                rw [tl_len] at h8
                have := valL_inl _ _ _ hq'
                rw [List.length_drop, tl_len] at this
                omega
              · cases hq'; exact hb3.2
            · cases hq
          · cases hq; exact hb2.2
        · cases hq; exact hb.2
      · rename_i x q hq
        have hp := itemP_le hb.2 hq
        have hb4 := blk_le (l := tl s) (i := q) (by rw [tl_len]; exact hp.2)
        rw [tl_len] at hb4
        split at h
        · rename_i h7
          have h8 := gB_in (l := tl s) (i := blk (tl s) q) (by omega)
          rw [tl_len] at h8
          exact setL_inl f _ _ h8 h
        · split at h
          · cases h
          · cases h; exact hb4.2
end Go.Proofs.YtnlkfajnaelnnaaGreatDoor
