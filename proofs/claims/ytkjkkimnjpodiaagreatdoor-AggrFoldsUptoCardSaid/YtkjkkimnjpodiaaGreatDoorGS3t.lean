/- Stable sorting: the library's insertion sort and merge. -/
import Derived.Test.YtkjkkimnjpodiaaGreatDoorW3ct
import Derived.Test.YtkjkkimnjpodiaaGreatDoorGB34t
import Derived.Test.YtkjkkimnjpodiaaGreatDoorRows
import Derived.Deep.Slices
import Derived.Below
import Derived.Lib.Bytealg
set_option linter.unusedVariables false
set_option linter.unusedSimpArgs false
set_option maxRecDepth 100000
namespace Go.Proofs.YtkjkkimnjpodiaaGreatDoor
open Go.GB
/-! 18 aggr_Number  -/
noncomputable def aggr_Number_l96 (x51 : List S38) : ((List Fl) × Int) → Option (((List Fl) × Int) ⊕ ((List Fl))) := fun s79 =>
  bif (decide (s79.2 < (x51.length : Int))) then
  (Option.bind (ix x51 s79.2) fun (x99 : S38) =>
    Option.bind (app s79.1 [x99.f1]) fun (zs117 : List Fl) =>
    some (Sum.inl (zs117, (IntKind.wrap .i64 (s79.2 + 1)))))
  else
  (some (Sum.inr s79.1))
noncomputable def aggr_Number_l48 (a0 : ByteArray) (a2 : List ByteArray) (a3 : Bool) (a4 : Fl) (y11 : (List (List S38)) × Int) : ((List S38) × Int) → Option (((List S38) × Int) ⊕ ((List S38))) := fun s31 =>
  bif (decide (s31.2 < (y11.1.length : Int))) then
  (Option.bind (ix y11.1 s31.2) fun (x51 : List S38) =>
    bif ((aggr_fold a0) == 0) then
    (none)
    else
    (Option.bind (loopO (aggr_Number_l96 x51) ([], 0)) fun (r77 : (List Fl)) =>
      Option.bind (ix x51 0) fun (x123 : S38) =>
      Option.bind (aggr_group x123.f0 a2 a3) fun (y136 : (List S76)) =>
      Option.bind (tabf_48 (aggr_fold a0) r77 a4) fun (y152 : Fl) =>
      Option.bind (app s31.1 [(⟨y136, (aggr_told y152)⟩ : S38)]) fun (zs171 : List S38) =>
      some (Sum.inl (zs171, (IntKind.wrap .i64 (s31.2 + 1))))))
  else
  (some (Sum.inr s31.1))
noncomputable def aggr_Number (a0 : ByteArray) (a1 : List S38) (a2 : List ByteArray) (a3 : Bool) (a4 : Fl) : Option ((List S38) × Int) :=
  Option.bind (slices_Contains aggr_Words a0) fun (y8 : Bool) =>
  bif (!y8) then
  (some ([], 60))
  else
  (Option.bind (aggr_Groups a1 a2 a3) fun (y11 : (List (List S38)) × Int) =>
    bif (y11.2 != 0) then
    (some ([], y11.2))
    else
    (Option.bind (loopO (aggr_Number_l48 a0 a2 a3 a4 y11) ([], 0)) fun (r29 : (List S38)) =>
      Option.bind (vec_Vector r29) fun (y181 : (List S38) × Int) =>
      some (y181.1, y181.2)))
theorem aggr_Number_walk {a0 : ByteArray} {a1 : List S38} {A1_0 : Option Addr} {n1_0 : Nat} {a2 : List ByteArray} {A2_0 : Option Addr} {n2_0 : Nat} {a3 : Bool} {a4 : Fl} {b4_0 : Nat} {I : Imm} {r : (List S38) × Int} (hG : Gl I)  (hf1_0 : RepS kS38 I A1_0 n1_0 a1)  (hf2_0 : RepS Kd.str I A2_0 n2_0 a2)  (hf4_0 : FRep a4 b4_0) (hr : aggr_Number a0 a1 a2 a3 a4 = some r) (L : Own) :
    CallsTo Tryz.prog 18 #[.string a0, .slice A1_0 a1.length n1_0, .slice A2_0 a2.length n2_0, .bool a3, .float .f64 b4_0] I L (fun v I' L' => ∃ A0 c0 C0, OwnS kS38 39 I' A0 c0 r.1 C0 ∧ v = .tuple #[.slice A0 r.1.length c0, .int .i64 r.2] ∧ C0 ++ L = L') := by
  unfold aggr_Number at hr
  refine callsTo_body (N := 91) Tryz.func18 (by kernel_rfl) (by kernel_rfl) (by kernel_rfl) ?_
  refine gk_pick [0, 1, 2, 3, 4] (K' := [(0, .string a0), (1, .slice A1_0 a1.length n1_0), (2, .slice A2_0 a2.length n2_0), (3, .bool a3), (4, .float .f64 b4_0)]) (by kernel_rfl) ?_
  refine gk_seq (by kernel_rfl) ?_
  refine gk_region (by kernel_rfl) ?_
  refine gl_pure 2 [0, 1, 2, 3, 4] (K' := [(0, .string a0), (1, .slice A1_0 a1.length n1_0), (2, .slice A2_0 a2.length n2_0), (3, .bool a3), (4, .float .f64 b4_0)]) (by kernel_rfl) ?_
  refine gl_atE (by kernel_rfl) ?_
  refine ge_seq ?_
  refine gk_seq (by kernel_rfl) ?_
  refine gk_seq (by kernel_rfl) ?_
  refine gk_region (by kernel_rfl) ?_
  refine gl_call (by kernel_rfl) (aggr_Words_walk (r := aggr_Words)  rfl _) ?_
  rintro v I1 L2 hI3 ⟨A4, c5, C6, hO7, rfl, rfl⟩
  refine gl_pure 1 [0, 1, 2, 3, 4, 21, 22] (K' := [(0, .string a0), (1, .slice A1_0 a1.length n1_0), (2, .slice A2_0 a2.length n2_0), (3, .bool a3), (4, .float .f64 b4_0), (21, .slice A4 aggr_Words.length c5), (22, .string a0)]) (by kernel_rfl) ?_
  obtain ⟨y8, hx9, hr⟩ := bind_some hr
  refine gl_callB (r := .bool y8) (Tk.step (Upd.rmC _ _) (Tk.nil _)) (by kernel_rfl) (fun J hJ hC => slices_Contains_walk (r := y8) (OwnS.rest hO7 hJ hC.left) hx9 _) ?_
  refine gl_pure 1 [0, 1, 2, 3, 4, 24] (K' := [(0, .string a0), (1, .slice A1_0 a1.length n1_0), (2, .slice A2_0 a2.length n2_0), (3, .bool a3), (4, .float .f64 b4_0), (24, .bool (!y8))]) (by kernel_rfl) ?_
  refine gl_atE (by kernel_rfl) ?_
  refine ge_seq ?_
  refine gk_cond (b := (!y8)) (by kernel_rfl) (by kernel_rfl) (fun hc10 => ?_) (fun hc10 => ?_)
  · have hr := cond_t hc10 hr
    refine gk_seq (by kernel_rfl) ?_
    refine gk_region (by kernel_rfl) ?_
    refine gl_pure 2 [10, 11] (K' := [(10, .slice none 0 0), (11, .int .i64 60)]) (by kernel_rfl) ?_
    refine gl_atE (by kernel_rfl) ?_
    refine ge_seq ?_
    refine gk_reord (D := L) (Reord.skipC (Reord.refl _)) ?_
    refine gk_ret (by kernel_rfl) ?_
    refine ge_seq_ret ?_
    obtain rfl := some_inj hr
    exact ge_result trivial (ResOk.tmp (by kernel_rfl) (ResOk.tmp (by kernel_rfl) ResOk.nil)) hI3 ⟨none, 0, [], OwnS.nil _ _ _ _, rfl, rfl⟩
  · have hr := cond_f hc10 hr
    refine gk_skip (by kernel_rfl) ?_
    refine ge_seq ?_
    refine gk_seq (by kernel_rfl) ?_
    refine gk_region (by kernel_rfl) ?_
    refine gl_pure 3 [0, 2, 3, 4, 26, 27, 28] (K' := [(0, .string a0), (2, .slice A2_0 a2.length n2_0), (3, .bool a3), (4, .float .f64 b4_0), (26, .slice A1_0 a1.length n1_0), (27, .slice A2_0 a2.length n2_0), (28, .bool a3)]) (by kernel_rfl) ?_
    obtain ⟨y11, hx12, hr⟩ := bind_some hr
    refine gl_call (by kernel_rfl) (aggr_Groups_walk (r := y11) (hG.mono hI3) (hf1_0.mono hI3) (hf2_0.mono hI3) hx12 _) ?_
    rintro v I13 L14 hI15 ⟨A16, c17, C18, hO19, rfl, rfl⟩
    refine gl_pure 5 [0, 2, 3, 4, 12, 13] (K' := [(0, .string a0), (2, .slice A2_0 a2.length n2_0), (3, .bool a3), (4, .float .f64 b4_0), (12, .slice A16 y11.1.length c17), (13, .int .i64 y11.2)]) (by kernel_rfl) ?_
    refine gl_atE (by kernel_rfl) ?_
    refine ge_seq ?_
    refine gk_seq (by kernel_rfl) ?_
    refine gk_seq (by kernel_rfl) ?_
    refine gk_region (by kernel_rfl) ?_
    refine gl_pure 2 [0, 2, 3, 4, 12, 13, 33] (K' := [(0, .string a0), (2, .slice A2_0 a2.length n2_0), (3, .bool a3), (4, .float .f64 b4_0), (12, .slice A16 y11.1.length c17), (13, .int .i64 y11.2), (33, .bool (y11.2 != 0))]) (by kernel_rfl) ?_
    refine gl_atE (by kernel_rfl) ?_
    refine ge_seq ?_
    refine gk_cond (b := (y11.2 != 0)) (by kernel_rfl) (by kernel_rfl) (fun hc20 => ?_) (fun hc20 => ?_)
    · have hr := cond_t hc20 hr
      refine gk_seq (by kernel_rfl) ?_
      refine gk_region (by kernel_rfl) ?_
      refine gl_pure 3 [10, 11] (K' := [(10, .slice none 0 0), (11, .int .i64 y11.2)]) (by kernel_rfl) ?_
      refine gl_atE (by kernel_rfl) ?_
      refine ge_seq ?_
      refine gk_reord (D := L) (Reord.skipC (Reord.skipC (Reord.refl _))) ?_
      refine gk_ret (by kernel_rfl) ?_
      refine ge_seq_ret ?_
      obtain rfl := some_inj hr
      exact ge_result trivial (ResOk.tmp (by kernel_rfl) (ResOk.tmp (by kernel_rfl) ResOk.nil)) (Imm.trans hI3 hI15) ⟨none, 0, [], OwnS.nil _ _ _ _, rfl, rfl⟩
    · have hr := cond_f hc20 hr
      refine gk_skip (by kernel_rfl) ?_
      refine ge_seq ?_
      refine gk_seq (by kernel_rfl) ?_
      refine gk_region (by kernel_rfl) ?_
      refine gl_pure 1 [0, 2, 3, 4, 12, 35] (K' := [(0, .string a0), (2, .slice A2_0 a2.length n2_0), (3, .bool a3), (4, .float .f64 b4_0), (12, .slice A16 y11.1.length c17), (35, .string a0)]) (by kernel_rfl) ?_
      refine gl_callQ (by kernel_rfl) (aggr_fold_walk (r := (aggr_fold a0))  rfl _) ?_
      refine gl_pure 1 [0, 2, 3, 4, 12, 14] (K' := [(0, .string a0), (2, .slice A2_0 a2.length n2_0), (3, .bool a3), (4, .float .f64 b4_0), (12, .slice A16 y11.1.length c17), (14, (tabv_48 (aggr_fold a0)))]) (by kernel_rfl) ?_
      refine gl_atE (by kernel_rfl) ?_
      refine ge_seq ?_
      refine gk_seq (by kernel_rfl) ?_
      refine gk_region (by kernel_rfl) ?_
      refine gl_pure 1 [0, 2, 3, 4, 12, 14, 15] (K' := [(0, .string a0), (2, .slice A2_0 a2.length n2_0), (3, .bool a3), (4, .float .f64 b4_0), (12, .slice A16 y11.1.length c17), (14, (tabv_48 (aggr_fold a0))), (15, .slice none 0 0)]) (by kernel_rfl) ?_
      refine gl_atE (by kernel_rfl) ?_
      refine ge_seq ?_
      refine gk_seq (by kernel_rfl) ?_
      refine gk_seq (by kernel_rfl) ?_
      refine gk_region (by kernel_rfl) ?_
      refine gl_pure 3 [0, 2, 3, 4, 14, 15, 37, 38, 39] (K' := [(0, .string a0), (2, .slice A2_0 a2.length n2_0), (3, .bool a3), (4, .float .f64 b4_0), (14, (tabv_48 (aggr_fold a0))), (15, .slice none 0 0), (37, .slice A16 y11.1.length c17), (38, .int .i64 (y11.1.length : Int)), (39, .int .i64 0)]) (by kernel_rfl) ?_
      refine gl_atE (by kernel_rfl) ?_
      refine ge_seq ?_
      obtain ⟨r29, hl30, hr⟩ := bind_some hr
      refine gk_reord (D := C18 ++ L) (Reord.step (Upd.rmC _ _) (Reord.skipC (Reord.refl _))) ?_
      refine gk_join (fun t I' L' => ∃ A42 n43 C44, OwnS kS38 39 I' A42 n43 r29 C44 ∧ I13 ≤ I' ∧ C44 ++ L = L' ∧ Knows 91 [(15, .slice A42 r29.length n43)] t) ?_ ?_
      · refine gk_block (by kernel_rfl) ?_
        refine gk_pick [0, 2, 3, 4, 14, 15, 37, 38, 39] (K' := [(0, .string a0), (2, .slice A2_0 a2.length n2_0), (3, .bool a3), (4, .float .f64 b4_0), (14, (tabv_48 (aggr_fold a0))), (15, .slice none 0 0), (37, .slice A16 y11.1.length c17), (38, .int .i64 (y11.1.length : Int)), (39, .int .i64 0)]) (by kernel_rfl) ?_
        intro t hK
        refine gc_loop (aggr_Number_l48 a0 a2 a3 a4 y11) (fun s31 t I' L' => ∃ A35 n36 C37, OwnS kS38 39 I' A35 n36 s31.1 C37 ∧ I13 ≤ I' ∧ C37 ++ (C18 ++ L) = L' ∧ Knows 91 [(0, .string a0), (2, .slice A2_0 a2.length n2_0), (3, .bool a3), (4, .float .f64 b4_0), (14, (tabv_48 (aggr_fold a0))), (15, .slice A35 s31.1.length n36), (37, .slice A16 y11.1.length c17), (38, .int .i64 (y11.1.length : Int)), (39, .int .i64 s31.2)] t) (by kernel_rfl) ?_ hl30 ⟨none, 0, [], OwnS.nil _ _ _ _, (Imm.refl _), rfl, hK⟩
        rintro s31 o32 t I40 L' hb33 ⟨A35, n36, C37, hO38, hI34, rfl, hK39⟩
        unfold aggr_Number_l48 at hb33
        refine gk_at hK39 ?_
        refine gk_seq (by kernel_rfl) ?_
        refine gk_region (by kernel_rfl) ?_
        refine gl_pure 1 [0, 2, 3, 4, 14, 15, 37, 38, 39, 40] (K' := [(0, .string a0), (2, .slice A2_0 a2.length n2_0), (3, .bool a3), (4, .float .f64 b4_0), (14, (tabv_48 (aggr_fold a0))), (15, .slice A35 s31.1.length n36), (37, .slice A16 y11.1.length c17), (38, .int .i64 (y11.1.length : Int)), (39, .int .i64 s31.2), (40, .bool (decide (s31.2 < (y11.1.length : Int))))]) (by kernel_rfl) ?_
        refine gl_atE (by kernel_rfl) ?_
        refine ge_seq ?_
        refine gk_seq (by kernel_rfl) ?_
        refine gk_cond (b := (decide (s31.2 < (y11.1.length : Int)))) (by kernel_rfl) (by kernel_rfl) (fun hc50 => ?_) (fun hc50 => ?_)
        · have hb33 := cond_t hc50 hb33
          refine gk_skip (by kernel_rfl) ?_
          refine ge_seq ?_
          refine gk_seq (by kernel_rfl) ?_
          refine gk_block (by kernel_rfl) ?_
          refine gk_seq (by kernel_rfl) ?_
          refine gk_region (by kernel_rfl) ?_
          obtain ⟨x51, hx52, hb33⟩ := bind_some hb33
          refine gl_indexAddrW (d := (Kd.sl kS38)) (c := c17) (T' := 48) (e := 22) (xs := (.tmp 37)) (xi := (.tmp 39)) (kd := .i64) hx52 (hO19.mono hI34) (Upd.app _ (Upd.selfC _ _)) (by kernel_rfl) (by kernel_rfl) (by kernel_rfl) (by kernel_rfl) (by kernel_rfl) (fun p53 cs54 hR55 hA56 hp62 => ?_)
          obtain ⟨A59, n60, rfl, hf61⟩ := sl_open hR55
          refine gl_loadO (T' := 22) (xp := (.tmp 41)) (p := p53) (c := .slice A59 x51.length n60) (n := 1) (by kernel_rfl) (by kernel_rfl) (by kernel_rfl) (by kernel_rfl) hA56 ?_
          refine gl_pure 1 [0, 2, 3, 4, 14, 15, 17, 37, 38, 39] (K' := [(0, .string a0), (2, .slice A2_0 a2.length n2_0), (3, .bool a3), (4, .float .f64 b4_0), (14, (tabv_48 (aggr_fold a0))), (15, .slice A35 s31.1.length n36), (17, .slice A59 x51.length n60), (37, .slice A16 y11.1.length c17), (38, .int .i64 (y11.1.length : Int)), (39, .int .i64 s31.2)]) (by kernel_rfl) ?_
          refine gl_atE (by kernel_rfl) ?_
          refine ge_seq ?_
          refine gk_seq (by kernel_rfl) ?_
          refine gk_seq (by kernel_rfl) ?_
          refine gk_region (by kernel_rfl) ?_
          refine gl_pure 1 [0, 2, 3, 4, 14, 15, 17, 37, 38, 39, 43] (K' := [(0, .string a0), (2, .slice A2_0 a2.length n2_0), (3, .bool a3), (4, .float .f64 b4_0), (14, (tabv_48 (aggr_fold a0))), (15, .slice A35 s31.1.length n36), (17, .slice A59 x51.length n60), (37, .slice A16 y11.1.length c17), (38, .int .i64 (y11.1.length : Int)), (39, .int .i64 s31.2), (43, (tabv_48 (aggr_fold a0)))]) (by kernel_rfl) ?_
          refine gl_eqNilTab (neg := false) (b := ((aggr_fold a0) == 0)) (t := 88) (t' := 88) (x := (.tmp 43)) (y := (.const (.nilFunc))) (tabv_48_cases (aggr_fold a0)) (by kernel_rfl) (by kernel_rfl) (by kernel_rfl) (by kernel_rfl) (by kernel_rfl) ?_
          refine gl_atE (by kernel_rfl) ?_
          refine ge_seq ?_
          refine gk_cond (b := ((aggr_fold a0) == 0)) (by kernel_rfl) (by kernel_rfl) (fun hc63 => ?_) (fun hc63 => ?_)
          · have hb33 := cond_t hc63 hb33
            cases hb33
          · have hb33 := cond_f hc63 hb33
            refine gk_skip (by kernel_rfl) ?_
            refine ge_seq ?_
            refine gk_seq (by kernel_rfl) ?_
            refine gk_region (by kernel_rfl) ?_
            refine gl_pure 1 [0, 2, 3, 4, 14, 15, 17, 18, 37, 38, 39] (K' := [(0, .string a0), (2, .slice A2_0 a2.length n2_0), (3, .bool a3), (4, .float .f64 b4_0), (14, (tabv_48 (aggr_fold a0))), (15, .slice A35 s31.1.length n36), (17, .slice A59 x51.length n60), (18, .slice none 0 0), (37, .slice A16 y11.1.length c17), (38, .int .i64 (y11.1.length : Int)), (39, .int .i64 s31.2)]) (by kernel_rfl) ?_
            refine gl_atE (by kernel_rfl) ?_
            refine ge_seq ?_
            refine gk_seq (by kernel_rfl) ?_
            refine gk_seq (by kernel_rfl) ?_
            refine gk_region (by kernel_rfl) ?_
            refine gl_pure 3 [0, 2, 3, 4, 14, 15, 17, 18, 37, 38, 39, 58, 59, 60] (K' := [(0, .string a0), (2, .slice A2_0 a2.length n2_0), (3, .bool a3), (4, .float .f64 b4_0), (14, (tabv_48 (aggr_fold a0))), (15, .slice A35 s31.1.length n36), (17, .slice A59 x51.length n60), (18, .slice none 0 0), (37, .slice A16 y11.1.length c17), (38, .int .i64 (y11.1.length : Int)), (39, .int .i64 s31.2), (58, .slice A59 x51.length n60), (59, .int .i64 (x51.length : Int)), (60, .int .i64 0)]) (by kernel_rfl) ?_
            refine gl_atE (by kernel_rfl) ?_
            refine ge_seq ?_
            obtain ⟨r77, hl78, hb33⟩ := bind_some hb33
            refine gk_join (fun t I' L' => ∃ A90 n91 C92, OwnS Kd.flt 37 I' A90 n91 r77 C92 ∧ I40 ≤ I' ∧ C92 ++ (C37 ++ (C18 ++ L)) = L' ∧ Knows 91 [(0, .string a0), (2, .slice A2_0 a2.length n2_0), (3, .bool a3), (4, .float .f64 b4_0), (14, (tabv_48 (aggr_fold a0))), (15, .slice A35 s31.1.length n36), (17, .slice A59 x51.length n60), (18, .slice A90 r77.length n91), (37, .slice A16 y11.1.length c17), (38, .int .i64 (y11.1.length : Int)), (39, .int .i64 s31.2)] t) ?_ ?_
            · refine gk_block (by kernel_rfl) ?_
              refine gk_pick [0, 2, 3, 4, 14, 15, 17, 18, 37, 38, 39, 58, 59, 60] (K' := [(0, .string a0), (2, .slice A2_0 a2.length n2_0), (3, .bool a3), (4, .float .f64 b4_0), (14, (tabv_48 (aggr_fold a0))), (15, .slice A35 s31.1.length n36), (17, .slice A59 x51.length n60), (18, .slice none 0 0), (37, .slice A16 y11.1.length c17), (38, .int .i64 (y11.1.length : Int)), (39, .int .i64 s31.2), (58, .slice A59 x51.length n60), (59, .int .i64 (x51.length : Int)), (60, .int .i64 0)]) (by kernel_rfl) ?_
              intro t hK
              refine gc_loop (aggr_Number_l96 x51) (fun s79 t I' L' => ∃ A83 n84 C85, OwnS Kd.flt 37 I' A83 n84 s79.1 C85 ∧ I40 ≤ I' ∧ C85 ++ (C37 ++ (C18 ++ L)) = L' ∧ Knows 91 [(0, .string a0), (2, .slice A2_0 a2.length n2_0), (3, .bool a3), (4, .float .f64 b4_0), (14, (tabv_48 (aggr_fold a0))), (15, .slice A35 s31.1.length n36), (17, .slice A59 x51.length n60), (18, .slice A83 s79.1.length n84), (37, .slice A16 y11.1.length c17), (38, .int .i64 (y11.1.length : Int)), (39, .int .i64 s31.2), (58, .slice A59 x51.length n60), (59, .int .i64 (x51.length : Int)), (60, .int .i64 s79.2)] t) (by kernel_rfl) ?_ hl78 ⟨none, 0, [], OwnS.nil _ _ _ _, (Imm.refl _), rfl, hK⟩
              rintro s79 o80 t I88 L' hb81 ⟨A83, n84, C85, hO86, hI82, rfl, hK87⟩
              unfold aggr_Number_l96 at hb81
              refine gk_at hK87 ?_
              refine gk_seq (by kernel_rfl) ?_
              refine gk_region (by kernel_rfl) ?_
              refine gl_pure 1 [0, 2, 3, 4, 14, 15, 17, 18, 37, 38, 39, 58, 59, 60, 61] (K' := [(0, .string a0), (2, .slice A2_0 a2.length n2_0), (3, .bool a3), (4, .float .f64 b4_0), (14, (tabv_48 (aggr_fold a0))), (15, .slice A35 s31.1.length n36), (17, .slice A59 x51.length n60), (18, .slice A83 s79.1.length n84), (37, .slice A16 y11.1.length c17), (38, .int .i64 (y11.1.length : Int)), (39, .int .i64 s31.2), (58, .slice A59 x51.length n60), (59, .int .i64 (x51.length : Int)), (60, .int .i64 s79.2), (61, .bool (decide (s79.2 < (x51.length : Int))))]) (by kernel_rfl) ?_
              refine gl_atE (by kernel_rfl) ?_
              refine ge_seq ?_
              refine gk_seq (by kernel_rfl) ?_
              refine gk_cond (b := (decide (s79.2 < (x51.length : Int)))) (by kernel_rfl) (by kernel_rfl) (fun hc98 => ?_) (fun hc98 => ?_)
              · have hb81 := cond_t hc98 hb81
                refine gk_skip (by kernel_rfl) ?_
                refine ge_seq ?_
                refine gk_seq (by kernel_rfl) ?_
                refine gk_block (by kernel_rfl) ?_
                refine gk_seq (by kernel_rfl) ?_
                refine gk_region (by kernel_rfl) ?_
                obtain ⟨x99, hx100, hb81⟩ := bind_some hb81
                obtain ⟨p101, cs102, hR103, hA104, ha105⟩ := RepS.ixAt hx100 (hf61.mono hI82)
                have hi106 := ix_some hx100
                obtain ⟨A107, n108, b110, hf109, hf111, rfl⟩ := kS38_open hR103
                refine gl_indexAddrF (c := n60) (T' := 22) (e := 39) (xs := (.tmp 58)) (xi := (.tmp 60)) (kd := .i64) ha105 hi106.1 hi106.2.1 (by kernel_rfl) (by kernel_rfl) (by kernel_rfl) (by kernel_rfl) (by kernel_rfl) ?_
                refine gl_loadA (T' := 39) (xp := (.tmp 62)) (p := p101) (cs := [.slice A107 x99.f0.length n108, .float .f64 b110]) (by kernel_rfl) (by kernel_rfl) (by kernel_rfl) (by kernel_rfl) (hA104.take 2) ?_
                refine gl_alloc (T' := 39) (cs := #[.slice none 0 0, .float .f64 0]) (by kernel_rfl) (by kernel_rfl) (by kernel_rfl) (fun g112 => ?_)
                refine gl_storeB (T' := 39) (xp := (.tmp 20)) (xv := (.tmp 63)) (v := .agg #[.slice A107 x99.f0.length n108, .float .f64 b110]) (g := g112) (off := 0) (cs := #[.slice none 0 0, .float .f64 0]) (cs' := #[.slice A107 x99.f0.length n108, .float .f64 b110]) (by kernel_rfl) (by kernel_rfl) (by kernel_rfl) (by kernel_rfl) (by kernel_rfl) (Upd.set _ _ _ _) ?_ (by kernel_rfl)
                refine gl_atE (by kernel_rfl) ?_
                refine ge_seq ?_
                refine gk_region (by kernel_rfl) ?_
                refine gl_pure 2 [0, 2, 3, 4, 14, 15, 17, 37, 38, 39, 58, 59, 60, 64, 65] (K' := [(0, .string a0), (2, .slice A2_0 a2.length n2_0), (3, .bool a3), (4, .float .f64 b4_0), (14, (tabv_48 (aggr_fold a0))), (15, .slice A35 s31.1.length n36), (17, .slice A59 x51.length n60), (37, .slice A16 y11.1.length c17), (38, .int .i64 (y11.1.length : Int)), (39, .int .i64 s31.2), (58, .slice A59 x51.length n60), (59, .int .i64 (x51.length : Int)), (60, .int .i64 s79.2), (64, .slice A83 s79.1.length n84), (65, .pointer (some ⟨g112, 1, none⟩))]) (by kernel_rfl) ?_
                refine gl_loadB (T' := 37) (xp := (.tmp 65)) (v := .float .f64 b110) (g := g112) (off := 1) (cs := #[.slice A107 x99.f0.length n108, .float .f64 b110]) (e := 39) (fz := (0, 0)) (by kernel_rfl) (by kernel_rfl) (by kernel_rfl) List.mem_cons_self (by kernel_rfl) ?_
                refine gl_buildSlice (T' := 92) (e := 37) (n := 1) (len := 1) (parts := #[(0, (.tmp 66))]) (l := [(0, .float .f64 b110)]) (cs := #[.float .f64 b110]) (by kernel_rfl) (by kernel_rfl) (by kernel_rfl) (by kernel_rfl) (by kernel_rfl) (fun g113 => ?_)
                have hO114 : OwnS Kd.flt 37 I88 (some ⟨g113, 0, none⟩) 1 [x99.f1] [(g113, .cells #[.float .f64 b110] 37)] := OwnS.lit (row_cons (l := [.float .f64 b110]) ⟨_, rfl, hf111⟩ (row_nil _ _)) rfl rfl rfl
                refine gl_reord (D := [(g113, .cells #[.float .f64 b110] 37)] ++ ((g112, .cells #[.slice A107 x99.f0.length n108, .float .f64 b110] 39) :: (C85 ++ (C37 ++ (C18 ++ L))))) (Reord.refl _) ?_
                obtain ⟨zs117, hz118, hb81⟩ := bind_some hb81
                refine gl_append (xv := .slice (some ⟨g113, 0, none⟩) [x99.f1].length 1) (d := Kd.flt) (t := 92) (tx := 92) (e := 37) (s := (.tmp 64)) (x := (.tmp 67)) (xs := s79.1) (fun X => [(g113, .cells #[.float .f64 b110] 37)] ++ ((g112, .cells #[.slice A107 x99.f0.length n108, .float .f64 b110] 39) :: (X ++ (C37 ++ (C18 ++ L))))) hz118 (by kernel_rfl) (by kernel_rfl) (by kernel_rfl) (by kernel_rfl) (by kernel_rfl) (by kernel_rfl) (fun X => (Upd.app _ (Upd.one _ (Upd.head _ X _)))) hO86 (SrcOk.slice (c := 1) (e := 37) (n := 1) (OwnS.rd hO114 (Upd.selfC _ _)) (by kernel_rfl)) (fun A119 n120 C121 hO122 => ?_)
                refine gl_pure 1 [0, 2, 3, 4, 14, 15, 17, 18, 37, 38, 39, 58, 59, 60] (K' := [(0, .string a0), (2, .slice A2_0 a2.length n2_0), (3, .bool a3), (4, .float .f64 b4_0), (14, (tabv_48 (aggr_fold a0))), (15, .slice A35 s31.1.length n36), (17, .slice A59 x51.length n60), (18, .slice A119 zs117.length n120), (37, .slice A16 y11.1.length c17), (38, .int .i64 (y11.1.length : Int)), (39, .int .i64 s31.2), (58, .slice A59 x51.length n60), (59, .int .i64 (x51.length : Int)), (60, .int .i64 s79.2)]) (by kernel_rfl) ?_
                refine gl_atE (by kernel_rfl) ?_
                refine ge_block_normal ?_
                refine ge_seq ?_
                refine gk_region (by kernel_rfl) ?_
                refine gl_pure 2 [0, 2, 3, 4, 14, 15, 17, 18, 37, 38, 39, 58, 59, 60] (K' := [(0, .string a0), (2, .slice A2_0 a2.length n2_0), (3, .bool a3), (4, .float .f64 b4_0), (14, (tabv_48 (aggr_fold a0))), (15, .slice A35 s31.1.length n36), (17, .slice A59 x51.length n60), (18, .slice A119 zs117.length n120), (37, .slice A16 y11.1.length c17), (38, .int .i64 (y11.1.length : Int)), (39, .int .i64 s31.2), (58, .slice A59 x51.length n60), (59, .int .i64 (x51.length : Int)), (60, .int .i64 (IntKind.wrap .i64 (s79.2 + 1)))]) (by kernel_rfl) ?_
                refine gl_reord (D := C121 ++ (C37 ++ (C18 ++ L))) (Reord.step (Upd.app _ (Upd.one _ (Upd.rmC _ _))) (Reord.step (Upd.app _ (Upd.one _ (Upd.rmC _ _))) (Reord.step (Upd.app _ (Upd.one _ (Upd.rmC _ _))) (Reord.skipC (Reord.skip (Reord.refl _)))))) ?_
                refine gl_atE (by kernel_rfl) ?_
                obtain rfl := some_inj hb81
                exact ge_round fun t ht => ⟨A119, n120, C121, hO122, hI82, rfl, ht.pick (l := [0, 2, 3, 4, 14, 15, 17, 18, 37, 38, 39, 58, 59, 60]) (by kernel_rfl)⟩
              · have hb81 := cond_f hc98 hb81
                refine gk_exit (by kernel_rfl) ?_
                refine ge_seq_exit ?_
                obtain rfl := some_inj hb81
                refine ge_round_out (fun hrr => ?_) (by intro h; cases h)
                obtain rfl := hrr
                refine ge_block_hit (by kernel_rfl) ?_
                exact ge_mid fun t ht => ⟨A83, n84, C85, hO86, hI82, rfl, ht.pick (l := [0, 2, 3, 4, 14, 15, 17, 18, 37, 38, 39]) (by kernel_rfl)⟩
            · rintro t I95 L' ⟨A90, n91, C92, hO93, hI89, rfl, hK94⟩
              refine ge_at hK94 ?_
              refine ge_seq ?_
              refine gk_region (by kernel_rfl) ?_
              refine gl_pure 2 [0, 2, 3, 4, 14, 18, 37, 38, 39, 70, 71] (K' := [(0, .string a0), (2, .slice A2_0 a2.length n2_0), (3, .bool a3), (4, .float .f64 b4_0), (14, (tabv_48 (aggr_fold a0))), (18, .slice A90 r77.length n91), (37, .slice A16 y11.1.length c17), (38, .int .i64 (y11.1.length : Int)), (39, .int .i64 s31.2), (70, .slice A35 s31.1.length n36), (71, .slice A59 x51.length n60)]) (by kernel_rfl) ?_
              obtain ⟨x123, hx124, hb33⟩ := bind_some hb33
              obtain ⟨p125, cs126, hR127, hA128, ha129⟩ := RepS.ixAt hx124 (hf61.mono hI89)
              have hi130 := ix_some hx124
              obtain ⟨A131, n132, b134, hf133, hf135, rfl⟩ := kS38_open hR127
              refine gl_indexAddrF (c := n60) (T' := 22) (e := 39) (xs := (.tmp 71)) (xi := (.const (.int .i64 0))) (kd := .i64) ha129 hi130.1 hi130.2.1 (by kernel_rfl) (by kernel_rfl) (by kernel_rfl) (by kernel_rfl) (by kernel_rfl) ?_
              refine gl_pure 1 [0, 2, 3, 4, 14, 18, 37, 38, 39, 70, 73] (K' := [(0, .string a0), (2, .slice A2_0 a2.length n2_0), (3, .bool a3), (4, .float .f64 b4_0), (14, (tabv_48 (aggr_fold a0))), (18, .slice A90 r77.length n91), (37, .slice A16 y11.1.length c17), (38, .int .i64 (y11.1.length : Int)), (39, .int .i64 s31.2), (70, .slice A35 s31.1.length n36), (73, .pointer (some (p125.add 0)))]) (by kernel_rfl) ?_
              refine gl_load (T' := 36) (xp := (.tmp 73)) (p := (p125.add 0)) (c := .slice A131 x123.f0.length n132) (n := 1) (by kernel_rfl) (by kernel_rfl) (by kernel_rfl) (by kernel_rfl) (hA128.drop 0) ?_
              refine gl_pure 2 [0, 2, 3, 4, 14, 18, 37, 38, 39, 70, 74, 75, 76] (K' := [(0, .string a0), (2, .slice A2_0 a2.length n2_0), (3, .bool a3), (4, .float .f64 b4_0), (14, (tabv_48 (aggr_fold a0))), (18, .slice A90 r77.length n91), (37, .slice A16 y11.1.length c17), (38, .int .i64 (y11.1.length : Int)), (39, .int .i64 s31.2), (70, .slice A35 s31.1.length n36), (74, .slice A131 x123.f0.length n132), (75, .slice A2_0 a2.length n2_0), (76, .bool a3)]) (by kernel_rfl) ?_
              obtain ⟨y136, hx137, hb33⟩ := bind_some hb33
              refine gl_call (by kernel_rfl) (aggr_group_walk (r := y136) (hG.mono (Imm.trans (Imm.trans (Imm.trans hI3 hI15) hI34) hI89)) hf133 (hf2_0.mono (Imm.trans (Imm.trans (Imm.trans hI3 hI15) hI34) hI89)) hx137 _) ?_
              rintro v I138 L139 hI140 ⟨A141, c142, C143, hO144, rfl, rfl⟩
              refine gl_pure 3 [0, 2, 3, 4, 14, 37, 38, 39, 70, 77, 78, 79, 80] (K' := [(0, .string a0), (2, .slice A2_0 a2.length n2_0), (3, .bool a3), (4, .float .f64 b4_0), (14, (tabv_48 (aggr_fold a0))), (37, .slice A16 y11.1.length c17), (38, .int .i64 (y11.1.length : Int)), (39, .int .i64 s31.2), (70, .slice A35 s31.1.length n36), (77, .slice A141 y136.length c142), (78, (tabv_48 (aggr_fold a0))), (79, .slice A90 r77.length n91), (80, .float .f64 b4_0)]) (by kernel_rfl) ?_
              refine gl_rest (Tk.step (Upd.app _ (Upd.rmC _ _)) (Tk.nil _)) (fun J147 hJ148 hC149 => ?_)
              have hf150 := (OwnS.rest (hO93.mono hI140) hJ148 hC149.left)
              obtain ⟨y152, hx151, hb33⟩ := bind_some hb33
              refine gl_callv (by kernel_rfl) ((tabf_48_fn (aggr_fold a0)).out _ (Imm.refl _) _ _ _ hx151 _ _ _ hf150 hf4_0 _) ?_
              rintro v I153 L154 hI155 ⟨z156, hO157, rfl, rfl⟩
              refine gl_call (by kernel_rfl) (aggr_told_walk (r := (aggr_told y152)) hO157 rfl _) ?_
              rintro v I158 L159 hI160 ⟨z161, hO162, rfl, rfl⟩
              refine gl_pure 1 [0, 2, 3, 4, 14, 37, 38, 39, 70, 83] (K' := [(0, .string a0), (2, .slice A2_0 a2.length n2_0), (3, .bool a3), (4, .float .f64 b4_0), (14, (tabv_48 (aggr_fold a0))), (37, .slice A16 y11.1.length c17), (38, .int .i64 (y11.1.length : Int)), (39, .int .i64 s31.2), (70, .slice A35 s31.1.length n36), (83, .agg #[.slice A141 y136.length c142, .float .f64 z161])]) (by kernel_rfl) ?_
              refine gl_rest (Tk.step (Upd.rmC _ _) (Tk.nil _)) (fun J163 hJ164 hC165 => ?_)
              have hf166 := (OwnS.rest (hO144.mono (Imm.trans (Imm.trans hJ148 hI155) hI160)) hJ164 hC165.left)
              refine gl_buildSlice (T' := 22) (e := 39) (n := 2) (len := 1) (parts := #[(0, (.tmp 83))]) (l := [(0, .agg #[.slice A141 y136.length c142, .float .f64 z161])]) (cs := #[.slice A141 y136.length c142, .float .f64 z161]) (by kernel_rfl) (by kernel_rfl) (by kernel_rfl) (by kernel_rfl) (by kernel_rfl) (fun g167 => ?_)
              have hO168 : OwnS kS38 39 J163 (some ⟨g167, 0, none⟩) 1 [(⟨y136, (aggr_told y152)⟩ : S38)] [(g167, .cells #[.slice A141 y136.length c142, .float .f64 z161] 39)] := OwnS.lit (row_cons (l := [.slice A141 y136.length c142, .float .f64 z161]) (kS38_mk (x := (⟨y136, (aggr_told y152)⟩ : S38)) hf166 hO162) (row_nil _ _)) rfl rfl rfl
              refine gl_reord (D := [(g167, .cells #[.slice A141 y136.length c142, .float .f64 z161] 39)] ++ (C37 ++ (C18 ++ L))) (Reord.refl _) ?_
              obtain ⟨zs171, hz172, hb33⟩ := bind_some hb33
              refine gl_append (xv := .slice (some ⟨g167, 0, none⟩) [(⟨y136, (aggr_told y152)⟩ : S38)].length 1) (d := kS38) (t := 22) (tx := 22) (e := 39) (s := (.tmp 70)) (x := (.tmp 84)) (xs := s31.1) (fun X => [(g167, .cells #[.slice A141 y136.length c142, .float .f64 z161] 39)] ++ (X ++ (C18 ++ L))) hz172 (by kernel_rfl) (by kernel_rfl) (by kernel_rfl) (by kernel_rfl) (by kernel_rfl) (by kernel_rfl) (fun X => (Upd.app _ (Upd.head _ X _))) (hO38.mono (Imm.trans (Imm.trans (Imm.trans (Imm.trans (Imm.trans hI89 hI140) hJ148) hI155) hI160) hJ164)) (SrcOk.slice (c := 1) (e := 39) (n := 2) (OwnS.rd hO168 (Upd.selfC _ _)) (by kernel_rfl)) (fun A173 n174 C175 hO176 => ?_)
              refine gl_pure 1 [0, 2, 3, 4, 14, 15, 37, 38, 39] (K' := [(0, .string a0), (2, .slice A2_0 a2.length n2_0), (3, .bool a3), (4, .float .f64 b4_0), (14, (tabv_48 (aggr_fold a0))), (15, .slice A173 zs171.length n174), (37, .slice A16 y11.1.length c17), (38, .int .i64 (y11.1.length : Int)), (39, .int .i64 s31.2)]) (by kernel_rfl) ?_
              refine gl_atE (by kernel_rfl) ?_
              refine ge_block_normal ?_
              refine ge_seq ?_
              refine gk_region (by kernel_rfl) ?_
              refine gl_pure 2 [0, 2, 3, 4, 14, 15, 37, 38, 39] (K' := [(0, .string a0), (2, .slice A2_0 a2.length n2_0), (3, .bool a3), (4, .float .f64 b4_0), (14, (tabv_48 (aggr_fold a0))), (15, .slice A173 zs171.length n174), (37, .slice A16 y11.1.length c17), (38, .int .i64 (y11.1.length : Int)), (39, .int .i64 (IntKind.wrap .i64 (s31.2 + 1)))]) (by kernel_rfl) ?_
              refine gl_reord (D := C175 ++ (C18 ++ L)) (Reord.step (Upd.app _ (Upd.rmC _ _)) (Reord.step (Upd.app _ (Upd.rmC _ _)) (Reord.skipC (Reord.refl _)))) ?_
              refine gl_atE (by kernel_rfl) ?_
              obtain rfl := some_inj hb33
              exact ge_round fun t ht => ⟨A173, n174, C175, hO176, (Imm.trans (Imm.trans (Imm.trans (Imm.trans (Imm.trans (Imm.trans hI34 hI89) hI140) hJ148) hI155) hI160) hJ164), rfl, ht.pick (l := [0, 2, 3, 4, 14, 15, 37, 38, 39]) (by kernel_rfl)⟩
        · have hb33 := cond_f hc50 hb33
          refine gk_reord (D := C37 ++ L) (Reord.step (Upd.rmC _ _) (Reord.skipC (Reord.refl _))) ?_
          refine gk_exit (by kernel_rfl) ?_
          refine ge_seq_exit ?_
          obtain rfl := some_inj hb33
          refine ge_round_out (fun hrr => ?_) (by intro h; cases h)
          obtain rfl := hrr
          refine ge_block_hit (by kernel_rfl) ?_
          exact ge_mid fun t ht => ⟨A35, n36, C37, hO38, hI34, rfl, ht.pick (l := [15]) (by kernel_rfl)⟩
      · rintro t I47 L' ⟨A42, n43, C44, hO45, hI41, rfl, hK46⟩
        refine ge_at hK46 ?_
        refine ge_seq ?_
        refine gk_seq (by kernel_rfl) ?_
        refine gk_region (by kernel_rfl) ?_
        refine gl_pure 1 [87] (K' := [(87, .slice A42 r29.length n43)]) (by kernel_rfl) ?_
        refine gl_rest (Tk.step (Upd.rmC _ _) (Tk.nil _)) (fun J177 hJ178 hC179 => ?_)
        have hf180 := (OwnS.rest hO45 hJ178 hC179.left)
        obtain ⟨y181, hx182, hr⟩ := bind_some hr
        refine gl_call (by kernel_rfl) (vec_Vector_walk (r := y181) (hG.mono (Imm.trans (Imm.trans (Imm.trans hI3 hI15) hI41) hJ178)) hf180 hx182 _) ?_
        rintro v I183 L184 hI185 ⟨A186, c187, C188, hO189, rfl, rfl⟩
        refine gl_pure 4 [10, 11] (K' := [(10, .slice A186 y181.1.length c187), (11, .int .i64 y181.2)]) (by kernel_rfl) ?_
        refine gl_atE (by kernel_rfl) ?_
        refine ge_seq ?_
        refine gk_ret (by kernel_rfl) ?_
        obtain rfl := some_inj hr
        exact ge_result trivial (ResOk.tmp (by kernel_rfl) (ResOk.tmp (by kernel_rfl) ResOk.nil)) (Imm.trans (Imm.trans (Imm.trans (Imm.trans hI3 hI15) hI41) hJ178) hI185) ⟨A186, c187, C188, hO189, rfl, rfl⟩
/-! 19 tocsinlaw16_awake  -/
noncomputable def tocsinlaw16_awake : Option Bool :=
  Option.bind (aggr_Number (⟨#[115, 117, 109]⟩ : ByteArray) [(⟨[(⟨(⟨#[97]⟩ : ByteArray), (⟨#[49]⟩ : ByteArray)⟩ : S76), (⟨(⟨#[98]⟩ : ByteArray), (⟨#[120]⟩ : ByteArray)⟩ : S76)], (some 4611686018427387904 : Fl)⟩ : S38), (⟨[(⟨(⟨#[97]⟩ : ByteArray), (⟨#[49]⟩ : ByteArray)⟩ : S76), (⟨(⟨#[98]⟩ : ByteArray), (⟨#[121]⟩ : ByteArray)⟩ : S76)], (some 4616189618054758400 : Fl)⟩ : S38)] [(⟨#[97]⟩ : ByteArray)] false (some 0 : Fl)) fun (y27 : (List S38) × Int) =>
  Option.bind (aggr_Fold (⟨#[97, 118, 103]⟩ : ByteArray) [(some 4611686018427387904 : Fl), (some 4616189618054758400 : Fl)] (some 0 : Fl)) fun (y44 : Fl × Int) =>
  Option.bind (bif (y27.2 == 0) then
    (bif ((y27.1.length : Int) == 1) then
      (Option.bind (ix y27.1 0) fun (x58 : S38) =>
        bif (fcmp .eql x58.f1 (some 4618441417868443648 : Fl)) then
        (Option.bind (ix y27.1 0) fun (x73 : S38) =>
          bif ((x73.f0.length : Int) == 1) then
          (bif (y44.2 == 0) then
            (some (fcmp .eql y44.1 (some 4613937818241073152 : Fl)))
            else
            (some false))
          else
          (some false))
        else
        (some false))
      else
      (some false))
    else
    (some false)) fun (j51 : Bool) =>
  some j51
theorem tocsinlaw16_awake_walk  {I : Imm} {r : Bool} (hG : Gl I) (hr : tocsinlaw16_awake = some r) (L : Own) :
    CallsTo Tryz.prog 19 #[] I L (fun v I' L' => v = .bool r ∧ L = L') := by
  unfold tocsinlaw16_awake at hr
  refine callsTo_body (N := 56) Tryz.func19 (by kernel_rfl) (by kernel_rfl) (by kernel_rfl) ?_
  refine gk_pick [] (K' := []) (by kernel_rfl) ?_
  refine gk_seq (by kernel_rfl) ?_
  refine gk_region (by kernel_rfl) ?_
  refine gl_pure 1 [] (K' := []) (by kernel_rfl) ?_
  refine gl_atE (by kernel_rfl) ?_
  refine ge_seq ?_
  refine gk_seq (by kernel_rfl) ?_
  refine gk_region (by kernel_rfl) ?_
  refine gl_pure 2 [6, 7] (K' := [(6, .agg #[.string (⟨#[97]⟩ : ByteArray), .string (⟨#[49]⟩ : ByteArray)]), (7, .agg #[.string (⟨#[98]⟩ : ByteArray), .string (⟨#[120]⟩ : ByteArray)])]) (by kernel_rfl) ?_
  refine gl_buildSlice (T' := 36) (e := 77) (n := 2) (len := 2) (parts := #[(0, (.tmp 6)), (1, (.tmp 7))]) (l := [(0, .agg #[.string (⟨#[97]⟩ : ByteArray), .string (⟨#[49]⟩ : ByteArray)]), (1, .agg #[.string (⟨#[98]⟩ : ByteArray), .string (⟨#[120]⟩ : ByteArray)])]) (cs := #[.string (⟨#[97]⟩ : ByteArray), .string (⟨#[49]⟩ : ByteArray), .string (⟨#[98]⟩ : ByteArray), .string (⟨#[120]⟩ : ByteArray)]) (by kernel_rfl) (by kernel_rfl) (by kernel_rfl) (by kernel_rfl) (by kernel_rfl) (fun g1 => ?_)
  have hO2 : OwnS kS76 77 I (some ⟨g1, 0, none⟩) 2 [(⟨(⟨#[97]⟩ : ByteArray), (⟨#[49]⟩ : ByteArray)⟩ : S76), (⟨(⟨#[98]⟩ : ByteArray), (⟨#[120]⟩ : ByteArray)⟩ : S76)] [(g1, .cells #[.string (⟨#[97]⟩ : ByteArray), .string (⟨#[49]⟩ : ByteArray), .string (⟨#[98]⟩ : ByteArray), .string (⟨#[120]⟩ : ByteArray)] 77)] := OwnS.lit (row_cons (l := [.string (⟨#[97]⟩ : ByteArray), .string (⟨#[49]⟩ : ByteArray)]) (kS76_mk (x := (⟨(⟨#[97]⟩ : ByteArray), (⟨#[49]⟩ : ByteArray)⟩ : S76)) ) (row_cons (l := [.string (⟨#[98]⟩ : ByteArray), .string (⟨#[120]⟩ : ByteArray)]) (kS76_mk (x := (⟨(⟨#[98]⟩ : ByteArray), (⟨#[120]⟩ : ByteArray)⟩ : S76)) ) (row_nil _ _))) rfl rfl rfl
  refine gl_reord (D := [(g1, .cells #[.string (⟨#[97]⟩ : ByteArray), .string (⟨#[49]⟩ : ByteArray), .string (⟨#[98]⟩ : ByteArray), .string (⟨#[120]⟩ : ByteArray)] 77)] ++ L) (Reord.refl _) ?_
  refine gl_pure 3 [9, 10, 11] (K' := [(9, .agg #[.slice (some ⟨g1, 0, none⟩) [(⟨(⟨#[97]⟩ : ByteArray), (⟨#[49]⟩ : ByteArray)⟩ : S76), (⟨(⟨#[98]⟩ : ByteArray), (⟨#[120]⟩ : ByteArray)⟩ : S76)].length 2, .float .f64 4611686018427387904]), (10, .agg #[.string (⟨#[97]⟩ : ByteArray), .string (⟨#[49]⟩ : ByteArray)]), (11, .agg #[.string (⟨#[98]⟩ : ByteArray), .string (⟨#[121]⟩ : ByteArray)])]) (by kernel_rfl) ?_
  refine gl_buildSlice (T' := 36) (e := 77) (n := 2) (len := 2) (parts := #[(0, (.tmp 10)), (1, (.tmp 11))]) (l := [(0, .agg #[.string (⟨#[97]⟩ : ByteArray), .string (⟨#[49]⟩ : ByteArray)]), (1, .agg #[.string (⟨#[98]⟩ : ByteArray), .string (⟨#[121]⟩ : ByteArray)])]) (cs := #[.string (⟨#[97]⟩ : ByteArray), .string (⟨#[49]⟩ : ByteArray), .string (⟨#[98]⟩ : ByteArray), .string (⟨#[121]⟩ : ByteArray)]) (by kernel_rfl) (by kernel_rfl) (by kernel_rfl) (by kernel_rfl) (by kernel_rfl) (fun g5 => ?_)
  have hO6 : OwnS kS76 77 I (some ⟨g5, 0, none⟩) 2 [(⟨(⟨#[97]⟩ : ByteArray), (⟨#[49]⟩ : ByteArray)⟩ : S76), (⟨(⟨#[98]⟩ : ByteArray), (⟨#[121]⟩ : ByteArray)⟩ : S76)] [(g5, .cells #[.string (⟨#[97]⟩ : ByteArray), .string (⟨#[49]⟩ : ByteArray), .string (⟨#[98]⟩ : ByteArray), .string (⟨#[121]⟩ : ByteArray)] 77)] := OwnS.lit (row_cons (l := [.string (⟨#[97]⟩ : ByteArray), .string (⟨#[49]⟩ : ByteArray)]) (kS76_mk (x := (⟨(⟨#[97]⟩ : ByteArray), (⟨#[49]⟩ : ByteArray)⟩ : S76)) ) (row_cons (l := [.string (⟨#[98]⟩ : ByteArray), .string (⟨#[121]⟩ : ByteArray)]) (kS76_mk (x := (⟨(⟨#[98]⟩ : ByteArray), (⟨#[121]⟩ : ByteArray)⟩ : S76)) ) (row_nil _ _))) rfl rfl rfl
  refine gl_reord (D := [(g5, .cells #[.string (⟨#[97]⟩ : ByteArray), .string (⟨#[49]⟩ : ByteArray), .string (⟨#[98]⟩ : ByteArray), .string (⟨#[121]⟩ : ByteArray)] 77)] ++ ([(g1, .cells #[.string (⟨#[97]⟩ : ByteArray), .string (⟨#[49]⟩ : ByteArray), .string (⟨#[98]⟩ : ByteArray), .string (⟨#[120]⟩ : ByteArray)] 77)] ++ L)) (Reord.refl _) ?_
  refine gl_pure 1 [9, 13] (K' := [(9, .agg #[.slice (some ⟨g1, 0, none⟩) [(⟨(⟨#[97]⟩ : ByteArray), (⟨#[49]⟩ : ByteArray)⟩ : S76), (⟨(⟨#[98]⟩ : ByteArray), (⟨#[120]⟩ : ByteArray)⟩ : S76)].length 2, .float .f64 4611686018427387904]), (13, .agg #[.slice (some ⟨g5, 0, none⟩) [(⟨(⟨#[97]⟩ : ByteArray), (⟨#[49]⟩ : ByteArray)⟩ : S76), (⟨(⟨#[98]⟩ : ByteArray), (⟨#[121]⟩ : ByteArray)⟩ : S76)].length 2, .float .f64 4616189618054758400])]) (by kernel_rfl) ?_
  refine gl_rest (Tk.step (Upd.rmC _ _) (Tk.step (Upd.rmC _ _) (Tk.nil _))) (fun J9 hJ10 hC11 => ?_)
  have hf12 := (OwnS.rest hO6 hJ10 hC11.left)
  have hf13 := (OwnS.rest hO2 hJ10 hC11.right.left)
  refine gl_buildSlice (T' := 22) (e := 39) (n := 2) (len := 2) (parts := #[(0, (.tmp 9)), (1, (.tmp 13))]) (l := [(0, .agg #[.slice (some ⟨g1, 0, none⟩) [(⟨(⟨#[97]⟩ : ByteArray), (⟨#[49]⟩ : ByteArray)⟩ : S76), (⟨(⟨#[98]⟩ : ByteArray), (⟨#[120]⟩ : ByteArray)⟩ : S76)].length 2, .float .f64 4611686018427387904]), (1, .agg #[.slice (some ⟨g5, 0, none⟩) [(⟨(⟨#[97]⟩ : ByteArray), (⟨#[49]⟩ : ByteArray)⟩ : S76), (⟨(⟨#[98]⟩ : ByteArray), (⟨#[121]⟩ : ByteArray)⟩ : S76)].length 2, .float .f64 4616189618054758400])]) (cs := #[.slice (some ⟨g1, 0, none⟩) [(⟨(⟨#[97]⟩ : ByteArray), (⟨#[49]⟩ : ByteArray)⟩ : S76), (⟨(⟨#[98]⟩ : ByteArray), (⟨#[120]⟩ : ByteArray)⟩ : S76)].length 2, .float .f64 4611686018427387904, .slice (some ⟨g5, 0, none⟩) [(⟨(⟨#[97]⟩ : ByteArray), (⟨#[49]⟩ : ByteArray)⟩ : S76), (⟨(⟨#[98]⟩ : ByteArray), (⟨#[121]⟩ : ByteArray)⟩ : S76)].length 2, .float .f64 4616189618054758400]) (by kernel_rfl) (by kernel_rfl) (by kernel_rfl) (by kernel_rfl) (by kernel_rfl) (fun g14 => ?_)
  have hO15 : OwnS kS38 39 J9 (some ⟨g14, 0, none⟩) 2 [(⟨[(⟨(⟨#[97]⟩ : ByteArray), (⟨#[49]⟩ : ByteArray)⟩ : S76), (⟨(⟨#[98]⟩ : ByteArray), (⟨#[120]⟩ : ByteArray)⟩ : S76)], (some 4611686018427387904 : Fl)⟩ : S38), (⟨[(⟨(⟨#[97]⟩ : ByteArray), (⟨#[49]⟩ : ByteArray)⟩ : S76), (⟨(⟨#[98]⟩ : ByteArray), (⟨#[121]⟩ : ByteArray)⟩ : S76)], (some 4616189618054758400 : Fl)⟩ : S38)] [(g14, .cells #[.slice (some ⟨g1, 0, none⟩) [(⟨(⟨#[97]⟩ : ByteArray), (⟨#[49]⟩ : ByteArray)⟩ : S76), (⟨(⟨#[98]⟩ : ByteArray), (⟨#[120]⟩ : ByteArray)⟩ : S76)].length 2, .float .f64 4611686018427387904, .slice (some ⟨g5, 0, none⟩) [(⟨(⟨#[97]⟩ : ByteArray), (⟨#[49]⟩ : ByteArray)⟩ : S76), (⟨(⟨#[98]⟩ : ByteArray), (⟨#[121]⟩ : ByteArray)⟩ : S76)].length 2, .float .f64 4616189618054758400] 39)] := OwnS.lit (row_cons (l := [.slice (some ⟨g1, 0, none⟩) [(⟨(⟨#[97]⟩ : ByteArray), (⟨#[49]⟩ : ByteArray)⟩ : S76), (⟨(⟨#[98]⟩ : ByteArray), (⟨#[120]⟩ : ByteArray)⟩ : S76)].length 2, .float .f64 4611686018427387904]) (kS38_mk (x := (⟨[(⟨(⟨#[97]⟩ : ByteArray), (⟨#[49]⟩ : ByteArray)⟩ : S76), (⟨(⟨#[98]⟩ : ByteArray), (⟨#[120]⟩ : ByteArray)⟩ : S76)], (some 4611686018427387904 : Fl)⟩ : S38)) hf13 (FRep.of 4611686018427387904)) (row_cons (l := [.slice (some ⟨g5, 0, none⟩) [(⟨(⟨#[97]⟩ : ByteArray), (⟨#[49]⟩ : ByteArray)⟩ : S76), (⟨(⟨#[98]⟩ : ByteArray), (⟨#[121]⟩ : ByteArray)⟩ : S76)].length 2, .float .f64 4616189618054758400]) (kS38_mk (x := (⟨[(⟨(⟨#[97]⟩ : ByteArray), (⟨#[49]⟩ : ByteArray)⟩ : S76), (⟨(⟨#[98]⟩ : ByteArray), (⟨#[121]⟩ : ByteArray)⟩ : S76)], (some 4616189618054758400 : Fl)⟩ : S38)) hf12 (FRep.of 4616189618054758400)) (row_nil _ _))) rfl rfl rfl
  refine gl_reord (D := [(g14, .cells #[.slice (some ⟨g1, 0, none⟩) [(⟨(⟨#[97]⟩ : ByteArray), (⟨#[49]⟩ : ByteArray)⟩ : S76), (⟨(⟨#[98]⟩ : ByteArray), (⟨#[120]⟩ : ByteArray)⟩ : S76)].length 2, .float .f64 4611686018427387904, .slice (some ⟨g5, 0, none⟩) [(⟨(⟨#[97]⟩ : ByteArray), (⟨#[49]⟩ : ByteArray)⟩ : S76), (⟨(⟨#[98]⟩ : ByteArray), (⟨#[121]⟩ : ByteArray)⟩ : S76)].length 2, .float .f64 4616189618054758400] 39)] ++ L) (Reord.refl _) ?_
  refine gl_pure 1 [1] (K' := [(1, .slice (some ⟨g14, 0, none⟩) [(⟨[(⟨(⟨#[97]⟩ : ByteArray), (⟨#[49]⟩ : ByteArray)⟩ : S76), (⟨(⟨#[98]⟩ : ByteArray), (⟨#[120]⟩ : ByteArray)⟩ : S76)], (some 4611686018427387904 : Fl)⟩ : S38), (⟨[(⟨(⟨#[97]⟩ : ByteArray), (⟨#[49]⟩ : ByteArray)⟩ : S76), (⟨(⟨#[98]⟩ : ByteArray), (⟨#[121]⟩ : ByteArray)⟩ : S76)], (some 4616189618054758400 : Fl)⟩ : S38)].length 2)]) (by kernel_rfl) ?_
  refine gl_atE (by kernel_rfl) ?_
  refine ge_seq ?_
  refine gk_seq (by kernel_rfl) ?_
  refine gk_region (by kernel_rfl) ?_
  refine gl_pure 1 [16] (K' := [(16, .slice (some ⟨g14, 0, none⟩) [(⟨[(⟨(⟨#[97]⟩ : ByteArray), (⟨#[49]⟩ : ByteArray)⟩ : S76), (⟨(⟨#[98]⟩ : ByteArray), (⟨#[120]⟩ : ByteArray)⟩ : S76)], (some 4611686018427387904 : Fl)⟩ : S38), (⟨[(⟨(⟨#[97]⟩ : ByteArray), (⟨#[49]⟩ : ByteArray)⟩ : S76), (⟨(⟨#[98]⟩ : ByteArray), (⟨#[121]⟩ : ByteArray)⟩ : S76)], (some 4616189618054758400 : Fl)⟩ : S38)].length 2)]) (by kernel_rfl) ?_
  refine gl_buildSlice (T' := 23) (e := 9) (n := 1) (len := 1) (parts := #[(0, (.const (.string (⟨#[97]⟩ : ByteArray))))]) (l := [(0, .string (⟨#[97]⟩ : ByteArray))]) (cs := #[.string (⟨#[97]⟩ : ByteArray)]) (by kernel_rfl) (by kernel_rfl) (by kernel_rfl) (by kernel_rfl) (by kernel_rfl) (fun g18 => ?_)
  have hO19 : OwnS Kd.str 9 J9 (some ⟨g18, 0, none⟩) 1 [(⟨#[97]⟩ : ByteArray)] [(g18, .cells #[.string (⟨#[97]⟩ : ByteArray)] 9)] := OwnS.lit (row_cons (l := [.string (⟨#[97]⟩ : ByteArray)]) rfl (row_nil _ _)) rfl rfl rfl
  refine gl_reord (D := [(g18, .cells #[.string (⟨#[97]⟩ : ByteArray)] 9)] ++ ([(g14, .cells #[.slice (some ⟨g1, 0, none⟩) [(⟨(⟨#[97]⟩ : ByteArray), (⟨#[49]⟩ : ByteArray)⟩ : S76), (⟨(⟨#[98]⟩ : ByteArray), (⟨#[120]⟩ : ByteArray)⟩ : S76)].length 2, .float .f64 4611686018427387904, .slice (some ⟨g5, 0, none⟩) [(⟨(⟨#[97]⟩ : ByteArray), (⟨#[49]⟩ : ByteArray)⟩ : S76), (⟨(⟨#[98]⟩ : ByteArray), (⟨#[121]⟩ : ByteArray)⟩ : S76)].length 2, .float .f64 4616189618054758400] 39)] ++ L)) (Reord.refl _) ?_
  refine gl_rest (Tk.step (Upd.rmC _ _) (Tk.step (Upd.rmC _ _) (Tk.nil _))) (fun J22 hJ23 hC24 => ?_)
  have hf25 := (OwnS.rest hO19 hJ23 hC24.left)
  have hf26 := (OwnS.rest hO15 hJ23 hC24.right.left)
  obtain ⟨y27, hx28, hr⟩ := bind_some hr
  refine gl_call (by kernel_rfl) (aggr_Number_walk (r := y27) (hG.mono (Imm.trans hJ10 hJ23)) hf26 hf25 (FRep.of 0) hx28 _) ?_
  rintro v I29 L30 hI31 ⟨A32, c33, C34, hO35, rfl, rfl⟩
  refine gl_pure 5 [2, 3] (K' := [(2, .slice A32 y27.1.length c33), (3, .int .i64 y27.2)]) (by kernel_rfl) ?_
  refine gl_atE (by kernel_rfl) ?_
  refine ge_seq ?_
  refine gk_seq (by kernel_rfl) ?_
  refine gk_region (by kernel_rfl) ?_
  refine gl_buildSlice (T' := 43) (e := 37) (n := 1) (len := 2) (parts := #[(0, (.const (.float .f64 4611686018427387904))), (1, (.const (.float .f64 4616189618054758400)))]) (l := [(0, .float .f64 4611686018427387904), (1, .float .f64 4616189618054758400)]) (cs := #[.float .f64 4611686018427387904, .float .f64 4616189618054758400]) (by kernel_rfl) (by kernel_rfl) (by kernel_rfl) (by kernel_rfl) (by kernel_rfl) (fun g36 => ?_)
  have hO37 : OwnS Kd.flt 37 I29 (some ⟨g36, 0, none⟩) 2 [(some 4611686018427387904 : Fl), (some 4616189618054758400 : Fl)] [(g36, .cells #[.float .f64 4611686018427387904, .float .f64 4616189618054758400] 37)] := OwnS.lit (row_cons (l := [.float .f64 4611686018427387904]) ⟨_, rfl, (FRep.of 4611686018427387904)⟩ (row_cons (l := [.float .f64 4616189618054758400]) ⟨_, rfl, (FRep.of 4616189618054758400)⟩ (row_nil _ _))) rfl rfl rfl
  refine gl_reord (D := [(g36, .cells #[.float .f64 4611686018427387904, .float .f64 4616189618054758400] 37)] ++ (C34 ++ L)) (Reord.refl _) ?_
  refine gl_rest (Tk.step (Upd.rmC _ _) (Tk.nil _)) (fun J40 hJ41 hC42 => ?_)
  have hf43 := (OwnS.rest hO37 hJ41 hC42.left)
  obtain ⟨y44, hx45, hr⟩ := bind_some hr
  refine gl_call (by kernel_rfl) (aggr_Fold_walk (r := y44) hf43 (FRep.of 0) hx45 _) ?_
  rintro v I46 L47 hI48 ⟨z49, hO50, rfl, rfl⟩
  refine gl_pure 5 [2, 3, 4, 5] (K' := [(2, .slice A32 y27.1.length c33), (3, .int .i64 y27.2), (4, .float .f64 z49), (5, .int .i64 y44.2)]) (by kernel_rfl) ?_
  refine gl_atE (by kernel_rfl) ?_
  refine ge_seq ?_
  refine gk_seq (by kernel_rfl) ?_
  obtain ⟨j51, hj52, hr⟩ := bind_some hr
  refine gk_join (fun t I' L' => I46 ≤ I' ∧ L = L' ∧ Knows 56 [(0, .bool j51)] t) ?_ ?_
  · refine gk_region (by kernel_rfl) ?_
    refine gl_pure 3 [2, 4, 5, 28] (K' := [(2, .slice A32 y27.1.length c33), (4, .float .f64 z49), (5, .int .i64 y44.2), (28, .bool (y27.2 == 0))]) (by kernel_rfl) ?_
    refine gl_case 28 (b := (y27.2 == 0)) (by kernel_rfl) (fun hc56 => ?_) (fun hc56 => ?_)
    · have hj52 := cond_t hc56 hj52
      refine gl_pure 5 [2, 4, 5, 33] (K' := [(2, .slice A32 y27.1.length c33), (4, .float .f64 z49), (5, .int .i64 y44.2), (33, .bool ((y27.1.length : Int) == 1))]) (by kernel_rfl) ?_
      refine gl_case 33 (b := ((y27.1.length : Int) == 1)) (by kernel_rfl) (fun hc57 => ?_) (fun hc57 => ?_)
      · have hj52 := cond_t hc57 hj52
        refine gl_pure 1 [2, 4, 5, 33, 34] (K' := [(2, .slice A32 y27.1.length c33), (4, .float .f64 z49), (5, .int .i64 y44.2), (33, .bool true), (34, .slice A32 y27.1.length c33)]) (by kernel_rfl) ?_
        obtain ⟨x58, hx59, hj52⟩ := bind_some hj52
        refine gl_indexAddrW (d := kS38) (c := c33) (T' := 22) (e := 39) (xs := (.tmp 34)) (xi := (.const (.int .i64 0))) (kd := .i64) hx59 (hO35.mono (Imm.trans hJ41 hI48)) (Upd.selfC _ _) (by kernel_rfl) (by kernel_rfl) (by kernel_rfl) (by kernel_rfl) (by kernel_rfl) (fun p60 cs61 hR62 hA63 hp71 => ?_)
        obtain ⟨A66, n67, b69, hf68, hf70, rfl⟩ := kS38_open hR62
        refine gl_pure 1 [2, 4, 5, 33, 36] (K' := [(2, .slice A32 y27.1.length c33), (4, .float .f64 z49), (5, .int .i64 y44.2), (33, .bool true), (36, .pointer (some (p60.add 1)))]) (by kernel_rfl) ?_
        refine gl_loadO (T' := 37) (xp := (.tmp 36)) (p := (p60.add 1)) (c := .float .f64 b69) (n := 1) (by kernel_rfl) (by kernel_rfl) (by kernel_rfl) (by kernel_rfl) (hA63.drop 1) ?_
        refine gl_fcmp (op := .eql) (t := 37) (t' := 37) (xx := (.tmp 37)) (yy := (.const (.float .f64 4618441417868443648))) hf70 (FRep.of 4618441417868443648) (by kernel_rfl) (by kernel_rfl) rfl (by kernel_rfl) (by kernel_rfl) ?_
        refine gl_pure 2 [2, 4, 5, 40] (K' := [(2, .slice A32 y27.1.length c33), (4, .float .f64 z49), (5, .int .i64 y44.2), (40, .bool (fcmp .eql x58.f1 (some 4618441417868443648 : Fl)))]) (by kernel_rfl) ?_
        refine gl_case 40 (b := (fcmp .eql x58.f1 (some 4618441417868443648 : Fl))) (by kernel_rfl) (fun hc72 => ?_) (fun hc72 => ?_)
        · have hj52 := cond_t hc72 hj52
          refine gl_pure 1 [4, 5, 40, 41] (K' := [(4, .float .f64 z49), (5, .int .i64 y44.2), (40, .bool true), (41, .slice A32 y27.1.length c33)]) (by kernel_rfl) ?_
          obtain ⟨x73, hx74, hj52⟩ := bind_some hj52
          refine gl_indexAddrW (d := kS38) (c := c33) (T' := 22) (e := 39) (xs := (.tmp 41)) (xi := (.const (.int .i64 0))) (kd := .i64) hx74 (hO35.mono (Imm.trans hJ41 hI48)) (Upd.selfC _ _) (by kernel_rfl) (by kernel_rfl) (by kernel_rfl) (by kernel_rfl) (by kernel_rfl) (fun p75 cs76 hR77 hA78 hp86 => ?_)
          obtain ⟨A81, n82, b84, hf83, hf85, rfl⟩ := kS38_open hR77
          refine gl_pure 1 [4, 5, 40, 43] (K' := [(4, .float .f64 z49), (5, .int .i64 y44.2), (40, .bool true), (43, .pointer (some (p75.add 0)))]) (by kernel_rfl) ?_
          refine gl_loadO (T' := 36) (xp := (.tmp 43)) (p := (p75.add 0)) (c := .slice A81 x73.f0.length n82) (n := 1) (by kernel_rfl) (by kernel_rfl) (by kernel_rfl) (by kernel_rfl) (hA78.drop 0) ?_
          refine gl_pure 4 [4, 5, 48] (K' := [(4, .float .f64 z49), (5, .int .i64 y44.2), (48, .bool ((x73.f0.length : Int) == 1))]) (by kernel_rfl) ?_
          refine gl_case 48 (b := ((x73.f0.length : Int) == 1)) (by kernel_rfl) (fun hc87 => ?_) (fun hc87 => ?_)
          · have hj52 := cond_t hc87 hj52
            refine gl_pure 4 [4, 52] (K' := [(4, .float .f64 z49), (52, .bool (y44.2 == 0))]) (by kernel_rfl) ?_
            refine gl_case 52 (b := (y44.2 == 0)) (by kernel_rfl) (fun hc88 => ?_) (fun hc88 => ?_)
            · have hj52 := cond_t hc88 hj52
              refine gl_pure 1 [52, 53] (K' := [(52, .bool true), (53, .float .f64 z49)]) (by kernel_rfl) ?_
              refine gl_fcmp (op := .eql) (t := 37) (t' := 37) (xx := (.tmp 53)) (yy := (.const (.float .f64 4613937818241073152))) hO50 (FRep.of 4613937818241073152) (by kernel_rfl) (by kernel_rfl) rfl (by kernel_rfl) (by kernel_rfl) ?_
              refine gl_pure 2 [0] (K' := [(0, .bool (fcmp .eql y44.1 (some 4613937818241073152 : Fl)))]) (by kernel_rfl) ?_
              refine gl_reord (D := L) (Reord.skipC (Reord.refl _)) ?_
              refine gl_atE (by kernel_rfl) ?_
              obtain rfl := some_inj hj52
              exact ge_mid fun t ht => ⟨(Imm.refl _), rfl, ht.pick (l := [0]) (by kernel_rfl)⟩
            · have hj52 := cond_f hc88 hj52
              refine gl_pure 4 [0] (K' := [(0, .bool false)]) (by kernel_rfl) ?_
              refine gl_reord (D := L) (Reord.skipC (Reord.refl _)) ?_
              refine gl_atE (by kernel_rfl) ?_
              obtain rfl := some_inj hj52
              exact ge_mid fun t ht => ⟨(Imm.refl _), rfl, ht.pick (l := [0]) (by kernel_rfl)⟩
          · have hj52 := cond_f hc87 hj52
            refine gl_pure 8 [0] (K' := [(0, .bool false)]) (by kernel_rfl) ?_
            refine gl_reord (D := L) (Reord.skipC (Reord.refl _)) ?_
            refine gl_atE (by kernel_rfl) ?_
            obtain rfl := some_inj hj52
            exact ge_mid fun t ht => ⟨(Imm.refl _), rfl, ht.pick (l := [0]) (by kernel_rfl)⟩
        · have hj52 := cond_f hc72 hj52
          refine gl_pure 16 [0] (K' := [(0, .bool false)]) (by kernel_rfl) ?_
          refine gl_reord (D := L) (Reord.skipC (Reord.refl _)) ?_
          refine gl_atE (by kernel_rfl) ?_
          obtain rfl := some_inj hj52
          exact ge_mid fun t ht => ⟨(Imm.refl _), rfl, ht.pick (l := [0]) (by kernel_rfl)⟩
      · have hj52 := cond_f hc57 hj52
        refine gl_pure 23 [0] (K' := [(0, .bool false)]) (by kernel_rfl) ?_
        refine gl_reord (D := L) (Reord.skipC (Reord.refl _)) ?_
        refine gl_atE (by kernel_rfl) ?_
        obtain rfl := some_inj hj52
        exact ge_mid fun t ht => ⟨(Imm.refl _), rfl, ht.pick (l := [0]) (by kernel_rfl)⟩
    · have hj52 := cond_f hc56 hj52
      refine gl_pure 28 [0] (K' := [(0, .bool false)]) (by kernel_rfl) ?_
      refine gl_reord (D := L) (Reord.skipC (Reord.refl _)) ?_
      refine gl_atE (by kernel_rfl) ?_
      obtain rfl := some_inj hj52
      exact ge_mid fun t ht => ⟨(Imm.refl _), rfl, ht.pick (l := [0]) (by kernel_rfl)⟩
  · rintro t I55 L' ⟨hI53, rfl, hK54⟩
    refine ge_at hK54 ?_
    refine ge_seq ?_
    refine gk_ret (by kernel_rfl) ?_
    obtain rfl := some_inj hr
    exact ge_result trivial (ResOk.tmp (by kernel_rfl) ResOk.nil) (Imm.trans (Imm.trans (Imm.trans (Imm.trans (Imm.trans hJ10 hJ23) hI31) hJ41) hI48) hI53) ⟨rfl, rfl⟩
/-! 9 tocsinlaw16_AggrFolds  -/
noncomputable def tocsinlaw16_AggrFolds_l50 (a1 : List Fl) (zs1 : List Fl) : Int → Option ((Int) ⊕ ((Unit) ⊕ (Bool))) := fun s40 =>
  bif (decide (s40 < (a1.length : Int))) then
  (Option.bind (ix zs1 s40) fun (x53 : Fl) =>
    Option.bind (ix a1 s40) fun (x63 : Fl) =>
    Option.bind (tocsinlaw16_alike x53 x63) fun (y73 : Bool) =>
    bif (!y73) then
    (some (Sum.inr (Sum.inr false)))
    else
    (some (Sum.inl (IntKind.wrap .i64 (s40 + 1)))))
  else
  (some (Sum.inr (Sum.inl ())))
noncomputable def tocsinlaw16_AggrFolds_l107 : Int → Option ((Int) ⊕ ((Unit) ⊕ (Bool))) := fun s97 =>
  bif (decide (s97 < (aggr_Words.length : Int))) then
  (Option.bind (ix aggr_Words s97) fun (x110 : ByteArray) =>
    Option.bind (ix tocsinref16_Words s97) fun (x119 : ByteArray) =>
    bif (!(x110.toList == x119.toList)) then
    (some (Sum.inr (Sum.inr false)))
    else
    (some (Sum.inl (IntKind.wrap .i64 (s97 + 1)))))
  else
  (some (Sum.inr (Sum.inl ())))
noncomputable def tocsinlaw16_AggrFolds (a0 : ByteArray) (a1 : List Fl) (a2 : Fl) : Option Bool :=
  Option.bind (app ([] : List Fl) a1) fun (zs1 : List Fl) =>
  Option.bind (aggr_Fold a0 zs1 a2) fun (y11 : Fl × Int) =>
  Option.bind (tocsinref16_Fold a0 a1 a2) fun (y18 : Fl × Int) =>
  Option.bind (Option.bind (tocsinlaw16_alike y11.1 y18.1) fun (y30 : Bool) =>
    bif (!y30) then
    (some true)
    else
    (some (y11.2 != y18.2))) fun (j25 : Bool) =>
  bif j25 then
  (some false)
  else
  (Option.bind (loopO (tocsinlaw16_AggrFolds_l50 a1 zs1) 0) fun (r38 : (Unit) ⊕ (Bool)) =>
    match r38 with
    | Sum.inl r46 => bif ((aggr_Words.length : Int) != (tocsinref16_Words.length : Int)) then
      (some false)
      else
      (Option.bind (loopO tocsinlaw16_AggrFolds_l107 0) fun (r95 : (Unit) ⊕ (Bool)) =>
        match r95 with
        | Sum.inl r103 => Option.bind tocsinlaw16_awake fun (y129 : Bool) =>
          some y129
        | Sum.inr v131 => some v131)
    | Sum.inr v132 => some v132)
theorem tocsinlaw16_AggrFolds_walk {a0 : ByteArray} {a1 : List Fl} {A1_0 : Option Addr} {n1_0 : Nat} {a2 : Fl} {b2_0 : Nat} {I : Imm} {r : Bool} (hG : Gl I)  (hf1_0 : RepS Kd.flt I A1_0 n1_0 a1)  (hf2_0 : FRep a2 b2_0) (hr : tocsinlaw16_AggrFolds a0 a1 a2 = some r) (L : Own) :
    CallsTo Tryz.prog 9 #[.string a0, .slice A1_0 a1.length n1_0, .float .f64 b2_0] I L (fun v I' L' => v = .bool r ∧ L = L') := by
  unfold tocsinlaw16_AggrFolds at hr
  refine callsTo_body (N := 81) Tryz.func9 (by kernel_rfl) (by kernel_rfl) (by kernel_rfl) ?_
  refine gk_pick [0, 1, 2] (K' := [(0, .string a0), (1, .slice A1_0 a1.length n1_0), (2, .float .f64 b2_0)]) (by kernel_rfl) ?_
  refine gk_seq (by kernel_rfl) ?_
  refine gk_region (by kernel_rfl) ?_
  refine gl_pure 1 [0, 1, 2] (K' := [(0, .string a0), (1, .slice A1_0 a1.length n1_0), (2, .float .f64 b2_0)]) (by kernel_rfl) ?_
  refine gl_atE (by kernel_rfl) ?_
  refine ge_seq ?_
  refine gk_seq (by kernel_rfl) ?_
  refine gk_region (by kernel_rfl) ?_
  refine gl_pure 1 [0, 1, 2, 7] (K' := [(0, .string a0), (1, .slice A1_0 a1.length n1_0), (2, .float .f64 b2_0), (7, .slice none 0 0)]) (by kernel_rfl) ?_
  refine gl_atE (by kernel_rfl) ?_
  refine ge_seq ?_
  refine gk_seq (by kernel_rfl) ?_
  refine gk_region (by kernel_rfl) ?_
  refine gl_pure 2 [0, 1, 2, 16, 17] (K' := [(0, .string a0), (1, .slice A1_0 a1.length n1_0), (2, .float .f64 b2_0), (16, .slice none 0 0), (17, .slice A1_0 a1.length n1_0)]) (by kernel_rfl) ?_
  obtain ⟨zs1, hz2, hr⟩ := bind_some hr
  refine gl_append (xv := .slice A1_0 a1.length n1_0) (d := Kd.flt) (t := 43) (tx := 43) (e := 37) (s := (.tmp 16)) (x := (.tmp 17)) (xs := []) (A := none) (c := 0) (C := []) (fun X => X ++ L) hz2 (by kernel_rfl) (by kernel_rfl) (by kernel_rfl) (by kernel_rfl) (by kernel_rfl) (by kernel_rfl) (fun X => Upd.new X _) (OwnS.nil _ _ _ none) (SrcOk.slice (c := n1_0) (e := 37) (n := 1) (RepS.rd hf1_0 _) (by kernel_rfl)) (fun A3 n4 C5 hO6 => ?_)
  refine gl_pure 1 [0, 1, 2, 7] (K' := [(0, .string a0), (1, .slice A1_0 a1.length n1_0), (2, .float .f64 b2_0), (7, .slice A3 zs1.length n4)]) (by kernel_rfl) ?_
  refine gl_atE (by kernel_rfl) ?_
  refine ge_seq ?_
  refine gk_seq (by kernel_rfl) ?_
  refine gk_region (by kernel_rfl) ?_
  refine gl_pure 3 [0, 1, 2, 7, 20, 21, 22] (K' := [(0, .string a0), (1, .slice A1_0 a1.length n1_0), (2, .float .f64 b2_0), (7, .slice A3 zs1.length n4), (20, .string a0), (21, .slice A3 zs1.length n4), (22, .float .f64 b2_0)]) (by kernel_rfl) ?_
  refine gl_rest (Tk.step (Upd.rmC _ _) (Tk.nil _)) (fun J7 hJ8 hC9 => ?_)
  have hf10 := (OwnS.rest hO6 hJ8 hC9.left)
  obtain ⟨y11, hx12, hr⟩ := bind_some hr
  refine gl_call (by kernel_rfl) (aggr_Fold_walk (r := y11) hf10 hf2_0 hx12 _) ?_
  rintro v I13 L14 hI15 ⟨z16, hO17, rfl, rfl⟩
  refine gl_pure 5 [0, 1, 2, 7, 8, 9] (K' := [(0, .string a0), (1, .slice A1_0 a1.length n1_0), (2, .float .f64 b2_0), (7, .slice A3 zs1.length n4), (8, .float .f64 z16), (9, .int .i64 y11.2)]) (by kernel_rfl) ?_
  refine gl_atE (by kernel_rfl) ?_
  refine ge_seq ?_
  refine gk_seq (by kernel_rfl) ?_
  refine gk_region (by kernel_rfl) ?_
  refine gl_pure 3 [1, 7, 8, 9, 27, 28, 29] (K' := [(1, .slice A1_0 a1.length n1_0), (7, .slice A3 zs1.length n4), (8, .float .f64 z16), (9, .int .i64 y11.2), (27, .string a0), (28, .slice A1_0 a1.length n1_0), (29, .float .f64 b2_0)]) (by kernel_rfl) ?_
  obtain ⟨y18, hx19, hr⟩ := bind_some hr
  refine gl_call (by kernel_rfl) (tocsinref16_Fold_walk (r := y18) (hf1_0.mono (Imm.trans hJ8 hI15)) hf2_0 hx19 _) ?_
  rintro v I20 L21 hI22 ⟨z23, hO24, rfl, rfl⟩
  refine gl_pure 5 [1, 7, 8, 9, 10, 11] (K' := [(1, .slice A1_0 a1.length n1_0), (7, .slice A3 zs1.length n4), (8, .float .f64 z16), (9, .int .i64 y11.2), (10, .float .f64 z23), (11, .int .i64 y18.2)]) (by kernel_rfl) ?_
  refine gl_atE (by kernel_rfl) ?_
  refine ge_seq ?_
  refine gk_seq (by kernel_rfl) ?_
  refine gk_seq (by kernel_rfl) ?_
  obtain ⟨j25, hj26, hr⟩ := bind_some hr
  refine gk_join (fun t I' L' => I20 ≤ I' ∧ L = L' ∧ Knows 81 [(1, .slice A1_0 a1.length n1_0), (7, .slice A3 zs1.length n4), (41, .bool j25)] t) ?_ ?_
  · refine gk_region (by kernel_rfl) ?_
    refine gl_pure 2 [1, 7, 9, 11, 33, 34] (K' := [(1, .slice A1_0 a1.length n1_0), (7, .slice A3 zs1.length n4), (9, .int .i64 y11.2), (11, .int .i64 y18.2), (33, .float .f64 z16), (34, .float .f64 z23)]) (by kernel_rfl) ?_
    obtain ⟨y30, hx31, hj26⟩ := bind_some hj26
    refine gl_callQ (by kernel_rfl) (tocsinlaw16_alike_walk (r := y30) hO17 hO24 hx31 _) ?_
    refine gl_pure 2 [1, 7, 9, 11, 37] (K' := [(1, .slice A1_0 a1.length n1_0), (7, .slice A3 zs1.length n4), (9, .int .i64 y11.2), (11, .int .i64 y18.2), (37, .bool (!y30))]) (by kernel_rfl) ?_
    refine gl_case 37 (b := (!y30)) (by kernel_rfl) (fun hc32 => ?_) (fun hc32 => ?_)
    · have hj26 := cond_t hc32 hj26
      refine gl_pure 4 [1, 7, 41] (K' := [(1, .slice A1_0 a1.length n1_0), (7, .slice A3 zs1.length n4), (41, .bool true)]) (by kernel_rfl) ?_
      refine gl_atE (by kernel_rfl) ?_
      obtain rfl := some_inj hj26
      exact ge_mid fun t ht => ⟨(Imm.refl _), rfl, ht.pick (l := [1, 7, 41]) (by kernel_rfl)⟩
    · have hj26 := cond_f hc32 hj26
      refine gl_pure 4 [1, 7, 41] (K' := [(1, .slice A1_0 a1.length n1_0), (7, .slice A3 zs1.length n4), (41, .bool (y11.2 != y18.2))]) (by kernel_rfl) ?_
      refine gl_atE (by kernel_rfl) ?_
      obtain rfl := some_inj hj26
      exact ge_mid fun t ht => ⟨(Imm.refl _), rfl, ht.pick (l := [1, 7, 41]) (by kernel_rfl)⟩
  · rintro t I29 L' ⟨hI27, rfl, hK28⟩
    refine ge_at hK28 ?_
    refine ge_seq ?_
    refine gk_cond (b := j25) (by kernel_rfl) (by kernel_rfl) (fun hc33 => ?_) (fun hc33 => ?_)
    · have hr := cond_t hc33 hr
      refine gk_seq (by kernel_rfl) ?_
      refine gk_region (by kernel_rfl) ?_
      refine gl_pure 1 [6] (K' := [(6, .bool false)]) (by kernel_rfl) ?_
      refine gl_atE (by kernel_rfl) ?_
      refine ge_seq ?_
      refine gk_ret (by kernel_rfl) ?_
      refine ge_seq_ret ?_
      obtain rfl := some_inj hr
      exact ge_result trivial (ResOk.tmp (by kernel_rfl) ResOk.nil) (Imm.trans (Imm.trans (Imm.trans hJ8 hI15) hI22) hI27) ⟨rfl, rfl⟩
    · have hr := cond_f hc33 hr
      refine gk_skip (by kernel_rfl) ?_
      refine ge_seq ?_
      refine gk_seq (by kernel_rfl) ?_
      refine gk_seq (by kernel_rfl) ?_
      refine gk_region (by kernel_rfl) ?_
      refine gl_pure 3 [1, 7, 43, 44] (K' := [(1, .slice A1_0 a1.length n1_0), (7, .slice A3 zs1.length n4), (43, .int .i64 (a1.length : Int)), (44, .int .i64 0)]) (by kernel_rfl) ?_
      refine gl_atE (by kernel_rfl) ?_
      refine ge_seq ?_
      obtain ⟨r38, hl39, hr⟩ := bind_some hr
      refine gk_join (fun t I' L' => ∃ r46, r38 = Sum.inl r46 ∧ I29 ≤ I' ∧ L = L' ∧ Knows 81 [] t) ?_ ?_
      · refine gk_block (by kernel_rfl) ?_
        refine gk_pick [1, 7, 43, 44] (K' := [(1, .slice A1_0 a1.length n1_0), (7, .slice A3 zs1.length n4), (43, .int .i64 (a1.length : Int)), (44, .int .i64 0)]) (by kernel_rfl) ?_
        intro t hK
        refine gc_loop (tocsinlaw16_AggrFolds_l50 a1 zs1) (fun s40 t I' L' => I29 ≤ I' ∧ L = L' ∧ Knows 81 [(1, .slice A1_0 a1.length n1_0), (7, .slice A3 zs1.length n4), (43, .int .i64 (a1.length : Int)), (44, .int .i64 s40)] t) (by kernel_rfl) ?_ hl39 ⟨(Imm.refl _), rfl, hK⟩
        rintro s40 o41 t I45 L' hb42 ⟨hI43, rfl, hK44⟩
        unfold tocsinlaw16_AggrFolds_l50 at hb42
        refine gk_at hK44 ?_
        refine gk_seq (by kernel_rfl) ?_
        refine gk_region (by kernel_rfl) ?_
        refine gl_pure 1 [1, 7, 43, 44, 45] (K' := [(1, .slice A1_0 a1.length n1_0), (7, .slice A3 zs1.length n4), (43, .int .i64 (a1.length : Int)), (44, .int .i64 s40), (45, .bool (decide (s40 < (a1.length : Int))))]) (by kernel_rfl) ?_
        refine gl_atE (by kernel_rfl) ?_
        refine ge_seq ?_
        refine gk_seq (by kernel_rfl) ?_
        refine gk_cond (b := (decide (s40 < (a1.length : Int)))) (by kernel_rfl) (by kernel_rfl) (fun hc52 => ?_) (fun hc52 => ?_)
        · have hb42 := cond_t hc52 hb42
          refine gk_skip (by kernel_rfl) ?_
          refine ge_seq ?_
          refine gk_seq (by kernel_rfl) ?_
          refine gk_block (by kernel_rfl) ?_
          refine gk_seq (by kernel_rfl) ?_
          refine gk_region (by kernel_rfl) ?_
          refine gl_pure 2 [1, 7, 12, 43, 44] (K' := [(1, .slice A1_0 a1.length n1_0), (7, .slice A3 zs1.length n4), (12, .int .i64 s40), (43, .int .i64 (a1.length : Int)), (44, .int .i64 s40)]) (by kernel_rfl) ?_
          refine gl_atE (by kernel_rfl) ?_
          refine ge_seq ?_
          refine gk_seq (by kernel_rfl) ?_
          refine gk_draw 8 [(0, true), (1, true), (2, true), (3, true), (4, true), (5, true), (6, true), (7, true)] [] (fun p hp => by cases hp) (by kernel_rfl) (by kernel_rfl) (by kernel_rfl) ?_ (by kernel_rfl)
          refine gd_pure 2 [1, 7, 12, 43, 44, 47, 48] (K' := [(1, .slice A1_0 a1.length n1_0), (7, .slice A3 zs1.length n4), (12, .int .i64 s40), (43, .int .i64 (a1.length : Int)), (44, .int .i64 s40), (47, .slice A3 zs1.length n4), (48, .int .i64 s40)]) (s' := [(2, true), (3, true), (4, true), (5, true), (6, true), (7, true)]) (CC.refl (fun p hp => by cases hp)) (by kernel_rfl) ?_
          obtain ⟨x53, hx54, hb42⟩ := bind_some hb42
          obtain ⟨p55, cs56, hR57, hA58, ha59⟩ := RepS.ixAt hx54 (hf10.mono (Imm.trans (Imm.trans (Imm.trans hI15 hI22) hI27) hI43))
          have hi60 := ix_some hx54
          obtain ⟨b61, rfl, hf62⟩ := hR57
          refine gd_q (v := .pointer (some p55)) (by kernel_rfl) (by kernel_rfl) (CC.refl (fun p hp => by cases hp)) (fun I' L' T hC kk => gl_indexAddrF (c := n4) (T' := 43) (e := 37) (xs := (.tmp 47)) (xi := (.tmp 48)) (kd := .i64) ha59 hi60.1 hi60.2.1 (by kernel_rfl) (by kernel_rfl) (by kernel_rfl) (by kernel_rfl) (by kernel_rfl) kk) ?_
          refine gd_q (v := .float .f64 b61) (by kernel_rfl) (by kernel_rfl) (CC.refl (fun p hp => by cases hp)) (fun I' L' T hC kk => gl_load (T' := 37) (xp := (.tmp 49)) (p := p55) (c := .float .f64 b61) (n := 1) (by kernel_rfl) (by kernel_rfl) (by kernel_rfl) (by kernel_rfl) (hA58.mono hC.le) kk) ?_
          refine gd_pure 2 [1, 7, 43, 44, 50, 51, 52] (K' := [(1, .slice A1_0 a1.length n1_0), (7, .slice A3 zs1.length n4), (43, .int .i64 (a1.length : Int)), (44, .int .i64 s40), (50, .float .f64 b61), (51, .slice A1_0 a1.length n1_0), (52, .int .i64 s40)]) (s' := [(6, true), (7, true)]) (CC.refl (fun p hp => by cases hp)) (by kernel_rfl) ?_
          obtain ⟨x63, hx64, hb42⟩ := bind_some hb42
          obtain ⟨p65, cs66, hR67, hA68, ha69⟩ := RepS.ixAt hx64 (hf1_0.mono (Imm.trans (Imm.trans (Imm.trans (Imm.trans hJ8 hI15) hI22) hI27) hI43))
          have hi70 := ix_some hx64
          obtain ⟨b71, rfl, hf72⟩ := hR67
          refine gd_q (v := .pointer (some p65)) (by kernel_rfl) (by kernel_rfl) (CC.refl (fun p hp => by cases hp)) (fun I' L' T hC kk => gl_indexAddrF (c := n1_0) (T' := 43) (e := 37) (xs := (.tmp 51)) (xi := (.tmp 52)) (kd := .i64) ha69 hi70.1 hi70.2.1 (by kernel_rfl) (by kernel_rfl) (by kernel_rfl) (by kernel_rfl) (by kernel_rfl) kk) ?_
          refine gd_q (v := .float .f64 b71) (by kernel_rfl) (by kernel_rfl) (CC.refl (fun p hp => by cases hp)) (fun I' L' T hC kk => gl_load (T' := 37) (xp := (.tmp 53)) (p := p65) (c := .float .f64 b71) (n := 1) (by kernel_rfl) (by kernel_rfl) (by kernel_rfl) (by kernel_rfl) (hA68.mono hC.le) kk) ?_
          refine gd_done ?_
          obtain ⟨y73, hx74, hb42⟩ := bind_some hb42
          refine gl_callQ (by kernel_rfl) (tocsinlaw16_alike_walk (r := y73) hf62 hf72 hx74 _) ?_
          refine gl_pure 1 [1, 7, 43, 44, 56] (K' := [(1, .slice A1_0 a1.length n1_0), (7, .slice A3 zs1.length n4), (43, .int .i64 (a1.length : Int)), (44, .int .i64 s40), (56, .bool (!y73))]) (by kernel_rfl) ?_
          refine gl_atE (by kernel_rfl) ?_
          refine ge_seq ?_
          refine gk_cond (b := (!y73)) (by kernel_rfl) (by kernel_rfl) (fun hc75 => ?_) (fun hc75 => ?_)
          · have hb42 := cond_t hc75 hb42
            refine gk_seq (by kernel_rfl) ?_
            refine gk_region (by kernel_rfl) ?_
            refine gl_pure 1 [6] (K' := [(6, .bool false)]) (by kernel_rfl) ?_
            refine gl_atE (by kernel_rfl) ?_
            refine ge_seq ?_
            refine gk_ret (by kernel_rfl) ?_
            refine ge_block_ret ?_
            refine ge_seq_ret ?_
            obtain rfl := some_inj hb42
            refine ge_round_out (fun hrr => ?_) (by intro h; cases h)
            obtain rfl := hrr
            refine ge_block_ret ?_
            refine ge_seq_ret ?_
            refine ge_seq_ret ?_
            obtain rfl := some_inj hr
            exact ge_result trivial (ResOk.tmp (by kernel_rfl) ResOk.nil) (Imm.trans (Imm.trans (Imm.trans (Imm.trans hJ8 hI15) hI22) hI27) hI43) ⟨rfl, rfl⟩
          · have hb42 := cond_f hc75 hb42
            refine gk_skip (by kernel_rfl) ?_
            refine ge_block_normal ?_
            refine ge_seq ?_
            refine gk_region (by kernel_rfl) ?_
            refine gl_pure 2 [1, 7, 43, 44] (K' := [(1, .slice A1_0 a1.length n1_0), (7, .slice A3 zs1.length n4), (43, .int .i64 (a1.length : Int)), (44, .int .i64 (IntKind.wrap .i64 (s40 + 1)))]) (by kernel_rfl) ?_
            refine gl_atE (by kernel_rfl) ?_
            obtain rfl := some_inj hb42
            exact ge_round fun t ht => ⟨hI43, rfl, ht.pick (l := [1, 7, 43, 44]) (by kernel_rfl)⟩
        · have hb42 := cond_f hc52 hb42
          refine gk_exit (by kernel_rfl) ?_
          refine ge_seq_exit ?_
          obtain rfl := some_inj hb42
          refine ge_round_out (fun hrr => ?_) (by intro h; cases h)
          obtain rfl := hrr
          refine ge_block_hit (by kernel_rfl) ?_
          exact ge_mid fun t ht => ⟨_, rfl, hI43, rfl, ht.pick (l := []) (by kernel_rfl)⟩
      · rintro t I49 L' ⟨r46, rfl, hI47, rfl, hK48⟩
        refine ge_at hK48 ?_
        refine ge_seq ?_
        refine gk_seq (by kernel_rfl) ?_
        refine gk_region (by kernel_rfl) ?_
        refine gl_call (by kernel_rfl) (aggr_Words_walk (r := aggr_Words)  rfl _) ?_
        rintro v I76 L77 hI78 ⟨A79, c80, C81, hO82, rfl, rfl⟩
        refine gl_call (by kernel_rfl) (tocsinref16_Words_walk (r := tocsinref16_Words)  rfl _) ?_
        rintro v I83 L84 hI85 ⟨A86, c87, C88, hO89, rfl, rfl⟩
        refine gl_pure 2 [13, 14] (K' := [(13, .slice A79 aggr_Words.length c80), (14, .slice A86 tocsinref16_Words.length c87)]) (by kernel_rfl) ?_
        refine gl_atE (by kernel_rfl) ?_
        refine ge_seq ?_
        refine gk_seq (by kernel_rfl) ?_
        refine gk_seq (by kernel_rfl) ?_
        refine gk_region (by kernel_rfl) ?_
        refine gl_pure 5 [13, 14, 64] (K' := [(13, .slice A79 aggr_Words.length c80), (14, .slice A86 tocsinref16_Words.length c87), (64, .bool ((aggr_Words.length : Int) != (tocsinref16_Words.length : Int)))]) (by kernel_rfl) ?_
        refine gl_atE (by kernel_rfl) ?_
        refine ge_seq ?_
        refine gk_cond (b := ((aggr_Words.length : Int) != (tocsinref16_Words.length : Int))) (by kernel_rfl) (by kernel_rfl) (fun hc90 => ?_) (fun hc90 => ?_)
        · have hr := cond_t hc90 hr
          refine gk_seq (by kernel_rfl) ?_
          refine gk_region (by kernel_rfl) ?_
          refine gl_pure 1 [6] (K' := [(6, .bool false)]) (by kernel_rfl) ?_
          refine gl_atE (by kernel_rfl) ?_
          refine ge_seq ?_
          refine gk_reord (D := L) (Reord.skipC (Reord.skipC (Reord.refl _))) ?_
          refine gk_ret (by kernel_rfl) ?_
          refine ge_seq_ret ?_
          obtain rfl := some_inj hr
          exact ge_result trivial (ResOk.tmp (by kernel_rfl) ResOk.nil) (Imm.trans (Imm.trans (Imm.trans (Imm.trans (Imm.trans (Imm.trans hJ8 hI15) hI22) hI27) hI47) hI78) hI85) ⟨rfl, rfl⟩
        · have hr := cond_f hc90 hr
          refine gk_skip (by kernel_rfl) ?_
          refine ge_seq ?_
          refine gk_seq (by kernel_rfl) ?_
          refine gk_seq (by kernel_rfl) ?_
          refine gk_region (by kernel_rfl) ?_
          refine gl_pure 3 [13, 14, 66, 67] (K' := [(13, .slice A79 aggr_Words.length c80), (14, .slice A86 tocsinref16_Words.length c87), (66, .int .i64 (aggr_Words.length : Int)), (67, .int .i64 0)]) (by kernel_rfl) ?_
          refine gl_atE (by kernel_rfl) ?_
          refine ge_seq ?_
          obtain ⟨r95, hl96, hr⟩ := bind_some hr
          refine gk_join (fun t I' L' => ∃ r103, r95 = Sum.inl r103 ∧ I83 ≤ I' ∧ L = L' ∧ Knows 81 [] t) ?_ ?_
          · refine gk_block (by kernel_rfl) ?_
            refine gk_pick [13, 14, 66, 67] (K' := [(13, .slice A79 aggr_Words.length c80), (14, .slice A86 tocsinref16_Words.length c87), (66, .int .i64 (aggr_Words.length : Int)), (67, .int .i64 0)]) (by kernel_rfl) ?_
            intro t hK
            refine gc_loop (tocsinlaw16_AggrFolds_l107) (fun s97 t I' L' => I83 ≤ I' ∧ C88 ++ (C81 ++ L) = L' ∧ Knows 81 [(13, .slice A79 aggr_Words.length c80), (14, .slice A86 tocsinref16_Words.length c87), (66, .int .i64 (aggr_Words.length : Int)), (67, .int .i64 s97)] t) (by kernel_rfl) ?_ hl96 ⟨(Imm.refl _), rfl, hK⟩
            rintro s97 o98 t I102 L' hb99 ⟨hI100, rfl, hK101⟩
            unfold tocsinlaw16_AggrFolds_l107 at hb99
            refine gk_at hK101 ?_
            refine gk_seq (by kernel_rfl) ?_
            refine gk_region (by kernel_rfl) ?_
            refine gl_pure 1 [13, 14, 66, 67, 68] (K' := [(13, .slice A79 aggr_Words.length c80), (14, .slice A86 tocsinref16_Words.length c87), (66, .int .i64 (aggr_Words.length : Int)), (67, .int .i64 s97), (68, .bool (decide (s97 < (aggr_Words.length : Int))))]) (by kernel_rfl) ?_
            refine gl_atE (by kernel_rfl) ?_
            refine ge_seq ?_
            refine gk_seq (by kernel_rfl) ?_
            refine gk_cond (b := (decide (s97 < (aggr_Words.length : Int)))) (by kernel_rfl) (by kernel_rfl) (fun hc109 => ?_) (fun hc109 => ?_)
            · have hb99 := cond_t hc109 hb99
              refine gk_skip (by kernel_rfl) ?_
              refine ge_seq ?_
              refine gk_seq (by kernel_rfl) ?_
              refine gk_block (by kernel_rfl) ?_
              refine gk_seq (by kernel_rfl) ?_
              refine gk_region (by kernel_rfl) ?_
              refine gl_pure 2 [13, 14, 15, 66, 67] (K' := [(13, .slice A79 aggr_Words.length c80), (14, .slice A86 tocsinref16_Words.length c87), (15, .int .i64 s97), (66, .int .i64 (aggr_Words.length : Int)), (67, .int .i64 s97)]) (by kernel_rfl) ?_
              refine gl_atE (by kernel_rfl) ?_
              refine ge_seq ?_
              refine gk_seq (by kernel_rfl) ?_
              refine gk_draw 9 [(0, true), (1, true), (2, true), (3, true), (4, true), (5, true), (6, true), (7, true), (8, true)] (C81 ++ (C88 ++ [])) (List.forall_mem_append.2 ⟨fun q hq => (List.mem_append_right _ (List.mem_append_left _ hq)), (List.forall_mem_append.2 ⟨fun q hq => (List.mem_append_left _ hq), (fun p hp => by cases hp)⟩)⟩) (by kernel_rfl) (by kernel_rfl) (by kernel_rfl) ?_ (by kernel_rfl)
              refine gd_pure 2 [13, 14, 15, 66, 67, 70, 71] (K' := [(13, .slice A79 aggr_Words.length c80), (14, .slice A86 tocsinref16_Words.length c87), (15, .int .i64 s97), (66, .int .i64 (aggr_Words.length : Int)), (67, .int .i64 s97), (70, .slice A79 aggr_Words.length c80), (71, .int .i64 s97)]) (s' := [(2, true), (3, true), (4, true), (5, true), (6, true), (7, true), (8, true)]) (CC.refl (List.forall_mem_append.2 ⟨fun q hq => (List.mem_append_right _ (List.mem_append_left _ hq)), (List.forall_mem_append.2 ⟨fun q hq => (List.mem_append_left _ hq), (fun p hp => by cases hp)⟩)⟩)) (by kernel_rfl) ?_
              obtain ⟨x110, hx111, hb99⟩ := bind_some hb99
              obtain ⟨p112, cs113, hR114, hA115, ha116, hg118⟩ := OwnS.ixAtG hx111 (hO82.mono (Imm.trans hI85 hI100))
              have hi117 := ix_some hx111
              obtain rfl := hR114
              refine gd_q (v := .pointer (some p112)) (by kernel_rfl) (by kernel_rfl) (CC.refl (List.forall_mem_append.2 ⟨fun q hq => (List.mem_append_right _ (List.mem_append_left _ hq)), (List.forall_mem_append.2 ⟨fun q hq => (List.mem_append_left _ hq), (fun p hp => by cases hp)⟩)⟩)) (fun I' L' T hC kk => gl_indexAddrF (c := c80) (T' := 23) (e := 9) (xs := (.tmp 70)) (xi := (.tmp 71)) (kd := .i64) ha116 hi117.1 hi117.2.1 (by kernel_rfl) (by kernel_rfl) (by kernel_rfl) (by kernel_rfl) (by kernel_rfl) kk) ?_
              refine gd_q (v := .string x110) (by kernel_rfl) (by kernel_rfl) (CC.refl (List.forall_mem_append.2 ⟨fun q hq => (List.mem_append_right _ (List.mem_append_left _ hq)), (List.forall_mem_append.2 ⟨fun q hq => (List.mem_append_left _ hq), (fun p hp => by cases hp)⟩)⟩)) (fun I' L' T hC kk => gl_loadO (T' := 9) (xp := (.tmp 72)) (p := p112) (c := .string x110) (n := 1) (by kernel_rfl) (by kernel_rfl) (by kernel_rfl) (by kernel_rfl) (hA115 _ _ (fun q hq => hC.sub _ (List.mem_append_left _ hq))) kk) ?_
              refine gd_pure 2 [13, 14, 66, 67, 73, 74, 75] (K' := [(13, .slice A79 aggr_Words.length c80), (14, .slice A86 tocsinref16_Words.length c87), (66, .int .i64 (aggr_Words.length : Int)), (67, .int .i64 s97), (73, .string x110), (74, .slice A86 tocsinref16_Words.length c87), (75, .int .i64 s97)]) (s' := [(6, true), (7, true), (8, true)]) (CC.refl (List.forall_mem_append.2 ⟨fun q hq => (List.mem_append_right _ (List.mem_append_left _ hq)), (List.forall_mem_append.2 ⟨fun q hq => (List.mem_append_left _ hq), (fun p hp => by cases hp)⟩)⟩)) (by kernel_rfl) ?_
              obtain ⟨x119, hx120, hb99⟩ := bind_some hb99
              obtain ⟨p121, cs122, hR123, hA124, ha125, hg127⟩ := OwnS.ixAtG hx120 (hO89.mono hI100)
              have hi126 := ix_some hx120
              obtain rfl := hR123
              refine gd_q (v := .pointer (some p121)) (by kernel_rfl) (by kernel_rfl) (CC.refl (List.forall_mem_append.2 ⟨fun q hq => (List.mem_append_right _ (List.mem_append_left _ hq)), (List.forall_mem_append.2 ⟨fun q hq => (List.mem_append_left _ hq), (fun p hp => by cases hp)⟩)⟩)) (fun I' L' T hC kk => gl_indexAddrF (c := c87) (T' := 23) (e := 9) (xs := (.tmp 74)) (xi := (.tmp 75)) (kd := .i64) ha125 hi126.1 hi126.2.1 (by kernel_rfl) (by kernel_rfl) (by kernel_rfl) (by kernel_rfl) (by kernel_rfl) kk) ?_
              refine gd_q (v := .string x119) (by kernel_rfl) (by kernel_rfl) (CC.refl (List.forall_mem_append.2 ⟨fun q hq => (List.mem_append_right _ (List.mem_append_left _ hq)), (List.forall_mem_append.2 ⟨fun q hq => (List.mem_append_left _ hq), (fun p hp => by cases hp)⟩)⟩)) (fun I' L' T hC kk => gl_loadO (T' := 9) (xp := (.tmp 76)) (p := p121) (c := .string x119) (n := 1) (by kernel_rfl) (by kernel_rfl) (by kernel_rfl) (by kernel_rfl) (hA124 _ _ (fun q hq => hC.sub _ (List.mem_append_right _ (List.mem_append_left _ hq)))) kk) ?_
              refine gd_pure 1 [13, 14, 66, 67, 78] (K' := [(13, .slice A79 aggr_Words.length c80), (14, .slice A86 tocsinref16_Words.length c87), (66, .int .i64 (aggr_Words.length : Int)), (67, .int .i64 s97), (78, .bool (!(x110.toList == x119.toList)))]) (s' := []) (CC.refl (List.forall_mem_append.2 ⟨fun q hq => (List.mem_append_right _ (List.mem_append_left _ hq)), (List.forall_mem_append.2 ⟨fun q hq => (List.mem_append_left _ hq), (fun p hp => by cases hp)⟩)⟩)) (by kernel_rfl) ?_
              refine gd_done ?_
              refine gl_atE (by kernel_rfl) ?_
              refine ge_seq ?_
              refine gk_cond (b := (!(x110.toList == x119.toList))) (by kernel_rfl) (by kernel_rfl) (fun hc128 => ?_) (fun hc128 => ?_)
              · have hb99 := cond_t hc128 hb99
                refine gk_seq (by kernel_rfl) ?_
                refine gk_region (by kernel_rfl) ?_
                refine gl_pure 1 [6] (K' := [(6, .bool false)]) (by kernel_rfl) ?_
                refine gl_atE (by kernel_rfl) ?_
                refine ge_seq ?_
                refine gk_reord (D := L) (Reord.skipC (Reord.skipC (Reord.refl _))) ?_
                refine gk_ret (by kernel_rfl) ?_
                refine ge_block_ret ?_
                refine ge_seq_ret ?_
                obtain rfl := some_inj hb99
                refine ge_round_out (fun hrr => ?_) (by intro h; cases h)
                obtain rfl := hrr
                refine ge_block_ret ?_
                refine ge_seq_ret ?_
                refine ge_seq_ret ?_
                obtain rfl := some_inj hr
                exact ge_result trivial (ResOk.tmp (by kernel_rfl) ResOk.nil) (Imm.trans (Imm.trans (Imm.trans (Imm.trans (Imm.trans (Imm.trans (Imm.trans hJ8 hI15) hI22) hI27) hI47) hI78) hI85) hI100) ⟨rfl, rfl⟩
              · have hb99 := cond_f hc128 hb99
                refine gk_skip (by kernel_rfl) ?_
                refine ge_block_normal ?_
                refine ge_seq ?_
                refine gk_region (by kernel_rfl) ?_
                refine gl_pure 2 [13, 14, 66, 67] (K' := [(13, .slice A79 aggr_Words.length c80), (14, .slice A86 tocsinref16_Words.length c87), (66, .int .i64 (aggr_Words.length : Int)), (67, .int .i64 (IntKind.wrap .i64 (s97 + 1)))]) (by kernel_rfl) ?_
                refine gl_atE (by kernel_rfl) ?_
                obtain rfl := some_inj hb99
                exact ge_round fun t ht => ⟨hI100, rfl, ht.pick (l := [13, 14, 66, 67]) (by kernel_rfl)⟩
            · have hb99 := cond_f hc109 hb99
              refine gk_reord (D := L) (Reord.skipC (Reord.skipC (Reord.refl _))) ?_
              refine gk_exit (by kernel_rfl) ?_
              refine ge_seq_exit ?_
              obtain rfl := some_inj hb99
              refine ge_round_out (fun hrr => ?_) (by intro h; cases h)
              obtain rfl := hrr
              refine ge_block_hit (by kernel_rfl) ?_
              exact ge_mid fun t ht => ⟨_, rfl, hI100, rfl, ht.pick (l := []) (by kernel_rfl)⟩
          · rintro t I106 L' ⟨r103, rfl, hI104, rfl, hK105⟩
            refine ge_at hK105 ?_
            refine ge_seq ?_
            refine gk_seq (by kernel_rfl) ?_
            refine gk_region (by kernel_rfl) ?_
            obtain ⟨y129, hx130, hr⟩ := bind_some hr
            refine gl_callQ (by kernel_rfl) (tocsinlaw16_awake_walk (r := y129) (hG.mono (Imm.trans (Imm.trans (Imm.trans (Imm.trans (Imm.trans (Imm.trans (Imm.trans hJ8 hI15) hI22) hI27) hI47) hI78) hI85) hI104)) hx130 _) ?_
            refine gl_pure 1 [6] (K' := [(6, .bool y129)]) (by kernel_rfl) ?_
            refine gl_atE (by kernel_rfl) ?_
            refine ge_seq ?_
            refine gk_ret (by kernel_rfl) ?_
            obtain rfl := some_inj hr
            exact ge_result trivial (ResOk.tmp (by kernel_rfl) ResOk.nil) (Imm.trans (Imm.trans (Imm.trans (Imm.trans (Imm.trans (Imm.trans (Imm.trans hJ8 hI15) hI22) hI27) hI47) hI78) hI85) hI104) ⟨rfl, rfl⟩
end Go.Proofs.YtkjkkimnjpodiaaGreatDoor

/- From data that are read to what the walks ask: rows. -/
set_option linter.unusedVariables false
set_option linter.unusedSimpArgs false
namespace Go.GB
open Go Go.RowKit
open Go.Proofs.YtkjkkimnjpodiaaGreatDoor.Rows (uptoBulk uptoBulkAll)

def immOf (W : World) : Imm := ⟨fun b => W.heap[b]?, W.os, W.tape, W.output, 0⟩
theorem holds_immOf (W : World) : Holds (immOf W) [] W := ⟨fun _ _ h => h, by simp, by simp, by simp, rfl, rfl, rfl, Nat.zero_le _⟩
theorem below_of {I' : Imm} {L' : Own} {W W' : World} (h : Holds I' L' W') (hI : immOf W ≤ I') : Below W.heap.size W W' := by
  refine ⟨by rw [h.os, hI.os]; rfl, by rw [h.tape, hI.tape]; rfl, by rw [h.out, hI.out]; rfl, ?_, fun k hk => ?_⟩
  · rcases Nat.eq_zero_or_pos W.heap.size with h0 | h0
    · omega
    · have : W.heap[W.heap.size - 1]? = some (W.heap[W.heap.size - 1]'(by omega)) := Array.getElem?_eq_getElem _
      have := lt_of_heap (h.imm _ _ (hI.h _ _ this))
      omega
  · have : W.heap[k]? = some (W.heap[k]) := Array.getElem?_eq_getElem hk
    rw [this]; exact h.imm _ _ (hI.h _ _ this)
theorem imm_cell {W : World} {a : Addr} {v : Value} (h : W.cell? a = some v) : (immOf W).cell a = some v := h
theorem run_of_cells {W : World} {a : Addr} {n : Nat} {cs : List Value} (h : W.cells? 0 a n = some cs) : RunAt (immOf W) a cs := fun j v hj => by
  unfold World.cells? at h
  rw [if_pos (Nat.zero_le _)] at h
  have hl := mapM_some_length h
  have hj' : j < n := by have := (List.getElem?_eq_some_iff.1 hj).1; simpa [hl] using this
  have := mapM_some_get h j j (by simp [hj'])
  exact imm_cell (this.trans hj)

def Reads {α : Type} (P : Program) (T : TypeId) (d : Kd α) (w : α → Nat → Prop) : Prop := ∀ {H : Type} {enc : TypeId × Value → H} {W : World} {spare : Nat → Bool} {held : Bool} {fuel : Nat} {cs : List Value} {x : DataW H × List MemPlace},
  DataW.trod enc P W 0 spare held fuel T cs = some x → uptoBulk x.1 ≤ 1048576 → ∃ y, d.R (immOf W) y cs ∧ w y (uptoBulk x.1)
theorem reads_str {P : Program} {T : TypeId} (h : P.underlying T = some .string) : Reads P T Kd.str wStr := fun ht _ => by
  obtain ⟨n, rfl, rfl, _⟩ := DataW.trod_string h ht
  exact ⟨n, rfl, by simp [uptoBulk, wStr]⟩
theorem bulk_pos {H : Type} (d : DataW H) : 1 ≤ uptoBulk d := by
  cases d with
  | lit l => cases l <;> simp [uptoBulk]
  | _ => simp [uptoBulk]
theorem bulkAll_ge {H : Type} : ∀ (l : List (DataW H)), l.length ≤ uptoBulkAll l
  | [] => by simp
  | d :: r => by have := bulk_pos d; have := bulkAll_ge r; simp only [uptoBulkAll, List.length_cons]; omega
theorem bulkAll_mem {H : Type} {d : DataW H} : ∀ {l : List (DataW H)}, d ∈ l → uptoBulk d ≤ uptoBulkAll l
  | [], h => by cases h
  | e :: r, h => by
    simp only [uptoBulkAll]
    rcases List.mem_cons.1 h with rfl | h
    · omega
    · have := bulkAll_mem h; omega
theorem choose_list {α : Type} {p : Nat → α → Prop} : ∀ (n : Nat), (∀ i, i < n → ∃ y, p i y) → ∃ xs : List α, xs.length = n ∧ ∀ i x, xs[i]? = some x → p i x
  | 0, _ => ⟨[], rfl, fun i x h => by simp at h⟩
  | m + 1, key => by
    obtain ⟨xs, hxl, hx⟩ := choose_list m (fun i hi => key i (by omega))
    obtain ⟨y, hy⟩ := key m (by omega)
    refine ⟨xs ++ [y], by simp [hxl], fun i x h => ?_⟩
    rcases Nat.lt_or_ge i m with hi | hi
    · rw [List.getElem?_append_left (by omega)] at h; exact hx i x h
    · rw [List.getElem?_append_right (by omega), hxl] at h
      have hi0 : i - m = 0 := by have := (List.getElem?_eq_some_iff.1 h).1; simpa using this
      rw [hi0] at h
      simp only [List.getElem?_cons_zero, Option.some.injEq] at h
      subst h
      rw [show i = m from by omega]
      exact hy
theorem wSl_of {α H : Type} {w : α → Nat → Prop} : ∀ (xs : List α) (es : List (DataW H)), xs.length = es.length → (∀ (i : Nat) (x : α) (e : DataW H), xs[i]? = some x → es[i]? = some e → w x (uptoBulk e)) → wSl w xs (uptoBulkAll es)
  | [], _, _, _ => trivial
  | x :: r, [], h, _ => by simp at h
  | x :: r, e :: es, h, hw => ⟨uptoBulk e, uptoBulkAll es, hw 0 x e rfl rfl, wSl_of r es (by simpa using h) (fun i x' e' h1 h2 => hw (i + 1) x' e' (by simpa using h1) (by simpa using h2)), by simp [uptoBulkAll], bulk_pos e⟩
theorem reads_slice {α : Type} {P : Program} {T e : TypeId} {d : Kd α} {w : α → Nat → Prop} (hu : P.underlying T = some (.slice e)) (hn : P.cellsOf e = d.n) (hr : Reads P e d w) : Reads P T (Kd.sl d) (wSl w) := by
  intro H enc W spare held fuel cs x ht hb
  rcases DataW.trod_slice hu ht with ⟨rfl, rfl⟩ | ⟨a, len, cap, elems, rest, n, rfl, rfl, rfl, _, hlc, hcm, hel, hat, _, _⟩
  · exact ⟨[], ⟨none, 0, rfl, RepS.nil _ _⟩, trivial⟩
  · simp only [uptoBulk] at hb
    have hlen := bulkAll_ge (elems.map (·.1))
    rw [List.length_map, hel] at hlen
    have key : ∀ i, i < len → ∃ y, (∃ cs', d.R (immOf W) y cs' ∧ RunAt (immOf W) (a.add (i * d.n)) cs') ∧ ∀ e, (elems.map (·.1))[i]? = some e → w y (uptoBulk e) := fun i hi => by
      have h1 := hat i hi
      have hie : i < elems.length := by omega
      rw [List.getElem?_eq_getElem hie] at h1
      simp only [Option.bind_eq_some_iff] at h1
      obtain ⟨cs', h2, h3⟩ := h1
      obtain ⟨y, hy, hw⟩ := hr h3 (by
        have := bulkAll_mem (l := elems.map (·.1)) (List.mem_map_of_mem (List.getElem_mem hie))
        omega)
      refine ⟨y, ⟨cs', hy, ?_⟩, fun e he => ?_⟩
      · rw [← hn]
        exact run_of_cells h2
      · rw [List.getElem?_map, List.getElem?_eq_getElem hie] at he
        cases he; exact hw
    have hex := choose_list (p := fun i y => (∃ cs', d.R (immOf W) y cs' ∧ RunAt (immOf W) (a.add (i * d.n)) cs') ∧ ∀ e, (elems.map (·.1))[i]? = some e → w y (uptoBulk e)) len key
    obtain ⟨xs, hxl, hx⟩ := hex
    refine ⟨xs, ⟨some a, cap, by rw [hxl], by omega, by unfold maxLen'; omega, fun i x h => ?_⟩, ?_⟩
    · obtain ⟨⟨cs', h1, h2⟩, _⟩ := hx i x h
      exact ⟨a, cs', rfl, h1, h2⟩
    · exact (wSl_of xs (elems.map (·.1)) (by simp [hxl, hel]) (fun i x e h1 h2 => (hx i x h1).2 e h2)).le (by simp only [uptoBulk]; omega)
theorem calls_of {P : Program} {f : FuncId} {args : Array Value} {W : World} {b : Value} (h : CallsTo P f args (immOf W) [] (fun v I' L' => v = b ∧ [] = L')) : Calls P f args W fun e W' => e = .returned b ∧ Below W.heap.size W W' :=
  (h W (holds_immOf W)).mono fun e W' ⟨v, I', L', he, hI, hh, hv, _⟩ => ⟨by rw [he, hv], below_of hh hI⟩
end Go.GB

/- Floats that are read. -/
set_option linter.unusedVariables false
set_option linter.unusedSimpArgs false
namespace Go.GB
open Go Go.RowKit
theorem trod_float {H : Type} {enc : TypeId × Value → H} {P : Program} {w : World} {base : Nat} {spare : Nat → Bool} {held : Bool} {fuel : Nat} {t : TypeId} {cs : List Value} {x : DataW H × List MemPlace} {k : FloatKind} (ht : P.underlying t = some (.float k)) (h : DataW.trod enc P w base spare held fuel t cs = some x) :
    ∃ b, cs = [.float k b] ∧ x = (.lit (.float k b), []) ∧ (Lit.float k b).wf = true := by
  cases fuel with
  | zero => simp [DataW.trod] at h
  | succ n =>
    unfold DataW.trod at h
    rw [ht] at h
    split at h <;> simp_all
theorem reads_flt {P : Program} {T : TypeId} (h : P.underlying T = some (.float .f64)) : Reads P T Kd.flt wFlt := fun ht _ => by
  obtain ⟨b, rfl, _, hw⟩ := trod_float h ht
  simp only [Lit.wf, decide_eq_true_eq] at hw
  exact ⟨some b, ⟨b, rfl, rfl⟩, b, rfl, hw⟩
theorem okWide_float {P : Program} {w : World} {r : Reach} {base : Nat} {t : TypeId} {v : Value} {k : FloatKind} (ht : P.underlying t = some (.float k)) (h : Value.okWide P w r base t v) : ∃ b, v = .float k b := by
  simp only [Value.okWide, ht, Cell.okWide] at h
  cases v <;> simp_all [Cell.ok]
end Go.GB

/- What plain functions come to: a calculus for 'it answers, and its answer is ..'. -/
set_option linter.unusedVariables false
set_option linter.unusedSimpArgs false
namespace Go.GB
theorem wrap_up {i : Nat} (h : i < 4294967296) : IntKind.wrap .i64 ((i : Int) + 1) = ((i + 1 : Nat) : Int) := by rw [wrap64 (by omega) (by omega)]; omega
theorem ix_nat {α : Type} (xs : List α) (i : Nat) : ix xs (i : Int) = xs[i]? := by simp [ix]
theorem toList_inj {a b : ByteArray} : (a.toList == b.toList) = true ↔ a = b := by
  rw [ByteArray.toList_eq, ByteArray.toList_eq]
  obtain ⟨⟨x⟩⟩ := a
  obtain ⟨⟨y⟩⟩ := b
  simp
end Go.GB

/- Plain laws, base: loops that are alike; searches; words of bits. -/
set_option linter.unusedVariables false
set_option linter.unusedSimpArgs false
namespace Go.GB
/-- One round. -/
theorem loopO_step {σ ρ : Type} {b : σ → Option (σ ⊕ ρ)} {s s' : σ} (h : b s = some (.inl s')) : loopO b s = loopO b s' := by rw [loopO_eq, h]; rfl
theorem loopO_done {σ ρ : Type} {b : σ → Option (σ ⊕ ρ)} {s : σ} {r : ρ} (h : b s = some (.inr r)) : loopO b s = some r := by rw [loopO_eq, h]; rfl
/-- A search that goes up: the first place at which there is something to tell. -/
theorem up_find {ρ : Type} {body : Int → Option (Int ⊕ (Unit ⊕ ρ))} {n : Nat} (p : Nat → Option ρ) (h : ∀ i : Nat, i < n → body i = some (match p i with | some r => .inr (.inr r) | none => .inl ((i + 1 : Nat) : Int))) (he : body n = some (.inr (.inl ()))) :
    loopO body 0 = some (match (List.range n).findSome? p with | some r => .inr r | none => .inl ()) := by
  have key : ∀ d i : Nat, i + d = n → loopO body i = some (match (List.range' i d).findSome? p with | some r => .inr r | none => .inl ()) := by
    intro d
    induction d with
    | zero =>
      intro i hi
      have : i = n := by omega
      subst this
      simp [loopO_done he]
    | succ d ih =>
      intro i hi
      have h1 := h i (by omega)
      rw [List.range'_succ, List.findSome?_cons]
      cases hp : p i with
      | some r => rw [hp] at h1; rw [loopO_done h1]
      | none => rw [hp] at h1; rw [loopO_step h1]; exact ih (i + 1) (by omega)
  have := key n 0 (by omega)
  rw [List.range_eq_range']
  exact this
/-- All of a list, by a loop that goes up. -/
theorem up_all {body : Int → Option (Int ⊕ (Unit ⊕ Bool))} {n : Nat} (q : Nat → Bool) (h : ∀ i : Nat, i < n → body i = some (bif q i then .inl ((i + 1 : Nat) : Int) else .inr (.inr false))) (he : body n = some (.inr (.inl ()))) :
    loopO body 0 = some (if (List.range n).all q then .inl () else .inr false) := by
  rw [up_find (fun i => if q i then none else some false) (fun i hi => by rw [h i hi]; cases q i <;> rfl) he]
  congr 1
  by_cases ha : (List.range n).all q = true
  · rw [if_pos ha]
    have : (List.range n).findSome? (fun i => if q i then none else some false) = none := by
      rw [List.findSome?_eq_none_iff]
      intro i hi
      rw [if_pos (List.all_eq_true.1 ha i hi)]
    rw [this]
  · rw [if_neg ha]
    have hx : (List.range n).all q = false := by simpa using ha
    rw [List.all_eq_false] at hx
    obtain ⟨i, hi, hq⟩ := hx
    cases hf : (List.range n).findSome? (fun i => if q i then none else some false) with
    | none =>
      rw [List.findSome?_eq_none_iff] at hf
      have := hf i hi
      rw [if_neg hq] at this; cases this
    | some b =>
      obtain ⟨j, _, hj⟩ := List.exists_of_findSome?_eq_some hf
      split at hj <;> cases hj
      rfl
theorem wrapU64 {x : Int} (h : 0 ≤ x) (h' : x < 18446744073709551616) : IntKind.wrap .u64 x = x := by
  unfold IntKind.wrap
  simp [IntKind.bits, IntKind.signed]
  omega
end Go.GB

/- Plain laws, base: the order of texts. -/
set_option linter.unusedVariables false
set_option linter.unusedSimpArgs false
namespace Go.GB
open Go.Lib
theorem toList_eq (a : ByteArray) : a.toList = a.data.toList := ByteArray.toList_eq a
end Go.GB

/- Plain laws, base: words of bits; numbers in few bytes. -/
set_option linter.unusedVariables false
set_option linter.unusedSimpArgs false
namespace Go.GB
theorem shr_nat (k : IntKind) (a n : Nat) (hn : n ≤ k.bits) : shr k (a : Int) (n : Int) = ((a / 2 ^ n : Nat) : Int) := by
  unfold shr
  rw [Int.toNat_natCast, Nat.min_eq_left hn, Int.fdiv_eq_ediv_of_nonneg _ (by exact Int.pow_nonneg (by omega))]
  norm_cast
theorem app_eq {α : Type} {xs ys : List α} (h : xs.length + ys.length ≤ 2147483648) : app xs ys = some (xs ++ ys) := by unfold app maxLen'; rw [if_pos (by simpa using h)]
end Go.GB

/- Stable sorting: what is a stable sort of a list, and that there is one alone. -/
set_option linter.unusedVariables false
set_option linter.unusedSimpArgs false
namespace Go.GB
section
variable {α : Type}
/-- A strict weak order. -/
structure Swo (lt : α → α → Bool) : Prop where
  asymm : ∀ a b, lt a b = true → lt b a = false
  trans : ∀ a b c, lt b a = false → lt c b = false → lt c a = false
variable {lt : α → α → Bool}
theorem Swo.irrefl (h : Swo lt) (a : α) : lt a a = false := by
  cases e : lt a a with
  | false => rfl
  | true => have := h.asymm a a e; rw [e] at this; exact this
/-- x < y, y ≤ z: x < z. -/
theorem Swo.lt_le (h : Swo lt) {a b c : α} (h1 : lt a b = true) (h2 : lt c b = false) : lt a c = true := by
  cases e : lt a c with
  | true => rfl
  | false => have := h.trans b c a h2 e; rw [h1] at this; cases this
theorem Swo.le_lt (h : Swo lt) {a b c : α} (h1 : lt b a = false) (h2 : lt b c = true) : lt a c = true := by
  cases e : lt a c with
  | true => rfl
  | false => have := h.trans c a b e h1; rw [h2] at this; cases this
def eqv (lt : α → α → Bool) (k x : α) : Bool := !lt k x && !lt x k
theorem eqv_iff {k x : α} : eqv lt k x = true ↔ lt k x = false ∧ lt x k = false := by simp [eqv]
theorem Swo.eqv_self (h : Swo lt) (a : α) : eqv lt a a = true := by simp [eqv, h.irrefl]
def Sorted (lt : α → α → Bool) (l : List α) : Prop := l.Pairwise fun a b => lt b a = false
def FE (lt : α → α → Bool) (l m : List α) : Prop := ∀ k, l.filter (eqv lt k) = m.filter (eqv lt k)
theorem FE.refl (l : List α) : FE lt l l := fun _ => rfl
theorem FE.symm {l m : List α} (h : FE lt l m) : FE lt m l := fun k => (h k).symm
theorem FE.trans {l m n : List α} (h : FE lt l m) (h' : FE lt m n) : FE lt l n := fun k => (h k).trans (h' k)
theorem FE.append {l m l' m' : List α} (h : FE lt l m) (h' : FE lt l' m') : FE lt (l ++ l') (m ++ m') := fun k => by rw [List.filter_append, List.filter_append, h k, h' k]
theorem FE.mid {P S l m : List α} (h : FE lt l m) : FE lt (P ++ l ++ S) (P ++ m ++ S) := ((FE.refl P).append h).append (FE.refl S)
theorem FE.mem (hs : Swo lt) {l m : List α} (h : FE lt l m) {x : α} (hx : x ∈ l) : x ∈ m := by
  have : x ∈ l.filter (eqv lt x) := List.mem_filter.2 ⟨hx, hs.eqv_self x⟩
  rw [h x] at this
  exact (List.mem_filter.1 this).1
/-- Two parts of which one stands all below the other change places. -/
theorem FE.swap (hs : Swo lt) {X Y : List α} (h : ∀ x ∈ X, ∀ y ∈ Y, lt y x = true) : FE lt (X ++ Y) (Y ++ X) := fun k => by
  rw [List.filter_append, List.filter_append]
  by_cases hx : X.filter (eqv lt k) = []
  · rw [hx]; simp
  · have hy : Y.filter (eqv lt k) = [] := by
      rw [List.filter_eq_nil_iff]
      intro y hy hk
      obtain ⟨x, hx'⟩ := List.exists_mem_of_ne_nil _ hx
      obtain ⟨hxX, hxk⟩ := List.mem_filter.1 hx'
      have h1 := h x hxX y hy
      have h2 := hs.trans x k y (eqv_iff.1 hxk).1 (eqv_iff.1 hk).2
      rw [h1] at h2; cases h2
    rw [hy]; simp
/-- m is l, stably sorted. -/
def StS (lt : α → α → Bool) (l m : List α) : Prop := FE lt m l ∧ Sorted lt m
theorem FE.length (hs : Swo lt) : ∀ (n : Nat) {a b : List α}, a.length = n → FE lt a b → b.length = n
  | 0, a, b, hn, h => by
    cases b with
    | nil => rfl
    | cons y b => have := h.symm.mem hs (x := y) (by simp); rw [List.length_eq_zero_iff.1 hn] at this; cases this
  | n + 1, a, b, hn, h => by
    cases a with
    | nil => cases hn
    | cons x a =>
      have hx := h.mem hs (x := x) (by simp)
      have hne : b.filter (eqv lt x) ≠ [] := fun e => by
        have : x ∈ b.filter (eqv lt x) := List.mem_filter.2 ⟨hx, hs.eqv_self x⟩
        rw [e] at this; cases this
      -- the first of x's class in b is x
      have e1 := h x
      rw [List.filter_cons_of_pos (hs.eqv_self x)] at e1
      obtain ⟨b1, b2, hb, hb1⟩ : ∃ b1 b2, b = b1 ++ x :: b2 ∧ ∀ z ∈ b1, eqv lt x z = false := by
        clear hn h hx hne
        induction b with
        | nil => cases e1
        | cons z b ih =>
          by_cases hz : eqv lt x z = true
          · rw [List.filter_cons_of_pos hz] at e1
            simp only [List.cons.injEq] at e1
            obtain ⟨rfl, _⟩ := e1
            exact ⟨[], b, rfl, fun z hz => by cases hz⟩
          · rw [List.filter_cons_of_neg hz] at e1
            obtain ⟨b1, b2, rfl, h1⟩ := ih e1
            exact ⟨z :: b1, b2, rfl, fun w hw => by
              rcases List.mem_cons.1 hw with rfl | hw
              · simpa using hz
              · exact h1 w hw⟩
      have h2 : FE lt a (b1 ++ b2) := fun k => by
        have e2 := h k
        rw [hb, List.filter_append] at e2
        rw [List.filter_append]
        by_cases hk : eqv lt k x = true
        · rw [List.filter_cons_of_pos hk, List.filter_cons_of_pos hk] at e2
          have h0 : b1.filter (eqv lt k) = [] := by
            rw [List.filter_eq_nil_iff]
            intro z hz hkz
            have h1 := hb1 z hz
            have h3 := eqv_iff.1 hk
            have h4 := eqv_iff.1 hkz
            have : eqv lt x z = true := eqv_iff.2 ⟨hs.trans z k x h4.1 h3.2, hs.trans x k z h3.1 h4.2⟩
            rw [this] at h1; cases h1
          rw [h0] at e2 ⊢
          simpa using e2
        · rw [List.filter_cons_of_neg hk, List.filter_cons_of_neg hk] at e2
          exact e2
      have := FE.length hs n (by simpa using hn) h2
      rw [hb]; simp at this ⊢; omega
end
end Go.GB

/- Stable sorting: the library's swaps, rotations and binary searches. -/
set_option linter.unusedVariables false
set_option linter.unusedSimpArgs false
namespace Go.GB
noncomputable def gswapRange_l25 {α : Type} (cf : α → α → Int) (a1 : Int) (a2 : Int) (a3 : Int) : ((List α) × Int) → Option (((List α) × Int) ⊕ ((List α))) := fun s10 =>
  bif (decide (s10.2 < a3)) then
  (Option.bind (ix s10.1 (IntKind.wrap .i64 (a2 + s10.2))) fun (x28 : α) =>
    Option.bind (ix s10.1 (IntKind.wrap .i64 (a1 + s10.2))) fun (x37 : α) =>
    Option.bind (ix s10.1 (IntKind.wrap .i64 (a1 + s10.2))) fun (x46 : α) =>
    Option.bind (ix (lset s10.1 (IntKind.wrap .i64 (a1 + s10.2)) x28) (IntKind.wrap .i64 (a2 + s10.2))) fun (x58 : α) =>
    some (Sum.inl ((lset (lset s10.1 (IntKind.wrap .i64 (a1 + s10.2)) x28) (IntKind.wrap .i64 (a2 + s10.2)) x37), (IntKind.wrap .i64 (s10.2 + 1)))))
  else
  (some (Sum.inr s10.1))
noncomputable def gswapRange {α : Type} (cf : α → α → Int) (a0 : List α) (a1 : Int) (a2 : Int) (a3 : Int) : Option (List α) :=
  Option.bind (loopO (gswapRange_l25 cf a1 a2 a3) (a0, 0)) fun (r8 : (List α)) =>
  some r8
noncomputable def grotate_l25 {α : Type} (cf : α → α → Int) (a2 : Int) : ((List α) × Int × Int) → Option (((List α) × Int × Int) ⊕ ((List α) × Int)) := fun s10 =>
  bif (s10.2.1 != s10.2.2) then
  (Option.bind (bif (decide (s10.2.1 > s10.2.2)) then
      (Option.bind (gswapRange cf s10.1 (IntKind.wrap .i64 (a2 - s10.2.1)) a2 s10.2.2) fun (y37 : (List α)) =>
        some (y37, (IntKind.wrap .i64 (s10.2.1 - s10.2.2)), s10.2.2))
      else
      (Option.bind (gswapRange cf s10.1 (IntKind.wrap .i64 (a2 - s10.2.1)) (IntKind.wrap .i64 ((IntKind.wrap .i64 (a2 + s10.2.2)) - s10.2.1)) s10.2.1) fun (y45 : (List α)) =>
        some (y45, s10.2.1, (IntKind.wrap .i64 (s10.2.2 - s10.2.1))))) fun (j28 : (List α) × Int × Int) =>
    some (Sum.inl (j28.1, j28.2.1, j28.2.2)))
  else
  (some (Sum.inr (s10.1, s10.2.1)))
noncomputable def grotate {α : Type} (cf : α → α → Int) (a0 : List α) (a1 : Int) (a2 : Int) (a3 : Int) : Option (List α) :=
  Option.bind (loopO (grotate_l25 cf a2) (a0, (IntKind.wrap .i64 (a2 - a1)), (IntKind.wrap .i64 (a3 - a2)))) fun (r8 : (List α) × Int) =>
  Option.bind (gswapRange cf r8.1 (IntKind.wrap .i64 (a2 - r8.2)) a2 r8.2) fun (y53 : (List α)) =>
  some y53
noncomputable def gsymMerge_l17 {α : Type} (cf : α → α → Int) (a0 : List α) (a1 : Int) : (Int × Int) → Option ((Int × Int) ⊕ (Int)) := fun s8 =>
  bif (decide (s8.1 < s8.2)) then
  (Option.bind (ix a0 (IntKind.wrap .i64 (shr .u64 (IntKind.wrap .u64 (IntKind.wrap .i64 (s8.1 + s8.2))) 1))) fun (x20 : α) =>
    Option.bind (ix a0 a1) fun (x29 : α) =>
    Option.bind (bif (decide ((cf x20 x29) < 0)) then
      (some ((IntKind.wrap .i64 ((IntKind.wrap .i64 (shr .u64 (IntKind.wrap .u64 (IntKind.wrap .i64 (s8.1 + s8.2))) 1)) + 1)), s8.2))
      else
      (some (s8.1, (IntKind.wrap .i64 (shr .u64 (IntKind.wrap .u64 (IntKind.wrap .i64 (s8.1 + s8.2))) 1))))) fun (j38 : Int × Int) =>
    some (Sum.inl (j38.1, j38.2)))
  else
  (some (Sum.inr s8.1))
noncomputable def gsymMerge_l68 {α : Type} (cf : α → α → Int) (r6 : Int) : ((List α) × Int) → Option (((List α) × Int) ⊕ ((List α))) := fun s53 =>
  bif (decide (s53.2 < (IntKind.wrap .i64 (r6 - 1)))) then
  (Option.bind (ix s53.1 (IntKind.wrap .i64 (s53.2 + 1))) fun (x71 : α) =>
    Option.bind (ix s53.1 s53.2) fun (x80 : α) =>
    Option.bind (ix s53.1 s53.2) fun (x89 : α) =>
    Option.bind (ix (lset s53.1 s53.2 x71) (IntKind.wrap .i64 (s53.2 + 1))) fun (x101 : α) =>
    some (Sum.inl ((lset (lset s53.1 s53.2 x71) (IntKind.wrap .i64 (s53.2 + 1)) x80), (IntKind.wrap .i64 (s53.2 + 1)))))
  else
  (some (Sum.inr s53.1))
noncomputable def gsymMerge_l129 {α : Type} (cf : α → α → Int) (a0 : List α) (a2 : Int) : (Int × Int) → Option ((Int × Int) ⊕ (Int)) := fun s120 =>
  bif (decide (s120.1 < s120.2)) then
  (Option.bind (ix a0 a2) fun (x132 : α) =>
    Option.bind (ix a0 (IntKind.wrap .i64 (shr .u64 (IntKind.wrap .u64 (IntKind.wrap .i64 (s120.1 + s120.2))) 1))) fun (x141 : α) =>
    Option.bind (bif (!(decide ((cf x132 x141) < 0))) then
      (some ((IntKind.wrap .i64 ((IntKind.wrap .i64 (shr .u64 (IntKind.wrap .u64 (IntKind.wrap .i64 (s120.1 + s120.2))) 1)) + 1)), s120.2))
      else
      (some (s120.1, (IntKind.wrap .i64 (shr .u64 (IntKind.wrap .u64 (IntKind.wrap .i64 (s120.1 + s120.2))) 1))))) fun (j150 : Int × Int) =>
    some (Sum.inl (j150.1, j150.2)))
  else
  (some (Sum.inr s120.1))
noncomputable def gsymMerge_l180 {α : Type} (cf : α → α → Int) (r118 : Int) : ((List α) × Int) → Option (((List α) × Int) ⊕ ((List α))) := fun s165 =>
  bif (decide (s165.2 > r118)) then
  (Option.bind (ix s165.1 (IntKind.wrap .i64 (s165.2 - 1))) fun (x183 : α) =>
    Option.bind (ix s165.1 s165.2) fun (x192 : α) =>
    Option.bind (ix s165.1 s165.2) fun (x201 : α) =>
    Option.bind (ix (lset s165.1 s165.2 x183) (IntKind.wrap .i64 (s165.2 - 1))) fun (x213 : α) =>
    some (Sum.inl ((lset (lset s165.1 s165.2 x183) (IntKind.wrap .i64 (s165.2 - 1)) x192), (IntKind.wrap .i64 (s165.2 - 1)))))
  else
  (some (Sum.inr s165.1))
noncomputable def gsymMerge_l246 {α : Type} (cf : α → α → Int) (a0 : List α) (a1 : Int) (a2 : Int) (a3 : Int) : (Int × Int) → Option ((Int × Int) ⊕ (Int)) := fun s237 =>
  bif (decide (s237.1 < s237.2)) then
  (Option.bind (ix a0 (IntKind.wrap .i64 ((IntKind.wrap .i64 ((IntKind.wrap .i64 ((IntKind.wrap .i64 (shr .u64 (IntKind.wrap .u64 (IntKind.wrap .i64 (a1 + a3))) 1)) + a2)) - 1)) - (IntKind.wrap .i64 (shr .u64 (IntKind.wrap .u64 (IntKind.wrap .i64 (s237.1 + s237.2))) 1))))) fun (x249 : α) =>
    Option.bind (ix a0 (IntKind.wrap .i64 (shr .u64 (IntKind.wrap .u64 (IntKind.wrap .i64 (s237.1 + s237.2))) 1))) fun (x258 : α) =>
    Option.bind (bif (!(decide ((cf x249 x258) < 0))) then
      (some ((IntKind.wrap .i64 ((IntKind.wrap .i64 (shr .u64 (IntKind.wrap .u64 (IntKind.wrap .i64 (s237.1 + s237.2))) 1)) + 1)), s237.2))
      else
      (some (s237.1, (IntKind.wrap .i64 (shr .u64 (IntKind.wrap .u64 (IntKind.wrap .i64 (s237.1 + s237.2))) 1))))) fun (j267 : Int × Int) =>
    some (Sum.inl (j267.1, j267.2)))
  else
  (some (Sum.inr s237.1))
noncomputable def gsymMerge_b {α : Type} (cf : α → α → Int) (rec_ : (List α) → Int → Int → Int → Option (List α)) (a0 : List α) (a1 : Int) (a2 : Int) (a3 : Int) : Option (List α) :=
  bif ((IntKind.wrap .i64 (a2 - a1)) == 1) then
  (Option.bind (loopO (gsymMerge_l17 cf a0 a1) (a2, a3)) fun (r6 : Int) =>
    Option.bind (loopO (gsymMerge_l68 cf r6) (a0, a1)) fun (r51 : (List α)) =>
    some r51)
  else
  (bif ((IntKind.wrap .i64 (a3 - a2)) == 1) then
    (Option.bind (loopO (gsymMerge_l129 cf a0 a2) (a1, a2)) fun (r118 : Int) =>
      Option.bind (loopO (gsymMerge_l180 cf r118) (a0, a2)) fun (r163 : (List α)) =>
      some r163)
    else
    (Option.bind (bif (decide (a2 > (IntKind.wrap .i64 (shr .u64 (IntKind.wrap .u64 (IntKind.wrap .i64 (a1 + a3))) 1)))) then
        (some ((IntKind.wrap .i64 ((IntKind.wrap .i64 ((IntKind.wrap .i64 (shr .u64 (IntKind.wrap .u64 (IntKind.wrap .i64 (a1 + a3))) 1)) + a2)) - a3)), (IntKind.wrap .i64 (shr .u64 (IntKind.wrap .u64 (IntKind.wrap .i64 (a1 + a3))) 1))))
        else
        (some (a1, a2))) fun (j225 : Int × Int) =>
      Option.bind (loopO (gsymMerge_l246 cf a0 a1 a2 a3) (j225.1, j225.2)) fun (r235 : Int) =>
      Option.bind (bif ((decide (r235 < a2)) && (decide (a2 < (IntKind.wrap .i64 ((IntKind.wrap .i64 ((IntKind.wrap .i64 (shr .u64 (IntKind.wrap .u64 (IntKind.wrap .i64 (a1 + a3))) 1)) + a2)) - r235))))) then
        (Option.bind (grotate cf a0 r235 a2 (IntKind.wrap .i64 ((IntKind.wrap .i64 ((IntKind.wrap .i64 (shr .u64 (IntKind.wrap .u64 (IntKind.wrap .i64 (a1 + a3))) 1)) + a2)) - r235))) fun (y288 : (List α)) =>
          some y288)
        else
        (some a0)) fun (j279 : (List α)) =>
      Option.bind (bif ((decide (a1 < r235)) && (decide (r235 < (IntKind.wrap .i64 (shr .u64 (IntKind.wrap .u64 (IntKind.wrap .i64 (a1 + a3))) 1))))) then
        (Option.bind (rec_ j279 a1 r235 (IntKind.wrap .i64 (shr .u64 (IntKind.wrap .u64 (IntKind.wrap .i64 (a1 + a3))) 1))) fun (y311 : (List α)) =>
          some y311)
        else
        (some j279)) fun (j302 : (List α)) =>
      Option.bind (bif ((decide ((IntKind.wrap .i64 (shr .u64 (IntKind.wrap .u64 (IntKind.wrap .i64 (a1 + a3))) 1)) < (IntKind.wrap .i64 ((IntKind.wrap .i64 ((IntKind.wrap .i64 (shr .u64 (IntKind.wrap .u64 (IntKind.wrap .i64 (a1 + a3))) 1)) + a2)) - r235)))) && (decide ((IntKind.wrap .i64 ((IntKind.wrap .i64 ((IntKind.wrap .i64 (shr .u64 (IntKind.wrap .u64 (IntKind.wrap .i64 (a1 + a3))) 1)) + a2)) - r235)) < a3))) then
        (Option.bind (rec_ j302 (IntKind.wrap .i64 (shr .u64 (IntKind.wrap .u64 (IntKind.wrap .i64 (a1 + a3))) 1)) (IntKind.wrap .i64 ((IntKind.wrap .i64 ((IntKind.wrap .i64 (shr .u64 (IntKind.wrap .u64 (IntKind.wrap .i64 (a1 + a3))) 1)) + a2)) - r235)) a3) fun (y334 : (List α)) =>
          some y334)
        else
        (some j302)) fun (j325 : (List α)) =>
      some j325))
noncomputable def gsymMerge {α : Type} (cf : α → α → Int) (a0 : List α) (a1 : Int) (a2 : Int) (a3 : Int) : Option (List α) :=
  iterF (fun (rec_ : ((List α) × Int × Int × Int) → Option (List α)) (x : (List α) × Int × Int × Int) => gsymMerge_b cf (fun a0 a1 a2 a3 => rec_ (a0, a1, a2, a3)) x.1 x.2.1 x.2.2.1 x.2.2.2) 4294967296 (a0, a1, a2, a3)
noncomputable def ginsertionSort_l52 {α : Type} (cf : α → α → Int) (a1 : Int) : ((List α) × Int) → Option (((List α) × Int) ⊕ ((List α))) := fun s37 =>
  Option.bind (bif (decide (s37.2 > a1)) then
    (Option.bind (ix s37.1 s37.2) fun (x60 : α) =>
      Option.bind (ix s37.1 (IntKind.wrap .i64 (s37.2 - 1))) fun (x69 : α) =>
      some (decide ((cf x60 x69) < 0)))
    else
    (some false)) fun (j54 : Bool) =>
  bif j54 then
  (Option.bind (ix s37.1 (IntKind.wrap .i64 (s37.2 - 1))) fun (x79 : α) =>
    Option.bind (ix s37.1 s37.2) fun (x88 : α) =>
    Option.bind (ix s37.1 s37.2) fun (x97 : α) =>
    Option.bind (ix (lset s37.1 s37.2 x79) (IntKind.wrap .i64 (s37.2 - 1))) fun (x109 : α) =>
    some (Sum.inl ((lset (lset s37.1 s37.2 x79) (IntKind.wrap .i64 (s37.2 - 1)) x88), (IntKind.wrap .i64 (s37.2 - 1)))))
  else
  (some (Sum.inr s37.1))
noncomputable def ginsertionSort_l25 {α : Type} (cf : α → α → Int) (a1 : Int) (a2 : Int) : ((List α) × Int) → Option (((List α) × Int) ⊕ ((List α))) := fun s10 =>
  bif (decide (s10.2 < a2)) then
  (Option.bind (loopO (ginsertionSort_l52 cf a1) (s10.1, s10.2)) fun (r35 : (List α)) =>
    some (Sum.inl (r35, (IntKind.wrap .i64 (s10.2 + 1)))))
  else
  (some (Sum.inr s10.1))
noncomputable def ginsertionSort {α : Type} (cf : α → α → Int) (a0 : List α) (a1 : Int) (a2 : Int) : Option (List α) :=
  Option.bind (loopO (ginsertionSort_l25 cf a1 a2) (a0, (IntKind.wrap .i64 (a1 + 1)))) fun (r8 : (List α)) =>
  some r8
noncomputable def gstable_l25 {α : Type} (cf : α → α → Int) (a1 : Int) : ((List α) × Int × Int) → Option (((List α) × Int × Int) ⊕ ((List α) × Int)) := fun s10 =>
  bif (decide (s10.2.2 ≤ a1)) then
  (Option.bind (ginsertionSort cf s10.1 s10.2.1 s10.2.2) fun (y28 : (List α)) =>
    some (Sum.inl (y28, s10.2.2, (IntKind.wrap .i64 (s10.2.2 + 20)))))
  else
  (some (Sum.inr (s10.1, s10.2.1)))
noncomputable def gstable_l95 {α : Type} (cf : α → α → Int) (a1 : Int) (s53 : (List α) × Int) : ((List α) × Int × Int) → Option (((List α) × Int × Int) ⊕ ((List α) × Int)) := fun s80 =>
  bif (decide (s80.2.2 ≤ a1)) then
  (Option.bind (gsymMerge cf s80.1 s80.2.1 (IntKind.wrap .i64 (s80.2.1 + s53.2)) s80.2.2) fun (y98 : (List α)) =>
    some (Sum.inl (y98, s80.2.2, (IntKind.wrap .i64 (s80.2.2 + (IntKind.wrap .i64 (2 * s53.2)))))))
  else
  (some (Sum.inr (s80.1, s80.2.1)))
noncomputable def gstable_l68 {α : Type} (cf : α → α → Int) (a1 : Int) : ((List α) × Int) → Option (((List α) × Int) ⊕ ((List α))) := fun s53 =>
  bif (decide (s53.2 < a1)) then
  (Option.bind (loopO (gstable_l95 cf a1 s53) (s53.1, 0, (IntKind.wrap .i64 (2 * s53.2)))) fun (r78 : (List α) × Int) =>
    Option.bind (bif (decide ((IntKind.wrap .i64 (r78.2 + s53.2)) < a1)) then
      (Option.bind (gsymMerge cf r78.1 r78.2 (IntKind.wrap .i64 (r78.2 + s53.2)) a1) fun (y115 : (List α)) =>
        some y115)
      else
      (some r78.1)) fun (j106 : (List α)) =>
    some (Sum.inl (j106, (IntKind.wrap .i64 (s53.2 * 2)))))
  else
  (some (Sum.inr s53.1))
noncomputable def gstable {α : Type} (cf : α → α → Int) (a0 : List α) (a1 : Int) : Option (List α) :=
  Option.bind (loopO (gstable_l25 cf a1) (a0, 0, 20)) fun (r8 : (List α) × Int) =>
  Option.bind (ginsertionSort cf r8.1 r8.2 a1) fun (y36 : (List α)) =>
  Option.bind (loopO (gstable_l68 cf a1) (y36, 20)) fun (r51 : (List α)) =>
  some r51
noncomputable def gSortStable {α : Type} (cf : α → α → Int) (a0 : List α) : Option (List α) :=
  Option.bind (gstable cf a0 (a0.length : Int)) fun (y1 : (List α)) =>
  some y1
section
variable {α : Type} {cf : α → α → Int}
theorem ix_at {l A B : List α} {x : α} {i : Int} (hl : l = A ++ x :: B) (hi : i = (A.length : Int)) : ix l i = some x := by
  subst hl; subst hi; rw [ix_nat]; simp
theorem lset_at {l A B : List α} {x y : α} {i : Int} (hl : l = A ++ x :: B) (hi : i = (A.length : Int)) : lset l i y = A ++ y :: B := by
  subst hl; subst hi; simp [lset]
/-- Two elements change places. -/
theorem ex_up {l A B C : List α} {x y : α} {i j : Int} (hl : l = A ++ x :: (B ++ y :: C)) (hi : i = (A.length : Int)) (hj : j = ((A.length + 1 + B.length : Nat) : Int)) :
    ix l i = some x ∧ ix l j = some y ∧ ix (lset l i y) j = some y ∧ lset (lset l i y) j x = A ++ y :: (B ++ x :: C) := by
  have h1 : lset l i y = (A ++ y :: B) ++ y :: C := by rw [lset_at hl hi]; simp
  have hj' : j = ((A ++ y :: B).length : Int) := by rw [hj]; simp; omega
  refine ⟨ix_at hl hi, ix_at (A := A ++ x :: B) (B := C) (by rw [hl]; simp) (by rw [hj]; simp; omega), ix_at h1 hj', ?_⟩
  rw [lset_at h1 hj']; simp
theorem ex_down {l A B C : List α} {x y : α} {i j : Int} (hl : l = A ++ x :: (B ++ y :: C)) (hi : i = (A.length : Int)) (hj : j = ((A.length + 1 + B.length : Nat) : Int)) :
    ix l i = some x ∧ ix l j = some y ∧ ix (lset l j x) i = some x ∧ lset (lset l j x) i y = A ++ y :: (B ++ x :: C) := by
  have h0 : ix l j = some y := ix_at (A := A ++ x :: B) (B := C) (by rw [hl]; simp) (by rw [hj]; simp; omega)
  have h1 : lset l j x = A ++ x :: (B ++ x :: C) := by
    rw [lset_at (A := A ++ x :: B) (B := C) (x := y) (by rw [hl]; simp) (by rw [hj]; simp; omega)]; simp
  refine ⟨ix_at hl hi, h0, ix_at h1 hi, ?_⟩
  rw [lset_at h1 hi]
/-- Exchange of two ranges of one length. -/
theorem gswapRange_loop (P M S : List α) (a b n : Nat) (ha : a = P.length) (hb : b = P.length + n + M.length) (hn : b + n < 4294967296) :
    ∀ (X2 Y2 X1 Y1 : List α), X2.length = Y2.length → X1.length = Y1.length → n = X1.length + X2.length →
      loopO (gswapRange_l25 cf (a : Int) (b : Int) (n : Int)) (P ++ (Y1 ++ (X2 ++ (M ++ (X1 ++ (Y2 ++ S))))), (X1.length : Int)) = some (P ++ ((Y1 ++ Y2) ++ (M ++ ((X1 ++ X2) ++ S)))) := by
  intro X2
  induction X2 with
  | nil =>
    intro Y2 X1 Y1 h2 h1 hn'
    have : Y2 = [] := List.length_eq_zero_iff.1 h2.symm
    subst this
    rw [loopO_done (r := P ++ (Y1 ++ ([] ++ (M ++ (X1 ++ ([] ++ S)))))) (by
      unfold gswapRange_l25
      rw [show decide (((X1.length : Nat) : Int) < (n : Int)) = false from decide_eq_false (by simp at hn'; omega)]; rfl)]
    simp
  | cons x X2 ih =>
    intro Y2 X1 Y1 h2 h1 hn'
    cases Y2 with
    | nil => cases h2
    | cons y Y2 =>
      simp only [List.length_cons, Nat.add_right_cancel_iff] at h2
      simp only [List.length_cons] at hn'
      have hl : P ++ (Y1 ++ (x :: X2 ++ (M ++ (X1 ++ (y :: Y2 ++ S))))) = (P ++ Y1) ++ x :: ((X2 ++ M ++ X1) ++ y :: (Y2 ++ S)) := by simp
      have ei : IntKind.wrap .i64 ((a : Int) + ((X1.length : Nat) : Int)) = ((P ++ Y1).length : Int) := by rw [wrap64 (by omega) (by omega), List.length_append]; omega
      have ej : IntKind.wrap .i64 ((b : Int) + ((X1.length : Nat) : Int)) = (((P ++ Y1).length + 1 + (X2 ++ M ++ X1).length : Nat) : Int) := by rw [wrap64 (by omega) (by omega)]; simp only [List.length_append]; omega
      obtain ⟨e1, e2, e3, e4⟩ := ex_up hl ei ej
      rw [loopO_step (s' := (P ++ ((Y1 ++ [y]) ++ (X2 ++ (M ++ ((X1 ++ [x]) ++ (Y2 ++ S))))), ((X1 ++ [x]).length : Int))) (by
        unfold gswapRange_l25
        rw [show decide (((X1.length : Nat) : Int) < (n : Int)) = true from decide_eq_true (by omega)]
        simp only [cond_true, e1, e2, Option.bind_some, e3, e4, wrap_up (show X1.length < 4294967296 by omega)]
        simp)]
      rw [ih Y2 (X1 ++ [x]) (Y1 ++ [y]) h2 (by simp; omega) (by simp; omega)]
      simp
theorem gswapRange_eq {l P X M Y S : List α} {a b n : Int} (hl : l = P ++ (X ++ (M ++ (Y ++ S)))) (hXY : X.length = Y.length) (hlen : l.length < 2147483648) (ha : a = (P.length : Int)) (hb : b = ((P.length + X.length + M.length : Nat) : Int)) (hn : n = (X.length : Int)) :
    gswapRange cf l a b n = some (P ++ (Y ++ (M ++ (X ++ S)))) := by
  subst hl ha hb hn
  simp only [List.length_append] at hlen
  unfold gswapRange
  have := gswapRange_loop (cf := cf) P M S P.length (P.length + X.length + M.length) X.length rfl rfl (by omega) X Y [] [] hXY rfl (by simp)
  simp only [List.nil_append, List.length_nil] at this
  rw [show ((0 : Nat) : Int) = 0 from rfl] at this
  rw [this]; rfl
theorem grotate_loop (n : Nat) : ∀ (P X Y S : List α) (m : Int), X.length + Y.length ≤ n → 0 < X.length → 0 < Y.length → P.length + X.length + Y.length + S.length < 2147483648 → m = ((P.length + X.length : Nat) : Int) →
    ∃ P' U V S', loopO (grotate_l25 cf m) (P ++ (X ++ (Y ++ S)), (X.length : Int), (Y.length : Int)) = some (P' ++ (U ++ (V ++ S')), (U.length : Int)) ∧ U.length = V.length ∧ 0 < U.length ∧ m = ((P'.length + U.length : Nat) : Int) ∧ P'.length + U.length + V.length + S'.length < 2147483648 ∧
      P' ++ (V ++ (U ++ S')) = P ++ (Y ++ (X ++ S)) := by
  induction n with
  | zero => intro P X Y S m hn hx hy; omega
  | succ n ih =>
    intro P X Y S m hn hx hy hlen hm
    by_cases hij : X.length = Y.length
    · refine ⟨P, X, Y, S, loopO_done (by
        unfold grotate_l25
        rw [show (((X.length : Nat) : Int) != ((Y.length : Nat) : Int)) = false by rw [hij]; simp]; rfl), hij, hx, hm, hlen, rfl⟩
    · have hne : (((X.length : Nat) : Int) != ((Y.length : Nat) : Int)) = true := by simp; omega
      by_cases hgt : X.length > Y.length
      · -- X = A ++ Z with |A| = |Y|
        obtain ⟨A, Z, rfl, hA⟩ : ∃ A Z, X = A ++ Z ∧ A.length = Y.length := ⟨X.take Y.length, X.drop Y.length, (List.take_append_drop _ _).symm, by rw [List.length_take]; omega⟩
        have hAZ : (A ++ Z).length = A.length + Z.length := List.length_append
        simp only [List.length_append] at hn hx hlen hm hgt hij hne
        have hs := gswapRange_eq (cf := cf) (l := P ++ ((A ++ Z) ++ (Y ++ S))) (P := P) (X := A) (M := Z) (Y := Y) (S := S) (a := IntKind.wrap .i64 (m - ((A ++ Z).length : Int))) (b := m) (n := (Y.length : Int)) (by simp) hA (by simp; omega)
          (by rw [hm, wrap64 (by omega) (by omega)]; omega) (by rw [hm]; omega) (by rw [hA])
        have hstep : loopO (grotate_l25 cf m) (P ++ ((A ++ Z) ++ (Y ++ S)), ((A ++ Z).length : Int), (Y.length : Int)) = loopO (grotate_l25 cf m) ((P ++ Y) ++ (Z ++ (A ++ S)), (Z.length : Int), (A.length : Int)) := by
          refine loopO_step ?_
          unfold grotate_l25
          simp only [List.length_append] at hs ⊢
          rw [hne]
          simp only [cond_true]
          rw [show decide (((A.length + Z.length : Nat) : Int) > ((Y.length : Nat) : Int)) = true from decide_eq_true (by omega)]
          simp only [cond_true, hs, Option.bind_some]
          rw [wrap64 (by omega) (by omega)]
          simp; omega
        obtain ⟨P', U, V, S', h1, h2, h3, h4, h5, h6⟩ := ih (P ++ Y) Z A S m (by omega) (by omega) (by omega) (by simp; omega) (by rw [hm]; simp; omega)
        exact ⟨P', U, V, S', hstep.trans h1, h2, h3, h4, h5, by rw [h6]; simp⟩
      · obtain ⟨Z, B, rfl, hB⟩ : ∃ Z B, Y = Z ++ B ∧ B.length = X.length := ⟨Y.take (Y.length - X.length), Y.drop (Y.length - X.length), (List.take_append_drop _ _).symm, by rw [List.length_drop]; omega⟩
        simp only [List.length_append] at hn hy hlen hgt hij hne
        have hs := gswapRange_eq (cf := cf) (l := P ++ (X ++ ((Z ++ B) ++ S))) (P := P) (X := X) (M := Z) (Y := B) (S := S) (a := IntKind.wrap .i64 (m - (X.length : Int))) (b := IntKind.wrap .i64 (IntKind.wrap .i64 (m + ((Z ++ B).length : Int)) - (X.length : Int))) (n := (X.length : Int)) (by simp) hB.symm (by simp; omega)
          (by rw [hm, wrap64 (by omega) (by omega)]; omega) (by rw [hm, wrap64 (x := _ + _) (by simp; omega) (by simp; omega), wrap64 (by simp; omega) (by simp; omega)]; simp; omega) rfl
        have hstep : loopO (grotate_l25 cf m) (P ++ (X ++ ((Z ++ B) ++ S)), (X.length : Int), ((Z ++ B).length : Int)) = loopO (grotate_l25 cf m) (P ++ (B ++ (Z ++ (X ++ S))), (B.length : Int), (Z.length : Int)) := by
          refine loopO_step ?_
          unfold grotate_l25
          simp only [List.length_append] at hs ⊢
          rw [hne]
          simp only [cond_true]
          rw [show decide (((X.length : Nat) : Int) > ((Z.length + B.length : Nat) : Int)) = false from decide_eq_false (by omega)]
          simp only [cond_false, hs, Option.bind_some]
          rw [wrap64 (by omega) (by omega)]
          simp only [hB]
          rw [show ((Z.length + X.length : Nat) : Int) - (X.length : Int) = (Z.length : Int) from by omega]
        obtain ⟨P', U, V, S', h1, h2, h3, h4, h5, h6⟩ := ih P B Z (X ++ S) m (by omega) (by omega) (by omega) (by simp; omega) (by rw [hm]; omega)
        exact ⟨P', U, V, S', hstep.trans h1, h2, h3, h4, h5, by rw [h6]; simp⟩
theorem grotate_eq {l P X Y S : List α} {a m b : Int} (hl : l = P ++ (X ++ (Y ++ S))) (hx : 0 < X.length) (hy : 0 < Y.length) (hlen : l.length < 2147483648) (ha : a = (P.length : Int)) (hm : m = ((P.length + X.length : Nat) : Int)) (hb : b = ((P.length + X.length + Y.length : Nat) : Int)) :
    grotate cf l a m b = some (P ++ (Y ++ (X ++ S))) := by
  subst hl
  simp only [List.length_append] at hlen
  obtain ⟨P', U, V, S', h1, h2, h3, h4, h5, h6⟩ := grotate_loop (cf := cf) (X.length + Y.length) P X Y S m (Nat.le_refl _) hx hy (by omega) hm
  unfold grotate
  rw [show IntKind.wrap .i64 (m - a) = (X.length : Int) by rw [hm, ha, wrap64 (by omega) (by omega)]; omega, show IntKind.wrap .i64 (b - m) = (Y.length : Int) by rw [hm, hb, wrap64 (by omega) (by omega)]; omega, h1]
  simp only [Option.bind_some]
  rw [gswapRange_eq (cf := cf) (P := P') (X := U) (M := []) (Y := V) (S := S') (by simp) h2 (by simp; omega) (by rw [h4, wrap64 (by omega) (by omega)]; omega) (by rw [h4]; simp) rfl]
  simp only [List.nil_append, Option.bind_some]
  rw [h6]
/-- A search by halves. -/
theorem mid_eq {i j : Nat} (h : i + j < 4294967296) : IntKind.wrap .i64 (shr .u64 (IntKind.wrap .u64 (IntKind.wrap .i64 ((i : Int) + (j : Int)))) 1) = (((i + j) / 2 : Nat) : Int) := by
  rw [wrap64 (x := (i : Int) + (j : Int)) (by omega) (by omega), wrapU64 (by omega) (by omega)]
  have := shr_nat .u64 (i + j) 1 (by decide)
  rw [show ((i + j : Nat) : Int) = (i : Int) + (j : Int) from by omega, show ((1 : Nat) : Int) = 1 from rfl] at this
  rw [this, wrap64 (by omega) (by omega)]
theorem bs_spec {body : Int × Int → Option ((Int × Int) ⊕ Int)} (lo hi : Nat) (q : Nat → Bool)
    (h : ∀ i j : Nat, lo ≤ i → i < j → j ≤ hi → body ((i : Int), (j : Int)) = some (.inl (bif q ((i + j) / 2) then ((((i + j) / 2 + 1 : Nat) : Int), (j : Int)) else ((i : Int), (((i + j) / 2 : Nat) : Int)))))
    (he : ∀ i : Nat, body ((i : Int), (i : Int)) = some (.inr (i : Int))) :
    ∀ (n i j : Nat), j - i ≤ n → lo ≤ i → i ≤ j → j ≤ hi → (lo < i → q (i - 1) = true) → (j < hi → q j = false) →
      ∃ st : Nat, loopO body ((i : Int), (j : Int)) = some (st : Int) ∧ lo ≤ st ∧ st ≤ hi ∧ (lo < st → q (st - 1) = true) ∧ (st < hi → q st = false) := by
  intro n
  induction n with
  | zero =>
    intro i j hn h1 h2 h3 h4 h5
    obtain rfl : i = j := by omega
    exact ⟨i, loopO_done (he i), h1, h3, h4, h5⟩
  | succ n ih =>
    intro i j hn h1 h2 h3 h4 h5
    by_cases hij : i = j
    · subst hij; exact ⟨i, loopO_done (he i), h1, h3, h4, h5⟩
    · have hstep := h i j h1 (by omega) h3
      cases hq : q ((i + j) / 2) with
      | true =>
        rw [hq] at hstep
        obtain ⟨st, e, r⟩ := ih ((i + j) / 2 + 1) j (by omega) (by omega) (by omega) h3 (fun _ => by rw [Nat.add_sub_cancel]; exact hq) h5
        exact ⟨st, (loopO_step hstep).trans e, r⟩
      | false =>
        rw [hq] at hstep
        obtain ⟨st, e, r⟩ := ih i ((i + j) / 2) (by omega) h1 (by omega) (by omega) h4 (fun _ => hq)
        exact ⟨st, (loopO_step hstep).trans e, r⟩
end
end Go.GB

set_option linter.unusedVariables false
set_option linter.unusedSimpArgs false
namespace Go.GB
section
variable {α : Type} {lt : α → α → Bool}
theorem Sorted.last {A : List α} {z : α} (h : Sorted lt (A ++ [z])) : ∀ a ∈ A, lt z a = false := fun a ha => (List.pairwise_append.1 h).2.2 a ha z (by simp)
theorem Sorted.head {B : List α} {y : α} (h : Sorted lt (y :: B)) : ∀ b ∈ B, lt b y = false := (List.pairwise_cons.1 h).1
theorem Sorted.left {A B : List α} (h : Sorted lt (A ++ B)) : Sorted lt A := (List.pairwise_append.1 h).1
theorem Sorted.right {A B : List α} (h : Sorted lt (A ++ B)) : Sorted lt B := (List.pairwise_append.1 h).2.1
theorem Sorted.cross {A B : List α} (h : Sorted lt (A ++ B)) : ∀ a ∈ A, ∀ b ∈ B, lt b a = false := (List.pairwise_append.1 h).2.2
theorem Sorted.append {A B : List α} (h : Sorted lt A) (h' : Sorted lt B) (hc : ∀ a ∈ A, ∀ b ∈ B, lt b a = false) : Sorted lt (A ++ B) := List.pairwise_append.2 ⟨h, h', hc⟩
theorem StS.self {A : List α} (h : Sorted lt A) : StS lt A A := ⟨FE.refl A, h⟩
/-- One more element, put in its place. -/
theorem ins_sts (hs : Swo lt) {X0 U V : List α} {y : α} (h : StS lt X0 (U ++ V)) (h2 : ∀ v ∈ V, lt y v = true) (h3 : U = [] ∨ ∃ U' z, U = U' ++ [z] ∧ lt y z = false) : StS lt (X0 ++ [y]) (U ++ (y :: V)) := by
  refine ⟨?_, ?_⟩
  · have e1 : FE lt (U ++ ([y] ++ V) ++ []) (U ++ (V ++ [y]) ++ []) := FE.mid (FE.swap hs (fun x hx z hz => by rw [List.mem_singleton.1 hz]; exact h2 x hx)).symm
    have e2 : FE lt ((U ++ V) ++ [y]) (X0 ++ [y]) := h.1.append (FE.refl _)
    have := e1.trans (by simpa using e2)
    simpa using this
  · have hUV := h.2
    refine Sorted.append hUV.left (List.pairwise_cons.2 ⟨fun v hv => hs.asymm y v (h2 v hv), hUV.right⟩) fun u hu w hw => ?_
    rcases List.mem_cons.1 hw with rfl | hw
    · rcases h3 with rfl | ⟨U', z, rfl, hz⟩
      · cases hu
      · rcases List.mem_append.1 hu with hu | hu
        · exact hs.trans u z w (hUV.left.last u hu) hz
        · rw [List.mem_singleton.1 hu]; exact hz
    · exact hUV.cross u hu w hw
/-- Two sorted lists, each cut in two, and what comes of the parts. -/
theorem merge4 (hs : Swo lt) {X1 X2 Y1 Y2 Z1 Z2 : List α} (hX : Sorted lt (X1 ++ X2)) (hY : Sorted lt (Y1 ++ Y2)) (c1 : ∀ x ∈ X1, ∀ y ∈ Y2, lt y x = false) (c2 : ∀ x ∈ X2, ∀ y ∈ Y1, lt y x = true)
    (h1 : StS lt (X1 ++ Y1) Z1) (h2 : StS lt (X2 ++ Y2) Z2) : StS lt ((X1 ++ X2) ++ (Y1 ++ Y2)) (Z1 ++ Z2) := by
  refine ⟨?_, h1.2.append h2.2 fun a ha b hb => ?_⟩
  · refine (h1.1.append h2.1).trans ?_
    have e : FE lt (X1 ++ (Y1 ++ X2) ++ Y2) (X1 ++ (X2 ++ Y1) ++ Y2) := FE.mid (FE.swap hs c2).symm
    simpa using e
  · have ha' := h1.1.mem hs ha
    have hb' := h2.1.mem hs hb
    rcases List.mem_append.1 ha' with ha' | ha' <;> rcases List.mem_append.1 hb' with hb' | hb'
    · exact hX.cross a ha' b hb'
    · exact c1 a ha' b hb'
    · exact hs.asymm a b (c2 b hb' a ha')
    · exact hY.cross a ha' b hb'
end
section
variable {α : Type} {cf : α → α → Int}
def ltc (cf : α → α → Int) (x y : α) : Bool := decide (cf x y < 0)
/-- One element goes down to its place. -/
theorem gins_inner (hs : Swo (ltc cf)) (P R : List α) (y : α) (a : Int) (ha : a = (P.length : Int)) (n : Nat) : ∀ (X : List α) (W : List α), X.length = n → P.length + X.length < 2147483648 →
    ∃ U V, X = U ++ V ∧ loopO (ginsertionSort_l52 cf a) (P ++ (X ++ (y :: (W ++ R))), ((P.length + X.length : Nat) : Int)) = some (P ++ (U ++ (y :: (V ++ (W ++ R))))) ∧ (∀ v ∈ V, ltc cf y v = true) ∧ (U = [] ∨ ∃ U' z, U = U' ++ [z] ∧ ltc cf y z = false) := by
  induction n with
  | zero =>
    intro X W hn hl
    have : X = [] := List.length_eq_zero_iff.1 hn
    subst this
    refine ⟨[], [], rfl, loopO_done ?_, (fun v hv => by cases hv), .inl rfl⟩
    unfold ginsertionSort_l52
    rw [show decide (((P.length + ([] : List α).length : Nat) : Int) > a) = false from decide_eq_false (by simp; omega)]
    simp
  | succ n ih =>
    intro X W hn hl
    obtain ⟨X', z, rfl⟩ : ∃ X' z, X = X' ++ [z] := ⟨X.dropLast, X.getLast (by intro e; rw [e] at hn; cases hn), (List.dropLast_concat_getLast _).symm⟩
    simp only [List.length_append, List.length_cons, List.length_nil] at hn hl
    have hl0 : P ++ ((X' ++ [z]) ++ (y :: (W ++ R))) = (P ++ X') ++ z :: ([] ++ y :: (W ++ R)) := by simp
    have ej : ((P.length + (X' ++ [z]).length : Nat) : Int) = (((P ++ X').length + 1 + ([] : List α).length : Nat) : Int) := by simp; omega
    have ei : IntKind.wrap .i64 (((P.length + (X' ++ [z]).length : Nat) : Int) - 1) = ((P ++ X').length : Int) := by
      simp only [List.length_append, List.length_cons, List.length_nil]; rw [wrap64 (by omega) (by omega)]; omega
    obtain ⟨e1, e2, e3, e4⟩ := ex_down hl0 ei ej
    rw [ei] at e1 e3 e4
    have hgt : decide (((P.length + (X' ++ [z]).length : Nat) : Int) > a) = true := decide_eq_true (by simp; omega)
    cases hlt : ltc cf y z with
    | false =>
      refine ⟨X' ++ [z], [], by simp, loopO_done ?_, fun v hv => (by cases hv), .inr ⟨X', z, rfl, hlt⟩⟩
      unfold ginsertionSort_l52
      unfold ltc at hlt
      simp only [hgt, cond_true, ei, e1, e2, Option.bind_some, hlt, cond_false, List.nil_append]
    | true =>
      obtain ⟨U, V, rfl, h1, h2, h3⟩ := ih X' (z :: W) (by omega) (by omega)
      refine ⟨U, V ++ [z], by simp, ?_, fun v hv => ?_, h3⟩
      · rw [loopO_step (s' := (P ++ ((U ++ V) ++ (y :: ((z :: W) ++ R))), ((P.length + (U ++ V).length : Nat) : Int))) (by
          unfold ginsertionSort_l52
          unfold ltc at hlt
          simp only [hgt, cond_true, ei, e1, e2, Option.bind_some, hlt, e3, e4]
          simp), h1]
        simp
      · rcases List.mem_append.1 hv with hv | hv
        · exact h2 v hv
        · rw [List.mem_singleton.1 hv]; exact hlt
theorem gins_outer (hs : Swo (ltc cf)) (P S : List α) (a b : Int) (ha : a = (P.length : Int)) : ∀ (Y X0 X1 : List α), StS (ltc cf) X0 X1 → b = ((P.length + X1.length + Y.length : Nat) : Int) → P.length + X1.length + Y.length < 2147483648 →
    ∃ Z, loopO (ginsertionSort_l25 cf a b) (P ++ (X1 ++ (Y ++ S)), ((P.length + X1.length : Nat) : Int)) = some (P ++ (Z ++ S)) ∧ StS (ltc cf) (X0 ++ Y) Z := by
  intro Y
  induction Y with
  | nil =>
    intro X0 X1 h hb hl
    refine ⟨X1, loopO_done ?_, by simpa using h⟩
    unfold ginsertionSort_l25
    rw [show decide (((P.length + X1.length : Nat) : Int) < b) = false from decide_eq_false (by rw [hb]; simp)]
    simp
  | cons y Y ih =>
    intro X0 X1 h hb hl
    simp only [List.length_cons] at hb hl
    obtain ⟨U, V, rfl, h1, h2, h3⟩ := gins_inner hs P (Y ++ S) y a ha X1.length X1 [] rfl (by omega)
    simp only [List.nil_append] at h1
    have hst : StS (ltc cf) (X0 ++ [y]) (U ++ (y :: V)) := ins_sts hs h h2 h3
    obtain ⟨Z, hz, hZ⟩ := ih (X0 ++ [y]) (U ++ (y :: V)) hst (by rw [hb]; simp; omega) (by simp at hl ⊢; omega)
    refine ⟨Z, ?_, by simpa using hZ⟩
    rw [loopO_step (s' := (P ++ ((U ++ (y :: V)) ++ (Y ++ S)), ((P.length + (U ++ (y :: V)).length : Nat) : Int))) (by
      unfold ginsertionSort_l25
      rw [show decide (((P.length + (U ++ V).length : Nat) : Int) < b) = true from decide_eq_true (by rw [hb]; omega)]
      simp only [cond_true]
      rw [show P ++ ((U ++ V) ++ (y :: Y ++ S)) = P ++ ((U ++ V) ++ (y :: (Y ++ S))) from by simp, h1]
      simp only [Option.bind_some]
      rw [wrap_up (by omega)]
      simp; omega)]
    exact hz
theorem gins_eq (hs : Swo (ltc cf)) {l P X S : List α} {a b : Int} (hl : l = P ++ (X ++ S)) (hlen : l.length < 2147483648) (ha : a = (P.length : Int)) (hb : b = ((P.length + X.length : Nat) : Int)) : ∃ Z, ginsertionSort cf l a b = some (P ++ (Z ++ S)) ∧ StS (ltc cf) X Z := by
  subst hl
  simp only [List.length_append] at hlen
  unfold ginsertionSort
  cases X with
  | nil =>
    refine ⟨[], ?_, StS.self List.Pairwise.nil⟩
    rw [loopO_done (r := P ++ ([] ++ S)) (by
      unfold ginsertionSort_l25
      rw [ha, wrap_up (by omega), show decide (((P.length + 1 : Nat) : Int) < b) = false from decide_eq_false (by rw [hb]; simp; omega)]; rfl)]
    rfl
  | cons x X =>
    simp only [List.length_cons] at hlen hb
    obtain ⟨Z, h1, h2⟩ := gins_outer (cf := cf) hs P S a b ha X [x] [x] (StS.self (List.pairwise_singleton _ _)) (by rw [hb]; simp; omega) (by simp; omega)
    refine ⟨Z, ?_, h2⟩
    rw [ha, wrap_up (by omega)]
    simp only [List.length_cons, List.length_nil, Nat.zero_add] at h1
    rw [← ha, show P ++ (x :: X ++ S) = P ++ ([x] ++ (X ++ S)) from rfl, h1]
    rfl
/-- One element goes to the right, to the left. -/
theorem gsym_right (P R : List α) (x : α) (r : Int) : ∀ (Y2 Y1 : List α), r = ((P.length + Y1.length + Y2.length + 1 : Nat) : Int) → P.length + Y1.length + Y2.length < 2147483648 →
    loopO (gsymMerge_l68 cf r) (P ++ (Y1 ++ (x :: (Y2 ++ R))), ((P.length + Y1.length : Nat) : Int)) = some (P ++ (Y1 ++ (Y2 ++ (x :: R)))) := by
  intro Y2
  induction Y2 with
  | nil =>
    intro Y1 hr hl
    refine loopO_done ?_
    unfold gsymMerge_l68
    rw [show decide (((P.length + Y1.length : Nat) : Int) < IntKind.wrap .i64 (r - 1)) = false from decide_eq_false (by rw [hr, wrap64 (by omega) (by omega)]; simp)]
    rfl
  | cons y Y2 ih =>
    intro Y1 hr hl
    simp only [List.length_cons] at hr hl
    have hl0 : P ++ (Y1 ++ (x :: (y :: Y2 ++ R))) = (P ++ Y1) ++ x :: ([] ++ y :: (Y2 ++ R)) := by simp
    have ei : ((P.length + Y1.length : Nat) : Int) = ((P ++ Y1).length : Int) := by simp
    have ej : IntKind.wrap .i64 (((P.length + Y1.length : Nat) : Int) + 1) = (((P ++ Y1).length + 1 + ([] : List α).length : Nat) : Int) := by rw [wrap_up (by omega)]; simp
    obtain ⟨e1, e2, e3, e4⟩ := ex_up hl0 ei ej
    rw [ej] at e2 e3 e4
    rw [loopO_step (s' := (P ++ ((Y1 ++ [y]) ++ (x :: (Y2 ++ R))), ((P.length + (Y1 ++ [y]).length : Nat) : Int))) (by
      unfold gsymMerge_l68
      rw [show decide (((P.length + Y1.length : Nat) : Int) < IntKind.wrap .i64 (r - 1)) = true from decide_eq_true (by rw [hr, wrap64 (by omega) (by omega)]; omega)]
      simp only [cond_true, ej, e1, e2, Option.bind_some, e3, e4]
      simp; omega), ih (Y1 ++ [y]) (by rw [hr]; simp; omega) (by simp; omega)]
    simp
theorem gsym_left (P R : List α) (y : α) (r : Int) (hr : r = (P.length : Int)) (n : Nat) : ∀ (X W : List α), X.length = n → P.length + X.length < 2147483648 →
    loopO (gsymMerge_l180 cf r) (P ++ (X ++ (y :: (W ++ R))), ((P.length + X.length : Nat) : Int)) = some (P ++ (y :: (X ++ (W ++ R)))) := by
  induction n with
  | zero =>
    intro X W hn hl
    have : X = [] := List.length_eq_zero_iff.1 hn
    subst this
    refine loopO_done ?_
    unfold gsymMerge_l180
    rw [show decide (((P.length + ([] : List α).length : Nat) : Int) > r) = false from decide_eq_false (by simp; omega)]
    rfl
  | succ n ih =>
    intro X W hn hl
    obtain ⟨X', z, rfl⟩ : ∃ X' z, X = X' ++ [z] := ⟨X.dropLast, X.getLast (by intro e; rw [e] at hn; cases hn), (List.dropLast_concat_getLast _).symm⟩
    simp only [List.length_append, List.length_cons, List.length_nil] at hn hl
    have hl0 : P ++ ((X' ++ [z]) ++ (y :: (W ++ R))) = (P ++ X') ++ z :: ([] ++ y :: (W ++ R)) := by simp
    have ej : ((P.length + (X' ++ [z]).length : Nat) : Int) = (((P ++ X').length + 1 + ([] : List α).length : Nat) : Int) := by simp; omega
    have ei : IntKind.wrap .i64 (((P.length + (X' ++ [z]).length : Nat) : Int) - 1) = ((P ++ X').length : Int) := by
      simp only [List.length_append, List.length_cons, List.length_nil]; rw [wrap64 (by omega) (by omega)]; omega
    obtain ⟨e1, e2, e3, e4⟩ := ex_down hl0 ei ej
    rw [ei] at e1 e3 e4
    rw [loopO_step (s' := (P ++ (X' ++ (y :: ((z :: W) ++ R))), ((P.length + X'.length : Nat) : Int))) (by
      unfold gsymMerge_l180
      rw [show decide (((P.length + (X' ++ [z]).length : Nat) : Int) > r) = true from decide_eq_true (by simp; omega)]
      simp only [cond_true, ei, e1, e2, Option.bind_some, e3, e4]
      simp), ih X' (z :: W) (by omega) (by omega)]
    simp
end
end Go.GB
