/- Parts: L53d. -/
import Derived.Test.YtlhpclfkoblnkaaDoorL53cq
set_option linter.unusedVariables false
set_option linter.unusedSimpArgs false
set_option maxRecDepth 100000
namespace Go.Proofs.YtlhpclfkoblnkaaDoor
open Go.GB
/-! 63 tocsinref13_Units  -/
noncomputable def tocsinref13_Units : (List S93) :=
  [(⟨(⟨#[121]⟩ : ByteArray), 31536000000⟩ : S93), (⟨(⟨#[119]⟩ : ByteArray), 604800000⟩ : S93), (⟨(⟨#[100]⟩ : ByteArray), 86400000⟩ : S93), (⟨(⟨#[104]⟩ : ByteArray), 3600000⟩ : S93), (⟨(⟨#[109]⟩ : ByteArray), 60000⟩ : S93), (⟨(⟨#[115]⟩ : ByteArray), 1000⟩ : S93), (⟨(⟨#[109, 115]⟩ : ByteArray), 1⟩ : S93)]
theorem tocsinref13_Units_walk  {I : Imm} {r : (List S93)}  (hr : tocsinref13_Units = r) (L : Own) :
    CallsTo Tryd.prog 63 #[] I L (fun v I' L' => ∃ A0 c0 C0, OwnS kS93 94 I' A0 c0 r C0 ∧ v = .slice A0 r.length c0 ∧ C0 ++ L = L') := by
  replace hr : some (tocsinref13_Units) = some r := congrArg some hr
  unfold tocsinref13_Units at hr
  refine callsTo_body (N := 9) Tryd.func63 (by kernel_rfl) (by kernel_rfl) (by kernel_rfl) ?_
  refine gk_pick [] (K' := []) (by kernel_rfl) ?_
  refine gk_seq (by kernel_rfl) ?_
  refine gk_region (by kernel_rfl) ?_
  refine gl_pure 1 [] (K' := []) (by kernel_rfl) ?_
  refine gl_atE (by kernel_rfl) ?_
  refine ge_seq ?_
  refine gk_seq (by kernel_rfl) ?_
  refine gk_region (by kernel_rfl) ?_
  refine gl_pure 7 [1, 2, 3, 4, 5, 6, 7] (K' := [(1, .agg #[.string (⟨#[121]⟩ : ByteArray), .int .i64 31536000000]), (2, .agg #[.string (⟨#[119]⟩ : ByteArray), .int .i64 604800000]), (3, .agg #[.string (⟨#[100]⟩ : ByteArray), .int .i64 86400000]), (4, .agg #[.string (⟨#[104]⟩ : ByteArray), .int .i64 3600000]), (5, .agg #[.string (⟨#[109]⟩ : ByteArray), .int .i64 60000]), (6, .agg #[.string (⟨#[115]⟩ : ByteArray), .int .i64 1000]), (7, .agg #[.string (⟨#[109, 115]⟩ : ByteArray), .int .i64 1])]) (by kernel_rfl) ?_
  refine gl_buildSlice (T' := 95) (e := 94) (n := 2) (len := 7) (parts := #[(0, (.tmp 1)), (1, (.tmp 2)), (2, (.tmp 3)), (3, (.tmp 4)), (4, (.tmp 5)), (5, (.tmp 6)), (6, (.tmp 7))]) (l := [(0, .agg #[.string (⟨#[121]⟩ : ByteArray), .int .i64 31536000000]), (1, .agg #[.string (⟨#[119]⟩ : ByteArray), .int .i64 604800000]), (2, .agg #[.string (⟨#[100]⟩ : ByteArray), .int .i64 86400000]), (3, .agg #[.string (⟨#[104]⟩ : ByteArray), .int .i64 3600000]), (4, .agg #[.string (⟨#[109]⟩ : ByteArray), .int .i64 60000]), (5, .agg #[.string (⟨#[115]⟩ : ByteArray), .int .i64 1000]), (6, .agg #[.string (⟨#[109, 115]⟩ : ByteArray), .int .i64 1])]) (cs := #[.string (⟨#[121]⟩ : ByteArray), .int .i64 31536000000, .string (⟨#[119]⟩ : ByteArray), .int .i64 604800000, .string (⟨#[100]⟩ : ByteArray), .int .i64 86400000, .string (⟨#[104]⟩ : ByteArray), .int .i64 3600000, .string (⟨#[109]⟩ : ByteArray), .int .i64 60000, .string (⟨#[115]⟩ : ByteArray), .int .i64 1000, .string (⟨#[109, 115]⟩ : ByteArray), .int .i64 1]) (by kernel_rfl) (by kernel_rfl) (by kernel_rfl) (by kernel_rfl) (by kernel_rfl) (fun g1 => ?_)
  have hO2 : OwnS kS93 94 I (some ⟨g1, 0, none⟩) 7 [(⟨(⟨#[121]⟩ : ByteArray), 31536000000⟩ : S93), (⟨(⟨#[119]⟩ : ByteArray), 604800000⟩ : S93), (⟨(⟨#[100]⟩ : ByteArray), 86400000⟩ : S93), (⟨(⟨#[104]⟩ : ByteArray), 3600000⟩ : S93), (⟨(⟨#[109]⟩ : ByteArray), 60000⟩ : S93), (⟨(⟨#[115]⟩ : ByteArray), 1000⟩ : S93), (⟨(⟨#[109, 115]⟩ : ByteArray), 1⟩ : S93)] [(g1, .cells #[.string (⟨#[121]⟩ : ByteArray), .int .i64 31536000000, .string (⟨#[119]⟩ : ByteArray), .int .i64 604800000, .string (⟨#[100]⟩ : ByteArray), .int .i64 86400000, .string (⟨#[104]⟩ : ByteArray), .int .i64 3600000, .string (⟨#[109]⟩ : ByteArray), .int .i64 60000, .string (⟨#[115]⟩ : ByteArray), .int .i64 1000, .string (⟨#[109, 115]⟩ : ByteArray), .int .i64 1] 94)] := OwnS.lit (row_cons (l := [.string (⟨#[121]⟩ : ByteArray), .int .i64 31536000000]) (kS93_mk (x := (⟨(⟨#[121]⟩ : ByteArray), 31536000000⟩ : S93)) ) (row_cons (l := [.string (⟨#[119]⟩ : ByteArray), .int .i64 604800000]) (kS93_mk (x := (⟨(⟨#[119]⟩ : ByteArray), 604800000⟩ : S93)) ) (row_cons (l := [.string (⟨#[100]⟩ : ByteArray), .int .i64 86400000]) (kS93_mk (x := (⟨(⟨#[100]⟩ : ByteArray), 86400000⟩ : S93)) ) (row_cons (l := [.string (⟨#[104]⟩ : ByteArray), .int .i64 3600000]) (kS93_mk (x := (⟨(⟨#[104]⟩ : ByteArray), 3600000⟩ : S93)) ) (row_cons (l := [.string (⟨#[109]⟩ : ByteArray), .int .i64 60000]) (kS93_mk (x := (⟨(⟨#[109]⟩ : ByteArray), 60000⟩ : S93)) ) (row_cons (l := [.string (⟨#[115]⟩ : ByteArray), .int .i64 1000]) (kS93_mk (x := (⟨(⟨#[115]⟩ : ByteArray), 1000⟩ : S93)) ) (row_cons (l := [.string (⟨#[109, 115]⟩ : ByteArray), .int .i64 1]) (kS93_mk (x := (⟨(⟨#[109, 115]⟩ : ByteArray), 1⟩ : S93)) ) (row_nil _ _)))))))) rfl rfl rfl
  refine gl_reord (D := [(g1, .cells #[.string (⟨#[121]⟩ : ByteArray), .int .i64 31536000000, .string (⟨#[119]⟩ : ByteArray), .int .i64 604800000, .string (⟨#[100]⟩ : ByteArray), .int .i64 86400000, .string (⟨#[104]⟩ : ByteArray), .int .i64 3600000, .string (⟨#[109]⟩ : ByteArray), .int .i64 60000, .string (⟨#[115]⟩ : ByteArray), .int .i64 1000, .string (⟨#[109, 115]⟩ : ByteArray), .int .i64 1] 94)] ++ L) (Reord.refl _) ?_
  refine gl_pure 1 [0] (K' := [(0, .slice (some ⟨g1, 0, none⟩) [(⟨(⟨#[121]⟩ : ByteArray), 31536000000⟩ : S93), (⟨(⟨#[119]⟩ : ByteArray), 604800000⟩ : S93), (⟨(⟨#[100]⟩ : ByteArray), 86400000⟩ : S93), (⟨(⟨#[104]⟩ : ByteArray), 3600000⟩ : S93), (⟨(⟨#[109]⟩ : ByteArray), 60000⟩ : S93), (⟨(⟨#[115]⟩ : ByteArray), 1000⟩ : S93), (⟨(⟨#[109, 115]⟩ : ByteArray), 1⟩ : S93)].length 7)]) (by kernel_rfl) ?_
  refine gl_atE (by kernel_rfl) ?_
  refine ge_seq ?_
  refine gk_ret (by kernel_rfl) ?_
  obtain rfl := some_inj hr
  exact ge_result trivial (ResOk.tmp (by kernel_rfl) ResOk.nil) (Imm.refl _) ⟨(some ⟨g1, 0, none⟩), 7, [(g1, .cells #[.string (⟨#[121]⟩ : ByteArray), .int .i64 31536000000, .string (⟨#[119]⟩ : ByteArray), .int .i64 604800000, .string (⟨#[100]⟩ : ByteArray), .int .i64 86400000, .string (⟨#[104]⟩ : ByteArray), .int .i64 3600000, .string (⟨#[109]⟩ : ByteArray), .int .i64 60000, .string (⟨#[115]⟩ : ByteArray), .int .i64 1000, .string (⟨#[109, 115]⟩ : ByteArray), .int .i64 1] 94)], hO2, rfl, rfl⟩
/-! 62 tocsinref13_unit  -/
noncomputable def tocsinref13_unit_l24 (a0 : ByteArray) (a1 : Int) : Int → Option ((Int) ⊕ ((Unit) ⊕ (Int))) := fun s14 =>
  bif (decide (s14 < (tocsinref13_Units.length : Int))) then
  (Option.bind (ix tocsinref13_Units s14) fun (x27 : S93) =>
    Option.bind (bif (decide ((x27.f0.size : Int) ≤ (IntKind.wrap .i64 ((a0.size : Int) - a1)))) then
      (Option.bind (sx a0 a1 (IntKind.wrap .i64 (a1 + (x27.f0.size : Int)))) fun (s43 : ByteArray) =>
        Option.bind (ix tocsinref13_Units s14) fun (x44 : S93) =>
        bif (s43.toList == x44.f0.toList) then
        (Option.bind (ix tocsinref13_Units s14) fun (x53 : S93) =>
          bif (x53.f0.toList == (⟨#[109]⟩ : ByteArray).toList) then
          (bif (decide ((IntKind.wrap .i64 (a1 + 1)) < (a0.size : Int))) then
            (Option.bind (bx a0 (IntKind.wrap .i64 (a1 + 1))) fun (c63 : Int) =>
              some (!(c63 == 115)))
            else
            (some true))
          else
          (some true))
        else
        (some false))
      else
      (some false)) fun (j36 : Bool) =>
    bif j36 then
    (some (Sum.inr (Sum.inr s14)))
    else
    (some (Sum.inl (IntKind.wrap .i64 (s14 + 1)))))
  else
  (some (Sum.inr (Sum.inl ())))
noncomputable def tocsinref13_unit (a0 : ByteArray) (a1 : Int) (a2 : Int) : Option Int :=
  Option.bind (loopO (tocsinref13_unit_l24 a0 a1) a2) fun (r12 : (Unit) ⊕ (Int)) =>
  match r12 with
  | Sum.inl r20 => some (-1)
  | Sum.inr v66 => some v66
theorem tocsinref13_unit_walk {a0 : ByteArray} {a1 : Int} {a2 : Int} {I : Imm} {r : Int}  (hr : tocsinref13_unit a0 a1 a2 = some r) (L : Own) :
    CallsTo Tryd.prog 62 #[.string a0, .int .i64 a1, .int .i64 a2] I L (fun v I' L' => v = .int .i64 r ∧ L = L') := by
  unfold tocsinref13_unit at hr
  refine callsTo_body (N := 68) Tryd.func62 (by kernel_rfl) (by kernel_rfl) (by kernel_rfl) ?_
  refine gk_pick [0, 1, 2] (K' := [(0, .string a0), (1, .int .i64 a1), (2, .int .i64 a2)]) (by kernel_rfl) ?_
  refine gk_seq (by kernel_rfl) ?_
  refine gk_region (by kernel_rfl) ?_
  refine gl_pure 1 [0, 1, 2] (K' := [(0, .string a0), (1, .int .i64 a1), (2, .int .i64 a2)]) (by kernel_rfl) ?_
  refine gl_atE (by kernel_rfl) ?_
  refine ge_seq ?_
  refine gk_seq (by kernel_rfl) ?_
  refine gk_region (by kernel_rfl) ?_
  refine gl_call (by kernel_rfl) (tocsinref13_Units_walk (r := tocsinref13_Units)  rfl _) ?_
  rintro v I1 L2 hI3 ⟨A4, c5, C6, hO7, rfl, rfl⟩
  refine gl_pure 1 [0, 1, 2, 7] (K' := [(0, .string a0), (1, .int .i64 a1), (2, .int .i64 a2), (7, .slice A4 tocsinref13_Units.length c5)]) (by kernel_rfl) ?_
  refine gl_atE (by kernel_rfl) ?_
  refine ge_seq ?_
  refine gk_seq (by kernel_rfl) ?_
  refine gk_seq (by kernel_rfl) ?_
  refine gk_region (by kernel_rfl) ?_
  refine gl_pure 2 [0, 1, 7, 8] (K' := [(0, .string a0), (1, .int .i64 a1), (7, .slice A4 tocsinref13_Units.length c5), (8, .int .i64 a2)]) (by kernel_rfl) ?_
  refine gl_atE (by kernel_rfl) ?_
  refine ge_seq ?_
  obtain ⟨r12, hl13, hr⟩ := bind_some hr
  refine gk_join (fun t I' L' => ∃ r20, r12 = Sum.inl r20 ∧ I1 ≤ I' ∧ L = L' ∧ Knows 68 [] t) ?_ ?_
  · refine gk_block (by kernel_rfl) ?_
    refine gk_pick [0, 1, 7, 8] (K' := [(0, .string a0), (1, .int .i64 a1), (7, .slice A4 tocsinref13_Units.length c5), (8, .int .i64 a2)]) (by kernel_rfl) ?_
    intro t hK
    refine gc_loop (tocsinref13_unit_l24 a0 a1) (fun s14 t I' L' => I1 ≤ I' ∧ C6 ++ L = L' ∧ Knows 68 [(0, .string a0), (1, .int .i64 a1), (7, .slice A4 tocsinref13_Units.length c5), (8, .int .i64 s14)] t) (by kernel_rfl) ?_ hl13 ⟨(Imm.refl _), rfl, hK⟩
    rintro s14 o15 t I19 L' hb16 ⟨hI17, rfl, hK18⟩
    unfold tocsinref13_unit_l24 at hb16
    refine gk_at hK18 ?_
    refine gk_seq (by kernel_rfl) ?_
    refine gk_seq (by kernel_rfl) ?_
    refine gk_region (by kernel_rfl) ?_
    refine gl_pure 4 [0, 1, 7, 8, 15] (K' := [(0, .string a0), (1, .int .i64 a1), (7, .slice A4 tocsinref13_Units.length c5), (8, .int .i64 s14), (15, .bool (decide (s14 < (tocsinref13_Units.length : Int))))]) (by kernel_rfl) ?_
    refine gl_atE (by kernel_rfl) ?_
    refine ge_seq ?_
    refine gk_cond (b := (decide (s14 < (tocsinref13_Units.length : Int)))) (by kernel_rfl) (by kernel_rfl) (fun hc26 => ?_) (fun hc26 => ?_)
    · have hb16 := cond_t hc26 hb16
      refine gk_skip (by kernel_rfl) ?_
      refine ge_seq ?_
      refine gk_seq (by kernel_rfl) ?_
      refine gk_block (by kernel_rfl) ?_
      refine gk_seq (by kernel_rfl) ?_
      refine gk_region (by kernel_rfl) ?_
      refine gl_pure 2 [0, 1, 7, 8, 18, 19] (K' := [(0, .string a0), (1, .int .i64 a1), (7, .slice A4 tocsinref13_Units.length c5), (8, .int .i64 s14), (18, .slice A4 tocsinref13_Units.length c5), (19, .int .i64 s14)]) (by kernel_rfl) ?_
      obtain ⟨x27, hx28, hb16⟩ := bind_some hb16
      refine gl_indexAddrW (d := kS93) (c := c5) (T' := 95) (e := 94) (xs := (.tmp 18)) (xi := (.tmp 19)) (kd := .i64) hx28 (hO7.mono hI17) (Upd.selfC _ _) (by kernel_rfl) (by kernel_rfl) (by kernel_rfl) (by kernel_rfl) (by kernel_rfl) (fun p29 cs30 hR31 hA32 hp35 => ?_)
      obtain rfl := kS93_open hR31
      refine gl_pure 1 [0, 1, 7, 8, 21] (K' := [(0, .string a0), (1, .int .i64 a1), (7, .slice A4 tocsinref13_Units.length c5), (8, .int .i64 s14), (21, .pointer (some (p29.add 0)))]) (by kernel_rfl) ?_
      refine gl_loadO (T' := 9) (xp := (.tmp 21)) (p := (p29.add 0)) (c := .string x27.f0) (n := 1) (by kernel_rfl) (by kernel_rfl) (by kernel_rfl) (by kernel_rfl) (hA32.drop 0) ?_
      refine gl_pure 2 [0, 1, 7, 8, 9] (K' := [(0, .string a0), (1, .int .i64 a1), (7, .slice A4 tocsinref13_Units.length c5), (8, .int .i64 s14), (9, .int .i64 (x27.f0.size : Int))]) (by kernel_rfl) ?_
      refine gl_atE (by kernel_rfl) ?_
      refine ge_seq ?_
      refine gk_seq (by kernel_rfl) ?_
      obtain ⟨j36, hj37, hb16⟩ := bind_some hb16
      refine gk_join (fun t I' L' => I19 ≤ I' ∧ C6 ++ L = L' ∧ Knows 68 [(0, .string a0), (1, .int .i64 a1), (7, .slice A4 tocsinref13_Units.length c5), (8, .int .i64 s14), (66, .bool j36)] t) ?_ ?_
      · refine gk_draw 43 [(0, true), (1, true), (2, true), (3, true), (4, true), (5, true), (6, true), (7, true), (8, true), (9, true), (10, true), (11, true), (12, true), (13, true), (14, true), (15, true), (16, true), (17, true), (18, true), (19, true), (20, true), (21, true), (22, true), (23, true), (24, true), (25, true), (26, true), (27, true), (28, true), (29, true), (30, true), (31, true), (32, true), (33, true), (34, true), (35, true), (36, true), (37, true), (38, true), (39, true), (40, true), (41, true), (42, true)] (C6 ++ []) (List.forall_mem_append.2 ⟨fun q hq => (List.mem_append_left _ hq), (fun p hp => by cases hp)⟩) (by kernel_rfl) (by kernel_rfl) (by kernel_rfl) ?_ (by kernel_rfl)
        refine gd_pure 7 [0, 1, 7, 8, 9, 30] (K' := [(0, .string a0), (1, .int .i64 a1), (7, .slice A4 tocsinref13_Units.length c5), (8, .int .i64 s14), (9, .int .i64 (x27.f0.size : Int)), (30, .bool (decide ((x27.f0.size : Int) ≤ (IntKind.wrap .i64 ((a0.size : Int) - a1)))))]) (s' := [(7, true), (8, true), (9, true), (10, true), (11, true), (12, true), (13, true), (14, true), (15, true), (16, true), (17, true), (18, true), (19, true), (20, true), (21, true), (22, true), (23, true), (24, true), (25, true), (26, true), (27, true), (28, true), (29, true), (30, true), (31, true), (32, true), (33, true), (34, true), (35, true), (36, true), (37, true), (38, true), (39, true), (40, true), (41, true), (42, true)]) (CC.refl (List.forall_mem_append.2 ⟨fun q hq => (List.mem_append_left _ hq), (fun p hp => by cases hp)⟩)) (by kernel_rfl) ?_
        refine gd_case 30 (b := (decide ((x27.f0.size : Int) ≤ (IntKind.wrap .i64 ((a0.size : Int) - a1))))) (by kernel_rfl) (fun hc41 => ?_) (fun hc41 => ?_)
        · have hj37 := cond_t hc41 hj37
          refine gd_pure 5 [0, 1, 7, 8, 30, 31, 32, 35] (K' := [(0, .string a0), (1, .int .i64 a1), (7, .slice A4 tocsinref13_Units.length c5), (8, .int .i64 s14), (30, .bool true), (31, .string a0), (32, .int .i64 a1), (35, .int .i64 (IntKind.wrap .i64 (a1 + (x27.f0.size : Int))))]) (s' := [(12, true), (13, true), (14, true), (15, true), (16, true), (17, true), (18, true), (19, true), (20, true), (21, true), (22, true), (23, true), (24, true), (25, true), (26, true), (27, true), (28, true), (29, true), (30, true), (31, true), (32, true), (33, true), (34, true), (35, true), (36, true), (37, true), (38, true), (39, true), (40, true), (41, true), (42, true)]) (CC.refl (List.forall_mem_append.2 ⟨fun q hq => (List.mem_append_left _ hq), (fun p hp => by cases hp)⟩)) (by kernel_rfl) ?_
          obtain ⟨s43, hx42, hj37⟩ := bind_some hj37
          refine gd_q (v := .string s43) (by kernel_rfl) (by kernel_rfl) (CC.refl (List.forall_mem_append.2 ⟨fun q hq => (List.mem_append_left _ hq), (fun p hp => by cases hp)⟩)) (fun I' L' T hC kk => gl_slice' (T' := 9) (xs := (.tmp 31)) (lo := (some (.tmp 32))) (hi := (some (.tmp 35))) hx42 (by kernel_rfl) (by kernel_rfl) (by kernel_rfl) (by kernel_rfl) (by kernel_rfl) (by kernel_rfl) kk) ?_
          refine gd_pure 2 [0, 1, 7, 8, 30, 36, 37, 38] (K' := [(0, .string a0), (1, .int .i64 a1), (7, .slice A4 tocsinref13_Units.length c5), (8, .int .i64 s14), (30, .bool true), (36, .string s43), (37, .slice A4 tocsinref13_Units.length c5), (38, .int .i64 s14)]) (s' := [(15, true), (16, true), (17, true), (18, true), (19, true), (20, true), (21, true), (22, true), (23, true), (24, true), (25, true), (26, true), (27, true), (28, true), (29, true), (30, true), (31, true), (32, true), (33, true), (34, true), (35, true), (36, true), (37, true), (38, true), (39, true), (40, true), (41, true), (42, true)]) (CC.refl (List.forall_mem_append.2 ⟨fun q hq => (List.mem_append_left _ hq), (fun p hp => by cases hp)⟩)) (by kernel_rfl) ?_
          obtain ⟨x44, hx45, hj37⟩ := bind_some hj37
          obtain ⟨p46, cs47, hR48, hA49, ha50⟩ := OwnS.ixAt hx45 (hO7.mono hI17)
          have hi51 := ix_some hx45
          obtain rfl := kS93_open hR48
          refine gd_q (v := .pointer (some p46)) (by kernel_rfl) (by kernel_rfl) (CC.refl (List.forall_mem_append.2 ⟨fun q hq => (List.mem_append_left _ hq), (fun p hp => by cases hp)⟩)) (fun I' L' T hC kk => gl_indexAddrF (c := c5) (T' := 95) (e := 94) (xs := (.tmp 37)) (xi := (.tmp 38)) (kd := .i64) ha50 hi51.1 hi51.2.1 (by kernel_rfl) (by kernel_rfl) (by kernel_rfl) (by kernel_rfl) (by kernel_rfl) kk) ?_
          refine gd_pure 1 [0, 1, 7, 8, 30, 36, 40] (K' := [(0, .string a0), (1, .int .i64 a1), (7, .slice A4 tocsinref13_Units.length c5), (8, .int .i64 s14), (30, .bool true), (36, .string s43), (40, .pointer (some (p46.add 0)))]) (s' := [(17, true), (18, true), (19, true), (20, true), (21, true), (22, true), (23, true), (24, true), (25, true), (26, true), (27, true), (28, true), (29, true), (30, true), (31, true), (32, true), (33, true), (34, true), (35, true), (36, true), (37, true), (38, true), (39, true), (40, true), (41, true), (42, true)]) (CC.refl (List.forall_mem_append.2 ⟨fun q hq => (List.mem_append_left _ hq), (fun p hp => by cases hp)⟩)) (by kernel_rfl) ?_
          refine gd_q (v := .string x44.f0) (by kernel_rfl) (by kernel_rfl) (CC.refl (List.forall_mem_append.2 ⟨fun q hq => (List.mem_append_left _ hq), (fun p hp => by cases hp)⟩)) (fun I' L' T hC kk => gl_loadO (T' := 9) (xp := (.tmp 40)) (p := (p46.add 0)) (c := .string x44.f0) (n := 1) (by kernel_rfl) (by kernel_rfl) (by kernel_rfl) (by kernel_rfl) ((fun I' L' h => (hA49 I' L' h).drop 0) _ _ (fun q hq => hC.sub _ (List.mem_append_left _ hq))) kk) ?_
          refine gd_pure 3 [0, 1, 7, 8, 44] (K' := [(0, .string a0), (1, .int .i64 a1), (7, .slice A4 tocsinref13_Units.length c5), (8, .int .i64 s14), (44, .bool (s43.toList == x44.f0.toList))]) (s' := [(21, true), (22, true), (23, true), (24, true), (25, true), (26, true), (27, true), (28, true), (29, true), (30, true), (31, true), (32, true), (33, true), (34, true), (35, true), (36, true), (37, true), (38, true), (39, true), (40, true), (41, true), (42, true)]) (CC.refl (List.forall_mem_append.2 ⟨fun q hq => (List.mem_append_left _ hq), (fun p hp => by cases hp)⟩)) (by kernel_rfl) ?_
          refine gd_case 44 (b := (s43.toList == x44.f0.toList)) (by kernel_rfl) (fun hc52 => ?_) (fun hc52 => ?_)
          · have hj37 := cond_t hc52 hj37
            refine gd_pure 2 [0, 1, 7, 8, 44, 45, 46] (K' := [(0, .string a0), (1, .int .i64 a1), (7, .slice A4 tocsinref13_Units.length c5), (8, .int .i64 s14), (44, .bool true), (45, .slice A4 tocsinref13_Units.length c5), (46, .int .i64 s14)]) (s' := [(23, true), (24, true), (25, true), (26, true), (27, true), (28, true), (29, true), (30, true), (31, true), (32, true), (33, true), (34, true), (35, true), (36, true), (37, true), (38, true), (39, true), (40, true), (41, true), (42, true)]) (CC.refl (List.forall_mem_append.2 ⟨fun q hq => (List.mem_append_left _ hq), (fun p hp => by cases hp)⟩)) (by kernel_rfl) ?_
            obtain ⟨x53, hx54, hj37⟩ := bind_some hj37
            obtain ⟨p55, cs56, hR57, hA58, ha59⟩ := OwnS.ixAt hx54 (hO7.mono hI17)
            have hi60 := ix_some hx54
            obtain rfl := kS93_open hR57
            refine gd_q (v := .pointer (some p55)) (by kernel_rfl) (by kernel_rfl) (CC.refl (List.forall_mem_append.2 ⟨fun q hq => (List.mem_append_left _ hq), (fun p hp => by cases hp)⟩)) (fun I' L' T hC kk => gl_indexAddrF (c := c5) (T' := 95) (e := 94) (xs := (.tmp 45)) (xi := (.tmp 46)) (kd := .i64) ha59 hi60.1 hi60.2.1 (by kernel_rfl) (by kernel_rfl) (by kernel_rfl) (by kernel_rfl) (by kernel_rfl) kk) ?_
            refine gd_pure 1 [0, 1, 7, 8, 44, 48] (K' := [(0, .string a0), (1, .int .i64 a1), (7, .slice A4 tocsinref13_Units.length c5), (8, .int .i64 s14), (44, .bool true), (48, .pointer (some (p55.add 0)))]) (s' := [(25, true), (26, true), (27, true), (28, true), (29, true), (30, true), (31, true), (32, true), (33, true), (34, true), (35, true), (36, true), (37, true), (38, true), (39, true), (40, true), (41, true), (42, true)]) (CC.refl (List.forall_mem_append.2 ⟨fun q hq => (List.mem_append_left _ hq), (fun p hp => by cases hp)⟩)) (by kernel_rfl) ?_
            refine gd_q (v := .string x53.f0) (by kernel_rfl) (by kernel_rfl) (CC.refl (List.forall_mem_append.2 ⟨fun q hq => (List.mem_append_left _ hq), (fun p hp => by cases hp)⟩)) (fun I' L' T hC kk => gl_loadO (T' := 9) (xp := (.tmp 48)) (p := (p55.add 0)) (c := .string x53.f0) (n := 1) (by kernel_rfl) (by kernel_rfl) (by kernel_rfl) (by kernel_rfl) ((fun I' L' h => (hA58 I' L' h).drop 0) _ _ (fun q hq => hC.sub _ (List.mem_append_left _ hq))) kk) ?_
            refine gd_pure 2 [0, 1, 7, 8, 44, 51] (K' := [(0, .string a0), (1, .int .i64 a1), (7, .slice A4 tocsinref13_Units.length c5), (8, .int .i64 s14), (44, .bool true), (51, .bool (x53.f0.toList == (⟨#[109]⟩ : ByteArray).toList))]) (s' := [(28, true), (29, true), (30, true), (31, true), (32, true), (33, true), (34, true), (35, true), (36, true), (37, true), (38, true), (39, true), (40, true), (41, true), (42, true)]) (CC.refl (List.forall_mem_append.2 ⟨fun q hq => (List.mem_append_left _ hq), (fun p hp => by cases hp)⟩)) (by kernel_rfl) ?_
            refine gd_case 51 (b := (x53.f0.toList == (⟨#[109]⟩ : ByteArray).toList)) (by kernel_rfl) (fun hc61 => ?_) (fun hc61 => ?_)
            · have hj37 := cond_t hc61 hj37
              refine gd_pure 7 [0, 1, 7, 8, 44, 58] (K' := [(0, .string a0), (1, .int .i64 a1), (7, .slice A4 tocsinref13_Units.length c5), (8, .int .i64 s14), (44, .bool true), (58, .bool (decide ((IntKind.wrap .i64 (a1 + 1)) < (a0.size : Int))))]) (s' := [(35, true), (36, true), (37, true), (38, true), (39, true), (40, true), (41, true), (42, true)]) (CC.refl (List.forall_mem_append.2 ⟨fun q hq => (List.mem_append_left _ hq), (fun p hp => by cases hp)⟩)) (by kernel_rfl) ?_
              refine gd_case 58 (b := (decide ((IntKind.wrap .i64 (a1 + 1)) < (a0.size : Int)))) (by kernel_rfl) (fun hc62 => ?_) (fun hc62 => ?_)
              · have hj37 := cond_t hc62 hj37
                refine gd_pure 3 [0, 1, 7, 8, 44, 58, 59, 61] (K' := [(0, .string a0), (1, .int .i64 a1), (7, .slice A4 tocsinref13_Units.length c5), (8, .int .i64 s14), (44, .bool true), (58, .bool true), (59, .string a0), (61, .int .i64 (IntKind.wrap .i64 (a1 + 1)))]) (s' := [(38, true), (39, true), (40, true), (41, true), (42, true)]) (CC.refl (List.forall_mem_append.2 ⟨fun q hq => (List.mem_append_left _ hq), (fun p hp => by cases hp)⟩)) (by kernel_rfl) ?_
                obtain ⟨c63, hx64, hj37⟩ := bind_some hj37
                refine gd_q (v := .int .u8 c63) (by kernel_rfl) (by kernel_rfl) (CC.refl (List.forall_mem_append.2 ⟨fun q hq => (List.mem_append_left _ hq), (fun p hp => by cases hp)⟩)) (fun I' L' T hC kk => gl_index' (T' := 9) (xs := (.tmp 59)) (xi := (.tmp 61)) (kd := .i64) hx64 (by kernel_rfl) (by kernel_rfl) (by kernel_rfl) (by kernel_rfl) (by kernel_rfl) kk) ?_
                refine gd_pure 4 [0, 1, 7, 8, 66] (K' := [(0, .string a0), (1, .int .i64 a1), (7, .slice A4 tocsinref13_Units.length c5), (8, .int .i64 s14), (66, .bool (!(c63 == 115)))]) (s' := []) (CC.refl (List.forall_mem_append.2 ⟨fun q hq => (List.mem_append_left _ hq), (fun p hp => by cases hp)⟩)) (by kernel_rfl) ?_
                refine gd_done ?_
                refine gl_atE (by kernel_rfl) ?_
                obtain rfl := some_inj hj37
                exact ge_mid fun t ht => ⟨(Imm.refl _), rfl, ht.pick (l := [0, 1, 7, 8, 66]) (by kernel_rfl)⟩
              · have hj37 := cond_f hc62 hj37
                refine gd_pure 8 [0, 1, 7, 8, 66] (K' := [(0, .string a0), (1, .int .i64 a1), (7, .slice A4 tocsinref13_Units.length c5), (8, .int .i64 s14), (66, .bool true)]) (s' := []) (CC.refl (List.forall_mem_append.2 ⟨fun q hq => (List.mem_append_left _ hq), (fun p hp => by cases hp)⟩)) (by kernel_rfl) ?_
                refine gd_done ?_
                refine gl_atE (by kernel_rfl) ?_
                obtain rfl := some_inj hj37
                exact ge_mid fun t ht => ⟨(Imm.refl _), rfl, ht.pick (l := [0, 1, 7, 8, 66]) (by kernel_rfl)⟩
            · have hj37 := cond_f hc61 hj37
              refine gd_pure 15 [0, 1, 7, 8, 66] (K' := [(0, .string a0), (1, .int .i64 a1), (7, .slice A4 tocsinref13_Units.length c5), (8, .int .i64 s14), (66, .bool true)]) (s' := []) (CC.refl (List.forall_mem_append.2 ⟨fun q hq => (List.mem_append_left _ hq), (fun p hp => by cases hp)⟩)) (by kernel_rfl) ?_
              refine gd_done ?_
              refine gl_atE (by kernel_rfl) ?_
              obtain rfl := some_inj hj37
              exact ge_mid fun t ht => ⟨(Imm.refl _), rfl, ht.pick (l := [0, 1, 7, 8, 66]) (by kernel_rfl)⟩
          · have hj37 := cond_f hc52 hj37
            refine gd_pure 22 [0, 1, 7, 8, 66] (K' := [(0, .string a0), (1, .int .i64 a1), (7, .slice A4 tocsinref13_Units.length c5), (8, .int .i64 s14), (66, .bool false)]) (s' := []) (CC.refl (List.forall_mem_append.2 ⟨fun q hq => (List.mem_append_left _ hq), (fun p hp => by cases hp)⟩)) (by kernel_rfl) ?_
            refine gd_done ?_
            refine gl_atE (by kernel_rfl) ?_
            obtain rfl := some_inj hj37
            exact ge_mid fun t ht => ⟨(Imm.refl _), rfl, ht.pick (l := [0, 1, 7, 8, 66]) (by kernel_rfl)⟩
        · have hj37 := cond_f hc41 hj37
          refine gd_pure 36 [0, 1, 7, 8, 66] (K' := [(0, .string a0), (1, .int .i64 a1), (7, .slice A4 tocsinref13_Units.length c5), (8, .int .i64 s14), (66, .bool false)]) (s' := []) (CC.refl (List.forall_mem_append.2 ⟨fun q hq => (List.mem_append_left _ hq), (fun p hp => by cases hp)⟩)) (by kernel_rfl) ?_
          refine gd_done ?_
          refine gl_atE (by kernel_rfl) ?_
          obtain rfl := some_inj hj37
          exact ge_mid fun t ht => ⟨(Imm.refl _), rfl, ht.pick (l := [0, 1, 7, 8, 66]) (by kernel_rfl)⟩
      · rintro t I40 L' ⟨hI38, rfl, hK39⟩
        refine ge_at hK39 ?_
        refine ge_seq ?_
        refine gk_cond (b := j36) (by kernel_rfl) (by kernel_rfl) (fun hc65 => ?_) (fun hc65 => ?_)
        · have hb16 := cond_t hc65 hb16
          refine gk_seq (by kernel_rfl) ?_
          refine gk_region (by kernel_rfl) ?_
          refine gl_pure 2 [6] (K' := [(6, .int .i64 s14)]) (by kernel_rfl) ?_
          refine gl_atE (by kernel_rfl) ?_
          refine ge_seq ?_
          refine gk_reord (D := L) (Reord.skipC (Reord.refl _)) ?_
          refine gk_ret (by kernel_rfl) ?_
          refine ge_block_ret ?_
          refine ge_seq_ret ?_
          obtain rfl := some_inj hb16
          refine ge_round_out (fun hrr => ?_) (by intro h; cases h)
          obtain rfl := hrr
          refine ge_block_ret ?_
          refine ge_seq_ret ?_
          refine ge_seq_ret ?_
          obtain rfl := some_inj hr
          exact ge_result trivial (ResOk.tmp (by kernel_rfl) ResOk.nil) (Imm.trans (Imm.trans hI3 hI17) hI38) ⟨rfl, rfl⟩
        · have hb16 := cond_f hc65 hb16
          refine gk_skip (by kernel_rfl) ?_
          refine ge_block_normal ?_
          refine ge_seq ?_
          refine gk_region (by kernel_rfl) ?_
          refine gl_pure 3 [0, 1, 7, 8] (K' := [(0, .string a0), (1, .int .i64 a1), (7, .slice A4 tocsinref13_Units.length c5), (8, .int .i64 (IntKind.wrap .i64 (s14 + 1)))]) (by kernel_rfl) ?_
          refine gl_atE (by kernel_rfl) ?_
          obtain rfl := some_inj hb16
          exact ge_round fun t ht => ⟨(Imm.trans hI17 hI38), rfl, ht.pick (l := [0, 1, 7, 8]) (by kernel_rfl)⟩
    · have hb16 := cond_f hc26 hb16
      refine gk_reord (D := L) (Reord.skipC (Reord.refl _)) ?_
      refine gk_exit (by kernel_rfl) ?_
      refine ge_seq_exit ?_
      obtain rfl := some_inj hb16
      refine ge_round_out (fun hrr => ?_) (by intro h; cases h)
      obtain rfl := hrr
      refine ge_block_hit (by kernel_rfl) ?_
      exact ge_mid fun t ht => ⟨_, rfl, hI17, rfl, ht.pick (l := []) (by kernel_rfl)⟩
  · rintro t I23 L' ⟨r20, rfl, hI21, rfl, hK22⟩
    refine ge_at hK22 ?_
    refine ge_seq ?_
    refine gk_seq (by kernel_rfl) ?_
    refine gk_region (by kernel_rfl) ?_
    refine gl_pure 1 [6] (K' := [(6, .int .i64 (-1))]) (by kernel_rfl) ?_
    refine gl_atE (by kernel_rfl) ?_
    refine ge_seq ?_
    refine gk_ret (by kernel_rfl) ?_
    obtain rfl := some_inj hr
    exact ge_result trivial (ResOk.tmp (by kernel_rfl) ResOk.nil) (Imm.trans hI3 hI21) ⟨rfl, rfl⟩
/-! 47 tocsinref13_span  -/
noncomputable def tocsinref13_span_l17 (a0 : ByteArray) : (Int × Int) → Option ((Int × Int) ⊕ ((Unit) ⊕ (Int))) := fun s7 =>
  Option.bind (tocsinref13_run a0 s7.1) fun (y19 : Int) =>
  bif (y19 == s7.1) then
  (some (Sum.inr (Sum.inr s7.1)))
  else
  (Option.bind (tocsinref13_unit a0 y19 s7.2) fun (y22 : Int) =>
    bif (decide (y22 < 0)) then
    (some (Sum.inr (Sum.inr s7.1)))
    else
    (Option.bind (ix tocsinref13_Units y22) fun (x32 : S93) =>
      some (Sum.inl ((IntKind.wrap .i64 (y19 + (x32.f0.size : Int))), (IntKind.wrap .i64 (y22 + 1))))))
noncomputable def tocsinref13_span (a0 : ByteArray) (a1 : Int) : Option Int :=
  Option.bind (loopO (tocsinref13_span_l17 a0) (a1, 0)) fun (r5 : (Unit) ⊕ (Int)) =>
  match r5 with
  | Sum.inl r13 => none
  | Sum.inr v41 => some v41
theorem tocsinref13_span_walk {a0 : ByteArray} {a1 : Int} {I : Imm} {r : Int}  (hr : tocsinref13_span a0 a1 = some r) (L : Own) :
    CallsTo Tryd.prog 47 #[.string a0, .int .i64 a1] I L (fun v I' L' => v = .int .i64 r ∧ L = L') := by
  unfold tocsinref13_span at hr
  refine callsTo_body (N := 34) Tryd.func47 (by kernel_rfl) (by kernel_rfl) (by kernel_rfl) ?_
  refine gk_pick [0, 1] (K' := [(0, .string a0), (1, .int .i64 a1)]) (by kernel_rfl) ?_
  refine gk_seq (by kernel_rfl) ?_
  refine gk_region (by kernel_rfl) ?_
  refine gl_pure 1 [0, 1] (K' := [(0, .string a0), (1, .int .i64 a1)]) (by kernel_rfl) ?_
  refine gl_atE (by kernel_rfl) ?_
  refine ge_seq ?_
  refine gk_seq (by kernel_rfl) ?_
  refine gk_region (by kernel_rfl) ?_
  refine gl_pure 2 [0, 5] (K' := [(0, .string a0), (5, .int .i64 a1)]) (by kernel_rfl) ?_
  refine gl_atE (by kernel_rfl) ?_
  refine ge_seq ?_
  refine gk_seq (by kernel_rfl) ?_
  refine gk_region (by kernel_rfl) ?_
  refine gl_pure 1 [0, 5, 6] (K' := [(0, .string a0), (5, .int .i64 a1), (6, .int .i64 0)]) (by kernel_rfl) ?_
  refine gl_atE (by kernel_rfl) ?_
  refine ge_seq ?_
  obtain ⟨r5, hl6, hr⟩ := bind_some hr
  refine gk_join (fun _ _ _ => False) ?_ ?_
  · refine gk_block (by kernel_rfl) ?_
    refine gk_pick [0, 5, 6] (K' := [(0, .string a0), (5, .int .i64 a1), (6, .int .i64 0)]) (by kernel_rfl) ?_
    intro t hK
    refine gc_loop (tocsinref13_span_l17 a0) (fun s7 t I' L' => I ≤ I' ∧ L = L' ∧ Knows 34 [(0, .string a0), (5, .int .i64 s7.1), (6, .int .i64 s7.2)] t) (by kernel_rfl) ?_ hl6 ⟨(Imm.refl _), rfl, hK⟩
    rintro s7 o8 t I12 L' hb9 ⟨hI10, rfl, hK11⟩
    unfold tocsinref13_span_l17 at hb9
    refine gk_at hK11 ?_
    refine gk_block (by kernel_rfl) ?_
    refine gk_seq (by kernel_rfl) ?_
    refine gk_region (by kernel_rfl) ?_
    refine gl_pure 2 [0, 5, 6, 10, 11] (K' := [(0, .string a0), (5, .int .i64 s7.1), (6, .int .i64 s7.2), (10, .string a0), (11, .int .i64 s7.1)]) (by kernel_rfl) ?_
    obtain ⟨y19, hx20, hb9⟩ := bind_some hb9
    refine gl_callQ (by kernel_rfl) (tocsinref13_run_walk (r := y19)  hx20 _) ?_
    refine gl_pure 1 [0, 5, 6, 7] (K' := [(0, .string a0), (5, .int .i64 s7.1), (6, .int .i64 s7.2), (7, .int .i64 y19)]) (by kernel_rfl) ?_
    refine gl_atE (by kernel_rfl) ?_
    refine ge_seq ?_
    refine gk_seq (by kernel_rfl) ?_
    refine gk_seq (by kernel_rfl) ?_
    refine gk_region (by kernel_rfl) ?_
    refine gl_pure 3 [0, 5, 6, 7, 15] (K' := [(0, .string a0), (5, .int .i64 s7.1), (6, .int .i64 s7.2), (7, .int .i64 y19), (15, .bool (y19 == s7.1))]) (by kernel_rfl) ?_
    refine gl_atE (by kernel_rfl) ?_
    refine ge_seq ?_
    refine gk_cond (b := (y19 == s7.1)) (by kernel_rfl) (by kernel_rfl) (fun hc21 => ?_) (fun hc21 => ?_)
    · have hb9 := cond_t hc21 hb9
      refine gk_seq (by kernel_rfl) ?_
      refine gk_region (by kernel_rfl) ?_
      refine gl_pure 2 [4] (K' := [(4, .int .i64 s7.1)]) (by kernel_rfl) ?_
      refine gl_atE (by kernel_rfl) ?_
      refine ge_seq ?_
      refine gk_ret (by kernel_rfl) ?_
      refine ge_seq_ret ?_
      refine ge_block_ret ?_
      obtain rfl := some_inj hb9
      refine ge_round_out (fun hrr => ?_) (by intro h; cases h)
      obtain rfl := hrr
      refine ge_block_ret ?_
      refine ge_seq_ret ?_
      obtain rfl := some_inj hr
      exact ge_result trivial (ResOk.tmp (by kernel_rfl) ResOk.nil) hI10 ⟨rfl, rfl⟩
    · have hb9 := cond_f hc21 hb9
      refine gk_skip (by kernel_rfl) ?_
      refine ge_seq ?_
      refine gk_seq (by kernel_rfl) ?_
      refine gk_region (by kernel_rfl) ?_
      refine gl_pure 3 [0, 5, 7, 17, 18, 19] (K' := [(0, .string a0), (5, .int .i64 s7.1), (7, .int .i64 y19), (17, .string a0), (18, .int .i64 y19), (19, .int .i64 s7.2)]) (by kernel_rfl) ?_
      obtain ⟨y22, hx23, hb9⟩ := bind_some hb9
      refine gl_callQ (by kernel_rfl) (tocsinref13_unit_walk (r := y22)  hx23 _) ?_
      refine gl_pure 1 [0, 5, 7, 8] (K' := [(0, .string a0), (5, .int .i64 s7.1), (7, .int .i64 y19), (8, .int .i64 y22)]) (by kernel_rfl) ?_
      refine gl_atE (by kernel_rfl) ?_
      refine ge_seq ?_
      refine gk_seq (by kernel_rfl) ?_
      refine gk_seq (by kernel_rfl) ?_
      refine gk_region (by kernel_rfl) ?_
      refine gl_pure 2 [0, 5, 7, 8, 22] (K' := [(0, .string a0), (5, .int .i64 s7.1), (7, .int .i64 y19), (8, .int .i64 y22), (22, .bool (decide (y22 < 0)))]) (by kernel_rfl) ?_
      refine gl_atE (by kernel_rfl) ?_
      refine ge_seq ?_
      refine gk_cond (b := (decide (y22 < 0))) (by kernel_rfl) (by kernel_rfl) (fun hc24 => ?_) (fun hc24 => ?_)
      · have hb9 := cond_t hc24 hb9
        refine gk_seq (by kernel_rfl) ?_
        refine gk_region (by kernel_rfl) ?_
        refine gl_pure 2 [4] (K' := [(4, .int .i64 s7.1)]) (by kernel_rfl) ?_
        refine gl_atE (by kernel_rfl) ?_
        refine ge_seq ?_
        refine gk_ret (by kernel_rfl) ?_
        refine ge_seq_ret ?_
        refine ge_block_ret ?_
        obtain rfl := some_inj hb9
        refine ge_round_out (fun hrr => ?_) (by intro h; cases h)
        obtain rfl := hrr
        refine ge_block_ret ?_
        refine ge_seq_ret ?_
        obtain rfl := some_inj hr
        exact ge_result trivial (ResOk.tmp (by kernel_rfl) ResOk.nil) hI10 ⟨rfl, rfl⟩
      · have hb9 := cond_f hc24 hb9
        refine gk_skip (by kernel_rfl) ?_
        refine ge_seq ?_
        refine gk_seq (by kernel_rfl) ?_
        refine gk_region (by kernel_rfl) ?_
        refine gl_pure 1 [0, 8, 24] (K' := [(0, .string a0), (8, .int .i64 y22), (24, .int .i64 y19)]) (by kernel_rfl) ?_
        refine gl_call (by kernel_rfl) (tocsinref13_Units_walk (r := tocsinref13_Units)  rfl _) ?_
        rintro v I25 L26 hI27 ⟨A28, c29, C30, hO31, rfl, rfl⟩
        refine gl_pure 1 [0, 8, 24, 25, 26] (K' := [(0, .string a0), (8, .int .i64 y22), (24, .int .i64 y19), (25, .slice A28 tocsinref13_Units.length c29), (26, .int .i64 y22)]) (by kernel_rfl) ?_
        obtain ⟨x32, hx33, hb9⟩ := bind_some hb9
        refine gl_indexAddrW (d := kS93) (c := c29) (T' := 95) (e := 94) (xs := (.tmp 25)) (xi := (.tmp 26)) (kd := .i64) hx33 hO31 (Upd.selfC _ _) (by kernel_rfl) (by kernel_rfl) (by kernel_rfl) (by kernel_rfl) (by kernel_rfl) (fun p34 cs35 hR36 hA37 hp40 => ?_)
        obtain rfl := kS93_open hR36
        refine gl_pure 1 [0, 8, 24, 28] (K' := [(0, .string a0), (8, .int .i64 y22), (24, .int .i64 y19), (28, .pointer (some (p34.add 0)))]) (by kernel_rfl) ?_
        refine gl_loadO (T' := 9) (xp := (.tmp 28)) (p := (p34.add 0)) (c := .string x32.f0) (n := 1) (by kernel_rfl) (by kernel_rfl) (by kernel_rfl) (by kernel_rfl) (hA37.drop 0) ?_
        refine gl_pure 3 [0, 5, 8] (K' := [(0, .string a0), (5, .int .i64 (IntKind.wrap .i64 (y19 + (x32.f0.size : Int)))), (8, .int .i64 y22)]) (by kernel_rfl) ?_
        refine gl_atE (by kernel_rfl) ?_
        refine ge_seq ?_
        refine gk_region (by kernel_rfl) ?_
        refine gl_pure 3 [0, 5, 6] (K' := [(0, .string a0), (5, .int .i64 (IntKind.wrap .i64 (y19 + (x32.f0.size : Int)))), (6, .int .i64 (IntKind.wrap .i64 (y22 + 1)))]) (by kernel_rfl) ?_
        refine gl_reord (D := L) (Reord.skipC (Reord.refl _)) ?_
        refine gl_atE (by kernel_rfl) ?_
        refine ge_block_normal ?_
        obtain rfl := some_inj hb9
        exact ge_round fun t ht => ⟨(Imm.trans hI10 hI27), rfl, ht.pick (l := [0, 5, 6]) (by kernel_rfl)⟩
  · rintro t I L' h
    exact h.elim
/-! 64 tocsinref13_Signs  -/
noncomputable def tocsinref13_Signs : (List ByteArray) :=
  [(⟨#[33, 61]⟩ : ByteArray), (⟨#[61, 126]⟩ : ByteArray), (⟨#[33, 126]⟩ : ByteArray), (⟨#[61, 61]⟩ : ByteArray), (⟨#[62, 61]⟩ : ByteArray), (⟨#[60, 61]⟩ : ByteArray), (⟨#[40]⟩ : ByteArray), (⟨#[41]⟩ : ByteArray), (⟨#[123]⟩ : ByteArray), (⟨#[125]⟩ : ByteArray), (⟨#[91]⟩ : ByteArray), (⟨#[93]⟩ : ByteArray), (⟨#[44]⟩ : ByteArray), (⟨#[61]⟩ : ByteArray), (⟨#[43]⟩ : ByteArray), (⟨#[45]⟩ : ByteArray), (⟨#[42]⟩ : ByteArray), (⟨#[47]⟩ : ByteArray), (⟨#[37]⟩ : ByteArray), (⟨#[94]⟩ : ByteArray), (⟨#[62]⟩ : ByteArray), (⟨#[60]⟩ : ByteArray)]
theorem tocsinref13_Signs_walk  {I : Imm} {r : (List ByteArray)}  (hr : tocsinref13_Signs = r) (L : Own) :
    CallsTo Tryd.prog 64 #[] I L (fun v I' L' => ∃ A0 c0 C0, OwnS Kd.str 9 I' A0 c0 r C0 ∧ v = .slice A0 r.length c0 ∧ C0 ++ L = L') := by
  replace hr : some (tocsinref13_Signs) = some r := congrArg some hr
  unfold tocsinref13_Signs at hr
  refine callsTo_body (N := 2) Tryd.func64 (by kernel_rfl) (by kernel_rfl) (by kernel_rfl) ?_
  refine gk_pick [] (K' := []) (by kernel_rfl) ?_
  refine gk_seq (by kernel_rfl) ?_
  refine gk_region (by kernel_rfl) ?_
  refine gl_pure 1 [] (K' := []) (by kernel_rfl) ?_
  refine gl_atE (by kernel_rfl) ?_
  refine ge_seq ?_
  refine gk_seq (by kernel_rfl) ?_
  refine gk_region (by kernel_rfl) ?_
  refine gl_buildSlice (T' := 40) (e := 9) (n := 1) (len := 22) (parts := #[(0, (.const (.string (⟨#[33, 61]⟩ : ByteArray)))), (1, (.const (.string (⟨#[61, 126]⟩ : ByteArray)))), (2, (.const (.string (⟨#[33, 126]⟩ : ByteArray)))), (3, (.const (.string (⟨#[61, 61]⟩ : ByteArray)))), (4, (.const (.string (⟨#[62, 61]⟩ : ByteArray)))), (5, (.const (.string (⟨#[60, 61]⟩ : ByteArray)))), (6, (.const (.string (⟨#[40]⟩ : ByteArray)))), (7, (.const (.string (⟨#[41]⟩ : ByteArray)))), (8, (.const (.string (⟨#[123]⟩ : ByteArray)))), (9, (.const (.string (⟨#[125]⟩ : ByteArray)))), (10, (.const (.string (⟨#[91]⟩ : ByteArray)))), (11, (.const (.string (⟨#[93]⟩ : ByteArray)))), (12, (.const (.string (⟨#[44]⟩ : ByteArray)))), (13, (.const (.string (⟨#[61]⟩ : ByteArray)))), (14, (.const (.string (⟨#[43]⟩ : ByteArray)))), (15, (.const (.string (⟨#[45]⟩ : ByteArray)))), (16, (.const (.string (⟨#[42]⟩ : ByteArray)))), (17, (.const (.string (⟨#[47]⟩ : ByteArray)))), (18, (.const (.string (⟨#[37]⟩ : ByteArray)))), (19, (.const (.string (⟨#[94]⟩ : ByteArray)))), (20, (.const (.string (⟨#[62]⟩ : ByteArray)))), (21, (.const (.string (⟨#[60]⟩ : ByteArray))))]) (l := [(0, .string (⟨#[33, 61]⟩ : ByteArray)), (1, .string (⟨#[61, 126]⟩ : ByteArray)), (2, .string (⟨#[33, 126]⟩ : ByteArray)), (3, .string (⟨#[61, 61]⟩ : ByteArray)), (4, .string (⟨#[62, 61]⟩ : ByteArray)), (5, .string (⟨#[60, 61]⟩ : ByteArray)), (6, .string (⟨#[40]⟩ : ByteArray)), (7, .string (⟨#[41]⟩ : ByteArray)), (8, .string (⟨#[123]⟩ : ByteArray)), (9, .string (⟨#[125]⟩ : ByteArray)), (10, .string (⟨#[91]⟩ : ByteArray)), (11, .string (⟨#[93]⟩ : ByteArray)), (12, .string (⟨#[44]⟩ : ByteArray)), (13, .string (⟨#[61]⟩ : ByteArray)), (14, .string (⟨#[43]⟩ : ByteArray)), (15, .string (⟨#[45]⟩ : ByteArray)), (16, .string (⟨#[42]⟩ : ByteArray)), (17, .string (⟨#[47]⟩ : ByteArray)), (18, .string (⟨#[37]⟩ : ByteArray)), (19, .string (⟨#[94]⟩ : ByteArray)), (20, .string (⟨#[62]⟩ : ByteArray)), (21, .string (⟨#[60]⟩ : ByteArray))]) (cs := #[.string (⟨#[33, 61]⟩ : ByteArray), .string (⟨#[61, 126]⟩ : ByteArray), .string (⟨#[33, 126]⟩ : ByteArray), .string (⟨#[61, 61]⟩ : ByteArray), .string (⟨#[62, 61]⟩ : ByteArray), .string (⟨#[60, 61]⟩ : ByteArray), .string (⟨#[40]⟩ : ByteArray), .string (⟨#[41]⟩ : ByteArray), .string (⟨#[123]⟩ : ByteArray), .string (⟨#[125]⟩ : ByteArray), .string (⟨#[91]⟩ : ByteArray), .string (⟨#[93]⟩ : ByteArray), .string (⟨#[44]⟩ : ByteArray), .string (⟨#[61]⟩ : ByteArray), .string (⟨#[43]⟩ : ByteArray), .string (⟨#[45]⟩ : ByteArray), .string (⟨#[42]⟩ : ByteArray), .string (⟨#[47]⟩ : ByteArray), .string (⟨#[37]⟩ : ByteArray), .string (⟨#[94]⟩ : ByteArray), .string (⟨#[62]⟩ : ByteArray), .string (⟨#[60]⟩ : ByteArray)]) (by kernel_rfl) (by kernel_rfl) (by kernel_rfl) (by kernel_rfl) (by kernel_rfl) (fun g1 => ?_)
  have hO2 : OwnS Kd.str 9 I (some ⟨g1, 0, none⟩) 22 [(⟨#[33, 61]⟩ : ByteArray), (⟨#[61, 126]⟩ : ByteArray), (⟨#[33, 126]⟩ : ByteArray), (⟨#[61, 61]⟩ : ByteArray), (⟨#[62, 61]⟩ : ByteArray), (⟨#[60, 61]⟩ : ByteArray), (⟨#[40]⟩ : ByteArray), (⟨#[41]⟩ : ByteArray), (⟨#[123]⟩ : ByteArray), (⟨#[125]⟩ : ByteArray), (⟨#[91]⟩ : ByteArray), (⟨#[93]⟩ : ByteArray), (⟨#[44]⟩ : ByteArray), (⟨#[61]⟩ : ByteArray), (⟨#[43]⟩ : ByteArray), (⟨#[45]⟩ : ByteArray), (⟨#[42]⟩ : ByteArray), (⟨#[47]⟩ : ByteArray), (⟨#[37]⟩ : ByteArray), (⟨#[94]⟩ : ByteArray), (⟨#[62]⟩ : ByteArray), (⟨#[60]⟩ : ByteArray)] [(g1, .cells #[.string (⟨#[33, 61]⟩ : ByteArray), .string (⟨#[61, 126]⟩ : ByteArray), .string (⟨#[33, 126]⟩ : ByteArray), .string (⟨#[61, 61]⟩ : ByteArray), .string (⟨#[62, 61]⟩ : ByteArray), .string (⟨#[60, 61]⟩ : ByteArray), .string (⟨#[40]⟩ : ByteArray), .string (⟨#[41]⟩ : ByteArray), .string (⟨#[123]⟩ : ByteArray), .string (⟨#[125]⟩ : ByteArray), .string (⟨#[91]⟩ : ByteArray), .string (⟨#[93]⟩ : ByteArray), .string (⟨#[44]⟩ : ByteArray), .string (⟨#[61]⟩ : ByteArray), .string (⟨#[43]⟩ : ByteArray), .string (⟨#[45]⟩ : ByteArray), .string (⟨#[42]⟩ : ByteArray), .string (⟨#[47]⟩ : ByteArray), .string (⟨#[37]⟩ : ByteArray), .string (⟨#[94]⟩ : ByteArray), .string (⟨#[62]⟩ : ByteArray), .string (⟨#[60]⟩ : ByteArray)] 9)] := OwnS.lit (row_cons (l := [.string (⟨#[33, 61]⟩ : ByteArray)]) rfl (row_cons (l := [.string (⟨#[61, 126]⟩ : ByteArray)]) rfl (row_cons (l := [.string (⟨#[33, 126]⟩ : ByteArray)]) rfl (row_cons (l := [.string (⟨#[61, 61]⟩ : ByteArray)]) rfl (row_cons (l := [.string (⟨#[62, 61]⟩ : ByteArray)]) rfl (row_cons (l := [.string (⟨#[60, 61]⟩ : ByteArray)]) rfl (row_cons (l := [.string (⟨#[40]⟩ : ByteArray)]) rfl (row_cons (l := [.string (⟨#[41]⟩ : ByteArray)]) rfl (row_cons (l := [.string (⟨#[123]⟩ : ByteArray)]) rfl (row_cons (l := [.string (⟨#[125]⟩ : ByteArray)]) rfl (row_cons (l := [.string (⟨#[91]⟩ : ByteArray)]) rfl (row_cons (l := [.string (⟨#[93]⟩ : ByteArray)]) rfl (row_cons (l := [.string (⟨#[44]⟩ : ByteArray)]) rfl (row_cons (l := [.string (⟨#[61]⟩ : ByteArray)]) rfl (row_cons (l := [.string (⟨#[43]⟩ : ByteArray)]) rfl (row_cons (l := [.string (⟨#[45]⟩ : ByteArray)]) rfl (row_cons (l := [.string (⟨#[42]⟩ : ByteArray)]) rfl (row_cons (l := [.string (⟨#[47]⟩ : ByteArray)]) rfl (row_cons (l := [.string (⟨#[37]⟩ : ByteArray)]) rfl (row_cons (l := [.string (⟨#[94]⟩ : ByteArray)]) rfl (row_cons (l := [.string (⟨#[62]⟩ : ByteArray)]) rfl (row_cons (l := [.string (⟨#[60]⟩ : ByteArray)]) rfl (row_nil _ _))))))))))))))))))))))) rfl rfl rfl
  refine gl_reord (D := [(g1, .cells #[.string (⟨#[33, 61]⟩ : ByteArray), .string (⟨#[61, 126]⟩ : ByteArray), .string (⟨#[33, 126]⟩ : ByteArray), .string (⟨#[61, 61]⟩ : ByteArray), .string (⟨#[62, 61]⟩ : ByteArray), .string (⟨#[60, 61]⟩ : ByteArray), .string (⟨#[40]⟩ : ByteArray), .string (⟨#[41]⟩ : ByteArray), .string (⟨#[123]⟩ : ByteArray), .string (⟨#[125]⟩ : ByteArray), .string (⟨#[91]⟩ : ByteArray), .string (⟨#[93]⟩ : ByteArray), .string (⟨#[44]⟩ : ByteArray), .string (⟨#[61]⟩ : ByteArray), .string (⟨#[43]⟩ : ByteArray), .string (⟨#[45]⟩ : ByteArray), .string (⟨#[42]⟩ : ByteArray), .string (⟨#[47]⟩ : ByteArray), .string (⟨#[37]⟩ : ByteArray), .string (⟨#[94]⟩ : ByteArray), .string (⟨#[62]⟩ : ByteArray), .string (⟨#[60]⟩ : ByteArray)] 9)] ++ L) (Reord.refl _) ?_
  refine gl_pure 1 [0] (K' := [(0, .slice (some ⟨g1, 0, none⟩) [(⟨#[33, 61]⟩ : ByteArray), (⟨#[61, 126]⟩ : ByteArray), (⟨#[33, 126]⟩ : ByteArray), (⟨#[61, 61]⟩ : ByteArray), (⟨#[62, 61]⟩ : ByteArray), (⟨#[60, 61]⟩ : ByteArray), (⟨#[40]⟩ : ByteArray), (⟨#[41]⟩ : ByteArray), (⟨#[123]⟩ : ByteArray), (⟨#[125]⟩ : ByteArray), (⟨#[91]⟩ : ByteArray), (⟨#[93]⟩ : ByteArray), (⟨#[44]⟩ : ByteArray), (⟨#[61]⟩ : ByteArray), (⟨#[43]⟩ : ByteArray), (⟨#[45]⟩ : ByteArray), (⟨#[42]⟩ : ByteArray), (⟨#[47]⟩ : ByteArray), (⟨#[37]⟩ : ByteArray), (⟨#[94]⟩ : ByteArray), (⟨#[62]⟩ : ByteArray), (⟨#[60]⟩ : ByteArray)].length 22)]) (by kernel_rfl) ?_
  refine gl_atE (by kernel_rfl) ?_
  refine ge_seq ?_
  refine gk_ret (by kernel_rfl) ?_
  obtain rfl := some_inj hr
  exact ge_result trivial (ResOk.tmp (by kernel_rfl) ResOk.nil) (Imm.refl _) ⟨(some ⟨g1, 0, none⟩), 22, [(g1, .cells #[.string (⟨#[33, 61]⟩ : ByteArray), .string (⟨#[61, 126]⟩ : ByteArray), .string (⟨#[33, 126]⟩ : ByteArray), .string (⟨#[61, 61]⟩ : ByteArray), .string (⟨#[62, 61]⟩ : ByteArray), .string (⟨#[60, 61]⟩ : ByteArray), .string (⟨#[40]⟩ : ByteArray), .string (⟨#[41]⟩ : ByteArray), .string (⟨#[123]⟩ : ByteArray), .string (⟨#[125]⟩ : ByteArray), .string (⟨#[91]⟩ : ByteArray), .string (⟨#[93]⟩ : ByteArray), .string (⟨#[44]⟩ : ByteArray), .string (⟨#[61]⟩ : ByteArray), .string (⟨#[43]⟩ : ByteArray), .string (⟨#[45]⟩ : ByteArray), .string (⟨#[42]⟩ : ByteArray), .string (⟨#[47]⟩ : ByteArray), .string (⟨#[37]⟩ : ByteArray), .string (⟨#[94]⟩ : ByteArray), .string (⟨#[62]⟩ : ByteArray), .string (⟨#[60]⟩ : ByteArray)] 9)], hO2, rfl, rfl⟩
/-! 48 tocsinref13_sign  -/
noncomputable def tocsinref13_sign_l24 (a0 : ByteArray) (a1 : Int) : Int → Option ((Int) ⊕ ((Unit) ⊕ (ByteArray))) := fun s14 =>
  bif (decide (s14 < (tocsinref13_Signs.length : Int))) then
  (Option.bind (ix tocsinref13_Signs s14) fun (x27 : ByteArray) =>
    Option.bind (bif (decide ((x27.size : Int) ≤ (IntKind.wrap .i64 ((a0.size : Int) - a1)))) then
      (Option.bind (sx a0 a1 (IntKind.wrap .i64 (a1 + (x27.size : Int)))) fun (s43 : ByteArray) =>
        Option.bind (ix tocsinref13_Signs s14) fun (x44 : ByteArray) =>
        some (s43.toList == x44.toList))
      else
      (some false)) fun (j36 : Bool) =>
    bif j36 then
    (Option.bind (ix tocsinref13_Signs s14) fun (x53 : ByteArray) =>
      some (Sum.inr (Sum.inr x53)))
    else
    (some (Sum.inl (IntKind.wrap .i64 (s14 + 1)))))
  else
  (some (Sum.inr (Sum.inl ())))
noncomputable def tocsinref13_sign (a0 : ByteArray) (a1 : Int) : Option ByteArray :=
  Option.bind (loopO (tocsinref13_sign_l24 a0 a1) 0) fun (r12 : (Unit) ⊕ (ByteArray)) =>
  match r12 with
  | Sum.inl r20 => some (⟨#[]⟩ : ByteArray)
  | Sum.inr v62 => some v62
theorem tocsinref13_sign_walk {a0 : ByteArray} {a1 : Int} {I : Imm} {r : ByteArray}  (hr : tocsinref13_sign a0 a1 = some r) (L : Own) :
    CallsTo Tryd.prog 48 #[.string a0, .int .i64 a1] I L (fun v I' L' => v = .string r ∧ L = L') := by
  unfold tocsinref13_sign at hr
  refine callsTo_body (N := 43) Tryd.func48 (by kernel_rfl) (by kernel_rfl) (by kernel_rfl) ?_
  refine gk_pick [0, 1] (K' := [(0, .string a0), (1, .int .i64 a1)]) (by kernel_rfl) ?_
  refine gk_seq (by kernel_rfl) ?_
  refine gk_region (by kernel_rfl) ?_
  refine gl_pure 1 [0, 1] (K' := [(0, .string a0), (1, .int .i64 a1)]) (by kernel_rfl) ?_
  refine gl_atE (by kernel_rfl) ?_
  refine ge_seq ?_
  refine gk_seq (by kernel_rfl) ?_
  refine gk_region (by kernel_rfl) ?_
  refine gl_call (by kernel_rfl) (tocsinref13_Signs_walk (r := tocsinref13_Signs)  rfl _) ?_
  rintro v I1 L2 hI3 ⟨A4, c5, C6, hO7, rfl, rfl⟩
  refine gl_pure 1 [0, 1, 5] (K' := [(0, .string a0), (1, .int .i64 a1), (5, .slice A4 tocsinref13_Signs.length c5)]) (by kernel_rfl) ?_
  refine gl_atE (by kernel_rfl) ?_
  refine ge_seq ?_
  refine gk_seq (by kernel_rfl) ?_
  refine gk_seq (by kernel_rfl) ?_
  refine gk_region (by kernel_rfl) ?_
  refine gl_pure 1 [0, 1, 5, 6] (K' := [(0, .string a0), (1, .int .i64 a1), (5, .slice A4 tocsinref13_Signs.length c5), (6, .int .i64 0)]) (by kernel_rfl) ?_
  refine gl_atE (by kernel_rfl) ?_
  refine ge_seq ?_
  obtain ⟨r12, hl13, hr⟩ := bind_some hr
  refine gk_join (fun t I' L' => ∃ r20, r12 = Sum.inl r20 ∧ I1 ≤ I' ∧ L = L' ∧ Knows 43 [] t) ?_ ?_
  · refine gk_block (by kernel_rfl) ?_
    refine gk_pick [0, 1, 5, 6] (K' := [(0, .string a0), (1, .int .i64 a1), (5, .slice A4 tocsinref13_Signs.length c5), (6, .int .i64 0)]) (by kernel_rfl) ?_
    intro t hK
    refine gc_loop (tocsinref13_sign_l24 a0 a1) (fun s14 t I' L' => I1 ≤ I' ∧ C6 ++ L = L' ∧ Knows 43 [(0, .string a0), (1, .int .i64 a1), (5, .slice A4 tocsinref13_Signs.length c5), (6, .int .i64 s14)] t) (by kernel_rfl) ?_ hl13 ⟨(Imm.refl _), rfl, hK⟩
    rintro s14 o15 t I19 L' hb16 ⟨hI17, rfl, hK18⟩
    unfold tocsinref13_sign_l24 at hb16
    refine gk_at hK18 ?_
    refine gk_seq (by kernel_rfl) ?_
    refine gk_seq (by kernel_rfl) ?_
    refine gk_region (by kernel_rfl) ?_
    refine gl_pure 4 [0, 1, 5, 6, 12] (K' := [(0, .string a0), (1, .int .i64 a1), (5, .slice A4 tocsinref13_Signs.length c5), (6, .int .i64 s14), (12, .bool (decide (s14 < (tocsinref13_Signs.length : Int))))]) (by kernel_rfl) ?_
    refine gl_atE (by kernel_rfl) ?_
    refine ge_seq ?_
    refine gk_cond (b := (decide (s14 < (tocsinref13_Signs.length : Int)))) (by kernel_rfl) (by kernel_rfl) (fun hc26 => ?_) (fun hc26 => ?_)
    · have hb16 := cond_t hc26 hb16
      refine gk_skip (by kernel_rfl) ?_
      refine ge_seq ?_
      refine gk_seq (by kernel_rfl) ?_
      refine gk_block (by kernel_rfl) ?_
      refine gk_seq (by kernel_rfl) ?_
      refine gk_region (by kernel_rfl) ?_
      refine gl_pure 2 [0, 1, 5, 6, 15, 16] (K' := [(0, .string a0), (1, .int .i64 a1), (5, .slice A4 tocsinref13_Signs.length c5), (6, .int .i64 s14), (15, .slice A4 tocsinref13_Signs.length c5), (16, .int .i64 s14)]) (by kernel_rfl) ?_
      obtain ⟨x27, hx28, hb16⟩ := bind_some hb16
      refine gl_indexAddrW (d := Kd.str) (c := c5) (T' := 40) (e := 9) (xs := (.tmp 15)) (xi := (.tmp 16)) (kd := .i64) hx28 (hO7.mono hI17) (Upd.selfC _ _) (by kernel_rfl) (by kernel_rfl) (by kernel_rfl) (by kernel_rfl) (by kernel_rfl) (fun p29 cs30 hR31 hA32 hp35 => ?_)
      obtain rfl := hR31
      refine gl_loadO (T' := 9) (xp := (.tmp 17)) (p := p29) (c := .string x27) (n := 1) (by kernel_rfl) (by kernel_rfl) (by kernel_rfl) (by kernel_rfl) hA32 ?_
      refine gl_pure 2 [0, 1, 5, 6, 7] (K' := [(0, .string a0), (1, .int .i64 a1), (5, .slice A4 tocsinref13_Signs.length c5), (6, .int .i64 s14), (7, .int .i64 (x27.size : Int))]) (by kernel_rfl) ?_
      refine gl_atE (by kernel_rfl) ?_
      refine ge_seq ?_
      refine gk_seq (by kernel_rfl) ?_
      obtain ⟨j36, hj37, hb16⟩ := bind_some hb16
      refine gk_join (fun t I' L' => I19 ≤ I' ∧ C6 ++ L = L' ∧ Knows 43 [(0, .string a0), (1, .int .i64 a1), (5, .slice A4 tocsinref13_Signs.length c5), (6, .int .i64 s14), (38, .bool j36)] t) ?_ ?_
      · refine gk_draw 19 [(0, true), (1, true), (2, true), (3, true), (4, true), (5, true), (6, true), (7, true), (8, true), (9, true), (10, true), (11, true), (12, true), (13, true), (14, true), (15, true), (16, true), (17, true), (18, true)] (C6 ++ []) (List.forall_mem_append.2 ⟨fun q hq => (List.mem_append_left _ hq), (fun p hp => by cases hp)⟩) (by kernel_rfl) (by kernel_rfl) (by kernel_rfl) ?_ (by kernel_rfl)
        refine gd_pure 7 [0, 1, 5, 6, 7, 26] (K' := [(0, .string a0), (1, .int .i64 a1), (5, .slice A4 tocsinref13_Signs.length c5), (6, .int .i64 s14), (7, .int .i64 (x27.size : Int)), (26, .bool (decide ((x27.size : Int) ≤ (IntKind.wrap .i64 ((a0.size : Int) - a1)))))]) (s' := [(7, true), (8, true), (9, true), (10, true), (11, true), (12, true), (13, true), (14, true), (15, true), (16, true), (17, true), (18, true)]) (CC.refl (List.forall_mem_append.2 ⟨fun q hq => (List.mem_append_left _ hq), (fun p hp => by cases hp)⟩)) (by kernel_rfl) ?_
        refine gd_case 26 (b := (decide ((x27.size : Int) ≤ (IntKind.wrap .i64 ((a0.size : Int) - a1))))) (by kernel_rfl) (fun hc41 => ?_) (fun hc41 => ?_)
        · have hj37 := cond_t hc41 hj37
          refine gd_pure 5 [0, 1, 5, 6, 26, 27, 28, 31] (K' := [(0, .string a0), (1, .int .i64 a1), (5, .slice A4 tocsinref13_Signs.length c5), (6, .int .i64 s14), (26, .bool true), (27, .string a0), (28, .int .i64 a1), (31, .int .i64 (IntKind.wrap .i64 (a1 + (x27.size : Int))))]) (s' := [(12, true), (13, true), (14, true), (15, true), (16, true), (17, true), (18, true)]) (CC.refl (List.forall_mem_append.2 ⟨fun q hq => (List.mem_append_left _ hq), (fun p hp => by cases hp)⟩)) (by kernel_rfl) ?_
          obtain ⟨s43, hx42, hj37⟩ := bind_some hj37
          refine gd_q (v := .string s43) (by kernel_rfl) (by kernel_rfl) (CC.refl (List.forall_mem_append.2 ⟨fun q hq => (List.mem_append_left _ hq), (fun p hp => by cases hp)⟩)) (fun I' L' T hC kk => gl_slice' (T' := 9) (xs := (.tmp 27)) (lo := (some (.tmp 28))) (hi := (some (.tmp 31))) hx42 (by kernel_rfl) (by kernel_rfl) (by kernel_rfl) (by kernel_rfl) (by kernel_rfl) (by kernel_rfl) kk) ?_
          refine gd_pure 2 [0, 1, 5, 6, 26, 32, 33, 34] (K' := [(0, .string a0), (1, .int .i64 a1), (5, .slice A4 tocsinref13_Signs.length c5), (6, .int .i64 s14), (26, .bool true), (32, .string s43), (33, .slice A4 tocsinref13_Signs.length c5), (34, .int .i64 s14)]) (s' := [(15, true), (16, true), (17, true), (18, true)]) (CC.refl (List.forall_mem_append.2 ⟨fun q hq => (List.mem_append_left _ hq), (fun p hp => by cases hp)⟩)) (by kernel_rfl) ?_
          obtain ⟨x44, hx45, hj37⟩ := bind_some hj37
          obtain ⟨p46, cs47, hR48, hA49, ha50⟩ := OwnS.ixAt hx45 (hO7.mono hI17)
          have hi51 := ix_some hx45
          obtain rfl := hR48
          refine gd_q (v := .pointer (some p46)) (by kernel_rfl) (by kernel_rfl) (CC.refl (List.forall_mem_append.2 ⟨fun q hq => (List.mem_append_left _ hq), (fun p hp => by cases hp)⟩)) (fun I' L' T hC kk => gl_indexAddrF (c := c5) (T' := 40) (e := 9) (xs := (.tmp 33)) (xi := (.tmp 34)) (kd := .i64) ha50 hi51.1 hi51.2.1 (by kernel_rfl) (by kernel_rfl) (by kernel_rfl) (by kernel_rfl) (by kernel_rfl) kk) ?_
          refine gd_q (v := .string x44) (by kernel_rfl) (by kernel_rfl) (CC.refl (List.forall_mem_append.2 ⟨fun q hq => (List.mem_append_left _ hq), (fun p hp => by cases hp)⟩)) (fun I' L' T hC kk => gl_loadO (T' := 9) (xp := (.tmp 35)) (p := p46) (c := .string x44) (n := 1) (by kernel_rfl) (by kernel_rfl) (by kernel_rfl) (by kernel_rfl) (hA49 _ _ (fun q hq => hC.sub _ (List.mem_append_left _ hq))) kk) ?_
          refine gd_pure 2 [0, 1, 5, 6, 38] (K' := [(0, .string a0), (1, .int .i64 a1), (5, .slice A4 tocsinref13_Signs.length c5), (6, .int .i64 s14), (38, .bool (s43.toList == x44.toList))]) (s' := []) (CC.refl (List.forall_mem_append.2 ⟨fun q hq => (List.mem_append_left _ hq), (fun p hp => by cases hp)⟩)) (by kernel_rfl) ?_
          refine gd_done ?_
          refine gl_atE (by kernel_rfl) ?_
          obtain rfl := some_inj hj37
          exact ge_mid fun t ht => ⟨(Imm.refl _), rfl, ht.pick (l := [0, 1, 5, 6, 38]) (by kernel_rfl)⟩
        · have hj37 := cond_f hc41 hj37
          refine gd_pure 12 [0, 1, 5, 6, 38] (K' := [(0, .string a0), (1, .int .i64 a1), (5, .slice A4 tocsinref13_Signs.length c5), (6, .int .i64 s14), (38, .bool false)]) (s' := []) (CC.refl (List.forall_mem_append.2 ⟨fun q hq => (List.mem_append_left _ hq), (fun p hp => by cases hp)⟩)) (by kernel_rfl) ?_
          refine gd_done ?_
          refine gl_atE (by kernel_rfl) ?_
          obtain rfl := some_inj hj37
          exact ge_mid fun t ht => ⟨(Imm.refl _), rfl, ht.pick (l := [0, 1, 5, 6, 38]) (by kernel_rfl)⟩
      · rintro t I40 L' ⟨hI38, rfl, hK39⟩
        refine ge_at hK39 ?_
        refine ge_seq ?_
        refine gk_cond (b := j36) (by kernel_rfl) (by kernel_rfl) (fun hc52 => ?_) (fun hc52 => ?_)
        · have hb16 := cond_t hc52 hb16
          refine gk_seq (by kernel_rfl) ?_
          refine gk_region (by kernel_rfl) ?_
          refine gl_pure 2 [39, 40] (K' := [(39, .slice A4 tocsinref13_Signs.length c5), (40, .int .i64 s14)]) (by kernel_rfl) ?_
          obtain ⟨x53, hx54, hb16⟩ := bind_some hb16
          refine gl_indexAddrW (d := Kd.str) (c := c5) (T' := 40) (e := 9) (xs := (.tmp 39)) (xi := (.tmp 40)) (kd := .i64) hx54 (hO7.mono (Imm.trans hI17 hI38)) (Upd.selfC _ _) (by kernel_rfl) (by kernel_rfl) (by kernel_rfl) (by kernel_rfl) (by kernel_rfl) (fun p55 cs56 hR57 hA58 hp61 => ?_)
          obtain rfl := hR57
          refine gl_loadO (T' := 9) (xp := (.tmp 41)) (p := p55) (c := .string x53) (n := 1) (by kernel_rfl) (by kernel_rfl) (by kernel_rfl) (by kernel_rfl) hA58 ?_
          refine gl_pure 1 [4] (K' := [(4, .string x53)]) (by kernel_rfl) ?_
          refine gl_atE (by kernel_rfl) ?_
          refine ge_seq ?_
          refine gk_reord (D := L) (Reord.skipC (Reord.refl _)) ?_
          refine gk_ret (by kernel_rfl) ?_
          refine ge_block_ret ?_
          refine ge_seq_ret ?_
          obtain rfl := some_inj hb16
          refine ge_round_out (fun hrr => ?_) (by intro h; cases h)
          obtain rfl := hrr
          refine ge_block_ret ?_
          refine ge_seq_ret ?_
          refine ge_seq_ret ?_
          obtain rfl := some_inj hr
          exact ge_result trivial (ResOk.tmp (by kernel_rfl) ResOk.nil) (Imm.trans (Imm.trans hI3 hI17) hI38) ⟨rfl, rfl⟩
        · have hb16 := cond_f hc52 hb16
          refine gk_skip (by kernel_rfl) ?_
          refine ge_block_normal ?_
          refine ge_seq ?_
          refine gk_region (by kernel_rfl) ?_
          refine gl_pure 3 [0, 1, 5, 6] (K' := [(0, .string a0), (1, .int .i64 a1), (5, .slice A4 tocsinref13_Signs.length c5), (6, .int .i64 (IntKind.wrap .i64 (s14 + 1)))]) (by kernel_rfl) ?_
          refine gl_atE (by kernel_rfl) ?_
          obtain rfl := some_inj hb16
          exact ge_round fun t ht => ⟨(Imm.trans hI17 hI38), rfl, ht.pick (l := [0, 1, 5, 6]) (by kernel_rfl)⟩
    · have hb16 := cond_f hc26 hb16
      refine gk_reord (D := L) (Reord.skipC (Reord.refl _)) ?_
      refine gk_exit (by kernel_rfl) ?_
      refine ge_seq_exit ?_
      obtain rfl := some_inj hb16
      refine ge_round_out (fun hrr => ?_) (by intro h; cases h)
      obtain rfl := hrr
      refine ge_block_hit (by kernel_rfl) ?_
      exact ge_mid fun t ht => ⟨_, rfl, hI17, rfl, ht.pick (l := []) (by kernel_rfl)⟩
  · rintro t I23 L' ⟨r20, rfl, hI21, rfl, hK22⟩
    refine ge_at hK22 ?_
    refine ge_seq ?_
    refine gk_seq (by kernel_rfl) ?_
    refine gk_region (by kernel_rfl) ?_
    refine gl_pure 1 [4] (K' := [(4, .string (⟨#[]⟩ : ByteArray))]) (by kernel_rfl) ?_
    refine gl_atE (by kernel_rfl) ?_
    refine ge_seq ?_
    refine gk_ret (by kernel_rfl) ?_
    obtain rfl := some_inj hr
    exact ge_result trivial (ResOk.tmp (by kernel_rfl) ResOk.nil) (Imm.trans hI3 hI21) ⟨rfl, rfl⟩
/-! 23 tocsinref13_one  -/
noncomputable def tocsinref13_one_l20 (a0 : ByteArray) : Int → Option ((Int) ⊕ (Int)) := fun s11 =>
  Option.bind (bif (decide (s11 < (a0.size : Int))) then
    (Option.bind (bx a0 s11) fun (c28 : Int) =>
      bif (tocsinref13_letter c28) then
      (some true)
      else
      (Option.bind (bx a0 s11) fun (c31 : Int) =>
        some (tocsinref13_digit c31)))
    else
    (some false)) fun (j22 : Bool) =>
  bif j22 then
  (some (Sum.inl (IntKind.wrap .i64 (s11 + 1))))
  else
  (some (Sum.inr s11))
noncomputable def tocsinref13_one (a0 : ByteArray) (a1 : Int) : Option (S27 × Int × Bool) :=
  Option.bind (bx a0 a1) fun (c2 : Int) =>
  bif (tocsinref13_letter c2) then
  (Option.bind (loopO (tocsinref13_one_l20 a0) a1) fun (r9 : Int) =>
    Option.bind (sx a0 a1 r9) fun (s35 : ByteArray) =>
    some ((⟨1, s35, a1⟩ : S27), r9, true))
  else
  (bif ((c2 == 34) || (c2 == 39)) then
    (Option.bind (tocsinref13_text a0 a1) fun (y45 : ByteArray × Int × Bool) =>
      some ((⟨4, y45.1, a1⟩ : S27), y45.2.1, y45.2.2))
    else
    (bif ((tocsinref13_digit c2) || (c2 == 46)) then
      (Option.bind (tocsinref13_number a0 a1) fun (y58 : Int) =>
        Option.bind (tocsinref13_span a0 a1) fun (y60 : Int) =>
        Option.bind (bif (decide (y60 > y58)) then
          (some (y60, 3))
          else
          (some (y58, 2))) fun (j62 : Int × Int) =>
        Option.bind (bif (j62.1 == a1) then
          (some true)
          else
          (bif (decide (j62.1 < (a0.size : Int))) then
            (Option.bind (bx a0 j62.1) fun (c75 : Int) =>
              bif (tocsinref13_letter c75) then
              (some true)
              else
              (Option.bind (bx a0 j62.1) fun (c78 : Int) =>
                bif (tocsinref13_digit c78) then
                (some true)
                else
                (Option.bind (bx a0 j62.1) fun (c81 : Int) =>
                  some (c81 == 46))))
            else
            (some false))) fun (j68 : Bool) =>
        bif j68 then
        (some ((⟨0, (⟨#[]⟩ : ByteArray), 0⟩ : S27), 0, false))
        else
        (Option.bind (sx a0 a1 j62.1) fun (s89 : ByteArray) =>
          some ((⟨j62.2, s89, a1⟩ : S27), j62.1, true)))
      else
      (Option.bind (tocsinref13_sign a0 a1) fun (y94 : ByteArray) =>
        some ((⟨5, y94, a1⟩ : S27), (IntKind.wrap .i64 (a1 + (y94.size : Int))), (!(y94.toList == (⟨#[]⟩ : ByteArray).toList))))))
theorem tocsinref13_one_walk {a0 : ByteArray} {a1 : Int} {I : Imm} {r : S27 × Int × Bool}  (hr : tocsinref13_one a0 a1 = some r) (L : Own) :
    CallsTo Tryd.prog 23 #[.string a0, .int .i64 a1] I L (fun v I' L' => v = .tuple #[.agg #[.int .i64 r.1.f0, .string r.1.f1, .int .i64 r.1.f2], .int .i64 r.2.1, .bool r.2.2] ∧ L = L') := by
  unfold tocsinref13_one at hr
  refine callsTo_body (N := 129) Tryd.func23 (by kernel_rfl) (by kernel_rfl) (by kernel_rfl) ?_
  refine gk_pick [0, 1] (K' := [(0, .string a0), (1, .int .i64 a1)]) (by kernel_rfl) ?_
  refine gk_seq (by kernel_rfl) ?_
  refine gk_region (by kernel_rfl) ?_
  refine gl_alloc (T' := 28) (cs := #[.int .i64 0, .string (⟨#[]⟩ : ByteArray), .int .i64 0]) (by kernel_rfl) (by kernel_rfl) (by kernel_rfl) (fun g1 => ?_)
  refine gl_pure 2 [0, 1, 4] (K' := [(0, .string a0), (1, .int .i64 a1), (4, .pointer (some ⟨g1, 0, none⟩))]) (by kernel_rfl) ?_
  refine gl_atE (by kernel_rfl) ?_
  refine ge_seq ?_
  refine gk_seq (by kernel_rfl) ?_
  refine gk_region (by kernel_rfl) ?_
  refine gl_pure 2 [0, 1, 4, 16, 17] (K' := [(0, .string a0), (1, .int .i64 a1), (4, .pointer (some ⟨g1, 0, none⟩)), (16, .string a0), (17, .int .i64 a1)]) (by kernel_rfl) ?_
  obtain ⟨c2, hx3, hr⟩ := bind_some hr
  refine gl_index' (T' := 9) (xs := (.tmp 16)) (xi := (.tmp 17)) (kd := .i64) hx3 (by kernel_rfl) (by kernel_rfl) (by kernel_rfl) (by kernel_rfl) (by kernel_rfl) ?_
  refine gl_pure 1 [0, 1, 4, 7] (K' := [(0, .string a0), (1, .int .i64 a1), (4, .pointer (some ⟨g1, 0, none⟩)), (7, .int .u8 c2)]) (by kernel_rfl) ?_
  refine gl_atE (by kernel_rfl) ?_
  refine ge_seq ?_
  refine gk_seq (by kernel_rfl) ?_
  refine gk_seq (by kernel_rfl) ?_
  refine gk_region (by kernel_rfl) ?_
  refine gl_pure 1 [0, 1, 4, 7, 19] (K' := [(0, .string a0), (1, .int .i64 a1), (4, .pointer (some ⟨g1, 0, none⟩)), (7, .int .u8 c2), (19, .int .u8 c2)]) (by kernel_rfl) ?_
  refine gl_callQ (by kernel_rfl) (tocsinref13_letter_walk (r := (tocsinref13_letter c2))  rfl _) ?_
  refine gl_atE (by kernel_rfl) ?_
  refine ge_seq ?_
  refine gk_cond (b := (tocsinref13_letter c2)) (by kernel_rfl) (by kernel_rfl) (fun hc4 => ?_) (fun hc4 => ?_)
  · have hr := cond_t hc4 hr
    refine gk_seq (by kernel_rfl) ?_
    refine gk_region (by kernel_rfl) ?_
    refine gl_pure 2 [0, 1, 4, 8] (K' := [(0, .string a0), (1, .int .i64 a1), (4, .pointer (some ⟨g1, 0, none⟩)), (8, .int .i64 a1)]) (by kernel_rfl) ?_
    refine gl_atE (by kernel_rfl) ?_
    refine ge_seq ?_
    refine gk_seq (by kernel_rfl) ?_
    obtain ⟨r9, hl10, hr⟩ := bind_some hr
    refine gk_join (fun t I' L' => I ≤ I' ∧ (g1, .cells #[.int .i64 0, .string (⟨#[]⟩ : ByteArray), .int .i64 0] 28) :: L = L' ∧ Knows 129 [(0, .string a0), (1, .int .i64 a1), (4, .pointer (some ⟨g1, 0, none⟩)), (8, .int .i64 r9)] t) ?_ ?_
    · refine gk_block (by kernel_rfl) ?_
      refine gk_pick [0, 1, 4, 8] (K' := [(0, .string a0), (1, .int .i64 a1), (4, .pointer (some ⟨g1, 0, none⟩)), (8, .int .i64 a1)]) (by kernel_rfl) ?_
      intro t hK
      refine gc_loop (tocsinref13_one_l20 a0) (fun s11 t I' L' => I ≤ I' ∧ (g1, .cells #[.int .i64 0, .string (⟨#[]⟩ : ByteArray), .int .i64 0] 28) :: L = L' ∧ Knows 129 [(0, .string a0), (1, .int .i64 a1), (4, .pointer (some ⟨g1, 0, none⟩)), (8, .int .i64 s11)] t) (by kernel_rfl) ?_ hl10 ⟨(Imm.refl _), rfl, hK⟩
      rintro s11 o12 t I16 L' hb13 ⟨hI14, rfl, hK15⟩
      unfold tocsinref13_one_l20 at hb13
      refine gk_at hK15 ?_
      refine gk_seq (by kernel_rfl) ?_
      refine gk_seq (by kernel_rfl) ?_
      obtain ⟨j22, hj23, hb13⟩ := bind_some hb13
      refine gk_join (fun t I' L' => I16 ≤ I' ∧ (g1, .cells #[.int .i64 0, .string (⟨#[]⟩ : ByteArray), .int .i64 0] 28) :: L = L' ∧ Knows 129 [(0, .string a0), (1, .int .i64 a1), (4, .pointer (some ⟨g1, 0, none⟩)), (8, .int .i64 s11), (37, .bool j22)] t) ?_ ?_
      · refine gk_region (by kernel_rfl) ?_
        refine gl_pure 5 [0, 1, 4, 8, 26] (K' := [(0, .string a0), (1, .int .i64 a1), (4, .pointer (some ⟨g1, 0, none⟩)), (8, .int .i64 s11), (26, .bool (decide (s11 < (a0.size : Int))))]) (by kernel_rfl) ?_
        refine gl_case 26 (b := (decide (s11 < (a0.size : Int)))) (by kernel_rfl) (fun hc27 => ?_) (fun hc27 => ?_)
        · have hj23 := cond_t hc27 hj23
          refine gl_pure 2 [0, 1, 4, 8, 26, 27, 28] (K' := [(0, .string a0), (1, .int .i64 a1), (4, .pointer (some ⟨g1, 0, none⟩)), (8, .int .i64 s11), (26, .bool true), (27, .string a0), (28, .int .i64 s11)]) (by kernel_rfl) ?_
          obtain ⟨c28, hx29, hj23⟩ := bind_some hj23
          refine gl_index' (T' := 9) (xs := (.tmp 27)) (xi := (.tmp 28)) (kd := .i64) hx29 (by kernel_rfl) (by kernel_rfl) (by kernel_rfl) (by kernel_rfl) (by kernel_rfl) ?_
          refine gl_callQ (by kernel_rfl) (tocsinref13_letter_walk (r := (tocsinref13_letter c28))  rfl _) ?_
          refine gl_pure 1 [0, 1, 4, 8, 26, 31] (K' := [(0, .string a0), (1, .int .i64 a1), (4, .pointer (some ⟨g1, 0, none⟩)), (8, .int .i64 s11), (26, .bool true), (31, .bool (tocsinref13_letter c28))]) (by kernel_rfl) ?_
          refine gl_case 31 (b := (tocsinref13_letter c28)) (by kernel_rfl) (fun hc30 => ?_) (fun hc30 => ?_)
          · have hj23 := cond_t hc30 hj23
            refine gl_pure 6 [0, 1, 4, 8, 37] (K' := [(0, .string a0), (1, .int .i64 a1), (4, .pointer (some ⟨g1, 0, none⟩)), (8, .int .i64 s11), (37, .bool true)]) (by kernel_rfl) ?_
            refine gl_atE (by kernel_rfl) ?_
            obtain rfl := some_inj hj23
            exact ge_mid fun t ht => ⟨(Imm.refl _), rfl, ht.pick (l := [0, 1, 4, 8, 37]) (by kernel_rfl)⟩
          · have hj23 := cond_f hc30 hj23
            refine gl_pure 2 [0, 1, 4, 8, 26, 31, 32, 33] (K' := [(0, .string a0), (1, .int .i64 a1), (4, .pointer (some ⟨g1, 0, none⟩)), (8, .int .i64 s11), (26, .bool true), (31, .bool false), (32, .string a0), (33, .int .i64 s11)]) (by kernel_rfl) ?_
            obtain ⟨c31, hx32, hj23⟩ := bind_some hj23
            refine gl_index' (T' := 9) (xs := (.tmp 32)) (xi := (.tmp 33)) (kd := .i64) hx32 (by kernel_rfl) (by kernel_rfl) (by kernel_rfl) (by kernel_rfl) (by kernel_rfl) ?_
            refine gl_callQ (by kernel_rfl) (tocsinref13_digit_walk (r := (tocsinref13_digit c31))  rfl _) ?_
            refine gl_pure 2 [0, 1, 4, 8, 37] (K' := [(0, .string a0), (1, .int .i64 a1), (4, .pointer (some ⟨g1, 0, none⟩)), (8, .int .i64 s11), (37, .bool (tocsinref13_digit c31))]) (by kernel_rfl) ?_
            refine gl_atE (by kernel_rfl) ?_
            obtain rfl := some_inj hj23
            exact ge_mid fun t ht => ⟨(Imm.refl _), rfl, ht.pick (l := [0, 1, 4, 8, 37]) (by kernel_rfl)⟩
        · have hj23 := cond_f hc27 hj23
          refine gl_pure 11 [0, 1, 4, 8, 37] (K' := [(0, .string a0), (1, .int .i64 a1), (4, .pointer (some ⟨g1, 0, none⟩)), (8, .int .i64 s11), (37, .bool false)]) (by kernel_rfl) ?_
          refine gl_atE (by kernel_rfl) ?_
          obtain rfl := some_inj hj23
          exact ge_mid fun t ht => ⟨(Imm.refl _), rfl, ht.pick (l := [0, 1, 4, 8, 37]) (by kernel_rfl)⟩
      · rintro t I26 L' ⟨hI24, rfl, hK25⟩
        refine ge_at hK25 ?_
        refine ge_seq ?_
        refine gk_cond (b := j22) (by kernel_rfl) (by kernel_rfl) (fun hc33 => ?_) (fun hc33 => ?_)
        · have hb13 := cond_t hc33 hb13
          refine gk_skip (by kernel_rfl) ?_
          refine ge_seq ?_
          refine gk_block (by kernel_rfl) ?_
          refine gk_region (by kernel_rfl) ?_
          refine gl_pure 3 [0, 1, 4, 8] (K' := [(0, .string a0), (1, .int .i64 a1), (4, .pointer (some ⟨g1, 0, none⟩)), (8, .int .i64 (IntKind.wrap .i64 (s11 + 1)))]) (by kernel_rfl) ?_
          refine gl_atE (by kernel_rfl) ?_
          refine ge_block_normal ?_
          obtain rfl := some_inj hb13
          exact ge_round fun t ht => ⟨(Imm.trans hI14 hI24), rfl, ht.pick (l := [0, 1, 4, 8]) (by kernel_rfl)⟩
        · have hb13 := cond_f hc33 hb13
          refine gk_exit (by kernel_rfl) ?_
          refine ge_seq_exit ?_
          obtain rfl := some_inj hb13
          refine ge_round_out (fun hrr => ?_) (by intro h; cases h)
          obtain rfl := hrr
          refine ge_block_hit (by kernel_rfl) ?_
          exact ge_mid fun t ht => ⟨(Imm.trans hI14 hI24), rfl, ht.pick (l := [0, 1, 4, 8]) (by kernel_rfl)⟩
    · rintro t I19 L' ⟨hI17, rfl, hK18⟩
      refine ge_at hK18 ?_
      refine ge_seq ?_
      refine gk_seq (by kernel_rfl) ?_
      refine gk_region (by kernel_rfl) ?_
      refine gl_pure 3 [1, 4, 8, 40, 41, 42] (K' := [(1, .int .i64 a1), (4, .pointer (some ⟨g1, 0, none⟩)), (8, .int .i64 r9), (40, .string a0), (41, .int .i64 a1), (42, .int .i64 r9)]) (by kernel_rfl) ?_
      obtain ⟨s35, hx34, hr⟩ := bind_some hr
      refine gl_slice' (T' := 9) (xs := (.tmp 40)) (lo := (some (.tmp 41))) (hi := (some (.tmp 42))) hx34 (by kernel_rfl) (by kernel_rfl) (by kernel_rfl) (by kernel_rfl) (by kernel_rfl) (by kernel_rfl) ?_
      refine gl_pure 3 [4, 45, 46] (K' := [(4, .pointer (some ⟨g1, 0, none⟩)), (45, .agg #[.int .i64 1, .string s35, .int .i64 a1]), (46, .int .i64 r9)]) (by kernel_rfl) ?_
      refine gl_storeB (T' := 28) (xp := (.tmp 4)) (xv := (.tmp 45)) (v := .agg #[.int .i64 1, .string s35, .int .i64 a1]) (g := g1) (off := 0) (cs := #[.int .i64 0, .string (⟨#[]⟩ : ByteArray), .int .i64 0]) (cs' := #[.int .i64 1, .string s35, .int .i64 a1]) (by kernel_rfl) (by kernel_rfl) (by kernel_rfl) (by kernel_rfl) (by kernel_rfl) (Upd.set _ _ _ _) ?_ (by kernel_rfl)
      refine gl_pure 2 [4, 5, 6] (K' := [(4, .pointer (some ⟨g1, 0, none⟩)), (5, .int .i64 r9), (6, .bool true)]) (by kernel_rfl) ?_
      refine gl_atE (by kernel_rfl) ?_
      refine ge_seq ?_
      refine gk_rest (Tk.step (Upd.rm1 _ _) (Tk.nil _)) (fun J36 hJ37 hC38 => ?_)
      have hf39 := hC38.left.blk
      refine gk_ret (by kernel_rfl) ?_
      refine ge_seq_ret ?_
      obtain rfl := some_inj hr
      exact ge_result trivial (ResOk.cell (v := .agg #[.int .i64 1, .string s35, .int .i64 a1]) (by kernel_rfl) (loadR_agg (cs := [.int .i64 1, .string s35, .int .i64 a1]) (by kernel_rfl) (RunAt.take hf39 3)) (ResOk.tmp (by kernel_rfl) (ResOk.tmp (by kernel_rfl) ResOk.nil))) (Imm.trans hI17 hJ37) ⟨rfl, rfl⟩
  · have hr := cond_f hc4 hr
    refine gk_skip (by kernel_rfl) ?_
    refine ge_seq ?_
    refine gk_seq (by kernel_rfl) ?_
    refine gk_seq (by kernel_rfl) ?_
    refine gk_join (fun t I' L' => I ≤ I' ∧ (g1, .cells #[.int .i64 0, .string (⟨#[]⟩ : ByteArray), .int .i64 0] 28) :: L = L' ∧ Knows 129 [(0, .string a0), (1, .int .i64 a1), (4, .pointer (some ⟨g1, 0, none⟩)), (7, .int .u8 c2), (52, .bool ((c2 == 34) || (c2 == 39)))] t) ?_ ?_
    · refine gk_region (by kernel_rfl) ?_
      refine gl_pure 3 [0, 1, 4, 7, 49] (K' := [(0, .string a0), (1, .int .i64 a1), (4, .pointer (some ⟨g1, 0, none⟩)), (7, .int .u8 c2), (49, .bool (c2 == 34))]) (by kernel_rfl) ?_
      refine gl_case 49 (b := (c2 == 34)) (by kernel_rfl) (fun hc43 => ?_) (fun hc43 => ?_)
      · refine gl_pure 3 [0, 1, 4, 7, 52] (K' := [(0, .string a0), (1, .int .i64 a1), (4, .pointer (some ⟨g1, 0, none⟩)), (7, .int .u8 c2), (52, .bool true)]) (by kernel_rfl) ?_
        refine gl_atE (by kernel_rfl) ?_
        exact ge_mid fun t ht => ⟨(Imm.refl _), rfl, by rw [(show ((c2 == 34) || (c2 == 39)) = true from by rw [hc43]; try rfl)]; exact ht.pick (l := [0, 1, 4, 7, 52]) (by kernel_rfl)⟩
      · refine gl_pure 3 [0, 1, 4, 7, 52] (K' := [(0, .string a0), (1, .int .i64 a1), (4, .pointer (some ⟨g1, 0, none⟩)), (7, .int .u8 c2), (52, .bool (c2 == 39))]) (by kernel_rfl) ?_
        refine gl_atE (by kernel_rfl) ?_
        exact ge_mid fun t ht => ⟨(Imm.refl _), rfl, by rw [(show ((c2 == 34) || (c2 == 39)) = (c2 == 39) from by rw [hc43]; try rfl)]; exact ht.pick (l := [0, 1, 4, 7, 52]) (by kernel_rfl)⟩
    · rintro t I42 L' ⟨hI40, rfl, hK41⟩
      refine ge_at hK41 ?_
      refine ge_seq ?_
      refine gk_cond (b := ((c2 == 34) || (c2 == 39))) (by kernel_rfl) (by kernel_rfl) (fun hc44 => ?_) (fun hc44 => ?_)
      · have hr := cond_t hc44 hr
        refine gk_seq (by kernel_rfl) ?_
        refine gk_region (by kernel_rfl) ?_
        refine gl_pure 2 [1, 4, 54, 55] (K' := [(1, .int .i64 a1), (4, .pointer (some ⟨g1, 0, none⟩)), (54, .string a0), (55, .int .i64 a1)]) (by kernel_rfl) ?_
        obtain ⟨y45, hx46, hr⟩ := bind_some hr
        refine gl_callQ (by kernel_rfl) (tocsinref13_text_walk (r := y45)  hx46 _) ?_
        refine gl_pure 7 [1, 4, 9, 10, 11] (K' := [(1, .int .i64 a1), (4, .pointer (some ⟨g1, 0, none⟩)), (9, .string y45.1), (10, .int .i64 y45.2.1), (11, .bool y45.2.2)]) (by kernel_rfl) ?_
        refine gl_atE (by kernel_rfl) ?_
        refine ge_seq ?_
        refine gk_seq (by kernel_rfl) ?_
        refine gk_region (by kernel_rfl) ?_
        refine gl_pure 5 [4, 62, 63, 64] (K' := [(4, .pointer (some ⟨g1, 0, none⟩)), (62, .agg #[.int .i64 4, .string y45.1, .int .i64 a1]), (63, .int .i64 y45.2.1), (64, .bool y45.2.2)]) (by kernel_rfl) ?_
        refine gl_storeB (T' := 28) (xp := (.tmp 4)) (xv := (.tmp 62)) (v := .agg #[.int .i64 4, .string y45.1, .int .i64 a1]) (g := g1) (off := 0) (cs := #[.int .i64 0, .string (⟨#[]⟩ : ByteArray), .int .i64 0]) (cs' := #[.int .i64 4, .string y45.1, .int .i64 a1]) (by kernel_rfl) (by kernel_rfl) (by kernel_rfl) (by kernel_rfl) (by kernel_rfl) (Upd.set _ _ _ _) ?_ (by kernel_rfl)
        refine gl_pure 2 [4, 5, 6] (K' := [(4, .pointer (some ⟨g1, 0, none⟩)), (5, .int .i64 y45.2.1), (6, .bool y45.2.2)]) (by kernel_rfl) ?_
        refine gl_atE (by kernel_rfl) ?_
        refine ge_seq ?_
        refine gk_rest (Tk.step (Upd.rm1 _ _) (Tk.nil _)) (fun J47 hJ48 hC49 => ?_)
        have hf50 := hC49.left.blk
        refine gk_ret (by kernel_rfl) ?_
        refine ge_seq_ret ?_
        obtain rfl := some_inj hr
        exact ge_result trivial (ResOk.cell (v := .agg #[.int .i64 4, .string y45.1, .int .i64 a1]) (by kernel_rfl) (loadR_agg (cs := [.int .i64 4, .string y45.1, .int .i64 a1]) (by kernel_rfl) (RunAt.take hf50 3)) (ResOk.tmp (by kernel_rfl) (ResOk.tmp (by kernel_rfl) ResOk.nil))) (Imm.trans hI40 hJ48) ⟨rfl, rfl⟩
      · have hr := cond_f hc44 hr
        refine gk_skip (by kernel_rfl) ?_
        refine ge_seq ?_
        refine gk_seq (by kernel_rfl) ?_
        refine gk_seq (by kernel_rfl) ?_
        obtain ⟨b53, hb54⟩ : ∃ z, z = ((tocsinref13_digit c2) || (c2 == 46)) := ⟨_, rfl⟩
        refine gk_join (fun t I' L' => I42 ≤ I' ∧ (g1, .cells #[.int .i64 0, .string (⟨#[]⟩ : ByteArray), .int .i64 0] 28) :: L = L' ∧ Knows 129 [(0, .string a0), (1, .int .i64 a1), (4, .pointer (some ⟨g1, 0, none⟩)), (70, .bool b53)] t) ?_ ?_
        · refine gk_region (by kernel_rfl) ?_
          refine gl_pure 1 [0, 1, 4, 7, 65] (K' := [(0, .string a0), (1, .int .i64 a1), (4, .pointer (some ⟨g1, 0, none⟩)), (7, .int .u8 c2), (65, .int .u8 c2)]) (by kernel_rfl) ?_
          refine gl_callQ (by kernel_rfl) (tocsinref13_digit_walk (r := (tocsinref13_digit c2))  rfl _) ?_
          refine gl_pure 1 [0, 1, 4, 7, 67] (K' := [(0, .string a0), (1, .int .i64 a1), (4, .pointer (some ⟨g1, 0, none⟩)), (7, .int .u8 c2), (67, .bool (tocsinref13_digit c2))]) (by kernel_rfl) ?_
          refine gl_case 67 (b := (tocsinref13_digit c2)) (by kernel_rfl) (fun hc56 => ?_) (fun hc56 => ?_)
          · refine gl_pure 3 [0, 1, 4, 70] (K' := [(0, .string a0), (1, .int .i64 a1), (4, .pointer (some ⟨g1, 0, none⟩)), (70, .bool true)]) (by kernel_rfl) ?_
            refine gl_atE (by kernel_rfl) ?_
            exact ge_mid fun t ht => ⟨(Imm.refl _), rfl, by rw [(show b53 = true from hb54.trans (by rw [hc56]; try rfl))]; exact ht.pick (l := [0, 1, 4, 70]) (by kernel_rfl)⟩
          · refine gl_pure 3 [0, 1, 4, 70] (K' := [(0, .string a0), (1, .int .i64 a1), (4, .pointer (some ⟨g1, 0, none⟩)), (70, .bool (c2 == 46))]) (by kernel_rfl) ?_
            refine gl_atE (by kernel_rfl) ?_
            exact ge_mid fun t ht => ⟨(Imm.refl _), rfl, by rw [(show b53 = (c2 == 46) from hb54.trans (by rw [hc56]; try rfl))]; exact ht.pick (l := [0, 1, 4, 70]) (by kernel_rfl)⟩
        · rintro t I55 L' ⟨hI51, rfl, hK52⟩
          subst hb54
          refine ge_at hK52 ?_
          refine ge_seq ?_
          refine gk_cond (b := ((tocsinref13_digit c2) || (c2 == 46))) (by kernel_rfl) (by kernel_rfl) (fun hc57 => ?_) (fun hc57 => ?_)
          · have hr := cond_t hc57 hr
            refine gk_seq (by kernel_rfl) ?_
            refine gk_region (by kernel_rfl) ?_
            refine gl_pure 2 [0, 1, 4, 71, 72] (K' := [(0, .string a0), (1, .int .i64 a1), (4, .pointer (some ⟨g1, 0, none⟩)), (71, .string a0), (72, .int .i64 a1)]) (by kernel_rfl) ?_
            obtain ⟨y58, hx59, hr⟩ := bind_some hr
            refine gl_callQ (by kernel_rfl) (tocsinref13_number_walk (r := y58)  hx59 _) ?_
            refine gl_pure 1 [0, 1, 4, 12] (K' := [(0, .string a0), (1, .int .i64 a1), (4, .pointer (some ⟨g1, 0, none⟩)), (12, .int .i64 y58)]) (by kernel_rfl) ?_
            refine gl_atE (by kernel_rfl) ?_
            refine ge_seq ?_
            refine gk_seq (by kernel_rfl) ?_
            refine gk_region (by kernel_rfl) ?_
            refine gl_pure 2 [0, 1, 4, 12, 74, 75] (K' := [(0, .string a0), (1, .int .i64 a1), (4, .pointer (some ⟨g1, 0, none⟩)), (12, .int .i64 y58), (74, .string a0), (75, .int .i64 a1)]) (by kernel_rfl) ?_
            obtain ⟨y60, hx61, hr⟩ := bind_some hr
            refine gl_callQ (by kernel_rfl) (tocsinref13_span_walk (r := y60)  hx61 _) ?_
            refine gl_pure 1 [0, 1, 4, 12, 13] (K' := [(0, .string a0), (1, .int .i64 a1), (4, .pointer (some ⟨g1, 0, none⟩)), (12, .int .i64 y58), (13, .int .i64 y60)]) (by kernel_rfl) ?_
            refine gl_atE (by kernel_rfl) ?_
            refine ge_seq ?_
            refine gk_seq (by kernel_rfl) ?_
            refine gk_region (by kernel_rfl) ?_
            refine gl_pure 1 [0, 1, 4, 12, 13, 14] (K' := [(0, .string a0), (1, .int .i64 a1), (4, .pointer (some ⟨g1, 0, none⟩)), (12, .int .i64 y58), (13, .int .i64 y60), (14, .int .i64 2)]) (by kernel_rfl) ?_
            refine gl_atE (by kernel_rfl) ?_
            refine ge_seq ?_
            refine gk_seq (by kernel_rfl) ?_
            refine gk_seq (by kernel_rfl) ?_
            refine gk_region (by kernel_rfl) ?_
            refine gl_pure 3 [0, 1, 4, 12, 13, 14, 79] (K' := [(0, .string a0), (1, .int .i64 a1), (4, .pointer (some ⟨g1, 0, none⟩)), (12, .int .i64 y58), (13, .int .i64 y60), (14, .int .i64 2), (79, .bool (decide (y60 > y58)))]) (by kernel_rfl) ?_
            refine gl_atE (by kernel_rfl) ?_
            refine ge_seq ?_
            obtain ⟨j62, hj63, hr⟩ := bind_some hr
            refine gk_join (fun t I' L' => I55 ≤ I' ∧ (g1, .cells #[.int .i64 0, .string (⟨#[]⟩ : ByteArray), .int .i64 0] 28) :: L = L' ∧ Knows 129 [(0, .string a0), (1, .int .i64 a1), (4, .pointer (some ⟨g1, 0, none⟩)), (12, .int .i64 j62.1), (14, .int .i64 j62.2)] t) ?_ ?_
            · refine gk_cond (b := (decide (y60 > y58))) (by kernel_rfl) (by kernel_rfl) (fun hc67 => ?_) (fun hc67 => ?_)
              · have hj63 := cond_t hc67 hj63
                refine gk_seq (by kernel_rfl) ?_
                refine gk_region (by kernel_rfl) ?_
                refine gl_pure 2 [0, 1, 4, 12] (K' := [(0, .string a0), (1, .int .i64 a1), (4, .pointer (some ⟨g1, 0, none⟩)), (12, .int .i64 y60)]) (by kernel_rfl) ?_
                refine gl_atE (by kernel_rfl) ?_
                refine ge_seq ?_
                refine gk_region (by kernel_rfl) ?_
                refine gl_pure 1 [0, 1, 4, 12, 14] (K' := [(0, .string a0), (1, .int .i64 a1), (4, .pointer (some ⟨g1, 0, none⟩)), (12, .int .i64 y60), (14, .int .i64 3)]) (by kernel_rfl) ?_
                refine gl_atE (by kernel_rfl) ?_
                obtain rfl := some_inj hj63
                exact ge_mid fun t ht => ⟨(Imm.refl _), rfl, ht.pick (l := [0, 1, 4, 12, 14]) (by kernel_rfl)⟩
              · have hj63 := cond_f hc67 hj63
                refine gk_skip (by kernel_rfl) ?_
                obtain rfl := some_inj hj63
                exact ge_mid fun t ht => ⟨(Imm.refl _), rfl, ht.pick (l := [0, 1, 4, 12, 14]) (by kernel_rfl)⟩
            · rintro t I66 L' ⟨hI64, rfl, hK65⟩
              refine ge_at hK65 ?_
              refine ge_seq ?_
              refine gk_seq (by kernel_rfl) ?_
              refine gk_seq (by kernel_rfl) ?_
              obtain ⟨j68, hj69, hr⟩ := bind_some hr
              refine gk_join (fun t I' L' => I66 ≤ I' ∧ (g1, .cells #[.int .i64 0, .string (⟨#[]⟩ : ByteArray), .int .i64 0] 28) :: L = L' ∧ Knows 129 [(0, .string a0), (1, .int .i64 a1), (4, .pointer (some ⟨g1, 0, none⟩)), (12, .int .i64 j62.1), (14, .int .i64 j62.2), (107, .bool j68)] t) ?_ ?_
              · refine gk_region (by kernel_rfl) ?_
                refine gl_pure 4 [0, 1, 4, 12, 14, 84] (K' := [(0, .string a0), (1, .int .i64 a1), (4, .pointer (some ⟨g1, 0, none⟩)), (12, .int .i64 j62.1), (14, .int .i64 j62.2), (84, .bool (j62.1 == a1))]) (by kernel_rfl) ?_
                refine gl_case 84 (b := (j62.1 == a1)) (by kernel_rfl) (fun hc73 => ?_) (fun hc73 => ?_)
                · have hj69 := cond_t hc73 hj69
                  refine gl_pure 23 [0, 1, 4, 12, 14, 107] (K' := [(0, .string a0), (1, .int .i64 a1), (4, .pointer (some ⟨g1, 0, none⟩)), (12, .int .i64 j62.1), (14, .int .i64 j62.2), (107, .bool true)]) (by kernel_rfl) ?_
                  refine gl_atE (by kernel_rfl) ?_
                  obtain rfl := some_inj hj69
                  exact ge_mid fun t ht => ⟨(Imm.refl _), rfl, ht.pick (l := [0, 1, 4, 12, 14, 107]) (by kernel_rfl)⟩
                · have hj69 := cond_f hc73 hj69
                  refine gl_pure 5 [0, 1, 4, 12, 14, 84, 89] (K' := [(0, .string a0), (1, .int .i64 a1), (4, .pointer (some ⟨g1, 0, none⟩)), (12, .int .i64 j62.1), (14, .int .i64 j62.2), (84, .bool false), (89, .bool (decide (j62.1 < (a0.size : Int))))]) (by kernel_rfl) ?_
                  refine gl_case 89 (b := (decide (j62.1 < (a0.size : Int)))) (by kernel_rfl) (fun hc74 => ?_) (fun hc74 => ?_)
                  · have hj69 := cond_t hc74 hj69
                    refine gl_pure 2 [0, 1, 4, 12, 14, 84, 89, 90, 91] (K' := [(0, .string a0), (1, .int .i64 a1), (4, .pointer (some ⟨g1, 0, none⟩)), (12, .int .i64 j62.1), (14, .int .i64 j62.2), (84, .bool false), (89, .bool true), (90, .string a0), (91, .int .i64 j62.1)]) (by kernel_rfl) ?_
                    obtain ⟨c75, hx76, hj69⟩ := bind_some hj69
                    refine gl_index' (T' := 9) (xs := (.tmp 90)) (xi := (.tmp 91)) (kd := .i64) hx76 (by kernel_rfl) (by kernel_rfl) (by kernel_rfl) (by kernel_rfl) (by kernel_rfl) ?_
                    refine gl_callQ (by kernel_rfl) (tocsinref13_letter_walk (r := (tocsinref13_letter c75))  rfl _) ?_
                    refine gl_pure 1 [0, 1, 4, 12, 14, 84, 89, 94] (K' := [(0, .string a0), (1, .int .i64 a1), (4, .pointer (some ⟨g1, 0, none⟩)), (12, .int .i64 j62.1), (14, .int .i64 j62.2), (84, .bool false), (89, .bool true), (94, .bool (tocsinref13_letter c75))]) (by kernel_rfl) ?_
                    refine gl_case 94 (b := (tocsinref13_letter c75)) (by kernel_rfl) (fun hc77 => ?_) (fun hc77 => ?_)
                    · have hj69 := cond_t hc77 hj69
                      refine gl_pure 13 [0, 1, 4, 12, 14, 107] (K' := [(0, .string a0), (1, .int .i64 a1), (4, .pointer (some ⟨g1, 0, none⟩)), (12, .int .i64 j62.1), (14, .int .i64 j62.2), (107, .bool true)]) (by kernel_rfl) ?_
                      refine gl_atE (by kernel_rfl) ?_
                      obtain rfl := some_inj hj69
                      exact ge_mid fun t ht => ⟨(Imm.refl _), rfl, ht.pick (l := [0, 1, 4, 12, 14, 107]) (by kernel_rfl)⟩
                    · have hj69 := cond_f hc77 hj69
                      refine gl_pure 2 [0, 1, 4, 12, 14, 84, 89, 94, 95, 96] (K' := [(0, .string a0), (1, .int .i64 a1), (4, .pointer (some ⟨g1, 0, none⟩)), (12, .int .i64 j62.1), (14, .int .i64 j62.2), (84, .bool false), (89, .bool true), (94, .bool false), (95, .string a0), (96, .int .i64 j62.1)]) (by kernel_rfl) ?_
                      obtain ⟨c78, hx79, hj69⟩ := bind_some hj69
                      refine gl_index' (T' := 9) (xs := (.tmp 95)) (xi := (.tmp 96)) (kd := .i64) hx79 (by kernel_rfl) (by kernel_rfl) (by kernel_rfl) (by kernel_rfl) (by kernel_rfl) ?_
                      refine gl_callQ (by kernel_rfl) (tocsinref13_digit_walk (r := (tocsinref13_digit c78))  rfl _) ?_
                      refine gl_pure 2 [0, 1, 4, 12, 14, 84, 89, 100] (K' := [(0, .string a0), (1, .int .i64 a1), (4, .pointer (some ⟨g1, 0, none⟩)), (12, .int .i64 j62.1), (14, .int .i64 j62.2), (84, .bool false), (89, .bool true), (100, .bool (tocsinref13_digit c78))]) (by kernel_rfl) ?_
                      refine gl_case 100 (b := (tocsinref13_digit c78)) (by kernel_rfl) (fun hc80 => ?_) (fun hc80 => ?_)
                      · have hj69 := cond_t hc80 hj69
                        refine gl_pure 7 [0, 1, 4, 12, 14, 107] (K' := [(0, .string a0), (1, .int .i64 a1), (4, .pointer (some ⟨g1, 0, none⟩)), (12, .int .i64 j62.1), (14, .int .i64 j62.2), (107, .bool true)]) (by kernel_rfl) ?_
                        refine gl_atE (by kernel_rfl) ?_
                        obtain rfl := some_inj hj69
                        exact ge_mid fun t ht => ⟨(Imm.refl _), rfl, ht.pick (l := [0, 1, 4, 12, 14, 107]) (by kernel_rfl)⟩
                      · have hj69 := cond_f hc80 hj69
                        refine gl_pure 2 [0, 1, 4, 12, 14, 84, 89, 100, 101, 102] (K' := [(0, .string a0), (1, .int .i64 a1), (4, .pointer (some ⟨g1, 0, none⟩)), (12, .int .i64 j62.1), (14, .int .i64 j62.2), (84, .bool false), (89, .bool true), (100, .bool false), (101, .string a0), (102, .int .i64 j62.1)]) (by kernel_rfl) ?_
                        obtain ⟨c81, hx82, hj69⟩ := bind_some hj69
                        refine gl_index' (T' := 9) (xs := (.tmp 101)) (xi := (.tmp 102)) (kd := .i64) hx82 (by kernel_rfl) (by kernel_rfl) (by kernel_rfl) (by kernel_rfl) (by kernel_rfl) ?_
                        refine gl_pure 4 [0, 1, 4, 12, 14, 107] (K' := [(0, .string a0), (1, .int .i64 a1), (4, .pointer (some ⟨g1, 0, none⟩)), (12, .int .i64 j62.1), (14, .int .i64 j62.2), (107, .bool (c81 == 46))]) (by kernel_rfl) ?_
                        refine gl_atE (by kernel_rfl) ?_
                        obtain rfl := some_inj hj69
                        exact ge_mid fun t ht => ⟨(Imm.refl _), rfl, ht.pick (l := [0, 1, 4, 12, 14, 107]) (by kernel_rfl)⟩
                  · have hj69 := cond_f hc74 hj69
                    refine gl_pure 18 [0, 1, 4, 12, 14, 107] (K' := [(0, .string a0), (1, .int .i64 a1), (4, .pointer (some ⟨g1, 0, none⟩)), (12, .int .i64 j62.1), (14, .int .i64 j62.2), (107, .bool false)]) (by kernel_rfl) ?_
                    refine gl_atE (by kernel_rfl) ?_
                    obtain rfl := some_inj hj69
                    exact ge_mid fun t ht => ⟨(Imm.refl _), rfl, ht.pick (l := [0, 1, 4, 12, 14, 107]) (by kernel_rfl)⟩
              · rintro t I72 L' ⟨hI70, rfl, hK71⟩
                refine ge_at hK71 ?_
                refine ge_seq ?_
                refine gk_cond (b := j68) (by kernel_rfl) (by kernel_rfl) (fun hc83 => ?_) (fun hc83 => ?_)
                · have hr := cond_t hc83 hr
                  refine gk_seq (by kernel_rfl) ?_
                  refine gk_region (by kernel_rfl) ?_
                  refine gl_pure 1 [4, 108] (K' := [(4, .pointer (some ⟨g1, 0, none⟩)), (108, .agg #[.int .i64 0, .string (⟨#[]⟩ : ByteArray), .int .i64 0])]) (by kernel_rfl) ?_
                  refine gl_storeB (T' := 28) (xp := (.tmp 4)) (xv := (.tmp 108)) (v := .agg #[.int .i64 0, .string (⟨#[]⟩ : ByteArray), .int .i64 0]) (g := g1) (off := 0) (cs := #[.int .i64 0, .string (⟨#[]⟩ : ByteArray), .int .i64 0]) (cs' := #[.int .i64 0, .string (⟨#[]⟩ : ByteArray), .int .i64 0]) (by kernel_rfl) (by kernel_rfl) (by kernel_rfl) (by kernel_rfl) (by kernel_rfl) (Upd.set _ _ _ _) ?_ (by kernel_rfl)
                  refine gl_pure 2 [4, 5, 6] (K' := [(4, .pointer (some ⟨g1, 0, none⟩)), (5, .int .i64 0), (6, .bool false)]) (by kernel_rfl) ?_
                  refine gl_atE (by kernel_rfl) ?_
                  refine ge_seq ?_
                  refine gk_rest (Tk.step (Upd.rm1 _ _) (Tk.nil _)) (fun J84 hJ85 hC86 => ?_)
                  have hf87 := hC86.left.blk
                  refine gk_ret (by kernel_rfl) ?_
                  refine ge_seq_ret ?_
                  refine ge_seq_ret ?_
                  obtain rfl := some_inj hr
                  exact ge_result trivial (ResOk.cell (v := .agg #[.int .i64 0, .string (⟨#[]⟩ : ByteArray), .int .i64 0]) (by kernel_rfl) (loadR_agg (cs := [.int .i64 0, .string (⟨#[]⟩ : ByteArray), .int .i64 0]) (by kernel_rfl) (RunAt.take hf87 3)) (ResOk.tmp (by kernel_rfl) (ResOk.tmp (by kernel_rfl) ResOk.nil))) (Imm.trans (Imm.trans (Imm.trans (Imm.trans hI40 hI51) hI64) hI70) hJ85) ⟨rfl, rfl⟩
                · have hr := cond_f hc83 hr
                  refine gk_skip (by kernel_rfl) ?_
                  refine ge_seq ?_
                  refine gk_seq (by kernel_rfl) ?_
                  refine gk_region (by kernel_rfl) ?_
                  refine gl_pure 4 [1, 4, 12, 109, 110, 111, 112] (K' := [(1, .int .i64 a1), (4, .pointer (some ⟨g1, 0, none⟩)), (12, .int .i64 j62.1), (109, .int .i64 j62.2), (110, .string a0), (111, .int .i64 a1), (112, .int .i64 j62.1)]) (by kernel_rfl) ?_
                  obtain ⟨s89, hx88, hr⟩ := bind_some hr
                  refine gl_slice' (T' := 9) (xs := (.tmp 110)) (lo := (some (.tmp 111))) (hi := (some (.tmp 112))) hx88 (by kernel_rfl) (by kernel_rfl) (by kernel_rfl) (by kernel_rfl) (by kernel_rfl) (by kernel_rfl) ?_
                  refine gl_pure 3 [4, 115, 116] (K' := [(4, .pointer (some ⟨g1, 0, none⟩)), (115, .agg #[.int .i64 j62.2, .string s89, .int .i64 a1]), (116, .int .i64 j62.1)]) (by kernel_rfl) ?_
                  refine gl_storeB (T' := 28) (xp := (.tmp 4)) (xv := (.tmp 115)) (v := .agg #[.int .i64 j62.2, .string s89, .int .i64 a1]) (g := g1) (off := 0) (cs := #[.int .i64 0, .string (⟨#[]⟩ : ByteArray), .int .i64 0]) (cs' := #[.int .i64 j62.2, .string s89, .int .i64 a1]) (by kernel_rfl) (by kernel_rfl) (by kernel_rfl) (by kernel_rfl) (by kernel_rfl) (Upd.set _ _ _ _) ?_ (by kernel_rfl)
                  refine gl_pure 2 [4, 5, 6] (K' := [(4, .pointer (some ⟨g1, 0, none⟩)), (5, .int .i64 j62.1), (6, .bool true)]) (by kernel_rfl) ?_
                  refine gl_atE (by kernel_rfl) ?_
                  refine ge_seq ?_
                  refine gk_rest (Tk.step (Upd.rm1 _ _) (Tk.nil _)) (fun J90 hJ91 hC92 => ?_)
                  have hf93 := hC92.left.blk
                  refine gk_ret (by kernel_rfl) ?_
                  refine ge_seq_ret ?_
                  obtain rfl := some_inj hr
                  exact ge_result trivial (ResOk.cell (v := .agg #[.int .i64 j62.2, .string s89, .int .i64 a1]) (by kernel_rfl) (loadR_agg (cs := [.int .i64 j62.2, .string s89, .int .i64 a1]) (by kernel_rfl) (RunAt.take hf93 3)) (ResOk.tmp (by kernel_rfl) (ResOk.tmp (by kernel_rfl) ResOk.nil))) (Imm.trans (Imm.trans (Imm.trans (Imm.trans hI40 hI51) hI64) hI70) hJ91) ⟨rfl, rfl⟩
          · have hr := cond_f hc57 hr
            refine gk_skip (by kernel_rfl) ?_
            refine ge_seq ?_
            refine gk_seq (by kernel_rfl) ?_
            refine gk_region (by kernel_rfl) ?_
            refine gl_pure 2 [1, 4, 117, 118] (K' := [(1, .int .i64 a1), (4, .pointer (some ⟨g1, 0, none⟩)), (117, .string a0), (118, .int .i64 a1)]) (by kernel_rfl) ?_
            obtain ⟨y94, hx95, hr⟩ := bind_some hr
            refine gl_callQ (by kernel_rfl) (tocsinref13_sign_walk (r := y94)  hx95 _) ?_
            refine gl_pure 1 [1, 4, 15] (K' := [(1, .int .i64 a1), (4, .pointer (some ⟨g1, 0, none⟩)), (15, .string y94)]) (by kernel_rfl) ?_
            refine gl_atE (by kernel_rfl) ?_
            refine ge_seq ?_
            refine gk_seq (by kernel_rfl) ?_
            refine gk_region (by kernel_rfl) ?_
            refine gl_pure 9 [4, 122, 126, 128] (K' := [(4, .pointer (some ⟨g1, 0, none⟩)), (122, .agg #[.int .i64 5, .string y94, .int .i64 a1]), (126, .int .i64 (IntKind.wrap .i64 (a1 + (y94.size : Int)))), (128, .bool (!(y94.toList == (⟨#[]⟩ : ByteArray).toList)))]) (by kernel_rfl) ?_
            refine gl_storeB (T' := 28) (xp := (.tmp 4)) (xv := (.tmp 122)) (v := .agg #[.int .i64 5, .string y94, .int .i64 a1]) (g := g1) (off := 0) (cs := #[.int .i64 0, .string (⟨#[]⟩ : ByteArray), .int .i64 0]) (cs' := #[.int .i64 5, .string y94, .int .i64 a1]) (by kernel_rfl) (by kernel_rfl) (by kernel_rfl) (by kernel_rfl) (by kernel_rfl) (Upd.set _ _ _ _) ?_ (by kernel_rfl)
            refine gl_pure 2 [4, 5, 6] (K' := [(4, .pointer (some ⟨g1, 0, none⟩)), (5, .int .i64 (IntKind.wrap .i64 (a1 + (y94.size : Int)))), (6, .bool (!(y94.toList == (⟨#[]⟩ : ByteArray).toList)))]) (by kernel_rfl) ?_
            refine gl_atE (by kernel_rfl) ?_
            refine ge_seq ?_
            refine gk_rest (Tk.step (Upd.rm1 _ _) (Tk.nil _)) (fun J96 hJ97 hC98 => ?_)
            have hf99 := hC98.left.blk
            refine gk_ret (by kernel_rfl) ?_
            obtain rfl := some_inj hr
            exact ge_result trivial (ResOk.cell (v := .agg #[.int .i64 5, .string y94, .int .i64 a1]) (by kernel_rfl) (loadR_agg (cs := [.int .i64 5, .string y94, .int .i64 a1]) (by kernel_rfl) (RunAt.take hf99 3)) (ResOk.tmp (by kernel_rfl) (ResOk.tmp (by kernel_rfl) ResOk.nil))) (Imm.trans (Imm.trans hI40 hI51) hJ97) ⟨rfl, rfl⟩
/-! 29 tocsinref13_alone  -/
noncomputable def tocsinref13_alone (a0 : ByteArray) (a1 : Int) : Option Bool :=
  bif (a0.toList == (⟨#[]⟩ : ByteArray).toList) then
  (some false)
  else
  (Option.bind (tocsinref13_one a0 0) fun (y2 : S27 × Int × Bool) =>
    some ((y2.2.2 && (y2.2.1 == (a0.size : Int))) && (y2.1.f0 == a1)))
theorem tocsinref13_alone_walk {a0 : ByteArray} {a1 : Int} {I : Imm} {r : Bool}  (hr : tocsinref13_alone a0 a1 = some r) (L : Own) :
    CallsTo Tryd.prog 29 #[.string a0, .int .i64 a1] I L (fun v I' L' => v = .bool r ∧ L = L') := by
  unfold tocsinref13_alone at hr
  refine callsTo_body (N := 29) Tryd.func29 (by kernel_rfl) (by kernel_rfl) (by kernel_rfl) ?_
  refine gk_pick [0, 1] (K' := [(0, .string a0), (1, .int .i64 a1)]) (by kernel_rfl) ?_
  refine gk_seq (by kernel_rfl) ?_
  refine gk_region (by kernel_rfl) ?_
  refine gl_pure 1 [0, 1] (K' := [(0, .string a0), (1, .int .i64 a1)]) (by kernel_rfl) ?_
  refine gl_atE (by kernel_rfl) ?_
  refine ge_seq ?_
  refine gk_seq (by kernel_rfl) ?_
  refine gk_seq (by kernel_rfl) ?_
  refine gk_region (by kernel_rfl) ?_
  refine gl_pure 2 [0, 1, 9] (K' := [(0, .string a0), (1, .int .i64 a1), (9, .bool (a0.toList == (⟨#[]⟩ : ByteArray).toList))]) (by kernel_rfl) ?_
  refine gl_atE (by kernel_rfl) ?_
  refine ge_seq ?_
  refine gk_cond (b := (a0.toList == (⟨#[]⟩ : ByteArray).toList)) (by kernel_rfl) (by kernel_rfl) (fun hc1 => ?_) (fun hc1 => ?_)
  · have hr := cond_t hc1 hr
    refine gk_seq (by kernel_rfl) ?_
    refine gk_region (by kernel_rfl) ?_
    refine gl_pure 1 [4] (K' := [(4, .bool false)]) (by kernel_rfl) ?_
    refine gl_atE (by kernel_rfl) ?_
    refine ge_seq ?_
    refine gk_ret (by kernel_rfl) ?_
    refine ge_seq_ret ?_
    obtain rfl := some_inj hr
    exact ge_result trivial (ResOk.tmp (by kernel_rfl) ResOk.nil) (Imm.refl _) ⟨rfl, rfl⟩
  · have hr := cond_f hc1 hr
    refine gk_skip (by kernel_rfl) ?_
    refine ge_seq ?_
    refine gk_seq (by kernel_rfl) ?_
    refine gk_region (by kernel_rfl) ?_
    refine gl_pure 1 [0, 1, 11] (K' := [(0, .string a0), (1, .int .i64 a1), (11, .string a0)]) (by kernel_rfl) ?_
    obtain ⟨y2, hx3, hr⟩ := bind_some hr
    refine gl_callQ (by kernel_rfl) (tocsinref13_one_walk (r := y2)  hx3 _) ?_
    refine gl_pure 4 [0, 1, 13, 14, 15] (K' := [(0, .string a0), (1, .int .i64 a1), (13, .agg #[.int .i64 y2.1.f0, .string y2.1.f1, .int .i64 y2.1.f2]), (14, .int .i64 y2.2.1), (15, .bool y2.2.2)]) (by kernel_rfl) ?_
    refine gl_alloc (T' := 28) (cs := #[.int .i64 0, .string (⟨#[]⟩ : ByteArray), .int .i64 0]) (by kernel_rfl) (by kernel_rfl) (by kernel_rfl) (fun g4 => ?_)
    refine gl_storeB (T' := 28) (xp := (.tmp 5)) (xv := (.tmp 13)) (v := .agg #[.int .i64 y2.1.f0, .string y2.1.f1, .int .i64 y2.1.f2]) (g := g4) (off := 0) (cs := #[.int .i64 0, .string (⟨#[]⟩ : ByteArray), .int .i64 0]) (cs' := #[.int .i64 y2.1.f0, .string y2.1.f1, .int .i64 y2.1.f2]) (by kernel_rfl) (by kernel_rfl) (by kernel_rfl) (by kernel_rfl) (by kernel_rfl) (Upd.set _ _ _ _) ?_ (by kernel_rfl)
    refine gl_pure 2 [0, 1, 5, 6, 7] (K' := [(0, .string a0), (1, .int .i64 a1), (5, .pointer (some ⟨g4, 0, none⟩)), (6, .int .i64 y2.2.1), (7, .bool y2.2.2)]) (by kernel_rfl) ?_
    refine gl_atE (by kernel_rfl) ?_
    refine ge_seq ?_
    refine gk_seq (by kernel_rfl) ?_
    obtain ⟨b7, hb8⟩ : ∃ z, z = ((y2.2.2 && (y2.2.1 == (a0.size : Int))) && (y2.1.f0 == a1)) := ⟨_, rfl⟩
    refine gk_join (fun t I' L' => I ≤ I' ∧ (g4, .cells #[.int .i64 y2.1.f0, .string y2.1.f1, .int .i64 y2.1.f2] 28) :: L = L' ∧ Knows 29 [(4, .bool b7)] t) ?_ ?_
    · refine gk_region (by kernel_rfl) ?_
      refine gl_pure 2 [0, 1, 5, 6, 17] (K' := [(0, .string a0), (1, .int .i64 a1), (5, .pointer (some ⟨g4, 0, none⟩)), (6, .int .i64 y2.2.1), (17, .bool y2.2.2)]) (by kernel_rfl) ?_
      refine gl_case 17 (b := y2.2.2) (by kernel_rfl) (fun hc10 => ?_) (fun hc10 => ?_)
      · refine gl_pure 6 [1, 5, 23] (K' := [(1, .int .i64 a1), (5, .pointer (some ⟨g4, 0, none⟩)), (23, .bool (y2.2.1 == (a0.size : Int)))]) (by kernel_rfl) ?_
        refine gl_case 23 (b := (y2.2.1 == (a0.size : Int))) (by kernel_rfl) (fun hc11 => ?_) (fun hc11 => ?_)
        · refine gl_pure 1 [1, 23, 24] (K' := [(1, .int .i64 a1), (23, .bool true), (24, .pointer (some ⟨g4, 0, none⟩))]) (by kernel_rfl) ?_
          refine gl_loadB (T' := 3) (xp := (.tmp 24)) (v := .int .i64 y2.1.f0) (g := g4) (off := 0) (cs := #[.int .i64 y2.1.f0, .string y2.1.f1, .int .i64 y2.1.f2]) (e := 28) (fz := (0, 0)) (by kernel_rfl) (by kernel_rfl) (by kernel_rfl) List.mem_cons_self (by kernel_rfl) ?_
          refine gl_pure 4 [4] (K' := [(4, .bool (y2.1.f0 == a1))]) (by kernel_rfl) ?_
          refine gl_atE (by kernel_rfl) ?_
          exact ge_mid fun t ht => ⟨(Imm.refl _), rfl, by rw [(show b7 = (y2.1.f0 == a1) from hb8.trans (by rw [hc10, hc11]; try rfl))]; exact ht.pick (l := [4]) (by kernel_rfl)⟩
        · refine gl_pure 6 [4] (K' := [(4, .bool false)]) (by kernel_rfl) ?_
          refine gl_atE (by kernel_rfl) ?_
          exact ge_mid fun t ht => ⟨(Imm.refl _), rfl, by rw [(show b7 = false from hb8.trans (by rw [hc10, hc11]; try rfl))]; exact ht.pick (l := [4]) (by kernel_rfl)⟩
      · refine gl_pure 12 [4] (K' := [(4, .bool false)]) (by kernel_rfl) ?_
        refine gl_atE (by kernel_rfl) ?_
        exact ge_mid fun t ht => ⟨(Imm.refl _), rfl, by rw [(show b7 = false from hb8.trans (by rw [hc10]; try rfl))]; exact ht.pick (l := [4]) (by kernel_rfl)⟩
    · rintro t I9 L' ⟨hI5, rfl, hK6⟩
      subst hb8
      refine ge_at hK6 ?_
      refine ge_seq ?_
      refine gk_reord (D := L) (Reord.skip (Reord.refl _)) ?_
      refine gk_ret (by kernel_rfl) ?_
      obtain rfl := some_inj hr
      exact ge_result trivial (ResOk.tmp (by kernel_rfl) ResOk.nil) hI5 ⟨rfl, rfl⟩
/-! 14 tocsinref13_Join  -/
noncomputable def tocsinref13_Join_l29 (a0 : List S27) : ((List Int) × Int × Int) → Option (((List Int) × Int × Int) ⊕ (((List Int) × Int) ⊕ (ByteArray × Int))) := fun s11 =>
  bif (decide (s11.2.2 < (a0.length : Int))) then
  (Option.bind ((Option.bind (ix a0 s11.2.2) fun (x42 : S27) =>
      Option.bind (ix a0 s11.2.2) fun (x50 : S27) =>
      bif (x50.f0 == 0) then
      (bif ((!(x42.f1.toList == (⟨#[]⟩ : ByteArray).toList)) || (decide (s11.2.2 < (IntKind.wrap .i64 ((a0.length : Int) - 1))))) then
        (some (Sum.inr (Sum.inr (Sum.inr ((⟨#[]⟩ : ByteArray), 130)))))
        else
        (some (Sum.inl (s11.1, s11.2.1))))
      else
      (Option.bind ((bif (x50.f0 == 4) then
          (Option.bind (tocsinref13_Quote x42.f1) fun (y73 : ByteArray × Int) =>
            bif (y73.2 != 0) then
            (some (Sum.inr (Sum.inr (Sum.inr (Sum.inr ((⟨#[]⟩ : ByteArray), 130))))))
            else
            (some (Sum.inl y73.1)))
          else
          (Option.bind (ix a0 s11.2.2) fun (x76 : S27) =>
            Option.bind (tocsinref13_alone x42.f1 x76.f0) fun (y84 : Bool) =>
            bif (!y84) then
            (some (Sum.inr (Sum.inr (Sum.inr (Sum.inr ((⟨#[]⟩ : ByteArray), 130))))))
            else
            (some (Sum.inl x42.f1))) : Option ((ByteArray) ⊕ (((List Int) × Int) ⊕ (((List Int) × Int × Int) ⊕ (((List Int) × Int) ⊕ (ByteArray × Int))))))) fun (j66 : (ByteArray) ⊕ (((List Int) × Int) ⊕ (((List Int) × Int × Int) ⊕ (((List Int) × Int) ⊕ (ByteArray × Int))))) =>
        match j66 with
        | Sum.inl j68 => Option.bind (bif (decide (s11.2.1 > 0)) then
            (Option.bind (app s11.1 [32]) fun (zs101 : List Int) =>
              some zs101)
            else
            (some s11.1)) fun (j87 : (List Int)) =>
          Option.bind (app j87 (bytesOf j68)) fun (zs107 : List Int) =>
          some (Sum.inl (zs107, (IntKind.wrap .i64 (s11.2.1 + 1))))
        | Sum.inr v113 => some v113) : Option (((List Int) × Int) ⊕ (((List Int) × Int × Int) ⊕ (((List Int) × Int) ⊕ (ByteArray × Int)))))) fun (j32 : ((List Int) × Int) ⊕ (((List Int) × Int × Int) ⊕ (((List Int) × Int) ⊕ (ByteArray × Int)))) =>
    match j32 with
    | Sum.inl j34 => some (Sum.inl (j34.1, j34.2, (IntKind.wrap .i64 (s11.2.2 + 1))))
    | Sum.inr v114 => some v114)
  else
  (some (Sum.inr (Sum.inl (s11.1, s11.2.1))))
noncomputable def tocsinref13_Join (a0 : List S27) : Option (ByteArray × Int) :=
  Option.bind (loopO (tocsinref13_Join_l29 a0) ([], 0, 0)) fun (r9 : ((List Int) × Int) ⊕ (ByteArray × Int)) =>
  match r9 with
  | Sum.inl r21 => bif (decide ((r21.1.length : Int) > 65536)) then
    (some ((⟨#[]⟩ : ByteArray), 4))
    else
    (bif (decide ((IntKind.wrap .i64 (r21.2 + 1)) > 4096)) then
      (some ((⟨#[]⟩ : ByteArray), 7))
      else
      (some ((ofBytes r21.1), 0)))
  | Sum.inr v117 => some v117
theorem tocsinref13_Join_walk {a0 : List S27} {A0_0 : Option Addr} {n0_0 : Nat} {I : Imm} {r : ByteArray × Int}  (hf0_0 : RepS kS27 I A0_0 n0_0 a0) (hr : tocsinref13_Join a0 = some r) (L : Own) :
    CallsTo Tryd.prog 14 #[.slice A0_0 a0.length n0_0] I L (fun v I' L' => v = .tuple #[.string r.1, .int .i64 r.2] ∧ L = L') := by
  unfold tocsinref13_Join at hr
  refine callsTo_body (N := 73) Tryd.func14 (by kernel_rfl) (by kernel_rfl) (by kernel_rfl) ?_
  refine gk_pick [0] (K' := [(0, .slice A0_0 a0.length n0_0)]) (by kernel_rfl) ?_
  refine gk_seq (by kernel_rfl) ?_
  refine gk_region (by kernel_rfl) ?_
  refine gl_pure 2 [0] (K' := [(0, .slice A0_0 a0.length n0_0)]) (by kernel_rfl) ?_
  refine gl_atE (by kernel_rfl) ?_
  refine ge_seq ?_
  refine gk_seq (by kernel_rfl) ?_
  refine gk_region (by kernel_rfl) ?_
  refine gl_pure 1 [0, 4] (K' := [(0, .slice A0_0 a0.length n0_0), (4, .slice none 0 0)]) (by kernel_rfl) ?_
  refine gl_atE (by kernel_rfl) ?_
  refine ge_seq ?_
  refine gk_seq (by kernel_rfl) ?_
  refine gk_region (by kernel_rfl) ?_
  refine gl_pure 1 [0, 4, 5] (K' := [(0, .slice A0_0 a0.length n0_0), (4, .slice none 0 0), (5, .int .i64 0)]) (by kernel_rfl) ?_
  refine gl_atE (by kernel_rfl) ?_
  refine ge_seq ?_
  refine gk_seq (by kernel_rfl) ?_
  refine gk_seq (by kernel_rfl) ?_
  refine gk_region (by kernel_rfl) ?_
  refine gl_pure 1 [0, 4, 5, 6] (K' := [(0, .slice A0_0 a0.length n0_0), (4, .slice none 0 0), (5, .int .i64 0), (6, .int .i64 0)]) (by kernel_rfl) ?_
  refine gl_atE (by kernel_rfl) ?_
  refine ge_seq ?_
  obtain ⟨r9, hl10, hr⟩ := bind_some hr
  refine gk_join (fun t I' L' => ∃ r21, r9 = Sum.inl r21 ∧ ∃ A23 n24 C25, OwnS (Kd.int .u8) 5 I' A23 n24 r21.1 C25 ∧ I ≤ I' ∧ C25 ++ L = L' ∧ Knows 73 [(4, .slice A23 r21.1.length n24), (5, .int .i64 r21.2)] t) ?_ ?_
  · refine gk_block (by kernel_rfl) ?_
    refine gk_pick [0, 4, 5, 6] (K' := [(0, .slice A0_0 a0.length n0_0), (4, .slice none 0 0), (5, .int .i64 0), (6, .int .i64 0)]) (by kernel_rfl) ?_
    intro t hK
    refine gc_loop (tocsinref13_Join_l29 a0) (fun s11 t I' L' => ∃ A15 n16 C17, OwnS (Kd.int .u8) 5 I' A15 n16 s11.1 C17 ∧ I ≤ I' ∧ C17 ++ L = L' ∧ Knows 73 [(0, .slice A0_0 a0.length n0_0), (4, .slice A15 s11.1.length n16), (5, .int .i64 s11.2.1), (6, .int .i64 s11.2.2)] t) (by kernel_rfl) ?_ hl10 ⟨none, 0, [], OwnS.nil _ _ _ _, (Imm.refl _), rfl, hK⟩
    rintro s11 o12 t I20 L' hb13 ⟨A15, n16, C17, hO18, hI14, rfl, hK19⟩
    unfold tocsinref13_Join_l29 at hb13
    refine gk_at hK19 ?_
    refine gk_seq (by kernel_rfl) ?_
    refine gk_seq (by kernel_rfl) ?_
    refine gk_region (by kernel_rfl) ?_
    refine gl_pure 4 [0, 4, 5, 6, 13] (K' := [(0, .slice A0_0 a0.length n0_0), (4, .slice A15 s11.1.length n16), (5, .int .i64 s11.2.1), (6, .int .i64 s11.2.2), (13, .bool (decide (s11.2.2 < (a0.length : Int))))]) (by kernel_rfl) ?_
    refine gl_atE (by kernel_rfl) ?_
    refine ge_seq ?_
    refine gk_cond (b := (decide (s11.2.2 < (a0.length : Int)))) (by kernel_rfl) (by kernel_rfl) (fun hc31 => ?_) (fun hc31 => ?_)
    · have hb13 := cond_t hc31 hb13
      refine gk_skip (by kernel_rfl) ?_
      refine ge_seq ?_
      refine gk_seq (by kernel_rfl) ?_
      obtain ⟨j32, hj33, hb13⟩ := bind_some hb13
      refine gk_join (fun t I' L' => ∃ j34, j32 = Sum.inl j34 ∧ ∃ A36 n37 C38, OwnS (Kd.int .u8) 5 I' A36 n37 j34.1 C38 ∧ I20 ≤ I' ∧ C38 ++ L = L' ∧ Knows 73 [(0, .slice A0_0 a0.length n0_0), (4, .slice A36 j34.1.length n37), (5, .int .i64 j34.2), (6, .int .i64 s11.2.2)] t) ?_ ?_
      · refine gk_block (by kernel_rfl) ?_
        refine gk_seq (by kernel_rfl) ?_
        refine gk_region (by kernel_rfl) ?_
        refine gl_pure 2 [0, 4, 5, 6, 16, 17] (K' := [(0, .slice A0_0 a0.length n0_0), (4, .slice A15 s11.1.length n16), (5, .int .i64 s11.2.1), (6, .int .i64 s11.2.2), (16, .slice A0_0 a0.length n0_0), (17, .int .i64 s11.2.2)]) (by kernel_rfl) ?_
        obtain ⟨x42, hx43, hj33⟩ := bind_some hj33
        obtain ⟨p44, cs45, hR46, hA47, ha48⟩ := RepS.ixAt hx43 (hf0_0.mono hI14)
        have hi49 := ix_some hx43
        obtain rfl := kS27_open hR46
        refine gl_indexAddrF (c := n0_0) (T' := 22) (e := 28) (xs := (.tmp 16)) (xi := (.tmp 17)) (kd := .i64) ha48 hi49.1 hi49.2.1 (by kernel_rfl) (by kernel_rfl) (by kernel_rfl) (by kernel_rfl) (by kernel_rfl) ?_
        refine gl_pure 1 [0, 4, 5, 6, 19] (K' := [(0, .slice A0_0 a0.length n0_0), (4, .slice A15 s11.1.length n16), (5, .int .i64 s11.2.1), (6, .int .i64 s11.2.2), (19, .pointer (some (p44.add 1)))]) (by kernel_rfl) ?_
        refine gl_load (T' := 9) (xp := (.tmp 19)) (p := (p44.add 1)) (c := .string x42.f1) (n := 1) (by kernel_rfl) (by kernel_rfl) (by kernel_rfl) (by kernel_rfl) (hA47.drop 1) ?_
        refine gl_pure 1 [0, 4, 5, 6, 7] (K' := [(0, .slice A0_0 a0.length n0_0), (4, .slice A15 s11.1.length n16), (5, .int .i64 s11.2.1), (6, .int .i64 s11.2.2), (7, .string x42.f1)]) (by kernel_rfl) ?_
        refine gl_atE (by kernel_rfl) ?_
        refine ge_seq ?_
        refine gk_seq (by kernel_rfl) ?_
        refine gk_seq (by kernel_rfl) ?_
        refine gk_region (by kernel_rfl) ?_
        refine gl_pure 2 [0, 4, 5, 6, 7, 21, 22] (K' := [(0, .slice A0_0 a0.length n0_0), (4, .slice A15 s11.1.length n16), (5, .int .i64 s11.2.1), (6, .int .i64 s11.2.2), (7, .string x42.f1), (21, .slice A0_0 a0.length n0_0), (22, .int .i64 s11.2.2)]) (by kernel_rfl) ?_
        obtain ⟨x50, hx51, hj33⟩ := bind_some hj33
        obtain ⟨p52, cs53, hR54, hA55, ha56⟩ := RepS.ixAt hx51 (hf0_0.mono hI14)
        have hi57 := ix_some hx51
        obtain rfl := kS27_open hR54
        refine gl_indexAddrF (c := n0_0) (T' := 22) (e := 28) (xs := (.tmp 21)) (xi := (.tmp 22)) (kd := .i64) ha56 hi57.1 hi57.2.1 (by kernel_rfl) (by kernel_rfl) (by kernel_rfl) (by kernel_rfl) (by kernel_rfl) ?_
        refine gl_pure 1 [0, 4, 5, 6, 7, 24] (K' := [(0, .slice A0_0 a0.length n0_0), (4, .slice A15 s11.1.length n16), (5, .int .i64 s11.2.1), (6, .int .i64 s11.2.2), (7, .string x42.f1), (24, .pointer (some (p52.add 0)))]) (by kernel_rfl) ?_
        refine gl_load (T' := 3) (xp := (.tmp 24)) (p := (p52.add 0)) (c := .int .i64 x50.f0) (n := 1) (by kernel_rfl) (by kernel_rfl) (by kernel_rfl) (by kernel_rfl) (hA55.drop 0) ?_
        refine gl_atE (by kernel_rfl) ?_
        refine ge_seq ?_
        refine gk_block (by kernel_rfl) ?_
        refine gk_seq (by kernel_rfl) ?_
        refine gk_region (by kernel_rfl) ?_
        refine gl_pure 2 [0, 4, 5, 6, 7, 25, 34] (K' := [(0, .slice A0_0 a0.length n0_0), (4, .slice A15 s11.1.length n16), (5, .int .i64 s11.2.1), (6, .int .i64 s11.2.2), (7, .string x42.f1), (25, .int .i64 x50.f0), (34, .bool (x50.f0 == 0))]) (by kernel_rfl) ?_
        refine gl_atE (by kernel_rfl) ?_
        refine ge_seq ?_
        refine gk_cond (b := (x50.f0 == 0)) (by kernel_rfl) (by kernel_rfl) (fun hc58 => ?_) (fun hc58 => ?_)
        · have hj33 := cond_t hc58 hj33
          refine gk_seq (by kernel_rfl) ?_
          refine gk_seq (by kernel_rfl) ?_
          obtain ⟨b61, hb62⟩ : ∃ z, z = ((!(x42.f1.toList == (⟨#[]⟩ : ByteArray).toList)) || (decide (s11.2.2 < (IntKind.wrap .i64 ((a0.length : Int) - 1))))) := ⟨_, rfl⟩
          refine gk_join (fun t I' L' => I20 ≤ I' ∧ C17 ++ L = L' ∧ Knows 73 [(0, .slice A0_0 a0.length n0_0), (4, .slice A15 s11.1.length n16), (5, .int .i64 s11.2.1), (6, .int .i64 s11.2.2), (44, .bool b61)] t) ?_ ?_
          · refine gk_region (by kernel_rfl) ?_
            refine gl_pure 3 [0, 4, 5, 6, 38] (K' := [(0, .slice A0_0 a0.length n0_0), (4, .slice A15 s11.1.length n16), (5, .int .i64 s11.2.1), (6, .int .i64 s11.2.2), (38, .bool (!(x42.f1.toList == (⟨#[]⟩ : ByteArray).toList)))]) (by kernel_rfl) ?_
            refine gl_case 38 (b := (!(x42.f1.toList == (⟨#[]⟩ : ByteArray).toList))) (by kernel_rfl) (fun hc64 => ?_) (fun hc64 => ?_)
            · refine gl_pure 6 [0, 4, 5, 6, 44] (K' := [(0, .slice A0_0 a0.length n0_0), (4, .slice A15 s11.1.length n16), (5, .int .i64 s11.2.1), (6, .int .i64 s11.2.2), (44, .bool true)]) (by kernel_rfl) ?_
              refine gl_atE (by kernel_rfl) ?_
              exact ge_mid fun t ht => ⟨(Imm.refl _), rfl, by rw [(show b61 = true from hb62.trans (by rw [hc64]; try rfl))]; exact ht.pick (l := [0, 4, 5, 6, 44]) (by kernel_rfl)⟩
            · refine gl_pure 6 [0, 4, 5, 6, 44] (K' := [(0, .slice A0_0 a0.length n0_0), (4, .slice A15 s11.1.length n16), (5, .int .i64 s11.2.1), (6, .int .i64 s11.2.2), (44, .bool (decide (s11.2.2 < (IntKind.wrap .i64 ((a0.length : Int) - 1)))))]) (by kernel_rfl) ?_
              refine gl_atE (by kernel_rfl) ?_
              exact ge_mid fun t ht => ⟨(Imm.refl _), rfl, by rw [(show b61 = (decide (s11.2.2 < (IntKind.wrap .i64 ((a0.length : Int) - 1)))) from hb62.trans (by rw [hc64]; try rfl))]; exact ht.pick (l := [0, 4, 5, 6, 44]) (by kernel_rfl)⟩
          · rintro t I63 L' ⟨hI59, rfl, hK60⟩
            subst hb62
            refine ge_at hK60 ?_
            refine ge_seq ?_
            refine gk_cond (b := ((!(x42.f1.toList == (⟨#[]⟩ : ByteArray).toList)) || (decide (s11.2.2 < (IntKind.wrap .i64 ((a0.length : Int) - 1)))))) (by kernel_rfl) (by kernel_rfl) (fun hc65 => ?_) (fun hc65 => ?_)
            · have hj33 := cond_t hc65 hj33
              refine gk_seq (by kernel_rfl) ?_
              refine gk_region (by kernel_rfl) ?_
              refine gl_pure 2 [2, 3] (K' := [(2, .string (⟨#[]⟩ : ByteArray)), (3, .int .i64 130)]) (by kernel_rfl) ?_
              refine gl_atE (by kernel_rfl) ?_
              refine ge_seq ?_
              refine gk_reord (D := L) (Reord.skipC (Reord.refl _)) ?_
              refine gk_ret (by kernel_rfl) ?_
              refine ge_seq_ret ?_
              refine ge_block_ret ?_
              refine ge_seq_ret ?_
              refine ge_block_ret ?_
              refine ge_seq_ret ?_
              obtain rfl := some_inj hj33
              refine ge_seq_ret ?_
              obtain rfl := some_inj hb13
              refine ge_round_out (fun hrr => ?_) (by intro h; cases h)
              obtain rfl := hrr
              refine ge_block_ret ?_
              refine ge_seq_ret ?_
              refine ge_seq_ret ?_
              obtain rfl := some_inj hr
              exact ge_result trivial (ResOk.tmp (by kernel_rfl) (ResOk.tmp (by kernel_rfl) ResOk.nil)) (Imm.trans hI14 hI59) ⟨rfl, rfl⟩
            · have hj33 := cond_f hc65 hj33
              refine gk_skip (by kernel_rfl) ?_
              refine ge_seq ?_
              refine gk_exit (by kernel_rfl) ?_
              refine ge_block_miss (by kernel_rfl) ?_
              refine ge_seq_exit ?_
              refine ge_block_hit (by kernel_rfl) ?_
              obtain rfl := some_inj hj33
              exact ge_mid fun t ht => ⟨_, rfl, A15, n16, C17, (hO18.mono hI59), hI59, rfl, ht.pick (l := [0, 4, 5, 6]) (by kernel_rfl)⟩
        · have hj33 := cond_f hc58 hj33
          refine gk_seq (by kernel_rfl) ?_
          refine gk_region (by kernel_rfl) ?_
          refine gl_pure 2 [0, 4, 5, 6, 7, 45] (K' := [(0, .slice A0_0 a0.length n0_0), (4, .slice A15 s11.1.length n16), (5, .int .i64 s11.2.1), (6, .int .i64 s11.2.2), (7, .string x42.f1), (45, .bool (x50.f0 == 4))]) (by kernel_rfl) ?_
          refine gl_atE (by kernel_rfl) ?_
          refine ge_seq ?_
          obtain ⟨j66, hj67, hj33⟩ := bind_some hj33
          refine gk_join (fun t I' L' => ∃ j68, j66 = Sum.inl j68 ∧ I20 ≤ I' ∧ C17 ++ L = L' ∧ Knows 73 [(0, .slice A0_0 a0.length n0_0), (4, .slice A15 s11.1.length n16), (5, .int .i64 s11.2.1), (6, .int .i64 s11.2.2), (7, .string j68)] t) ?_ ?_
          · refine gk_cond (b := (x50.f0 == 4)) (by kernel_rfl) (by kernel_rfl) (fun hc72 => ?_) (fun hc72 => ?_)
            · have hj67 := cond_t hc72 hj67
              refine gk_seq (by kernel_rfl) ?_
              refine gk_region (by kernel_rfl) ?_
              refine gl_pure 1 [0, 4, 5, 6, 48] (K' := [(0, .slice A0_0 a0.length n0_0), (4, .slice A15 s11.1.length n16), (5, .int .i64 s11.2.1), (6, .int .i64 s11.2.2), (48, .string x42.f1)]) (by kernel_rfl) ?_
              obtain ⟨y73, hx74, hj67⟩ := bind_some hj67
              refine gl_callQ (by kernel_rfl) (tocsinref13_Quote_walk (r := y73)  hx74 _) ?_
              refine gl_pure 5 [0, 4, 5, 6, 8, 9] (K' := [(0, .slice A0_0 a0.length n0_0), (4, .slice A15 s11.1.length n16), (5, .int .i64 s11.2.1), (6, .int .i64 s11.2.2), (8, .string y73.1), (9, .int .i64 y73.2)]) (by kernel_rfl) ?_
              refine gl_atE (by kernel_rfl) ?_
              refine ge_seq ?_
              refine gk_seq (by kernel_rfl) ?_
              refine gk_seq (by kernel_rfl) ?_
              refine gk_region (by kernel_rfl) ?_
              refine gl_pure 2 [0, 4, 5, 6, 8, 53] (K' := [(0, .slice A0_0 a0.length n0_0), (4, .slice A15 s11.1.length n16), (5, .int .i64 s11.2.1), (6, .int .i64 s11.2.2), (8, .string y73.1), (53, .bool (y73.2 != 0))]) (by kernel_rfl) ?_
              refine gl_atE (by kernel_rfl) ?_
              refine ge_seq ?_
              refine gk_cond (b := (y73.2 != 0)) (by kernel_rfl) (by kernel_rfl) (fun hc75 => ?_) (fun hc75 => ?_)
              · have hj67 := cond_t hc75 hj67
                refine gk_seq (by kernel_rfl) ?_
                refine gk_region (by kernel_rfl) ?_
                refine gl_pure 2 [2, 3] (K' := [(2, .string (⟨#[]⟩ : ByteArray)), (3, .int .i64 130)]) (by kernel_rfl) ?_
                refine gl_atE (by kernel_rfl) ?_
                refine ge_seq ?_
                refine gk_reord (D := L) (Reord.skipC (Reord.refl _)) ?_
                refine gk_ret (by kernel_rfl) ?_
                refine ge_seq_ret ?_
                refine ge_seq_ret ?_
                obtain rfl := some_inj hj67
                refine ge_block_ret ?_
                refine ge_seq_ret ?_
                refine ge_block_ret ?_
                refine ge_seq_ret ?_
                obtain rfl := some_inj hj33
                refine ge_seq_ret ?_
                obtain rfl := some_inj hb13
                refine ge_round_out (fun hrr => ?_) (by intro h; cases h)
                obtain rfl := hrr
                refine ge_block_ret ?_
                refine ge_seq_ret ?_
                refine ge_seq_ret ?_
                obtain rfl := some_inj hr
                exact ge_result trivial (ResOk.tmp (by kernel_rfl) (ResOk.tmp (by kernel_rfl) ResOk.nil)) hI14 ⟨rfl, rfl⟩
              · have hj67 := cond_f hc75 hj67
                refine gk_skip (by kernel_rfl) ?_
                refine ge_seq ?_
                refine gk_region (by kernel_rfl) ?_
                refine gl_pure 2 [0, 4, 5, 6, 7] (K' := [(0, .slice A0_0 a0.length n0_0), (4, .slice A15 s11.1.length n16), (5, .int .i64 s11.2.1), (6, .int .i64 s11.2.2), (7, .string y73.1)]) (by kernel_rfl) ?_
                refine gl_atE (by kernel_rfl) ?_
                obtain rfl := some_inj hj67
                exact ge_mid fun t ht => ⟨_, rfl, (Imm.refl _), rfl, ht.pick (l := [0, 4, 5, 6, 7]) (by kernel_rfl)⟩
            · have hj67 := cond_f hc72 hj67
              refine gk_seq (by kernel_rfl) ?_
              refine gk_region (by kernel_rfl) ?_
              refine gl_pure 3 [0, 4, 5, 6, 7, 26, 27, 28] (K' := [(0, .slice A0_0 a0.length n0_0), (4, .slice A15 s11.1.length n16), (5, .int .i64 s11.2.1), (6, .int .i64 s11.2.2), (7, .string x42.f1), (26, .string x42.f1), (27, .slice A0_0 a0.length n0_0), (28, .int .i64 s11.2.2)]) (by kernel_rfl) ?_
              obtain ⟨x76, hx77, hj67⟩ := bind_some hj67
              obtain ⟨p78, cs79, hR80, hA81, ha82⟩ := RepS.ixAt hx77 (hf0_0.mono hI14)
              have hi83 := ix_some hx77
              obtain rfl := kS27_open hR80
              refine gl_indexAddrF (c := n0_0) (T' := 22) (e := 28) (xs := (.tmp 27)) (xi := (.tmp 28)) (kd := .i64) ha82 hi83.1 hi83.2.1 (by kernel_rfl) (by kernel_rfl) (by kernel_rfl) (by kernel_rfl) (by kernel_rfl) ?_
              refine gl_pure 1 [0, 4, 5, 6, 7, 26, 30] (K' := [(0, .slice A0_0 a0.length n0_0), (4, .slice A15 s11.1.length n16), (5, .int .i64 s11.2.1), (6, .int .i64 s11.2.2), (7, .string x42.f1), (26, .string x42.f1), (30, .pointer (some (p78.add 0)))]) (by kernel_rfl) ?_
              refine gl_load (T' := 3) (xp := (.tmp 30)) (p := (p78.add 0)) (c := .int .i64 x76.f0) (n := 1) (by kernel_rfl) (by kernel_rfl) (by kernel_rfl) (by kernel_rfl) (hA81.drop 0) ?_
              obtain ⟨y84, hx85, hj67⟩ := bind_some hj67
              refine gl_callQ (by kernel_rfl) (tocsinref13_alone_walk (r := y84)  hx85 _) ?_
              refine gl_pure 1 [0, 4, 5, 6, 7, 33] (K' := [(0, .slice A0_0 a0.length n0_0), (4, .slice A15 s11.1.length n16), (5, .int .i64 s11.2.1), (6, .int .i64 s11.2.2), (7, .string x42.f1), (33, .bool (!y84))]) (by kernel_rfl) ?_
              refine gl_atE (by kernel_rfl) ?_
              refine ge_seq ?_
              refine gk_cond (b := (!y84)) (by kernel_rfl) (by kernel_rfl) (fun hc86 => ?_) (fun hc86 => ?_)
              · have hj67 := cond_t hc86 hj67
                refine gk_seq (by kernel_rfl) ?_
                refine gk_region (by kernel_rfl) ?_
                refine gl_pure 2 [2, 3] (K' := [(2, .string (⟨#[]⟩ : ByteArray)), (3, .int .i64 130)]) (by kernel_rfl) ?_
                refine gl_atE (by kernel_rfl) ?_
                refine ge_seq ?_
                refine gk_reord (D := L) (Reord.skipC (Reord.refl _)) ?_
                refine gk_ret (by kernel_rfl) ?_
                refine ge_seq_ret ?_
                obtain rfl := some_inj hj67
                refine ge_block_ret ?_
                refine ge_seq_ret ?_
                refine ge_block_ret ?_
                refine ge_seq_ret ?_
                obtain rfl := some_inj hj33
                refine ge_seq_ret ?_
                obtain rfl := some_inj hb13
                refine ge_round_out (fun hrr => ?_) (by intro h; cases h)
                obtain rfl := hrr
                refine ge_block_ret ?_
                refine ge_seq_ret ?_
                refine ge_seq_ret ?_
                obtain rfl := some_inj hr
                exact ge_result trivial (ResOk.tmp (by kernel_rfl) (ResOk.tmp (by kernel_rfl) ResOk.nil)) hI14 ⟨rfl, rfl⟩
              · have hj67 := cond_f hc86 hj67
                refine gk_skip (by kernel_rfl) ?_
                obtain rfl := some_inj hj67
                exact ge_mid fun t ht => ⟨_, rfl, (Imm.refl _), rfl, ht.pick (l := [0, 4, 5, 6, 7]) (by kernel_rfl)⟩
          · rintro t I71 L' ⟨j68, rfl, hI69, rfl, hK70⟩
            refine ge_at hK70 ?_
            refine ge_block_normal ?_
            refine ge_seq ?_
            refine gk_seq (by kernel_rfl) ?_
            refine gk_seq (by kernel_rfl) ?_
            refine gk_region (by kernel_rfl) ?_
            refine gl_pure 2 [0, 4, 5, 6, 7, 56] (K' := [(0, .slice A0_0 a0.length n0_0), (4, .slice A15 s11.1.length n16), (5, .int .i64 s11.2.1), (6, .int .i64 s11.2.2), (7, .string j68), (56, .bool (decide (s11.2.1 > 0)))]) (by kernel_rfl) ?_
            refine gl_atE (by kernel_rfl) ?_
            refine ge_seq ?_
            obtain ⟨j87, hj88, hj33⟩ := bind_some hj33
            refine gk_join (fun t I' L' => ∃ A90 n91 C92, OwnS (Kd.int .u8) 5 I' A90 n91 j87 C92 ∧ I71 ≤ I' ∧ C92 ++ L = L' ∧ Knows 73 [(0, .slice A0_0 a0.length n0_0), (4, .slice A90 j87.length n91), (5, .int .i64 s11.2.1), (6, .int .i64 s11.2.2), (7, .string j68)] t) ?_ ?_
            · refine gk_cond (b := (decide (s11.2.1 > 0))) (by kernel_rfl) (by kernel_rfl) (fun hc96 => ?_) (fun hc96 => ?_)
              · have hj88 := cond_t hc96 hj88
                refine gk_region (by kernel_rfl) ?_
                refine gl_pure 1 [0, 5, 6, 7, 57] (K' := [(0, .slice A0_0 a0.length n0_0), (5, .int .i64 s11.2.1), (6, .int .i64 s11.2.2), (7, .string j68), (57, .slice A15 s11.1.length n16)]) (by kernel_rfl) ?_
                refine gl_buildSlice (T' := 41) (e := 5) (n := 1) (len := 1) (parts := #[(0, (.const (.int .u8 32)))]) (l := [(0, .int .u8 32)]) (cs := #[.int .u8 32]) (by kernel_rfl) (by kernel_rfl) (by kernel_rfl) (by kernel_rfl) (by kernel_rfl) (fun g97 => ?_)
                have hO98 : OwnS (Kd.int .u8) 5 I71 (some ⟨g97, 0, none⟩) 1 [32] [(g97, .cells #[.int .u8 32] 5)] := OwnS.lit (row_cons (l := [.int .u8 32]) rfl (row_nil _ _)) rfl rfl rfl
                refine gl_reord (D := [(g97, .cells #[.int .u8 32] 5)] ++ (C17 ++ L)) (Reord.refl _) ?_
                obtain ⟨zs101, hz102, hj88⟩ := bind_some hj88
                refine gl_append (xv := .slice (some ⟨g97, 0, none⟩) [32].length 1) (d := (Kd.int .u8)) (t := 41) (tx := 41) (e := 5) (s := (.tmp 57)) (x := (.tmp 58)) (xs := s11.1) (fun X => [(g97, .cells #[.int .u8 32] 5)] ++ (X ++ L)) hz102 (by kernel_rfl) (by kernel_rfl) (by kernel_rfl) (by kernel_rfl) (by kernel_rfl) (by kernel_rfl) (fun X => (Upd.app _ (Upd.head _ X _))) (hO18.mono hI69) (SrcOk.slice (c := 1) (e := 5) (n := 1) (OwnS.rd hO98 (Upd.selfC _ _)) (by kernel_rfl)) (fun A103 n104 C105 hO106 => ?_)
                refine gl_pure 1 [0, 4, 5, 6, 7] (K' := [(0, .slice A0_0 a0.length n0_0), (4, .slice A103 zs101.length n104), (5, .int .i64 s11.2.1), (6, .int .i64 s11.2.2), (7, .string j68)]) (by kernel_rfl) ?_
                refine gl_reord (D := C105 ++ L) (Reord.step (Upd.app _ (Upd.rmC _ _)) (Reord.skipC (Reord.refl _))) ?_
                refine gl_atE (by kernel_rfl) ?_
                obtain rfl := some_inj hj88
                exact ge_mid fun t ht => ⟨A103, n104, C105, hO106, (Imm.refl _), rfl, ht.pick (l := [0, 4, 5, 6, 7]) (by kernel_rfl)⟩
              · have hj88 := cond_f hc96 hj88
                refine gk_skip (by kernel_rfl) ?_
                obtain rfl := some_inj hj88
                exact ge_mid fun t ht => ⟨A15, n16, C17, (hO18.mono hI69), (Imm.refl _), rfl, ht.pick (l := [0, 4, 5, 6, 7]) (by kernel_rfl)⟩
            · rintro t I95 L' ⟨A90, n91, C92, hO93, hI89, rfl, hK94⟩
              refine ge_at hK94 ?_
              refine ge_seq ?_
              refine gk_seq (by kernel_rfl) ?_
              refine gk_region (by kernel_rfl) ?_
              refine gl_pure 2 [0, 5, 6, 60, 61] (K' := [(0, .slice A0_0 a0.length n0_0), (5, .int .i64 s11.2.1), (6, .int .i64 s11.2.2), (60, .slice A90 j87.length n91), (61, .string j68)]) (by kernel_rfl) ?_
              obtain ⟨zs107, hz108, hj33⟩ := bind_some hj33
              refine gl_append (xv := .string j68) (d := (Kd.int .u8)) (t := 41) (tx := 9) (e := 5) (s := (.tmp 60)) (x := (.tmp 61)) (xs := j87) (fun X => X ++ L) hz108 (by kernel_rfl) (by kernel_rfl) (by kernel_rfl) (by kernel_rfl) (by kernel_rfl) (by kernel_rfl) (fun X => (Upd.head _ X _)) hO93 (SrcOk.str (by kernel_rfl)) (fun A109 n110 C111 hO112 => ?_)
              refine gl_pure 1 [0, 4, 5, 6] (K' := [(0, .slice A0_0 a0.length n0_0), (4, .slice A109 zs107.length n110), (5, .int .i64 s11.2.1), (6, .int .i64 s11.2.2)]) (by kernel_rfl) ?_
              refine gl_atE (by kernel_rfl) ?_
              refine ge_seq ?_
              refine gk_region (by kernel_rfl) ?_
              refine gl_pure 3 [0, 4, 5, 6] (K' := [(0, .slice A0_0 a0.length n0_0), (4, .slice A109 zs107.length n110), (5, .int .i64 (IntKind.wrap .i64 (s11.2.1 + 1))), (6, .int .i64 s11.2.2)]) (by kernel_rfl) ?_
              refine gl_atE (by kernel_rfl) ?_
              refine ge_block_normal ?_
              obtain rfl := some_inj hj33
              exact ge_mid fun t ht => ⟨_, rfl, A109, n110, C111, hO112, (Imm.trans hI69 hI89), rfl, ht.pick (l := [0, 4, 5, 6]) (by kernel_rfl)⟩
      · rintro t I41 L' ⟨j34, rfl, A36, n37, C38, hO39, hI35, rfl, hK40⟩
        refine ge_at hK40 ?_
        refine ge_seq ?_
        refine gk_region (by kernel_rfl) ?_
        refine gl_pure 3 [0, 4, 5, 6] (K' := [(0, .slice A0_0 a0.length n0_0), (4, .slice A36 j34.1.length n37), (5, .int .i64 j34.2), (6, .int .i64 (IntKind.wrap .i64 (s11.2.2 + 1)))]) (by kernel_rfl) ?_
        refine gl_atE (by kernel_rfl) ?_
        obtain rfl := some_inj hb13
        exact ge_round fun t ht => ⟨A36, n37, C38, hO39, (Imm.trans hI14 hI35), rfl, ht.pick (l := [0, 4, 5, 6]) (by kernel_rfl)⟩
    · have hb13 := cond_f hc31 hb13
      refine gk_exit (by kernel_rfl) ?_
      refine ge_seq_exit ?_
      obtain rfl := some_inj hb13
      refine ge_round_out (fun hrr => ?_) (by intro h; cases h)
      obtain rfl := hrr
      refine ge_block_hit (by kernel_rfl) ?_
      exact ge_mid fun t ht => ⟨_, rfl, A15, n16, C17, hO18, hI14, rfl, ht.pick (l := [4, 5]) (by kernel_rfl)⟩
  · rintro t I28 L' ⟨r21, rfl, A23, n24, C25, hO26, hI22, rfl, hK27⟩
    refine ge_at hK27 ?_
    refine ge_seq ?_
    refine gk_seq (by kernel_rfl) ?_
    refine gk_seq (by kernel_rfl) ?_
    refine gk_region (by kernel_rfl) ?_
    refine gl_pure 3 [4, 5, 67] (K' := [(4, .slice A23 r21.1.length n24), (5, .int .i64 r21.2), (67, .bool (decide ((r21.1.length : Int) > 65536)))]) (by kernel_rfl) ?_
    refine gl_atE (by kernel_rfl) ?_
    refine ge_seq ?_
    refine gk_cond (b := (decide ((r21.1.length : Int) > 65536))) (by kernel_rfl) (by kernel_rfl) (fun hc115 => ?_) (fun hc115 => ?_)
    · have hr := cond_t hc115 hr
      refine gk_seq (by kernel_rfl) ?_
      refine gk_region (by kernel_rfl) ?_
      refine gl_pure 2 [2, 3] (K' := [(2, .string (⟨#[]⟩ : ByteArray)), (3, .int .i64 4)]) (by kernel_rfl) ?_
      refine gl_atE (by kernel_rfl) ?_
      refine ge_seq ?_
      refine gk_reord (D := L) (Reord.skipC (Reord.refl _)) ?_
      refine gk_ret (by kernel_rfl) ?_
      refine ge_seq_ret ?_
      obtain rfl := some_inj hr
      exact ge_result trivial (ResOk.tmp (by kernel_rfl) (ResOk.tmp (by kernel_rfl) ResOk.nil)) hI22 ⟨rfl, rfl⟩
    · have hr := cond_f hc115 hr
      refine gk_skip (by kernel_rfl) ?_
      refine ge_seq ?_
      refine gk_seq (by kernel_rfl) ?_
      refine gk_seq (by kernel_rfl) ?_
      refine gk_region (by kernel_rfl) ?_
      refine gl_pure 3 [4, 70] (K' := [(4, .slice A23 r21.1.length n24), (70, .bool (decide ((IntKind.wrap .i64 (r21.2 + 1)) > 4096)))]) (by kernel_rfl) ?_
      refine gl_atE (by kernel_rfl) ?_
      refine ge_seq ?_
      refine gk_cond (b := (decide ((IntKind.wrap .i64 (r21.2 + 1)) > 4096))) (by kernel_rfl) (by kernel_rfl) (fun hc116 => ?_) (fun hc116 => ?_)
      · have hr := cond_t hc116 hr
        refine gk_seq (by kernel_rfl) ?_
        refine gk_region (by kernel_rfl) ?_
        refine gl_pure 2 [2, 3] (K' := [(2, .string (⟨#[]⟩ : ByteArray)), (3, .int .i64 7)]) (by kernel_rfl) ?_
        refine gl_atE (by kernel_rfl) ?_
        refine ge_seq ?_
        refine gk_reord (D := L) (Reord.skipC (Reord.refl _)) ?_
        refine gk_ret (by kernel_rfl) ?_
        refine ge_seq_ret ?_
        obtain rfl := some_inj hr
        exact ge_result trivial (ResOk.tmp (by kernel_rfl) (ResOk.tmp (by kernel_rfl) ResOk.nil)) hI22 ⟨rfl, rfl⟩
      · have hr := cond_f hc116 hr
        refine gk_skip (by kernel_rfl) ?_
        refine ge_seq ?_
        refine gk_seq (by kernel_rfl) ?_
        refine gk_region (by kernel_rfl) ?_
        refine gl_pure 1 [71] (K' := [(71, .slice A23 r21.1.length n24)]) (by kernel_rfl) ?_
        refine gl_bytesStr (c := n24) (src := 41) (dst := 9) (e := 5) (n := 1) (x := (.tmp 71)) (by kernel_rfl) (by kernel_rfl) (by kernel_rfl) (by kernel_rfl) (by kernel_rfl) (by kernel_rfl) (OwnS.rd hO26 (Upd.selfC _ _)) ?_
        refine gl_pure 2 [2, 3] (K' := [(2, .string (ofBytes r21.1)), (3, .int .i64 0)]) (by kernel_rfl) ?_
        refine gl_atE (by kernel_rfl) ?_
        refine ge_seq ?_
        refine gk_reord (D := L) (Reord.skipC (Reord.refl _)) ?_
        refine gk_ret (by kernel_rfl) ?_
        obtain rfl := some_inj hr
        exact ge_result trivial (ResOk.tmp (by kernel_rfl) (ResOk.tmp (by kernel_rfl) ResOk.nil)) hI22 ⟨rfl, rfl⟩
/-! 12 lex_Same  -/
noncomputable def lex_Same_l18 (a0 : List S27) (a1 : List S27) : Int → Option ((Int) ⊕ ((Unit) ⊕ (Bool))) := fun s8 =>
  bif (decide (s8 < (a0.length : Int))) then
  (Option.bind (ix a0 s8) fun (x21 : S27) =>
    Option.bind (Option.bind (ix a1 s8) fun (x35 : S27) =>
      bif (x21.f0 != x35.f0) then
      (some true)
      else
      (Option.bind (ix a1 s8) fun (x44 : S27) =>
        some (!(x21.f1.toList == x44.f1.toList)))) fun (j30 : Bool) =>
    bif j30 then
    (some (Sum.inr (Sum.inr false)))
    else
    (some (Sum.inl (IntKind.wrap .i64 (s8 + 1)))))
  else
  (some (Sum.inr (Sum.inl ())))
noncomputable def lex_Same (a0 : List S27) (a1 : List S27) : Option Bool :=
  bif ((a0.length : Int) != (a1.length : Int)) then
  (some false)
  else
  (Option.bind (loopO (lex_Same_l18 a0 a1) 0) fun (r6 : (Unit) ⊕ (Bool)) =>
    match r6 with
    | Sum.inl r14 => some true
    | Sum.inr v53 => some v53)
theorem lex_Same_walk {a0 : List S27} {A0_0 : Option Addr} {n0_0 : Nat} {a1 : List S27} {A1_0 : Option Addr} {n1_0 : Nat} {I : Imm} {r : Bool}  (hf0_0 : RepS kS27 I A0_0 n0_0 a0)  (hf1_0 : RepS kS27 I A1_0 n1_0 a1) (hr : lex_Same a0 a1 = some r) (L : Own) :
    CallsTo Tryd.prog 12 #[.slice A0_0 a0.length n0_0, .slice A1_0 a1.length n1_0] I L (fun v I' L' => v = .bool r ∧ L = L') := by
  unfold lex_Same at hr
  refine callsTo_body (N := 38) Tryd.func12 (by kernel_rfl) (by kernel_rfl) (by kernel_rfl) ?_
  refine gk_pick [0, 1] (K' := [(0, .slice A0_0 a0.length n0_0), (1, .slice A1_0 a1.length n1_0)]) (by kernel_rfl) ?_
  refine gk_seq (by kernel_rfl) ?_
  refine gk_region (by kernel_rfl) ?_
  refine gl_pure 1 [0, 1] (K' := [(0, .slice A0_0 a0.length n0_0), (1, .slice A1_0 a1.length n1_0)]) (by kernel_rfl) ?_
  refine gl_atE (by kernel_rfl) ?_
  refine ge_seq ?_
  refine gk_seq (by kernel_rfl) ?_
  refine gk_seq (by kernel_rfl) ?_
  refine gk_region (by kernel_rfl) ?_
  refine gl_pure 5 [0, 1, 11] (K' := [(0, .slice A0_0 a0.length n0_0), (1, .slice A1_0 a1.length n1_0), (11, .bool ((a0.length : Int) != (a1.length : Int)))]) (by kernel_rfl) ?_
  refine gl_atE (by kernel_rfl) ?_
  refine ge_seq ?_
  refine gk_cond (b := ((a0.length : Int) != (a1.length : Int))) (by kernel_rfl) (by kernel_rfl) (fun hc1 => ?_) (fun hc1 => ?_)
  · have hr := cond_t hc1 hr
    refine gk_seq (by kernel_rfl) ?_
    refine gk_region (by kernel_rfl) ?_
    refine gl_pure 1 [4] (K' := [(4, .bool false)]) (by kernel_rfl) ?_
    refine gl_atE (by kernel_rfl) ?_
    refine ge_seq ?_
    refine gk_ret (by kernel_rfl) ?_
    refine ge_seq_ret ?_
    obtain rfl := some_inj hr
    exact ge_result trivial (ResOk.tmp (by kernel_rfl) ResOk.nil) (Imm.refl _) ⟨rfl, rfl⟩
  · have hr := cond_f hc1 hr
    refine gk_skip (by kernel_rfl) ?_
    refine ge_seq ?_
    refine gk_seq (by kernel_rfl) ?_
    refine gk_seq (by kernel_rfl) ?_
    refine gk_region (by kernel_rfl) ?_
    refine gl_pure 3 [1, 12, 13, 14] (K' := [(1, .slice A1_0 a1.length n1_0), (12, .slice A0_0 a0.length n0_0), (13, .int .i64 (a0.length : Int)), (14, .int .i64 0)]) (by kernel_rfl) ?_
    refine gl_atE (by kernel_rfl) ?_
    refine ge_seq ?_
    obtain ⟨r6, hl7, hr⟩ := bind_some hr
    refine gk_join (fun t I' L' => ∃ r14, r6 = Sum.inl r14 ∧ I ≤ I' ∧ L = L' ∧ Knows 38 [] t) ?_ ?_
    · refine gk_block (by kernel_rfl) ?_
      refine gk_pick [1, 12, 13, 14] (K' := [(1, .slice A1_0 a1.length n1_0), (12, .slice A0_0 a0.length n0_0), (13, .int .i64 (a0.length : Int)), (14, .int .i64 0)]) (by kernel_rfl) ?_
      intro t hK
      refine gc_loop (lex_Same_l18 a0 a1) (fun s8 t I' L' => I ≤ I' ∧ L = L' ∧ Knows 38 [(1, .slice A1_0 a1.length n1_0), (12, .slice A0_0 a0.length n0_0), (13, .int .i64 (a0.length : Int)), (14, .int .i64 s8)] t) (by kernel_rfl) ?_ hl7 ⟨(Imm.refl _), rfl, hK⟩
      rintro s8 o9 t I13 L' hb10 ⟨hI11, rfl, hK12⟩
      unfold lex_Same_l18 at hb10
      refine gk_at hK12 ?_
      refine gk_seq (by kernel_rfl) ?_
      refine gk_region (by kernel_rfl) ?_
      refine gl_pure 1 [1, 12, 13, 14, 15] (K' := [(1, .slice A1_0 a1.length n1_0), (12, .slice A0_0 a0.length n0_0), (13, .int .i64 (a0.length : Int)), (14, .int .i64 s8), (15, .bool (decide (s8 < (a0.length : Int))))]) (by kernel_rfl) ?_
      refine gl_atE (by kernel_rfl) ?_
      refine ge_seq ?_
      refine gk_seq (by kernel_rfl) ?_
      refine gk_cond (b := (decide (s8 < (a0.length : Int)))) (by kernel_rfl) (by kernel_rfl) (fun hc20 => ?_) (fun hc20 => ?_)
      · have hb10 := cond_t hc20 hb10
        refine gk_skip (by kernel_rfl) ?_
        refine ge_seq ?_
        refine gk_seq (by kernel_rfl) ?_
        refine gk_block (by kernel_rfl) ?_
        refine gk_seq (by kernel_rfl) ?_
        refine gk_region (by kernel_rfl) ?_
        refine gl_pure 1 [1, 12, 13, 14, 16] (K' := [(1, .slice A1_0 a1.length n1_0), (12, .slice A0_0 a0.length n0_0), (13, .int .i64 (a0.length : Int)), (14, .int .i64 s8), (16, .int .i64 s8)]) (by kernel_rfl) ?_
        obtain ⟨x21, hx22, hb10⟩ := bind_some hb10
        obtain ⟨p23, cs24, hR25, hA26, ha27⟩ := RepS.ixAt hx22 (hf0_0.mono hI11)
        have hi28 := ix_some hx22
        obtain rfl := kS27_open hR25
        refine gl_indexAddrF (c := n0_0) (T' := 22) (e := 28) (xs := (.tmp 12)) (xi := (.tmp 14)) (kd := .i64) ha27 hi28.1 hi28.2.1 (by kernel_rfl) (by kernel_rfl) (by kernel_rfl) (by kernel_rfl) (by kernel_rfl) ?_
        refine gl_loadA (T' := 28) (xp := (.tmp 17)) (p := p23) (cs := [.int .i64 x21.f0, .string x21.f1, .int .i64 x21.f2]) (by kernel_rfl) (by kernel_rfl) (by kernel_rfl) (by kernel_rfl) (hA26.take 3) ?_
        refine gl_alloc (T' := 28) (cs := #[.int .i64 0, .string (⟨#[]⟩ : ByteArray), .int .i64 0]) (by kernel_rfl) (by kernel_rfl) (by kernel_rfl) (fun g29 => ?_)
        refine gl_pure 1 [1, 5, 6, 12, 13, 14, 18] (K' := [(1, .slice A1_0 a1.length n1_0), (5, .int .i64 s8), (6, .pointer (some ⟨g29, 0, none⟩)), (12, .slice A0_0 a0.length n0_0), (13, .int .i64 (a0.length : Int)), (14, .int .i64 s8), (18, .agg #[.int .i64 x21.f0, .string x21.f1, .int .i64 x21.f2])]) (by kernel_rfl) ?_
        refine gl_storeB (T' := 28) (xp := (.tmp 6)) (xv := (.tmp 18)) (v := .agg #[.int .i64 x21.f0, .string x21.f1, .int .i64 x21.f2]) (g := g29) (off := 0) (cs := #[.int .i64 0, .string (⟨#[]⟩ : ByteArray), .int .i64 0]) (cs' := #[.int .i64 x21.f0, .string x21.f1, .int .i64 x21.f2]) (by kernel_rfl) (by kernel_rfl) (by kernel_rfl) (by kernel_rfl) (by kernel_rfl) (Upd.set _ _ _ _) ?_ (by kernel_rfl)
        refine gl_atE (by kernel_rfl) ?_
        refine ge_seq ?_
        refine gk_seq (by kernel_rfl) ?_
        obtain ⟨j30, hj31, hb10⟩ := bind_some hb10
        refine gk_join (fun t I' L' => I13 ≤ I' ∧ L = L' ∧ Knows 38 [(1, .slice A1_0 a1.length n1_0), (12, .slice A0_0 a0.length n0_0), (13, .int .i64 (a0.length : Int)), (14, .int .i64 s8), (36, .bool j30)] t) ?_ ?_
        · refine gk_draw 18 [(0, true), (1, true), (2, true), (3, true), (4, true), (5, true), (6, true), (7, true), (8, true), (9, true), (10, true), (11, true), (12, true), (13, true), (14, true), (15, true), (16, true), (17, true)] [(g29, .cells #[.int .i64 x21.f0, .string x21.f1, .int .i64 x21.f2] 28)] (List.forall_mem_cons.2 ⟨List.mem_cons_self, (fun p hp => by cases hp)⟩) (by kernel_rfl) (by kernel_rfl) (by kernel_rfl) ?_ (by kernel_rfl)
          refine gd_pure 1 [1, 5, 6, 12, 13, 14, 19] (K' := [(1, .slice A1_0 a1.length n1_0), (5, .int .i64 s8), (6, .pointer (some ⟨g29, 0, none⟩)), (12, .slice A0_0 a0.length n0_0), (13, .int .i64 (a0.length : Int)), (14, .int .i64 s8), (19, .pointer (some ⟨g29, 0, none⟩))]) (s' := [(1, true), (2, true), (3, true), (4, true), (5, true), (6, true), (7, true), (8, true), (9, true), (10, true), (11, true), (12, true), (13, true), (14, true), (15, true), (16, true), (17, true)]) (CC.refl (List.forall_mem_cons.2 ⟨List.mem_cons_self, (fun p hp => by cases hp)⟩)) (by kernel_rfl) ?_
          refine gd_q (v := .int .i64 x21.f0) (by kernel_rfl) (by kernel_rfl) (CC.refl (List.forall_mem_cons.2 ⟨List.mem_cons_self, (fun p hp => by cases hp)⟩)) (fun I' L' T hC kk => gl_loadB (T' := 3) (xp := (.tmp 19)) (v := .int .i64 x21.f0) (g := g29) (off := 0) (cs := #[.int .i64 x21.f0, .string x21.f1, .int .i64 x21.f2]) (e := 28) (fz := (0, 0)) (by kernel_rfl) (by kernel_rfl) (by kernel_rfl) (hC.sub _ List.mem_cons_self) (by kernel_rfl) kk) ?_
          refine gd_pure 2 [1, 5, 6, 12, 13, 14, 20, 21, 22] (K' := [(1, .slice A1_0 a1.length n1_0), (5, .int .i64 s8), (6, .pointer (some ⟨g29, 0, none⟩)), (12, .slice A0_0 a0.length n0_0), (13, .int .i64 (a0.length : Int)), (14, .int .i64 s8), (20, .int .i64 x21.f0), (21, .slice A1_0 a1.length n1_0), (22, .int .i64 s8)]) (s' := [(4, true), (5, true), (6, true), (7, true), (8, true), (9, true), (10, true), (11, true), (12, true), (13, true), (14, true), (15, true), (16, true), (17, true)]) (CC.refl (List.forall_mem_cons.2 ⟨List.mem_cons_self, (fun p hp => by cases hp)⟩)) (by kernel_rfl) ?_
          obtain ⟨x35, hx36, hj31⟩ := bind_some hj31
          obtain ⟨p37, cs38, hR39, hA40, ha41⟩ := RepS.ixAt hx36 (hf1_0.mono hI11)
          have hi42 := ix_some hx36
          obtain rfl := kS27_open hR39
          refine gd_q (v := .pointer (some p37)) (by kernel_rfl) (by kernel_rfl) (CC.refl (List.forall_mem_cons.2 ⟨List.mem_cons_self, (fun p hp => by cases hp)⟩)) (fun I' L' T hC kk => gl_indexAddrF (c := n1_0) (T' := 22) (e := 28) (xs := (.tmp 21)) (xi := (.tmp 22)) (kd := .i64) ha41 hi42.1 hi42.2.1 (by kernel_rfl) (by kernel_rfl) (by kernel_rfl) (by kernel_rfl) (by kernel_rfl) kk) ?_
          refine gd_pure 1 [1, 5, 6, 12, 13, 14, 20, 24] (K' := [(1, .slice A1_0 a1.length n1_0), (5, .int .i64 s8), (6, .pointer (some ⟨g29, 0, none⟩)), (12, .slice A0_0 a0.length n0_0), (13, .int .i64 (a0.length : Int)), (14, .int .i64 s8), (20, .int .i64 x21.f0), (24, .pointer (some (p37.add 0)))]) (s' := [(6, true), (7, true), (8, true), (9, true), (10, true), (11, true), (12, true), (13, true), (14, true), (15, true), (16, true), (17, true)]) (CC.refl (List.forall_mem_cons.2 ⟨List.mem_cons_self, (fun p hp => by cases hp)⟩)) (by kernel_rfl) ?_
          refine gd_q (v := .int .i64 x35.f0) (by kernel_rfl) (by kernel_rfl) (CC.refl (List.forall_mem_cons.2 ⟨List.mem_cons_self, (fun p hp => by cases hp)⟩)) (fun I' L' T hC kk => gl_load (T' := 3) (xp := (.tmp 24)) (p := (p37.add 0)) (c := .int .i64 x35.f0) (n := 1) (by kernel_rfl) (by kernel_rfl) (by kernel_rfl) (by kernel_rfl) ((hA40.drop 0).mono hC.le) kk) ?_
          refine gd_pure 2 [1, 5, 6, 12, 13, 14, 27] (K' := [(1, .slice A1_0 a1.length n1_0), (5, .int .i64 s8), (6, .pointer (some ⟨g29, 0, none⟩)), (12, .slice A0_0 a0.length n0_0), (13, .int .i64 (a0.length : Int)), (14, .int .i64 s8), (27, .bool (x21.f0 != x35.f0))]) (s' := [(9, true), (10, true), (11, true), (12, true), (13, true), (14, true), (15, true), (16, true), (17, true)]) (CC.refl (List.forall_mem_cons.2 ⟨List.mem_cons_self, (fun p hp => by cases hp)⟩)) (by kernel_rfl) ?_
          refine gd_case 27 (b := (x21.f0 != x35.f0)) (by kernel_rfl) (fun hc43 => ?_) (fun hc43 => ?_)
          · have hj31 := cond_t hc43 hj31
            refine gd_pure 9 [1, 12, 13, 14, 36] (K' := [(1, .slice A1_0 a1.length n1_0), (12, .slice A0_0 a0.length n0_0), (13, .int .i64 (a0.length : Int)), (14, .int .i64 s8), (36, .bool true)]) (s' := []) (CC.refl (List.forall_mem_cons.2 ⟨List.mem_cons_self, (fun p hp => by cases hp)⟩)) (by kernel_rfl) ?_
            refine gd_done ?_
            refine gl_reord (D := L) (Reord.skip (Reord.refl _)) ?_
            refine gl_atE (by kernel_rfl) ?_
            obtain rfl := some_inj hj31
            exact ge_mid fun t ht => ⟨(Imm.refl _), rfl, ht.pick (l := [1, 12, 13, 14, 36]) (by kernel_rfl)⟩
          · have hj31 := cond_f hc43 hj31
            refine gd_pure 1 [1, 5, 12, 13, 14, 27, 28] (K' := [(1, .slice A1_0 a1.length n1_0), (5, .int .i64 s8), (12, .slice A0_0 a0.length n0_0), (13, .int .i64 (a0.length : Int)), (14, .int .i64 s8), (27, .bool false), (28, .pointer (some ⟨g29, 1, none⟩))]) (s' := [(10, true), (11, true), (12, true), (13, true), (14, true), (15, true), (16, true), (17, true)]) (CC.refl (List.forall_mem_cons.2 ⟨List.mem_cons_self, (fun p hp => by cases hp)⟩)) (by kernel_rfl) ?_
            refine gd_q (v := .string x21.f1) (by kernel_rfl) (by kernel_rfl) (CC.refl (List.forall_mem_cons.2 ⟨List.mem_cons_self, (fun p hp => by cases hp)⟩)) (fun I' L' T hC kk => gl_loadB (T' := 9) (xp := (.tmp 28)) (v := .string x21.f1) (g := g29) (off := 1) (cs := #[.int .i64 x21.f0, .string x21.f1, .int .i64 x21.f2]) (e := 28) (fz := (0, 0)) (by kernel_rfl) (by kernel_rfl) (by kernel_rfl) (hC.sub _ List.mem_cons_self) (by kernel_rfl) kk) ?_
            refine gd_pure 2 [1, 12, 13, 14, 27, 29, 30, 31] (K' := [(1, .slice A1_0 a1.length n1_0), (12, .slice A0_0 a0.length n0_0), (13, .int .i64 (a0.length : Int)), (14, .int .i64 s8), (27, .bool false), (29, .string x21.f1), (30, .slice A1_0 a1.length n1_0), (31, .int .i64 s8)]) (s' := [(13, true), (14, true), (15, true), (16, true), (17, true)]) (CC.refl (List.forall_mem_cons.2 ⟨List.mem_cons_self, (fun p hp => by cases hp)⟩)) (by kernel_rfl) ?_
            obtain ⟨x44, hx45, hj31⟩ := bind_some hj31
            obtain ⟨p46, cs47, hR48, hA49, ha50⟩ := RepS.ixAt hx45 (hf1_0.mono hI11)
            have hi51 := ix_some hx45
            obtain rfl := kS27_open hR48
            refine gd_q (v := .pointer (some p46)) (by kernel_rfl) (by kernel_rfl) (CC.refl (List.forall_mem_cons.2 ⟨List.mem_cons_self, (fun p hp => by cases hp)⟩)) (fun I' L' T hC kk => gl_indexAddrF (c := n1_0) (T' := 22) (e := 28) (xs := (.tmp 30)) (xi := (.tmp 31)) (kd := .i64) ha50 hi51.1 hi51.2.1 (by kernel_rfl) (by kernel_rfl) (by kernel_rfl) (by kernel_rfl) (by kernel_rfl) kk) ?_
            refine gd_pure 1 [1, 12, 13, 14, 27, 29, 33] (K' := [(1, .slice A1_0 a1.length n1_0), (12, .slice A0_0 a0.length n0_0), (13, .int .i64 (a0.length : Int)), (14, .int .i64 s8), (27, .bool false), (29, .string x21.f1), (33, .pointer (some (p46.add 1)))]) (s' := [(15, true), (16, true), (17, true)]) (CC.refl (List.forall_mem_cons.2 ⟨List.mem_cons_self, (fun p hp => by cases hp)⟩)) (by kernel_rfl) ?_
            refine gd_q (v := .string x44.f1) (by kernel_rfl) (by kernel_rfl) (CC.refl (List.forall_mem_cons.2 ⟨List.mem_cons_self, (fun p hp => by cases hp)⟩)) (fun I' L' T hC kk => gl_load (T' := 9) (xp := (.tmp 33)) (p := (p46.add 1)) (c := .string x44.f1) (n := 1) (by kernel_rfl) (by kernel_rfl) (by kernel_rfl) (by kernel_rfl) ((hA49.drop 1).mono hC.le) kk) ?_
            refine gd_pure 2 [1, 12, 13, 14, 36] (K' := [(1, .slice A1_0 a1.length n1_0), (12, .slice A0_0 a0.length n0_0), (13, .int .i64 (a0.length : Int)), (14, .int .i64 s8), (36, .bool (!(x21.f1.toList == x44.f1.toList)))]) (s' := []) (CC.refl (List.forall_mem_cons.2 ⟨List.mem_cons_self, (fun p hp => by cases hp)⟩)) (by kernel_rfl) ?_
            refine gd_done ?_
            refine gl_reord (D := L) (Reord.skip (Reord.refl _)) ?_
            refine gl_atE (by kernel_rfl) ?_
            obtain rfl := some_inj hj31
            exact ge_mid fun t ht => ⟨(Imm.refl _), rfl, ht.pick (l := [1, 12, 13, 14, 36]) (by kernel_rfl)⟩
        · rintro t I34 L' ⟨hI32, rfl, hK33⟩
          refine ge_at hK33 ?_
          refine ge_seq ?_
          refine gk_cond (b := j30) (by kernel_rfl) (by kernel_rfl) (fun hc52 => ?_) (fun hc52 => ?_)
          · have hb10 := cond_t hc52 hb10
            refine gk_seq (by kernel_rfl) ?_
            refine gk_region (by kernel_rfl) ?_
            refine gl_pure 1 [4] (K' := [(4, .bool false)]) (by kernel_rfl) ?_
            refine gl_atE (by kernel_rfl) ?_
            refine ge_seq ?_
            refine gk_ret (by kernel_rfl) ?_
            refine ge_block_ret ?_
            refine ge_seq_ret ?_
            obtain rfl := some_inj hb10
            refine ge_round_out (fun hrr => ?_) (by intro h; cases h)
            obtain rfl := hrr
            refine ge_block_ret ?_
            refine ge_seq_ret ?_
            refine ge_seq_ret ?_
            obtain rfl := some_inj hr
            exact ge_result trivial (ResOk.tmp (by kernel_rfl) ResOk.nil) (Imm.trans hI11 hI32) ⟨rfl, rfl⟩
          · have hb10 := cond_f hc52 hb10
            refine gk_skip (by kernel_rfl) ?_
            refine ge_block_normal ?_
            refine ge_seq ?_
            refine gk_region (by kernel_rfl) ?_
            refine gl_pure 2 [1, 12, 13, 14] (K' := [(1, .slice A1_0 a1.length n1_0), (12, .slice A0_0 a0.length n0_0), (13, .int .i64 (a0.length : Int)), (14, .int .i64 (IntKind.wrap .i64 (s8 + 1)))]) (by kernel_rfl) ?_
            refine gl_atE (by kernel_rfl) ?_
            obtain rfl := some_inj hb10
            exact ge_round fun t ht => ⟨(Imm.trans hI11 hI32), rfl, ht.pick (l := [1, 12, 13, 14]) (by kernel_rfl)⟩
      · have hb10 := cond_f hc20 hb10
        refine gk_exit (by kernel_rfl) ?_
        refine ge_seq_exit ?_
        obtain rfl := some_inj hb10
        refine ge_round_out (fun hrr => ?_) (by intro h; cases h)
        obtain rfl := hrr
        refine ge_block_hit (by kernel_rfl) ?_
        exact ge_mid fun t ht => ⟨_, rfl, hI11, rfl, ht.pick (l := []) (by kernel_rfl)⟩
    · rintro t I17 L' ⟨r14, rfl, hI15, rfl, hK16⟩
      refine ge_at hK16 ?_
      refine ge_seq ?_
      refine gk_seq (by kernel_rfl) ?_
      refine gk_region (by kernel_rfl) ?_
      refine gl_pure 1 [4] (K' := [(4, .bool true)]) (by kernel_rfl) ?_
      refine gl_atE (by kernel_rfl) ?_
      refine ge_seq ?_
      refine gk_ret (by kernel_rfl) ?_
      obtain rfl := some_inj hr
      exact ge_result trivial (ResOk.tmp (by kernel_rfl) ResOk.nil) hI15 ⟨rfl, rfl⟩
/-! 17 tocsinref13_Same  -/
noncomputable def tocsinref13_Same_l18 (a0 : List S27) (a1 : List S27) : Int → Option ((Int) ⊕ ((Unit) ⊕ (Bool))) := fun s8 =>
  bif (decide (s8 < (a0.length : Int))) then
  (Option.bind (Option.bind (ix a0 s8) fun (x26 : S27) =>
      Option.bind (ix a1 s8) fun (x34 : S27) =>
      bif (x26.f0 != x34.f0) then
      (some true)
      else
      (Option.bind (ix a0 s8) fun (x43 : S27) =>
        Option.bind (ix a1 s8) fun (x51 : S27) =>
        some (!(x43.f1.toList == x51.f1.toList)))) fun (j21 : Bool) =>
    bif j21 then
    (some (Sum.inr (Sum.inr false)))
    else
    (some (Sum.inl (IntKind.wrap .i64 (s8 + 1)))))
  else
  (some (Sum.inr (Sum.inl ())))
noncomputable def tocsinref13_Same (a0 : List S27) (a1 : List S27) : Option Bool :=
  bif ((a0.length : Int) != (a1.length : Int)) then
  (some false)
  else
  (Option.bind (loopO (tocsinref13_Same_l18 a0 a1) 0) fun (r6 : (Unit) ⊕ (Bool)) =>
    match r6 with
    | Sum.inl r14 => some true
    | Sum.inr v60 => some v60)
theorem tocsinref13_Same_walk {a0 : List S27} {A0_0 : Option Addr} {n0_0 : Nat} {a1 : List S27} {A1_0 : Option Addr} {n1_0 : Nat} {I : Imm} {r : Bool}  (hf0_0 : RepS kS27 I A0_0 n0_0 a0)  (hf1_0 : RepS kS27 I A1_0 n1_0 a1) (hr : tocsinref13_Same a0 a1 = some r) (L : Own) :
    CallsTo Tryd.prog 17 #[.slice A0_0 a0.length n0_0, .slice A1_0 a1.length n1_0] I L (fun v I' L' => v = .bool r ∧ L = L') := by
  unfold tocsinref13_Same at hr
  refine callsTo_body (N := 41) Tryd.func17 (by kernel_rfl) (by kernel_rfl) (by kernel_rfl) ?_
  refine gk_pick [0, 1] (K' := [(0, .slice A0_0 a0.length n0_0), (1, .slice A1_0 a1.length n1_0)]) (by kernel_rfl) ?_
  refine gk_seq (by kernel_rfl) ?_
  refine gk_region (by kernel_rfl) ?_
  refine gl_pure 1 [0, 1] (K' := [(0, .slice A0_0 a0.length n0_0), (1, .slice A1_0 a1.length n1_0)]) (by kernel_rfl) ?_
  refine gl_atE (by kernel_rfl) ?_
  refine ge_seq ?_
  refine gk_seq (by kernel_rfl) ?_
  refine gk_seq (by kernel_rfl) ?_
  refine gk_region (by kernel_rfl) ?_
  refine gl_pure 5 [0, 1, 10] (K' := [(0, .slice A0_0 a0.length n0_0), (1, .slice A1_0 a1.length n1_0), (10, .bool ((a0.length : Int) != (a1.length : Int)))]) (by kernel_rfl) ?_
  refine gl_atE (by kernel_rfl) ?_
  refine ge_seq ?_
  refine gk_cond (b := ((a0.length : Int) != (a1.length : Int))) (by kernel_rfl) (by kernel_rfl) (fun hc1 => ?_) (fun hc1 => ?_)
  · have hr := cond_t hc1 hr
    refine gk_seq (by kernel_rfl) ?_
    refine gk_region (by kernel_rfl) ?_
    refine gl_pure 1 [4] (K' := [(4, .bool false)]) (by kernel_rfl) ?_
    refine gl_atE (by kernel_rfl) ?_
    refine ge_seq ?_
    refine gk_ret (by kernel_rfl) ?_
    refine ge_seq_ret ?_
    obtain rfl := some_inj hr
    exact ge_result trivial (ResOk.tmp (by kernel_rfl) ResOk.nil) (Imm.refl _) ⟨rfl, rfl⟩
  · have hr := cond_f hc1 hr
    refine gk_skip (by kernel_rfl) ?_
    refine ge_seq ?_
    refine gk_seq (by kernel_rfl) ?_
    refine gk_seq (by kernel_rfl) ?_
    refine gk_region (by kernel_rfl) ?_
    refine gl_pure 1 [0, 1, 5] (K' := [(0, .slice A0_0 a0.length n0_0), (1, .slice A1_0 a1.length n1_0), (5, .int .i64 0)]) (by kernel_rfl) ?_
    refine gl_atE (by kernel_rfl) ?_
    refine ge_seq ?_
    obtain ⟨r6, hl7, hr⟩ := bind_some hr
    refine gk_join (fun t I' L' => ∃ r14, r6 = Sum.inl r14 ∧ I ≤ I' ∧ L = L' ∧ Knows 41 [] t) ?_ ?_
    · refine gk_block (by kernel_rfl) ?_
      refine gk_pick [0, 1, 5] (K' := [(0, .slice A0_0 a0.length n0_0), (1, .slice A1_0 a1.length n1_0), (5, .int .i64 0)]) (by kernel_rfl) ?_
      intro t hK
      refine gc_loop (tocsinref13_Same_l18 a0 a1) (fun s8 t I' L' => I ≤ I' ∧ L = L' ∧ Knows 41 [(0, .slice A0_0 a0.length n0_0), (1, .slice A1_0 a1.length n1_0), (5, .int .i64 s8)] t) (by kernel_rfl) ?_ hl7 ⟨(Imm.refl _), rfl, hK⟩
      rintro s8 o9 t I13 L' hb10 ⟨hI11, rfl, hK12⟩
      unfold tocsinref13_Same_l18 at hb10
      refine gk_at hK12 ?_
      refine gk_seq (by kernel_rfl) ?_
      refine gk_seq (by kernel_rfl) ?_
      refine gk_region (by kernel_rfl) ?_
      refine gl_pure 4 [0, 1, 5, 14] (K' := [(0, .slice A0_0 a0.length n0_0), (1, .slice A1_0 a1.length n1_0), (5, .int .i64 s8), (14, .bool (decide (s8 < (a0.length : Int))))]) (by kernel_rfl) ?_
      refine gl_atE (by kernel_rfl) ?_
      refine ge_seq ?_
      refine gk_cond (b := (decide (s8 < (a0.length : Int)))) (by kernel_rfl) (by kernel_rfl) (fun hc20 => ?_) (fun hc20 => ?_)
      · have hb10 := cond_t hc20 hb10
        refine gk_skip (by kernel_rfl) ?_
        refine ge_seq ?_
        refine gk_seq (by kernel_rfl) ?_
        refine gk_block (by kernel_rfl) ?_
        refine gk_seq (by kernel_rfl) ?_
        obtain ⟨j21, hj22, hb10⟩ := bind_some hb10
        refine gk_join (fun t I' L' => I13 ≤ I' ∧ L = L' ∧ Knows 41 [(0, .slice A0_0 a0.length n0_0), (1, .slice A1_0 a1.length n1_0), (5, .int .i64 s8), (40, .bool j21)] t) ?_ ?_
        · refine gk_draw 24 [(0, true), (1, true), (2, true), (3, true), (4, true), (5, true), (6, true), (7, true), (8, true), (9, true), (10, true), (11, true), (12, true), (13, true), (14, true), (15, true), (16, true), (17, true), (18, true), (19, true), (20, true), (21, true), (22, true), (23, true)] [] (fun p hp => by cases hp) (by kernel_rfl) (by kernel_rfl) (by kernel_rfl) ?_ (by kernel_rfl)
          refine gd_pure 2 [0, 1, 5, 17, 18] (K' := [(0, .slice A0_0 a0.length n0_0), (1, .slice A1_0 a1.length n1_0), (5, .int .i64 s8), (17, .slice A0_0 a0.length n0_0), (18, .int .i64 s8)]) (s' := [(2, true), (3, true), (4, true), (5, true), (6, true), (7, true), (8, true), (9, true), (10, true), (11, true), (12, true), (13, true), (14, true), (15, true), (16, true), (17, true), (18, true), (19, true), (20, true), (21, true), (22, true), (23, true)]) (CC.refl (fun p hp => by cases hp)) (by kernel_rfl) ?_
          obtain ⟨x26, hx27, hj22⟩ := bind_some hj22
          obtain ⟨p28, cs29, hR30, hA31, ha32⟩ := RepS.ixAt hx27 (hf0_0.mono hI11)
          have hi33 := ix_some hx27
          obtain rfl := kS27_open hR30
          refine gd_q (v := .pointer (some p28)) (by kernel_rfl) (by kernel_rfl) (CC.refl (fun p hp => by cases hp)) (fun I' L' T hC kk => gl_indexAddrF (c := n0_0) (T' := 22) (e := 28) (xs := (.tmp 17)) (xi := (.tmp 18)) (kd := .i64) ha32 hi33.1 hi33.2.1 (by kernel_rfl) (by kernel_rfl) (by kernel_rfl) (by kernel_rfl) (by kernel_rfl) kk) ?_
          refine gd_pure 1 [0, 1, 5, 20] (K' := [(0, .slice A0_0 a0.length n0_0), (1, .slice A1_0 a1.length n1_0), (5, .int .i64 s8), (20, .pointer (some (p28.add 0)))]) (s' := [(4, true), (5, true), (6, true), (7, true), (8, true), (9, true), (10, true), (11, true), (12, true), (13, true), (14, true), (15, true), (16, true), (17, true), (18, true), (19, true), (20, true), (21, true), (22, true), (23, true)]) (CC.refl (fun p hp => by cases hp)) (by kernel_rfl) ?_
          refine gd_q (v := .int .i64 x26.f0) (by kernel_rfl) (by kernel_rfl) (CC.refl (fun p hp => by cases hp)) (fun I' L' T hC kk => gl_load (T' := 3) (xp := (.tmp 20)) (p := (p28.add 0)) (c := .int .i64 x26.f0) (n := 1) (by kernel_rfl) (by kernel_rfl) (by kernel_rfl) (by kernel_rfl) ((hA31.drop 0).mono hC.le) kk) ?_
          refine gd_pure 2 [0, 1, 5, 21, 22, 23] (K' := [(0, .slice A0_0 a0.length n0_0), (1, .slice A1_0 a1.length n1_0), (5, .int .i64 s8), (21, .int .i64 x26.f0), (22, .slice A1_0 a1.length n1_0), (23, .int .i64 s8)]) (s' := [(7, true), (8, true), (9, true), (10, true), (11, true), (12, true), (13, true), (14, true), (15, true), (16, true), (17, true), (18, true), (19, true), (20, true), (21, true), (22, true), (23, true)]) (CC.refl (fun p hp => by cases hp)) (by kernel_rfl) ?_
          obtain ⟨x34, hx35, hj22⟩ := bind_some hj22
          obtain ⟨p36, cs37, hR38, hA39, ha40⟩ := RepS.ixAt hx35 (hf1_0.mono hI11)
          have hi41 := ix_some hx35
          obtain rfl := kS27_open hR38
          refine gd_q (v := .pointer (some p36)) (by kernel_rfl) (by kernel_rfl) (CC.refl (fun p hp => by cases hp)) (fun I' L' T hC kk => gl_indexAddrF (c := n1_0) (T' := 22) (e := 28) (xs := (.tmp 22)) (xi := (.tmp 23)) (kd := .i64) ha40 hi41.1 hi41.2.1 (by kernel_rfl) (by kernel_rfl) (by kernel_rfl) (by kernel_rfl) (by kernel_rfl) kk) ?_
          refine gd_pure 1 [0, 1, 5, 21, 25] (K' := [(0, .slice A0_0 a0.length n0_0), (1, .slice A1_0 a1.length n1_0), (5, .int .i64 s8), (21, .int .i64 x26.f0), (25, .pointer (some (p36.add 0)))]) (s' := [(9, true), (10, true), (11, true), (12, true), (13, true), (14, true), (15, true), (16, true), (17, true), (18, true), (19, true), (20, true), (21, true), (22, true), (23, true)]) (CC.refl (fun p hp => by cases hp)) (by kernel_rfl) ?_
          refine gd_q (v := .int .i64 x34.f0) (by kernel_rfl) (by kernel_rfl) (CC.refl (fun p hp => by cases hp)) (fun I' L' T hC kk => gl_load (T' := 3) (xp := (.tmp 25)) (p := (p36.add 0)) (c := .int .i64 x34.f0) (n := 1) (by kernel_rfl) (by kernel_rfl) (by kernel_rfl) (by kernel_rfl) ((hA39.drop 0).mono hC.le) kk) ?_
          refine gd_pure 2 [0, 1, 5, 28] (K' := [(0, .slice A0_0 a0.length n0_0), (1, .slice A1_0 a1.length n1_0), (5, .int .i64 s8), (28, .bool (x26.f0 != x34.f0))]) (s' := [(12, true), (13, true), (14, true), (15, true), (16, true), (17, true), (18, true), (19, true), (20, true), (21, true), (22, true), (23, true)]) (CC.refl (fun p hp => by cases hp)) (by kernel_rfl) ?_
          refine gd_case 28 (b := (x26.f0 != x34.f0)) (by kernel_rfl) (fun hc42 => ?_) (fun hc42 => ?_)
          · have hj22 := cond_t hc42 hj22
            refine gd_pure 12 [0, 1, 5, 40] (K' := [(0, .slice A0_0 a0.length n0_0), (1, .slice A1_0 a1.length n1_0), (5, .int .i64 s8), (40, .bool true)]) (s' := []) (CC.refl (fun p hp => by cases hp)) (by kernel_rfl) ?_
            refine gd_done ?_
            refine gl_atE (by kernel_rfl) ?_
            obtain rfl := some_inj hj22
            exact ge_mid fun t ht => ⟨(Imm.refl _), rfl, ht.pick (l := [0, 1, 5, 40]) (by kernel_rfl)⟩
          · have hj22 := cond_f hc42 hj22
            refine gd_pure 2 [0, 1, 5, 28, 29, 30] (K' := [(0, .slice A0_0 a0.length n0_0), (1, .slice A1_0 a1.length n1_0), (5, .int .i64 s8), (28, .bool false), (29, .slice A0_0 a0.length n0_0), (30, .int .i64 s8)]) (s' := [(14, true), (15, true), (16, true), (17, true), (18, true), (19, true), (20, true), (21, true), (22, true), (23, true)]) (CC.refl (fun p hp => by cases hp)) (by kernel_rfl) ?_
            obtain ⟨x43, hx44, hj22⟩ := bind_some hj22
            obtain ⟨p45, cs46, hR47, hA48, ha49⟩ := RepS.ixAt hx44 (hf0_0.mono hI11)
            have hi50 := ix_some hx44
            obtain rfl := kS27_open hR47
            refine gd_q (v := .pointer (some p45)) (by kernel_rfl) (by kernel_rfl) (CC.refl (fun p hp => by cases hp)) (fun I' L' T hC kk => gl_indexAddrF (c := n0_0) (T' := 22) (e := 28) (xs := (.tmp 29)) (xi := (.tmp 30)) (kd := .i64) ha49 hi50.1 hi50.2.1 (by kernel_rfl) (by kernel_rfl) (by kernel_rfl) (by kernel_rfl) (by kernel_rfl) kk) ?_
            refine gd_pure 1 [0, 1, 5, 28, 32] (K' := [(0, .slice A0_0 a0.length n0_0), (1, .slice A1_0 a1.length n1_0), (5, .int .i64 s8), (28, .bool false), (32, .pointer (some (p45.add 1)))]) (s' := [(16, true), (17, true), (18, true), (19, true), (20, true), (21, true), (22, true), (23, true)]) (CC.refl (fun p hp => by cases hp)) (by kernel_rfl) ?_
            refine gd_q (v := .string x43.f1) (by kernel_rfl) (by kernel_rfl) (CC.refl (fun p hp => by cases hp)) (fun I' L' T hC kk => gl_load (T' := 9) (xp := (.tmp 32)) (p := (p45.add 1)) (c := .string x43.f1) (n := 1) (by kernel_rfl) (by kernel_rfl) (by kernel_rfl) (by kernel_rfl) ((hA48.drop 1).mono hC.le) kk) ?_
            refine gd_pure 2 [0, 1, 5, 28, 33, 34, 35] (K' := [(0, .slice A0_0 a0.length n0_0), (1, .slice A1_0 a1.length n1_0), (5, .int .i64 s8), (28, .bool false), (33, .string x43.f1), (34, .slice A1_0 a1.length n1_0), (35, .int .i64 s8)]) (s' := [(19, true), (20, true), (21, true), (22, true), (23, true)]) (CC.refl (fun p hp => by cases hp)) (by kernel_rfl) ?_
            obtain ⟨x51, hx52, hj22⟩ := bind_some hj22
            obtain ⟨p53, cs54, hR55, hA56, ha57⟩ := RepS.ixAt hx52 (hf1_0.mono hI11)
            have hi58 := ix_some hx52
            obtain rfl := kS27_open hR55
            refine gd_q (v := .pointer (some p53)) (by kernel_rfl) (by kernel_rfl) (CC.refl (fun p hp => by cases hp)) (fun I' L' T hC kk => gl_indexAddrF (c := n1_0) (T' := 22) (e := 28) (xs := (.tmp 34)) (xi := (.tmp 35)) (kd := .i64) ha57 hi58.1 hi58.2.1 (by kernel_rfl) (by kernel_rfl) (by kernel_rfl) (by kernel_rfl) (by kernel_rfl) kk) ?_
            refine gd_pure 1 [0, 1, 5, 28, 33, 37] (K' := [(0, .slice A0_0 a0.length n0_0), (1, .slice A1_0 a1.length n1_0), (5, .int .i64 s8), (28, .bool false), (33, .string x43.f1), (37, .pointer (some (p53.add 1)))]) (s' := [(21, true), (22, true), (23, true)]) (CC.refl (fun p hp => by cases hp)) (by kernel_rfl) ?_
            refine gd_q (v := .string x51.f1) (by kernel_rfl) (by kernel_rfl) (CC.refl (fun p hp => by cases hp)) (fun I' L' T hC kk => gl_load (T' := 9) (xp := (.tmp 37)) (p := (p53.add 1)) (c := .string x51.f1) (n := 1) (by kernel_rfl) (by kernel_rfl) (by kernel_rfl) (by kernel_rfl) ((hA56.drop 1).mono hC.le) kk) ?_
            refine gd_pure 2 [0, 1, 5, 40] (K' := [(0, .slice A0_0 a0.length n0_0), (1, .slice A1_0 a1.length n1_0), (5, .int .i64 s8), (40, .bool (!(x43.f1.toList == x51.f1.toList)))]) (s' := []) (CC.refl (fun p hp => by cases hp)) (by kernel_rfl) ?_
            refine gd_done ?_
            refine gl_atE (by kernel_rfl) ?_
            obtain rfl := some_inj hj22
            exact ge_mid fun t ht => ⟨(Imm.refl _), rfl, ht.pick (l := [0, 1, 5, 40]) (by kernel_rfl)⟩
        · rintro t I25 L' ⟨hI23, rfl, hK24⟩
          refine ge_at hK24 ?_
          refine ge_seq ?_
          refine gk_cond (b := j21) (by kernel_rfl) (by kernel_rfl) (fun hc59 => ?_) (fun hc59 => ?_)
          · have hb10 := cond_t hc59 hb10
            refine gk_seq (by kernel_rfl) ?_
            refine gk_region (by kernel_rfl) ?_
            refine gl_pure 1 [4] (K' := [(4, .bool false)]) (by kernel_rfl) ?_
            refine gl_atE (by kernel_rfl) ?_
            refine ge_seq ?_
            refine gk_ret (by kernel_rfl) ?_
            refine ge_block_ret ?_
            refine ge_seq_ret ?_
            obtain rfl := some_inj hb10
            refine ge_round_out (fun hrr => ?_) (by intro h; cases h)
            obtain rfl := hrr
            refine ge_block_ret ?_
            refine ge_seq_ret ?_
            refine ge_seq_ret ?_
            obtain rfl := some_inj hr
            exact ge_result trivial (ResOk.tmp (by kernel_rfl) ResOk.nil) (Imm.trans hI11 hI23) ⟨rfl, rfl⟩
          · have hb10 := cond_f hc59 hb10
            refine gk_skip (by kernel_rfl) ?_
            refine ge_block_normal ?_
            refine ge_seq ?_
            refine gk_region (by kernel_rfl) ?_
            refine gl_pure 3 [0, 1, 5] (K' := [(0, .slice A0_0 a0.length n0_0), (1, .slice A1_0 a1.length n1_0), (5, .int .i64 (IntKind.wrap .i64 (s8 + 1)))]) (by kernel_rfl) ?_
            refine gl_atE (by kernel_rfl) ?_
            obtain rfl := some_inj hb10
            exact ge_round fun t ht => ⟨(Imm.trans hI11 hI23), rfl, ht.pick (l := [0, 1, 5]) (by kernel_rfl)⟩
      · have hb10 := cond_f hc20 hb10
        refine gk_exit (by kernel_rfl) ?_
        refine ge_seq_exit ?_
        obtain rfl := some_inj hb10
        refine ge_round_out (fun hrr => ?_) (by intro h; cases h)
        obtain rfl := hrr
        refine ge_block_hit (by kernel_rfl) ?_
        exact ge_mid fun t ht => ⟨_, rfl, hI11, rfl, ht.pick (l := []) (by kernel_rfl)⟩
    · rintro t I17 L' ⟨r14, rfl, hI15, rfl, hK16⟩
      refine ge_at hK16 ?_
      refine ge_seq ?_
      refine gk_seq (by kernel_rfl) ?_
      refine gk_region (by kernel_rfl) ?_
      refine gl_pure 1 [4] (K' := [(4, .bool true)]) (by kernel_rfl) ?_
      refine gl_atE (by kernel_rfl) ?_
      refine ge_seq ?_
      refine gk_ret (by kernel_rfl) ?_
      obtain rfl := some_inj hr
      exact ge_result trivial (ResOk.tmp (by kernel_rfl) ResOk.nil) hI15 ⟨rfl, rfl⟩
/-! 10 tocsinlaw13_whole  -/
noncomputable def tocsinlaw13_whole_l18 (a0 : List S27) (a1 : List S27) : Int → Option ((Int) ⊕ ((Unit) ⊕ (Bool))) := fun s8 =>
  bif (decide (s8 < (a0.length : Int))) then
  (Option.bind (ix a0 s8) fun (x21 : S27) =>
    Option.bind (ix a1 s8) fun (x29 : S27) =>
    bif (!((x21.f0 == x29.f0) && ((x21.f1.toList == x29.f1.toList) && (x21.f2 == x29.f2)))) then
    (some (Sum.inr (Sum.inr false)))
    else
    (some (Sum.inl (IntKind.wrap .i64 (s8 + 1)))))
  else
  (some (Sum.inr (Sum.inl ())))
noncomputable def tocsinlaw13_whole (a0 : List S27) (a1 : List S27) : Option Bool :=
  bif ((a0.length : Int) != (a1.length : Int)) then
  (some false)
  else
  (Option.bind (loopO (tocsinlaw13_whole_l18 a0 a1) 0) fun (r6 : (Unit) ⊕ (Bool)) =>
    match r6 with
    | Sum.inl r14 => some true
    | Sum.inr v38 => some v38)
theorem tocsinlaw13_whole_walk {a0 : List S27} {A0_0 : Option Addr} {n0_0 : Nat} {a1 : List S27} {A1_0 : Option Addr} {n1_0 : Nat} {I : Imm} {r : Bool}  (hf0_0 : RepS kS27 I A0_0 n0_0 a0)  (hf1_0 : RepS kS27 I A1_0 n1_0 a1) (hr : tocsinlaw13_whole a0 a1 = some r) (L : Own) :
    CallsTo Tryd.prog 10 #[.slice A0_0 a0.length n0_0, .slice A1_0 a1.length n1_0] I L (fun v I' L' => v = .bool r ∧ L = L') := by
  unfold tocsinlaw13_whole at hr
  refine callsTo_body (N := 26) Tryd.func10 (by kernel_rfl) (by kernel_rfl) (by kernel_rfl) ?_
  refine gk_pick [0, 1] (K' := [(0, .slice A0_0 a0.length n0_0), (1, .slice A1_0 a1.length n1_0)]) (by kernel_rfl) ?_
  refine gk_seq (by kernel_rfl) ?_
  refine gk_region (by kernel_rfl) ?_
  refine gl_pure 1 [0, 1] (K' := [(0, .slice A0_0 a0.length n0_0), (1, .slice A1_0 a1.length n1_0)]) (by kernel_rfl) ?_
  refine gl_atE (by kernel_rfl) ?_
  refine ge_seq ?_
  refine gk_seq (by kernel_rfl) ?_
  refine gk_seq (by kernel_rfl) ?_
  refine gk_region (by kernel_rfl) ?_
  refine gl_pure 5 [0, 1, 10] (K' := [(0, .slice A0_0 a0.length n0_0), (1, .slice A1_0 a1.length n1_0), (10, .bool ((a0.length : Int) != (a1.length : Int)))]) (by kernel_rfl) ?_
  refine gl_atE (by kernel_rfl) ?_
  refine ge_seq ?_
  refine gk_cond (b := ((a0.length : Int) != (a1.length : Int))) (by kernel_rfl) (by kernel_rfl) (fun hc1 => ?_) (fun hc1 => ?_)
  · have hr := cond_t hc1 hr
    refine gk_seq (by kernel_rfl) ?_
    refine gk_region (by kernel_rfl) ?_
    refine gl_pure 1 [4] (K' := [(4, .bool false)]) (by kernel_rfl) ?_
    refine gl_atE (by kernel_rfl) ?_
    refine ge_seq ?_
    refine gk_ret (by kernel_rfl) ?_
    refine ge_seq_ret ?_
    obtain rfl := some_inj hr
    exact ge_result trivial (ResOk.tmp (by kernel_rfl) ResOk.nil) (Imm.refl _) ⟨rfl, rfl⟩
  · have hr := cond_f hc1 hr
    refine gk_skip (by kernel_rfl) ?_
    refine ge_seq ?_
    refine gk_seq (by kernel_rfl) ?_
    refine gk_seq (by kernel_rfl) ?_
    refine gk_region (by kernel_rfl) ?_
    refine gl_pure 1 [0, 1, 5] (K' := [(0, .slice A0_0 a0.length n0_0), (1, .slice A1_0 a1.length n1_0), (5, .int .i64 0)]) (by kernel_rfl) ?_
    refine gl_atE (by kernel_rfl) ?_
    refine ge_seq ?_
    obtain ⟨r6, hl7, hr⟩ := bind_some hr
    refine gk_join (fun t I' L' => ∃ r14, r6 = Sum.inl r14 ∧ I ≤ I' ∧ L = L' ∧ Knows 26 [] t) ?_ ?_
    · refine gk_block (by kernel_rfl) ?_
      refine gk_pick [0, 1, 5] (K' := [(0, .slice A0_0 a0.length n0_0), (1, .slice A1_0 a1.length n1_0), (5, .int .i64 0)]) (by kernel_rfl) ?_
      intro t hK
      refine gc_loop (tocsinlaw13_whole_l18 a0 a1) (fun s8 t I' L' => I ≤ I' ∧ L = L' ∧ Knows 26 [(0, .slice A0_0 a0.length n0_0), (1, .slice A1_0 a1.length n1_0), (5, .int .i64 s8)] t) (by kernel_rfl) ?_ hl7 ⟨(Imm.refl _), rfl, hK⟩
      rintro s8 o9 t I13 L' hb10 ⟨hI11, rfl, hK12⟩
      unfold tocsinlaw13_whole_l18 at hb10
      refine gk_at hK12 ?_
      refine gk_seq (by kernel_rfl) ?_
      refine gk_seq (by kernel_rfl) ?_
      refine gk_region (by kernel_rfl) ?_
      refine gl_pure 4 [0, 1, 5, 14] (K' := [(0, .slice A0_0 a0.length n0_0), (1, .slice A1_0 a1.length n1_0), (5, .int .i64 s8), (14, .bool (decide (s8 < (a0.length : Int))))]) (by kernel_rfl) ?_
      refine gl_atE (by kernel_rfl) ?_
      refine ge_seq ?_
      refine gk_cond (b := (decide (s8 < (a0.length : Int)))) (by kernel_rfl) (by kernel_rfl) (fun hc20 => ?_) (fun hc20 => ?_)
      · have hb10 := cond_t hc20 hb10
        refine gk_skip (by kernel_rfl) ?_
        refine ge_seq ?_
        refine gk_seq (by kernel_rfl) ?_
        refine gk_block (by kernel_rfl) ?_
        refine gk_seq (by kernel_rfl) ?_
        refine gk_draw 9 [(0, true), (1, true), (2, true), (3, true), (4, true), (5, true), (6, true), (7, true), (8, true)] [] (fun p hp => by cases hp) (by kernel_rfl) (by kernel_rfl) (by kernel_rfl) ?_ (by kernel_rfl)
        refine gd_pure 2 [0, 1, 5, 17, 18] (K' := [(0, .slice A0_0 a0.length n0_0), (1, .slice A1_0 a1.length n1_0), (5, .int .i64 s8), (17, .slice A0_0 a0.length n0_0), (18, .int .i64 s8)]) (s' := [(2, true), (3, true), (4, true), (5, true), (6, true), (7, true), (8, true)]) (CC.refl (fun p hp => by cases hp)) (by kernel_rfl) ?_
        obtain ⟨x21, hx22, hb10⟩ := bind_some hb10
        obtain ⟨p23, cs24, hR25, hA26, ha27⟩ := RepS.ixAt hx22 (hf0_0.mono hI11)
        have hi28 := ix_some hx22
        obtain rfl := kS27_open hR25
        refine gd_q (v := .pointer (some p23)) (by kernel_rfl) (by kernel_rfl) (CC.refl (fun p hp => by cases hp)) (fun I' L' T hC kk => gl_indexAddrF (c := n0_0) (T' := 22) (e := 28) (xs := (.tmp 17)) (xi := (.tmp 18)) (kd := .i64) ha27 hi28.1 hi28.2.1 (by kernel_rfl) (by kernel_rfl) (by kernel_rfl) (by kernel_rfl) (by kernel_rfl) kk) ?_
        refine gd_q (v := .agg #[.int .i64 x21.f0, .string x21.f1, .int .i64 x21.f2]) (by kernel_rfl) (by kernel_rfl) (CC.refl (fun p hp => by cases hp)) (fun I' L' T hC kk => gl_loadA (T' := 28) (xp := (.tmp 19)) (p := p23) (cs := [.int .i64 x21.f0, .string x21.f1, .int .i64 x21.f2]) (by kernel_rfl) (by kernel_rfl) (by kernel_rfl) (by kernel_rfl) ((hA26.mono hC.le).take 3) kk) ?_
        refine gd_pure 2 [0, 1, 5, 20, 21, 22] (K' := [(0, .slice A0_0 a0.length n0_0), (1, .slice A1_0 a1.length n1_0), (5, .int .i64 s8), (20, .agg #[.int .i64 x21.f0, .string x21.f1, .int .i64 x21.f2]), (21, .slice A1_0 a1.length n1_0), (22, .int .i64 s8)]) (s' := [(6, true), (7, true), (8, true)]) (CC.refl (fun p hp => by cases hp)) (by kernel_rfl) ?_
        obtain ⟨x29, hx30, hb10⟩ := bind_some hb10
        obtain ⟨p31, cs32, hR33, hA34, ha35⟩ := RepS.ixAt hx30 (hf1_0.mono hI11)
        have hi36 := ix_some hx30
        obtain rfl := kS27_open hR33
        refine gd_q (v := .pointer (some p31)) (by kernel_rfl) (by kernel_rfl) (CC.refl (fun p hp => by cases hp)) (fun I' L' T hC kk => gl_indexAddrF (c := n1_0) (T' := 22) (e := 28) (xs := (.tmp 21)) (xi := (.tmp 22)) (kd := .i64) ha35 hi36.1 hi36.2.1 (by kernel_rfl) (by kernel_rfl) (by kernel_rfl) (by kernel_rfl) (by kernel_rfl) kk) ?_
        refine gd_q (v := .agg #[.int .i64 x29.f0, .string x29.f1, .int .i64 x29.f2]) (by kernel_rfl) (by kernel_rfl) (CC.refl (fun p hp => by cases hp)) (fun I' L' T hC kk => gl_loadA (T' := 28) (xp := (.tmp 23)) (p := p31) (cs := [.int .i64 x29.f0, .string x29.f1, .int .i64 x29.f2]) (by kernel_rfl) (by kernel_rfl) (by kernel_rfl) (by kernel_rfl) ((hA34.mono hC.le).take 3) kk) ?_
        refine gd_q (v := .bool (!((x21.f0 == x29.f0) && ((x21.f1.toList == x29.f1.toList) && (x21.f2 == x29.f2))))) (by kernel_rfl) (by kernel_rfl) (CC.refl (fun p hp => by cases hp)) (fun I' L' T hC kk => gl_eqAgg (cx := #[.int .i64 x21.f0, .string x21.f1, .int .i64 x21.f2]) (cy := #[.int .i64 x29.f0, .string x29.f1, .int .i64 x29.f2]) (n := true) (t := 28) (t' := 28) (x := (.tmp 20)) (y := (.tmp 24)) (b := ((x21.f0 == x29.f0) && ((x21.f1.toList == x29.f1.toList) && (x21.f2 == x29.f2)))) (by kernel_rfl) (by kernel_rfl) (by kernel_rfl) (by kernel_rfl) (by kernel_rfl) kk) ?_
        refine gd_done ?_
        refine gl_atE (by kernel_rfl) ?_
        refine ge_seq ?_
        refine gk_cond (b := (!((x21.f0 == x29.f0) && ((x21.f1.toList == x29.f1.toList) && (x21.f2 == x29.f2))))) (by kernel_rfl) (by kernel_rfl) (fun hc37 => ?_) (fun hc37 => ?_)
        · have hb10 := cond_t hc37 hb10
          refine gk_seq (by kernel_rfl) ?_
          refine gk_region (by kernel_rfl) ?_
          refine gl_pure 1 [4] (K' := [(4, .bool false)]) (by kernel_rfl) ?_
          refine gl_atE (by kernel_rfl) ?_
          refine ge_seq ?_
          refine gk_ret (by kernel_rfl) ?_
          refine ge_block_ret ?_
          refine ge_seq_ret ?_
          obtain rfl := some_inj hb10
          refine ge_round_out (fun hrr => ?_) (by intro h; cases h)
          obtain rfl := hrr
          refine ge_block_ret ?_
          refine ge_seq_ret ?_
          refine ge_seq_ret ?_
          obtain rfl := some_inj hr
          exact ge_result trivial (ResOk.tmp (by kernel_rfl) ResOk.nil) hI11 ⟨rfl, rfl⟩
        · have hb10 := cond_f hc37 hb10
          refine gk_skip (by kernel_rfl) ?_
          refine ge_block_normal ?_
          refine ge_seq ?_
          refine gk_region (by kernel_rfl) ?_
          refine gl_pure 3 [0, 1, 5] (K' := [(0, .slice A0_0 a0.length n0_0), (1, .slice A1_0 a1.length n1_0), (5, .int .i64 (IntKind.wrap .i64 (s8 + 1)))]) (by kernel_rfl) ?_
          refine gl_atE (by kernel_rfl) ?_
          obtain rfl := some_inj hb10
          exact ge_round fun t ht => ⟨hI11, rfl, ht.pick (l := [0, 1, 5]) (by kernel_rfl)⟩
      · have hb10 := cond_f hc20 hb10
        refine gk_exit (by kernel_rfl) ?_
        refine ge_seq_exit ?_
        obtain rfl := some_inj hb10
        refine ge_round_out (fun hrr => ?_) (by intro h; cases h)
        obtain rfl := hrr
        refine ge_block_hit (by kernel_rfl) ?_
        exact ge_mid fun t ht => ⟨_, rfl, hI11, rfl, ht.pick (l := []) (by kernel_rfl)⟩
    · rintro t I17 L' ⟨r14, rfl, hI15, rfl, hK16⟩
      refine ge_at hK16 ?_
      refine ge_seq ?_
      refine gk_seq (by kernel_rfl) ?_
      refine gk_region (by kernel_rfl) ?_
      refine gl_pure 1 [4] (K' := [(4, .bool true)]) (by kernel_rfl) ?_
      refine gl_atE (by kernel_rfl) ?_
      refine ge_seq ?_
      refine gk_ret (by kernel_rfl) ?_
      obtain rfl := some_inj hr
      exact ge_result trivial (ResOk.tmp (by kernel_rfl) ResOk.nil) hI15 ⟨rfl, rfl⟩
/-! 20 lex_skip  -/
noncomputable def lex_skip_l20 (a1 : Int) (s2 : ByteArray) : (Nat × Bool) → Option ((Nat × Bool) ⊕ ((Unit) ⊕ (Int))) := fun s10 =>
  bif decide (s10.1 < s2.size) then
  (Option.bind ((bif ((runeAt s2 s10.1) == 10) then
      (some (Sum.inl false))
      else
      (Option.bind ((bif (((s10.2 || ((runeAt s2 s10.1) == 32)) || ((runeAt s2 s10.1) == 9)) || ((runeAt s2 s10.1) == 13)) then
          (some (Sum.inl s10.2))
          else
          (bif ((runeAt s2 s10.1) == 35) then
            (some (Sum.inl true))
            else
            (some (Sum.inr (Sum.inr (Sum.inr (Sum.inr (IntKind.wrap .i64 (a1 + (s10.1 : Int))))))))) : Option ((Bool) ⊕ ((Bool) ⊕ ((Nat × Bool) ⊕ ((Unit) ⊕ (Int))))))) fun (j38 : (Bool) ⊕ ((Bool) ⊕ ((Nat × Bool) ⊕ ((Unit) ⊕ (Int))))) =>
        match j38 with
        | Sum.inl j40 => some (Sum.inl j40)
        | Sum.inr v46 => some v46) : Option ((Bool) ⊕ ((Nat × Bool) ⊕ ((Unit) ⊕ (Int)))))) fun (j23 : (Bool) ⊕ ((Nat × Bool) ⊕ ((Unit) ⊕ (Int)))) =>
    match j23 with
    | Sum.inl j25 => some (Sum.inl ((s10.1 + runeW s2 s10.1), j25))
    | Sum.inr v47 => some v47)
  else
  (some (Sum.inr (Sum.inl ())))
noncomputable def lex_skip (a0 : ByteArray) (a1 : Int) : Option Int :=
  Option.bind (sx a0 a1 (a0.size : Int)) fun (s2 : ByteArray) =>
  Option.bind (loopO (lex_skip_l20 a1 s2) (0, false)) fun (r8 : (Unit) ⊕ (Int)) =>
  match r8 with
  | Sum.inl r16 => some (a0.size : Int)
  | Sum.inr v48 => some v48
theorem lex_skip_walk {a0 : ByteArray} {a1 : Int} {I : Imm} {r : Int}  (hr : lex_skip a0 a1 = some r) (L : Own) :
    CallsTo Tryd.prog 20 #[.string a0, .int .i64 a1] I L (fun v I' L' => v = .int .i64 r ∧ L = L') := by
  unfold lex_skip at hr
  refine callsTo_body (N := 41) Tryd.func20 (by kernel_rfl) (by kernel_rfl) (by kernel_rfl) ?_
  refine gk_pick [0, 1] (K' := [(0, .string a0), (1, .int .i64 a1)]) (by kernel_rfl) ?_
  refine gk_seq (by kernel_rfl) ?_
  refine gk_region (by kernel_rfl) ?_
  refine gl_pure 1 [0, 1] (K' := [(0, .string a0), (1, .int .i64 a1)]) (by kernel_rfl) ?_
  refine gl_atE (by kernel_rfl) ?_
  refine ge_seq ?_
  refine gk_seq (by kernel_rfl) ?_
  refine gk_region (by kernel_rfl) ?_
  refine gl_pure 1 [0, 1, 5] (K' := [(0, .string a0), (1, .int .i64 a1), (5, .bool false)]) (by kernel_rfl) ?_
  refine gl_atE (by kernel_rfl) ?_
  refine ge_seq ?_
  refine gk_seq (by kernel_rfl) ?_
  refine gk_seq (by kernel_rfl) ?_
  refine gk_region (by kernel_rfl) ?_
  refine gl_pure 2 [0, 1, 5, 8, 9] (K' := [(0, .string a0), (1, .int .i64 a1), (5, .bool false), (8, .string a0), (9, .int .i64 a1)]) (by kernel_rfl) ?_
  obtain ⟨s2, hx1, hr⟩ := bind_some hr
  refine gl_slice' (T' := 9) (xs := (.tmp 8)) (lo := (some (.tmp 9))) (hi := none) hx1 (by kernel_rfl) (by kernel_rfl) (by kernel_rfl) (by kernel_rfl) (by kernel_rfl) (by kernel_rfl) ?_
  refine gl_range (T' := 9) (x := (.tmp 10)) (s := s2) (by kernel_rfl) (by kernel_rfl) (by kernel_rfl) (by kernel_rfl) (fun g3 => ?_)
  refine gl_atE (by kernel_rfl) ?_
  refine ge_seq ?_
  obtain ⟨r8, hl9, hr⟩ := bind_some hr
  refine gk_join (fun t I' L' => ∃ r16, r8 = Sum.inl r16 ∧ I ≤ I' ∧ L = L' ∧ Knows 41 [(0, .string a0)] t) ?_ ?_
  · refine gk_block (by kernel_rfl) ?_
    refine gk_pick [0, 1, 5, 11] (K' := [(0, .string a0), (1, .int .i64 a1), (5, .bool false), (11, .pointer (some ⟨g3, 0, none⟩))]) (by kernel_rfl) ?_
    intro t hK
    refine gc_loop (lex_skip_l20 a1 s2) (fun s10 t I' L' => I ≤ I' ∧ (g3, .stringIter s2 s10.1) :: L = L' ∧ Knows 41 [(0, .string a0), (1, .int .i64 a1), (5, .bool s10.2), (11, .pointer (some ⟨g3, 0, none⟩))] t) (by kernel_rfl) ?_ hl9 ⟨(Imm.refl _), rfl, hK⟩
    rintro s10 o11 t I15 L' hb12 ⟨hI13, rfl, hK14⟩
    unfold lex_skip_l20 at hb12
    refine gk_at hK14 ?_
    refine gk_seq (by kernel_rfl) ?_
    refine gk_region (by kernel_rfl) ?_
    refine gl_next (x := (.tmp 11)) (s := s2) (pos := s10.1) (g := g3) (by kernel_rfl) (by kernel_rfl) (by kernel_rfl) (Upd.set _ _ _ _) (Upd.set _ _ _ _) (fun hc22 => ?_) (fun hc22 => ?_)
    · have hb12 := cond_t hc22 hb12
      refine gl_pure 1 [0, 1, 5, 11, 12, 13] (K' := [(0, .string a0), (1, .int .i64 a1), (5, .bool s10.2), (11, .pointer (some ⟨g3, 0, none⟩)), (12, .tuple #[.bool true, .int .i64 (s10.1 : Int), .int .i32 (runeAt s2 s10.1)]), (13, .bool true)]) (by kernel_rfl) ?_
      refine gl_atE (by kernel_rfl) ?_
      refine ge_seq ?_
      refine gk_seq (by kernel_rfl) ?_
      refine gk_cond (b := true) (by kernel_rfl) (by kernel_rfl) (fun _ => ?_) (fun h => by cases h)
      refine gk_skip (by kernel_rfl) ?_
      refine ge_seq ?_
      refine gk_block (by kernel_rfl) ?_
      refine gk_seq (by kernel_rfl) ?_
      refine gk_region (by kernel_rfl) ?_
      refine gl_pure 4 [0, 1, 5, 6, 7, 11] (K' := [(0, .string a0), (1, .int .i64 a1), (5, .bool s10.2), (6, .int .i64 (s10.1 : Int)), (7, .int .i32 (runeAt s2 s10.1)), (11, .pointer (some ⟨g3, 0, none⟩))]) (by kernel_rfl) ?_
      refine gl_atE (by kernel_rfl) ?_
      refine ge_seq ?_
      refine gk_block (by kernel_rfl) ?_
      refine gk_seq (by kernel_rfl) ?_
      refine gk_region (by kernel_rfl) ?_
      refine gl_pure 3 [0, 1, 5, 6, 7, 11, 19] (K' := [(0, .string a0), (1, .int .i64 a1), (5, .bool s10.2), (6, .int .i64 (s10.1 : Int)), (7, .int .i32 (runeAt s2 s10.1)), (11, .pointer (some ⟨g3, 0, none⟩)), (19, .bool ((runeAt s2 s10.1) == 10))]) (by kernel_rfl) ?_
      refine gl_atE (by kernel_rfl) ?_
      refine ge_seq ?_
      obtain ⟨j23, hj24, hb12⟩ := bind_some hb12
      refine gk_join (fun t I' L' => ∃ j25, j23 = Sum.inl j25 ∧ I15 ≤ I' ∧ (g3, .stringIter s2 (s10.1 + runeW s2 s10.1)) :: L = L' ∧ Knows 41 [(0, .string a0), (1, .int .i64 a1), (5, .bool j25), (11, .pointer (some ⟨g3, 0, none⟩))] t) ?_ ?_
      · refine gk_cond (b := ((runeAt s2 s10.1) == 10)) (by kernel_rfl) (by kernel_rfl) (fun hc29 => ?_) (fun hc29 => ?_)
        · have hj24 := cond_t hc29 hj24
          refine gk_region (by kernel_rfl) ?_
          refine gl_pure 1 [0, 1, 5, 11] (K' := [(0, .string a0), (1, .int .i64 a1), (5, .bool false), (11, .pointer (some ⟨g3, 0, none⟩))]) (by kernel_rfl) ?_
          refine gl_atE (by kernel_rfl) ?_
          obtain rfl := some_inj hj24
          exact ge_mid fun t ht => ⟨_, rfl, (Imm.refl _), rfl, ht.pick (l := [0, 1, 5, 11]) (by kernel_rfl)⟩
        · have hj24 := cond_f hc29 hj24
          refine gk_seq (by kernel_rfl) ?_
          obtain ⟨b32, hb33⟩ : ∃ z, z = (((s10.2 || ((runeAt s2 s10.1) == 32)) || ((runeAt s2 s10.1) == 9)) || ((runeAt s2 s10.1) == 13)) := ⟨_, rfl⟩
          refine gk_join (fun t I' L' => I15 ≤ I' ∧ (g3, .stringIter s2 (s10.1 + runeW s2 s10.1)) :: L = L' ∧ Knows 41 [(0, .string a0), (1, .int .i64 a1), (5, .bool s10.2), (6, .int .i64 (s10.1 : Int)), (7, .int .i32 (runeAt s2 s10.1)), (11, .pointer (some ⟨g3, 0, none⟩)), (22, .bool b32)] t) ?_ ?_
          · refine gk_region (by kernel_rfl) ?_
            refine gl_pure 2 [0, 1, 5, 6, 7, 11, 24] (K' := [(0, .string a0), (1, .int .i64 a1), (5, .bool s10.2), (6, .int .i64 (s10.1 : Int)), (7, .int .i32 (runeAt s2 s10.1)), (11, .pointer (some ⟨g3, 0, none⟩)), (24, .bool s10.2)]) (by kernel_rfl) ?_
            refine gl_case 24 (b := s10.2) (by kernel_rfl) (fun hc35 => ?_) (fun hc35 => ?_)
            · refine gl_pure 12 [0, 1, 5, 6, 7, 11, 22] (K' := [(0, .string a0), (1, .int .i64 a1), (5, .bool s10.2), (6, .int .i64 (s10.1 : Int)), (7, .int .i32 (runeAt s2 s10.1)), (11, .pointer (some ⟨g3, 0, none⟩)), (22, .bool true)]) (by kernel_rfl) ?_
              refine gl_atE (by kernel_rfl) ?_
              exact ge_mid fun t ht => ⟨(Imm.refl _), rfl, by rw [(show b32 = true from hb33.trans (by rw [hc35]; try rfl))]; exact ht.pick (l := [0, 1, 5, 6, 7, 11, 22]) (by kernel_rfl)⟩
            · refine gl_pure 4 [0, 1, 5, 6, 7, 11, 28] (K' := [(0, .string a0), (1, .int .i64 a1), (5, .bool s10.2), (6, .int .i64 (s10.1 : Int)), (7, .int .i32 (runeAt s2 s10.1)), (11, .pointer (some ⟨g3, 0, none⟩)), (28, .bool ((runeAt s2 s10.1) == 32))]) (by kernel_rfl) ?_
              refine gl_case 28 (b := ((runeAt s2 s10.1) == 32)) (by kernel_rfl) (fun hc36 => ?_) (fun hc36 => ?_)
              · refine gl_pure 8 [0, 1, 5, 6, 7, 11, 22] (K' := [(0, .string a0), (1, .int .i64 a1), (5, .bool s10.2), (6, .int .i64 (s10.1 : Int)), (7, .int .i32 (runeAt s2 s10.1)), (11, .pointer (some ⟨g3, 0, none⟩)), (22, .bool true)]) (by kernel_rfl) ?_
                refine gl_atE (by kernel_rfl) ?_
                exact ge_mid fun t ht => ⟨(Imm.refl _), rfl, by rw [(show b32 = true from hb33.trans (by rw [hc35, hc36]; try rfl))]; exact ht.pick (l := [0, 1, 5, 6, 7, 11, 22]) (by kernel_rfl)⟩
              · refine gl_pure 4 [0, 1, 5, 6, 7, 11, 32] (K' := [(0, .string a0), (1, .int .i64 a1), (5, .bool s10.2), (6, .int .i64 (s10.1 : Int)), (7, .int .i32 (runeAt s2 s10.1)), (11, .pointer (some ⟨g3, 0, none⟩)), (32, .bool ((runeAt s2 s10.1) == 9))]) (by kernel_rfl) ?_
                refine gl_case 32 (b := ((runeAt s2 s10.1) == 9)) (by kernel_rfl) (fun hc37 => ?_) (fun hc37 => ?_)
                · refine gl_pure 4 [0, 1, 5, 6, 7, 11, 22] (K' := [(0, .string a0), (1, .int .i64 a1), (5, .bool s10.2), (6, .int .i64 (s10.1 : Int)), (7, .int .i32 (runeAt s2 s10.1)), (11, .pointer (some ⟨g3, 0, none⟩)), (22, .bool true)]) (by kernel_rfl) ?_
                  refine gl_atE (by kernel_rfl) ?_
                  exact ge_mid fun t ht => ⟨(Imm.refl _), rfl, by rw [(show b32 = true from hb33.trans (by rw [hc35, hc36, hc37]; try rfl))]; exact ht.pick (l := [0, 1, 5, 6, 7, 11, 22]) (by kernel_rfl)⟩
                · refine gl_pure 4 [0, 1, 5, 6, 7, 11, 22] (K' := [(0, .string a0), (1, .int .i64 a1), (5, .bool s10.2), (6, .int .i64 (s10.1 : Int)), (7, .int .i32 (runeAt s2 s10.1)), (11, .pointer (some ⟨g3, 0, none⟩)), (22, .bool ((runeAt s2 s10.1) == 13))]) (by kernel_rfl) ?_
                  refine gl_atE (by kernel_rfl) ?_
                  exact ge_mid fun t ht => ⟨(Imm.refl _), rfl, by rw [(show b32 = ((runeAt s2 s10.1) == 13) from hb33.trans (by rw [hc35, hc36, hc37]; try rfl))]; exact ht.pick (l := [0, 1, 5, 6, 7, 11, 22]) (by kernel_rfl)⟩
          · rintro t I34 L' ⟨hI30, rfl, hK31⟩
            subst hb33
            refine ge_at hK31 ?_
            refine ge_seq ?_
            obtain ⟨j38, hj39, hj24⟩ := bind_some hj24
            refine gk_join (fun t I' L' => ∃ j40, j38 = Sum.inl j40 ∧ I34 ≤ I' ∧ (g3, .stringIter s2 (s10.1 + runeW s2 s10.1)) :: L = L' ∧ Knows 41 [(0, .string a0), (1, .int .i64 a1), (5, .bool j40), (11, .pointer (some ⟨g3, 0, none⟩))] t) ?_ ?_
            · refine gk_cond (b := (((s10.2 || ((runeAt s2 s10.1) == 32)) || ((runeAt s2 s10.1) == 9)) || ((runeAt s2 s10.1) == 13))) (by kernel_rfl) (by kernel_rfl) (fun hc44 => ?_) (fun hc44 => ?_)
              · have hj39 := cond_t hc44 hj39
                refine gk_skip (by kernel_rfl) ?_
                obtain rfl := some_inj hj39
                exact ge_mid fun t ht => ⟨_, rfl, (Imm.refl _), rfl, ht.pick (l := [0, 1, 5, 11]) (by kernel_rfl)⟩
              · have hj39 := cond_f hc44 hj39
                refine gk_seq (by kernel_rfl) ?_
                refine gk_region (by kernel_rfl) ?_
                refine gl_pure 3 [0, 1, 6, 11, 36] (K' := [(0, .string a0), (1, .int .i64 a1), (6, .int .i64 (s10.1 : Int)), (11, .pointer (some ⟨g3, 0, none⟩)), (36, .bool ((runeAt s2 s10.1) == 35))]) (by kernel_rfl) ?_
                refine gl_atE (by kernel_rfl) ?_
                refine ge_seq ?_
                refine gk_cond (b := ((runeAt s2 s10.1) == 35)) (by kernel_rfl) (by kernel_rfl) (fun hc45 => ?_) (fun hc45 => ?_)
                · have hj39 := cond_t hc45 hj39
                  refine gk_region (by kernel_rfl) ?_
                  refine gl_pure 1 [0, 1, 5, 11] (K' := [(0, .string a0), (1, .int .i64 a1), (5, .bool true), (11, .pointer (some ⟨g3, 0, none⟩))]) (by kernel_rfl) ?_
                  refine gl_atE (by kernel_rfl) ?_
                  obtain rfl := some_inj hj39
                  exact ge_mid fun t ht => ⟨_, rfl, (Imm.refl _), rfl, ht.pick (l := [0, 1, 5, 11]) (by kernel_rfl)⟩
                · have hj39 := cond_f hc45 hj39
                  refine gk_seq (by kernel_rfl) ?_
                  refine gk_region (by kernel_rfl) ?_
                  refine gl_pure 4 [4] (K' := [(4, .int .i64 (IntKind.wrap .i64 (a1 + (s10.1 : Int))))]) (by kernel_rfl) ?_
                  refine gl_atE (by kernel_rfl) ?_
                  refine ge_seq ?_
                  refine gk_reord (D := L) (Reord.skip (Reord.refl _)) ?_
                  refine gk_ret (by kernel_rfl) ?_
                  refine ge_seq_ret ?_
                  obtain rfl := some_inj hj39
                  refine ge_seq_ret ?_
                  obtain rfl := some_inj hj24
                  refine ge_block_ret ?_
                  refine ge_block_ret ?_
                  obtain rfl := some_inj hb12
                  refine ge_round_out (fun hrr => ?_) (by intro h; cases h)
                  obtain rfl := hrr
                  refine ge_block_ret ?_
                  refine ge_seq_ret ?_
                  refine ge_seq_ret ?_
                  obtain rfl := some_inj hr
                  exact ge_result trivial (ResOk.tmp (by kernel_rfl) ResOk.nil) (Imm.trans hI13 hI30) ⟨rfl, rfl⟩
            · rintro t I43 L' ⟨j40, rfl, hI41, rfl, hK42⟩
              refine ge_at hK42 ?_
              obtain rfl := some_inj hj24
              exact ge_mid fun t ht => ⟨_, rfl, (Imm.trans hI30 hI41), rfl, ht.pick (l := [0, 1, 5, 11]) (by kernel_rfl)⟩
      · rintro t I28 L' ⟨j25, rfl, hI26, rfl, hK27⟩
        refine ge_at hK27 ?_
        refine ge_block_normal ?_
        refine ge_block_normal ?_
        obtain rfl := some_inj hb12
        exact ge_round fun t ht => ⟨(Imm.trans hI13 hI26), rfl, ht.pick (l := [0, 1, 5, 11]) (by kernel_rfl)⟩
    · have hb12 := cond_f hc22 hb12
      refine gl_pure 1 [0, 1, 5, 11, 12, 13] (K' := [(0, .string a0), (1, .int .i64 a1), (5, .bool s10.2), (11, .pointer (some ⟨g3, 0, none⟩)), (12, .tuple #[.bool false]), (13, .bool false)]) (by kernel_rfl) ?_
      refine gl_atE (by kernel_rfl) ?_
      refine ge_seq ?_
      refine gk_seq (by kernel_rfl) ?_
      refine gk_cond (b := false) (by kernel_rfl) (by kernel_rfl) (fun h => by cases h) (fun _ => ?_)
      refine gk_reord (D := L) (Reord.skip (Reord.refl _)) ?_
      refine gk_exit (by kernel_rfl) ?_
      refine ge_seq_exit ?_
      obtain rfl := some_inj hb12
      refine ge_round_out (fun hrr => ?_) (by intro h; cases h)
      obtain rfl := hrr
      refine ge_block_hit (by kernel_rfl) ?_
      exact ge_mid fun t ht => ⟨_, rfl, hI13, rfl, ht.pick (l := [0]) (by kernel_rfl)⟩
  · rintro t I19 L' ⟨r16, rfl, hI17, rfl, hK18⟩
    refine ge_at hK18 ?_
    refine ge_seq ?_
    refine gk_seq (by kernel_rfl) ?_
    refine gk_region (by kernel_rfl) ?_
    refine gl_pure 3 [4] (K' := [(4, .int .i64 (a0.size : Int))]) (by kernel_rfl) ?_
    refine gl_atE (by kernel_rfl) ?_
    refine ge_seq ?_
    refine gk_ret (by kernel_rfl) ?_
    obtain rfl := some_inj hr
    exact ge_result trivial (ResOk.tmp (by kernel_rfl) ResOk.nil) hI17 ⟨rfl, rfl⟩
/-! 8 lex_Tokens  -/
noncomputable def lex_Tokens_l32 (a0 : ByteArray) : ((List S27) × Int) → Option (((List S27) × Int) ⊕ (((List S27)) ⊕ ((List S27) × Int × Int))) := fun s14 =>
  bif (decide (s14.2 < (a0.size : Int))) then
  (Option.bind (sx a0 s14.2 (a0.size : Int)) fun (s36 : ByteArray) =>
    Option.bind (lex_one s36) fun (y37 : S27 × Int) =>
    bif (y37.2 == 0) then
    (some (Sum.inr (Sum.inr ([], 130, s14.2))))
    else
    (Option.bind (app s14.1 [(⟨y37.1.f0, y37.1.f1, s14.2⟩ : S27)]) fun (zs45 : List S27) =>
      Option.bind (lex_skip a0 (IntKind.wrap .i64 (s14.2 + y37.2))) fun (y51 : Int) =>
      some (Sum.inl (zs45, y51))))
  else
  (some (Sum.inr (Sum.inl s14.1)))
noncomputable def lex_Tokens (a0 : ByteArray) : Option ((List S27) × Int × Int) :=
  bif (decide ((a0.size : Int) > 65536)) then
  (some ([], 4, 0))
  else
  (Option.bind (lex_skip a0 0) fun (y2 : Int) =>
    Option.bind (loopO (lex_Tokens_l32 a0) ([], y2)) fun (r12 : ((List S27)) ⊕ ((List S27) × Int × Int)) =>
    match r12 with
    | Sum.inl r24 => Option.bind (app r24 [(⟨0, (⟨#[]⟩ : ByteArray), (a0.size : Int)⟩ : S27)]) fun (zs57 : List S27) =>
      bif (decide ((zs57.length : Int) > 4096)) then
      (some ([], 7, 0))
      else
      (some (zs57, 0, 0))
    | Sum.inr v64 => some v64)
theorem lex_Tokens_walk {a0 : ByteArray} {I : Imm} {r : (List S27) × Int × Int} (hG : Gl I) (hr : lex_Tokens a0 = some r) (L : Own) :
    CallsTo Tryd.prog 8 #[.string a0] I L (fun v I' L' => ∃ A0 c0 C0, OwnS kS27 28 I' A0 c0 r.1 C0 ∧ v = .tuple #[.slice A0 r.1.length c0, .int .i64 r.2.1, .int .i64 r.2.2] ∧ C0 ++ L = L') := by
  unfold lex_Tokens at hr
  refine callsTo_body (N := 49) Tryd.func8 (by kernel_rfl) (by kernel_rfl) (by kernel_rfl) ?_
  refine gk_pick [0] (K' := [(0, .string a0)]) (by kernel_rfl) ?_
  refine gk_seq (by kernel_rfl) ?_
  refine gk_region (by kernel_rfl) ?_
  refine gl_pure 3 [0] (K' := [(0, .string a0)]) (by kernel_rfl) ?_
  refine gl_atE (by kernel_rfl) ?_
  refine ge_seq ?_
  refine gk_seq (by kernel_rfl) ?_
  refine gk_seq (by kernel_rfl) ?_
  refine gk_region (by kernel_rfl) ?_
  refine gl_pure 3 [0, 11] (K' := [(0, .string a0), (11, .bool (decide ((a0.size : Int) > 65536)))]) (by kernel_rfl) ?_
  refine gl_atE (by kernel_rfl) ?_
  refine ge_seq ?_
  refine gk_cond (b := (decide ((a0.size : Int) > 65536))) (by kernel_rfl) (by kernel_rfl) (fun hc1 => ?_) (fun hc1 => ?_)
  · have hr := cond_t hc1 hr
    refine gk_seq (by kernel_rfl) ?_
    refine gk_region (by kernel_rfl) ?_
    refine gl_pure 3 [2, 3, 4] (K' := [(2, .slice none 0 0), (3, .int .i64 4), (4, .int .i64 0)]) (by kernel_rfl) ?_
    refine gl_atE (by kernel_rfl) ?_
    refine ge_seq ?_
    refine gk_ret (by kernel_rfl) ?_
    refine ge_seq_ret ?_
    obtain rfl := some_inj hr
    exact ge_result trivial (ResOk.tmp (by kernel_rfl) (ResOk.tmp (by kernel_rfl) (ResOk.tmp (by kernel_rfl) ResOk.nil))) (Imm.refl _) ⟨none, 0, [], OwnS.nil _ _ _ _, rfl, rfl⟩
  · have hr := cond_f hc1 hr
    refine gk_skip (by kernel_rfl) ?_
    refine ge_seq ?_
    refine gk_seq (by kernel_rfl) ?_
    refine gk_region (by kernel_rfl) ?_
    refine gl_pure 1 [0, 5] (K' := [(0, .string a0), (5, .slice none 0 0)]) (by kernel_rfl) ?_
    refine gl_atE (by kernel_rfl) ?_
    refine ge_seq ?_
    refine gk_seq (by kernel_rfl) ?_
    refine gk_seq (by kernel_rfl) ?_
    refine gk_region (by kernel_rfl) ?_
    refine gl_pure 1 [0, 5, 12] (K' := [(0, .string a0), (5, .slice none 0 0), (12, .string a0)]) (by kernel_rfl) ?_
    obtain ⟨y2, hx3, hr⟩ := bind_some hr
    refine gl_callQ (by kernel_rfl) (lex_skip_walk (r := y2)  hx3 _) ?_
    refine gl_pure 1 [0, 5, 6] (K' := [(0, .string a0), (5, .slice none 0 0), (6, .int .i64 y2)]) (by kernel_rfl) ?_
    refine gl_atE (by kernel_rfl) ?_
    refine ge_seq ?_
    obtain ⟨r12, hl13, hr⟩ := bind_some hr
    refine gk_join (fun t I' L' => ∃ r24, r12 = Sum.inl r24 ∧ ∃ A26 n27 C28, OwnS kS27 28 I' A26 n27 r24 C28 ∧ I ≤ I' ∧ C28 ++ L = L' ∧ Knows 49 [(0, .string a0), (5, .slice A26 r24.length n27)] t) ?_ ?_
    · refine gk_block (by kernel_rfl) ?_
      refine gk_pick [0, 5, 6] (K' := [(0, .string a0), (5, .slice none 0 0), (6, .int .i64 y2)]) (by kernel_rfl) ?_
      intro t hK
      refine gc_loop (lex_Tokens_l32 a0) (fun s14 t I' L' => ∃ A18 n19 C20, OwnS kS27 28 I' A18 n19 s14.1 C20 ∧ I ≤ I' ∧ C20 ++ L = L' ∧ Knows 49 [(0, .string a0), (5, .slice A18 s14.1.length n19), (6, .int .i64 s14.2)] t) (by kernel_rfl) ?_ hl13 ⟨none, 0, [], OwnS.nil _ _ _ _, (Imm.refl _), rfl, hK⟩
      rintro s14 o15 t I23 L' hb16 ⟨A18, n19, C20, hO21, hI17, rfl, hK22⟩
      unfold lex_Tokens_l32 at hb16
      refine gk_at hK22 ?_
      refine gk_seq (by kernel_rfl) ?_
      refine gk_seq (by kernel_rfl) ?_
      refine gk_region (by kernel_rfl) ?_
      refine gl_pure 4 [0, 5, 6, 17] (K' := [(0, .string a0), (5, .slice A18 s14.1.length n19), (6, .int .i64 s14.2), (17, .bool (decide (s14.2 < (a0.size : Int))))]) (by kernel_rfl) ?_
      refine gl_atE (by kernel_rfl) ?_
      refine ge_seq ?_
      refine gk_cond (b := (decide (s14.2 < (a0.size : Int)))) (by kernel_rfl) (by kernel_rfl) (fun hc34 => ?_) (fun hc34 => ?_)
      · have hb16 := cond_t hc34 hb16
        refine gk_skip (by kernel_rfl) ?_
        refine ge_seq ?_
        refine gk_block (by kernel_rfl) ?_
        refine gk_seq (by kernel_rfl) ?_
        refine gk_region (by kernel_rfl) ?_
        refine gl_pure 2 [0, 5, 6, 19, 20] (K' := [(0, .string a0), (5, .slice A18 s14.1.length n19), (6, .int .i64 s14.2), (19, .string a0), (20, .int .i64 s14.2)]) (by kernel_rfl) ?_
        obtain ⟨s36, hx35, hb16⟩ := bind_some hb16
        refine gl_slice' (T' := 9) (xs := (.tmp 19)) (lo := (some (.tmp 20))) (hi := none) hx35 (by kernel_rfl) (by kernel_rfl) (by kernel_rfl) (by kernel_rfl) (by kernel_rfl) (by kernel_rfl) ?_
        obtain ⟨y37, hx38, hb16⟩ := bind_some hb16
        refine gl_callQ (by kernel_rfl) (lex_one_walk (r := y37) (hG.mono hI17) hx38 _) ?_
        refine gl_pure 3 [0, 5, 6, 23, 24] (K' := [(0, .string a0), (5, .slice A18 s14.1.length n19), (6, .int .i64 s14.2), (23, .agg #[.int .i64 y37.1.f0, .string y37.1.f1, .int .i64 y37.1.f2]), (24, .int .i64 y37.2)]) (by kernel_rfl) ?_
        refine gl_alloc (T' := 28) (cs := #[.int .i64 0, .string (⟨#[]⟩ : ByteArray), .int .i64 0]) (by kernel_rfl) (by kernel_rfl) (by kernel_rfl) (fun g39 => ?_)
        refine gl_storeB (T' := 28) (xp := (.tmp 7)) (xv := (.tmp 23)) (v := .agg #[.int .i64 y37.1.f0, .string y37.1.f1, .int .i64 y37.1.f2]) (g := g39) (off := 0) (cs := #[.int .i64 0, .string (⟨#[]⟩ : ByteArray), .int .i64 0]) (cs' := #[.int .i64 y37.1.f0, .string y37.1.f1, .int .i64 y37.1.f2]) (by kernel_rfl) (by kernel_rfl) (by kernel_rfl) (by kernel_rfl) (by kernel_rfl) (Upd.set _ _ _ _) ?_ (by kernel_rfl)
        refine gl_pure 1 [0, 5, 6, 7, 8] (K' := [(0, .string a0), (5, .slice A18 s14.1.length n19), (6, .int .i64 s14.2), (7, .pointer (some ⟨g39, 0, none⟩)), (8, .int .i64 y37.2)]) (by kernel_rfl) ?_
        refine gl_atE (by kernel_rfl) ?_
        refine ge_seq ?_
        refine gk_seq (by kernel_rfl) ?_
        refine gk_seq (by kernel_rfl) ?_
        refine gk_region (by kernel_rfl) ?_
        refine gl_pure 2 [0, 5, 6, 7, 8, 26] (K' := [(0, .string a0), (5, .slice A18 s14.1.length n19), (6, .int .i64 s14.2), (7, .pointer (some ⟨g39, 0, none⟩)), (8, .int .i64 y37.2), (26, .bool (y37.2 == 0))]) (by kernel_rfl) ?_
        refine gl_atE (by kernel_rfl) ?_
        refine ge_seq ?_
        refine gk_cond (b := (y37.2 == 0)) (by kernel_rfl) (by kernel_rfl) (fun hc40 => ?_) (fun hc40 => ?_)
        · have hb16 := cond_t hc40 hb16
          refine gk_seq (by kernel_rfl) ?_
          refine gk_region (by kernel_rfl) ?_
          refine gl_pure 4 [2, 3, 4] (K' := [(2, .slice none 0 0), (3, .int .i64 130), (4, .int .i64 s14.2)]) (by kernel_rfl) ?_
          refine gl_atE (by kernel_rfl) ?_
          refine ge_seq ?_
          refine gk_reord (D := L) (Reord.skip (Reord.skipC (Reord.refl _))) ?_
          refine gk_ret (by kernel_rfl) ?_
          refine ge_seq_ret ?_
          refine ge_block_ret ?_
          obtain rfl := some_inj hb16
          refine ge_round_out (fun hrr => ?_) (by intro h; cases h)
          obtain rfl := hrr
          refine ge_block_ret ?_
          refine ge_seq_ret ?_
          refine ge_seq_ret ?_
          obtain rfl := some_inj hr
          exact ge_result trivial (ResOk.tmp (by kernel_rfl) (ResOk.tmp (by kernel_rfl) (ResOk.tmp (by kernel_rfl) ResOk.nil))) hI17 ⟨none, 0, [], OwnS.nil _ _ _ _, rfl, rfl⟩
        · have hb16 := cond_f hc40 hb16
          refine gk_skip (by kernel_rfl) ?_
          refine ge_seq ?_
          refine gk_seq (by kernel_rfl) ?_
          refine gk_region (by kernel_rfl) ?_
          refine gl_pure 2 [0, 5, 6, 7, 8, 28, 29] (K' := [(0, .string a0), (5, .slice A18 s14.1.length n19), (6, .int .i64 s14.2), (7, .pointer (some ⟨g39, 0, none⟩)), (8, .int .i64 y37.2), (28, .int .i64 s14.2), (29, .pointer (some ⟨g39, 2, none⟩))]) (by kernel_rfl) ?_
          refine gl_storeB (T' := 3) (xp := (.tmp 29)) (xv := (.tmp 28)) (v := .int .i64 s14.2) (g := g39) (off := 2) (cs := #[.int .i64 y37.1.f0, .string y37.1.f1, .int .i64 y37.1.f2]) (cs' := #[.int .i64 y37.1.f0, .string y37.1.f1, .int .i64 s14.2]) (by kernel_rfl) (by kernel_rfl) (by kernel_rfl) (by kernel_rfl) (by kernel_rfl) (Upd.set _ _ _ _) ?_ (by kernel_rfl)
          refine gl_atE (by kernel_rfl) ?_
          refine ge_seq ?_
          refine gk_seq (by kernel_rfl) ?_
          refine gk_region (by kernel_rfl) ?_
          refine gl_pure 1 [0, 6, 7, 8, 30] (K' := [(0, .string a0), (6, .int .i64 s14.2), (7, .pointer (some ⟨g39, 0, none⟩)), (8, .int .i64 y37.2), (30, .slice A18 s14.1.length n19)]) (by kernel_rfl) ?_
          refine gl_loadB (T' := 28) (xp := (.tmp 7)) (v := .agg #[.int .i64 y37.1.f0, .string y37.1.f1, .int .i64 s14.2]) (g := g39) (off := 0) (cs := #[.int .i64 y37.1.f0, .string y37.1.f1, .int .i64 s14.2]) (e := 28) (fz := (0, 0)) (by kernel_rfl) (by kernel_rfl) (by kernel_rfl) List.mem_cons_self (by kernel_rfl) ?_
          refine gl_buildSlice (T' := 22) (e := 28) (n := 3) (len := 1) (parts := #[(0, (.tmp 31))]) (l := [(0, .agg #[.int .i64 y37.1.f0, .string y37.1.f1, .int .i64 s14.2])]) (cs := #[.int .i64 y37.1.f0, .string y37.1.f1, .int .i64 s14.2]) (by kernel_rfl) (by kernel_rfl) (by kernel_rfl) (by kernel_rfl) (by kernel_rfl) (fun g41 => ?_)
          have hO42 : OwnS kS27 28 I23 (some ⟨g41, 0, none⟩) 1 [(⟨y37.1.f0, y37.1.f1, s14.2⟩ : S27)] [(g41, .cells #[.int .i64 y37.1.f0, .string y37.1.f1, .int .i64 s14.2] 28)] := OwnS.lit (row_cons (l := [.int .i64 y37.1.f0, .string y37.1.f1, .int .i64 s14.2]) (kS27_mk (x := (⟨y37.1.f0, y37.1.f1, s14.2⟩ : S27)) ) (row_nil _ _)) rfl rfl rfl
          refine gl_reord (D := [(g41, .cells #[.int .i64 y37.1.f0, .string y37.1.f1, .int .i64 s14.2] 28)] ++ ((g39, .cells #[.int .i64 y37.1.f0, .string y37.1.f1, .int .i64 s14.2] 28) :: (C20 ++ L))) (Reord.refl _) ?_
          obtain ⟨zs45, hz46, hb16⟩ := bind_some hb16
          refine gl_append (xv := .slice (some ⟨g41, 0, none⟩) [(⟨y37.1.f0, y37.1.f1, s14.2⟩ : S27)].length 1) (d := kS27) (t := 22) (tx := 22) (e := 28) (s := (.tmp 30)) (x := (.tmp 32)) (xs := s14.1) (fun X => [(g41, .cells #[.int .i64 y37.1.f0, .string y37.1.f1, .int .i64 s14.2] 28)] ++ ((g39, .cells #[.int .i64 y37.1.f0, .string y37.1.f1, .int .i64 s14.2] 28) :: (X ++ L))) hz46 (by kernel_rfl) (by kernel_rfl) (by kernel_rfl) (by kernel_rfl) (by kernel_rfl) (by kernel_rfl) (fun X => (Upd.app _ (Upd.one _ (Upd.head _ X _)))) hO21 (SrcOk.slice (c := 1) (e := 28) (n := 3) (OwnS.rd hO42 (Upd.selfC _ _)) (by kernel_rfl)) (fun A47 n48 C49 hO50 => ?_)
          refine gl_pure 1 [0, 5, 6, 8] (K' := [(0, .string a0), (5, .slice A47 zs45.length n48), (6, .int .i64 s14.2), (8, .int .i64 y37.2)]) (by kernel_rfl) ?_
          refine gl_atE (by kernel_rfl) ?_
          refine ge_seq ?_
          refine gk_region (by kernel_rfl) ?_
          refine gl_pure 4 [0, 5, 34, 37] (K' := [(0, .string a0), (5, .slice A47 zs45.length n48), (34, .string a0), (37, .int .i64 (IntKind.wrap .i64 (s14.2 + y37.2)))]) (by kernel_rfl) ?_
          obtain ⟨y51, hx52, hb16⟩ := bind_some hb16
          refine gl_callQ (by kernel_rfl) (lex_skip_walk (r := y51)  hx52 _) ?_
          refine gl_pure 1 [0, 5, 6] (K' := [(0, .string a0), (5, .slice A47 zs45.length n48), (6, .int .i64 y51)]) (by kernel_rfl) ?_
          refine gl_reord (D := C49 ++ L) (Reord.step (Upd.app _ (Upd.one _ (Upd.rmC _ _))) (Reord.skipC (Reord.skip (Reord.refl _)))) ?_
          refine gl_atE (by kernel_rfl) ?_
          refine ge_block_normal ?_
          obtain rfl := some_inj hb16
          exact ge_round fun t ht => ⟨A47, n48, C49, hO50, hI17, rfl, ht.pick (l := [0, 5, 6]) (by kernel_rfl)⟩
      · have hb16 := cond_f hc34 hb16
        refine gk_exit (by kernel_rfl) ?_
        refine ge_seq_exit ?_
        obtain rfl := some_inj hb16
        refine ge_round_out (fun hrr => ?_) (by intro h; cases h)
        obtain rfl := hrr
        refine ge_block_hit (by kernel_rfl) ?_
        exact ge_mid fun t ht => ⟨_, rfl, A18, n19, C20, hO21, hI17, rfl, ht.pick (l := [0, 5]) (by kernel_rfl)⟩
    · rintro t I31 L' ⟨r24, rfl, A26, n27, C28, hO29, hI25, rfl, hK30⟩
      refine ge_at hK30 ?_
      refine ge_seq ?_
      refine gk_seq (by kernel_rfl) ?_
      refine gk_seq (by kernel_rfl) ?_
      refine gk_region (by kernel_rfl) ?_
      refine gl_pure 4 [39, 42] (K' := [(39, .slice A26 r24.length n27), (42, .agg #[.int .i64 0, .string (⟨#[]⟩ : ByteArray), .int .i64 (a0.size : Int)])]) (by kernel_rfl) ?_
      refine gl_buildSlice (T' := 22) (e := 28) (n := 3) (len := 1) (parts := #[(0, (.tmp 42))]) (l := [(0, .agg #[.int .i64 0, .string (⟨#[]⟩ : ByteArray), .int .i64 (a0.size : Int)])]) (cs := #[.int .i64 0, .string (⟨#[]⟩ : ByteArray), .int .i64 (a0.size : Int)]) (by kernel_rfl) (by kernel_rfl) (by kernel_rfl) (by kernel_rfl) (by kernel_rfl) (fun g53 => ?_)
      have hO54 : OwnS kS27 28 I31 (some ⟨g53, 0, none⟩) 1 [(⟨0, (⟨#[]⟩ : ByteArray), (a0.size : Int)⟩ : S27)] [(g53, .cells #[.int .i64 0, .string (⟨#[]⟩ : ByteArray), .int .i64 (a0.size : Int)] 28)] := OwnS.lit (row_cons (l := [.int .i64 0, .string (⟨#[]⟩ : ByteArray), .int .i64 (a0.size : Int)]) (kS27_mk (x := (⟨0, (⟨#[]⟩ : ByteArray), (a0.size : Int)⟩ : S27)) ) (row_nil _ _)) rfl rfl rfl
      refine gl_reord (D := [(g53, .cells #[.int .i64 0, .string (⟨#[]⟩ : ByteArray), .int .i64 (a0.size : Int)] 28)] ++ (C28 ++ L)) (Reord.refl _) ?_
      obtain ⟨zs57, hz58, hr⟩ := bind_some hr
      refine gl_append (xv := .slice (some ⟨g53, 0, none⟩) [(⟨0, (⟨#[]⟩ : ByteArray), (a0.size : Int)⟩ : S27)].length 1) (d := kS27) (t := 22) (tx := 22) (e := 28) (s := (.tmp 39)) (x := (.tmp 43)) (xs := r24) (fun X => [(g53, .cells #[.int .i64 0, .string (⟨#[]⟩ : ByteArray), .int .i64 (a0.size : Int)] 28)] ++ (X ++ L)) hz58 (by kernel_rfl) (by kernel_rfl) (by kernel_rfl) (by kernel_rfl) (by kernel_rfl) (by kernel_rfl) (fun X => (Upd.app _ (Upd.head _ X _))) hO29 (SrcOk.slice (c := 1) (e := 28) (n := 3) (OwnS.rd hO54 (Upd.selfC _ _)) (by kernel_rfl)) (fun A59 n60 C61 hO62 => ?_)
      refine gl_pure 1 [5] (K' := [(5, .slice A59 zs57.length n60)]) (by kernel_rfl) ?_
      refine gl_atE (by kernel_rfl) ?_
      refine ge_seq ?_
      refine gk_seq (by kernel_rfl) ?_
      refine gk_region (by kernel_rfl) ?_
      refine gl_pure 3 [5, 47] (K' := [(5, .slice A59 zs57.length n60), (47, .bool (decide ((zs57.length : Int) > 4096)))]) (by kernel_rfl) ?_
      refine gl_atE (by kernel_rfl) ?_
      refine ge_seq ?_
      refine gk_cond (b := (decide ((zs57.length : Int) > 4096))) (by kernel_rfl) (by kernel_rfl) (fun hc63 => ?_) (fun hc63 => ?_)
      · have hr := cond_t hc63 hr
        refine gk_seq (by kernel_rfl) ?_
        refine gk_region (by kernel_rfl) ?_
        refine gl_pure 3 [2, 3, 4] (K' := [(2, .slice none 0 0), (3, .int .i64 7), (4, .int .i64 0)]) (by kernel_rfl) ?_
        refine gl_atE (by kernel_rfl) ?_
        refine ge_seq ?_
        refine gk_reord (D := L) (Reord.skipC (Reord.skipC (Reord.refl _))) ?_
        refine gk_ret (by kernel_rfl) ?_
        refine ge_seq_ret ?_
        obtain rfl := some_inj hr
        exact ge_result trivial (ResOk.tmp (by kernel_rfl) (ResOk.tmp (by kernel_rfl) (ResOk.tmp (by kernel_rfl) ResOk.nil))) hI25 ⟨none, 0, [], OwnS.nil _ _ _ _, rfl, rfl⟩
      · have hr := cond_f hc63 hr
        refine gk_skip (by kernel_rfl) ?_
        refine ge_seq ?_
        refine gk_seq (by kernel_rfl) ?_
        refine gk_region (by kernel_rfl) ?_
        refine gl_pure 4 [2, 3, 4] (K' := [(2, .slice A59 zs57.length n60), (3, .int .i64 0), (4, .int .i64 0)]) (by kernel_rfl) ?_
        refine gl_atE (by kernel_rfl) ?_
        refine ge_seq ?_
        refine gk_reord (D := C61 ++ L) (Reord.step (Upd.app _ (Upd.rmC _ _)) (Reord.skipC (Reord.refl _))) ?_
        refine gk_ret (by kernel_rfl) ?_
        obtain rfl := some_inj hr
        exact ge_result trivial (ResOk.tmp (by kernel_rfl) (ResOk.tmp (by kernel_rfl) (ResOk.tmp (by kernel_rfl) ResOk.nil))) hI25 ⟨A59, n60, C61, hO62, rfl, rfl⟩
/-! 19 lex_Span  -/
noncomputable def lex_Span (a0 : ByteArray) : Option (Int × Int) :=
  Option.bind (lex_alone a0 3) fun (y1 : Bool) =>
  bif (!y1) then
  (some (0, 130))
  else
  (Option.bind (lex_span a0) fun (y4 : Int × Int) =>
    bif (decide (y4.2 > 1099511627776)) then
    (some (0, 7))
    else
    (some (y4.2, 0)))
theorem lex_Span_walk {a0 : ByteArray} {I : Imm} {r : Int × Int} (hG : Gl I) (hr : lex_Span a0 = some r) (L : Own) :
    CallsTo Tryd.prog 19 #[.string a0] I L (fun v I' L' => v = .tuple #[.int .i64 r.1, .int .i64 r.2] ∧ L = L') := by
  unfold lex_Span at hr
  refine callsTo_body (N := 17) Tryd.func19 (by kernel_rfl) (by kernel_rfl) (by kernel_rfl) ?_
  refine gk_pick [0] (K' := [(0, .string a0)]) (by kernel_rfl) ?_
  refine gk_seq (by kernel_rfl) ?_
  refine gk_region (by kernel_rfl) ?_
  refine gl_pure 2 [0] (K' := [(0, .string a0)]) (by kernel_rfl) ?_
  refine gl_atE (by kernel_rfl) ?_
  refine ge_seq ?_
  refine gk_seq (by kernel_rfl) ?_
  refine gk_seq (by kernel_rfl) ?_
  refine gk_region (by kernel_rfl) ?_
  refine gl_pure 1 [0, 6] (K' := [(0, .string a0), (6, .string a0)]) (by kernel_rfl) ?_
  obtain ⟨y1, hx2, hr⟩ := bind_some hr
  refine gl_callQ (by kernel_rfl) (lex_alone_walk (r := y1) hG hx2 _) ?_
  refine gl_pure 1 [0, 8] (K' := [(0, .string a0), (8, .bool (!y1))]) (by kernel_rfl) ?_
  refine gl_atE (by kernel_rfl) ?_
  refine ge_seq ?_
  refine gk_cond (b := (!y1)) (by kernel_rfl) (by kernel_rfl) (fun hc3 => ?_) (fun hc3 => ?_)
  · have hr := cond_t hc3 hr
    refine gk_seq (by kernel_rfl) ?_
    refine gk_region (by kernel_rfl) ?_
    refine gl_pure 2 [2, 3] (K' := [(2, .int .i64 0), (3, .int .i64 130)]) (by kernel_rfl) ?_
    refine gl_atE (by kernel_rfl) ?_
    refine ge_seq ?_
    refine gk_ret (by kernel_rfl) ?_
    refine ge_seq_ret ?_
    obtain rfl := some_inj hr
    exact ge_result trivial (ResOk.tmp (by kernel_rfl) (ResOk.tmp (by kernel_rfl) ResOk.nil)) (Imm.refl _) ⟨rfl, rfl⟩
  · have hr := cond_f hc3 hr
    refine gk_skip (by kernel_rfl) ?_
    refine ge_seq ?_
    refine gk_seq (by kernel_rfl) ?_
    refine gk_region (by kernel_rfl) ?_
    refine gl_pure 1 [10] (K' := [(10, .string a0)]) (by kernel_rfl) ?_
    obtain ⟨y4, hx5, hr⟩ := bind_some hr
    refine gl_callQ (by kernel_rfl) (lex_span_walk (r := y4)  hx5 _) ?_
    refine gl_pure 5 [5] (K' := [(5, .int .i64 y4.2)]) (by kernel_rfl) ?_
    refine gl_atE (by kernel_rfl) ?_
    refine ge_seq ?_
    refine gk_seq (by kernel_rfl) ?_
    refine gk_seq (by kernel_rfl) ?_
    refine gk_region (by kernel_rfl) ?_
    refine gl_pure 2 [5, 15] (K' := [(5, .int .i64 y4.2), (15, .bool (decide (y4.2 > 1099511627776)))]) (by kernel_rfl) ?_
    refine gl_atE (by kernel_rfl) ?_
    refine ge_seq ?_
    refine gk_cond (b := (decide (y4.2 > 1099511627776))) (by kernel_rfl) (by kernel_rfl) (fun hc6 => ?_) (fun hc6 => ?_)
    · have hr := cond_t hc6 hr
      refine gk_seq (by kernel_rfl) ?_
      refine gk_region (by kernel_rfl) ?_
      refine gl_pure 2 [2, 3] (K' := [(2, .int .i64 0), (3, .int .i64 7)]) (by kernel_rfl) ?_
      refine gl_atE (by kernel_rfl) ?_
      refine ge_seq ?_
      refine gk_ret (by kernel_rfl) ?_
      refine ge_seq_ret ?_
      obtain rfl := some_inj hr
      exact ge_result trivial (ResOk.tmp (by kernel_rfl) (ResOk.tmp (by kernel_rfl) ResOk.nil)) (Imm.refl _) ⟨rfl, rfl⟩
    · have hr := cond_f hc6 hr
      refine gk_skip (by kernel_rfl) ?_
      refine ge_seq ?_
      refine gk_seq (by kernel_rfl) ?_
      refine gk_region (by kernel_rfl) ?_
      refine gl_pure 3 [2, 3] (K' := [(2, .int .i64 y4.2), (3, .int .i64 0)]) (by kernel_rfl) ?_
      refine gl_atE (by kernel_rfl) ?_
      refine ge_seq ?_
      refine gk_ret (by kernel_rfl) ?_
      obtain rfl := some_inj hr
      exact ge_result trivial (ResOk.tmp (by kernel_rfl) (ResOk.tmp (by kernel_rfl) ResOk.nil)) (Imm.refl _) ⟨rfl, rfl⟩
def lays173_ren : Go.Shelf.Ren := ⟨fun x => if x = 173 then 33 else if x = 246 then 51 else if x = 283 then 66 else if x = 284 then 67 else if x = 285 then 68 else if x = 286 then 69 else if x = 129 then 75 else if x = 317 then 74 else if x = 318 then 76 else if x = 319 then 77 else if x = 320 then 78 else if x = 337 then 86 else if x = 338 then 87 else x, fun x => if x = 171 then 100 else if x = 53 then 89 else if x = 37 then 41 else if x = 173 then 103 else if x = 212 then 109 else if x = 51 then 110 else if x = 213 then 111 else if x = 46 then 82 else if x = 232 then 124 else if x = 233 then 125 else x, fun x => if x = 17 then 2 else if x = 18 then 5 else if x = 19 then 6 else x⟩
theorem lays173 : Go.Proofs.LaysM.n173 Tryd.prog lays173_ren := {
  mixed := by kernel_rfl,
  f129 := Tryd.func75.trans (congrArg some (by kernel_rfl)),
  f173 := Tryd.func33.trans (congrArg some (by kernel_rfl)),
  f246 := Tryd.func51.trans (congrArg some (by kernel_rfl)),
  f283 := Tryd.func66.trans (congrArg some (by kernel_rfl)),
  f284 := Tryd.func67.trans (congrArg some (by kernel_rfl)),
  f285 := Tryd.func68.trans (congrArg some (by kernel_rfl)),
  f286 := Tryd.func69.trans (congrArg some (by kernel_rfl)),
  f317 := Tryd.func74.trans (congrArg some (by kernel_rfl)),
  f318 := Tryd.func76.trans (congrArg some (by kernel_rfl)),
  f319 := Tryd.func77.trans (congrArg some (by kernel_rfl)),
  f320 := Tryd.func78.trans (congrArg some (by kernel_rfl)),
  f337 := Tryd.func86.trans (congrArg some (by kernel_rfl)),
  f338 := Tryd.func87.trans (congrArg some (by kernel_rfl)),
  t0 := Tryd.underlying0,
  a0 := Tryd.isAgg0,
  z0 := Tryd.sizeOf0,
  v0 := Tryd.zeroValue0,
  t2 := Tryd.underlying2,
  a2 := Tryd.isAgg2,
  z2 := Tryd.sizeOf2,
  v2 := Tryd.zeroValue2,
  t3 := Tryd.underlying3,
  a3 := Tryd.isAgg3,
  z3 := Tryd.sizeOf3,
  v3 := Tryd.zeroValue3,
  t4 := Tryd.underlying4,
  a4 := Tryd.isAgg4,
  z4 := Tryd.sizeOf4,
  v4 := Tryd.zeroValue4,
  t5 := Tryd.underlying5,
  a5 := Tryd.isAgg5,
  z5 := Tryd.sizeOf5,
  v5 := Tryd.zeroValue5,
  t9 := Tryd.underlying9,
  a9 := Tryd.isAgg9,
  z9 := Tryd.sizeOf9,
  v9 := Tryd.zeroValue9,
  t20 := Tryd.underlying20,
  a20 := Tryd.isAgg20,
  z20 := Tryd.sizeOf20,
  v20 := Tryd.zeroValue20,
  t37 := Tryd.underlying41,
  a37 := Tryd.isAgg41,
  z37 := Tryd.sizeOf41,
  v37 := Tryd.zeroValue41,
  t46 := Tryd.underlying82,
  a46 := Tryd.isAgg82,
  z46 := Tryd.sizeOf82,
  v46 := Tryd.zeroValue82,
  t51 := Tryd.underlying110,
  a51 := Tryd.isAgg110,
  z51 := Tryd.sizeOf110,
  v51 := Tryd.zeroValue110,
  t53 := Tryd.underlying89,
  a53 := Tryd.isAgg89,
  z53 := Tryd.sizeOf89,
  v53 := Tryd.zeroValue89,
  t171 := Tryd.underlying100,
  a171 := Tryd.isAgg100,
  z171 := Tryd.sizeOf100,
  v171 := Tryd.zeroValue100,
  t173 := Tryd.underlying103,
  a173 := Tryd.isAgg103,
  z173 := Tryd.sizeOf103,
  v173 := Tryd.zeroValue103,
  t212 := Tryd.underlying109,
  a212 := Tryd.isAgg109,
  z212 := Tryd.sizeOf109,
  v212 := Tryd.zeroValue109,
  t213 := Tryd.underlying111,
  a213 := Tryd.isAgg111,
  z213 := Tryd.sizeOf111,
  t232 := Tryd.underlying124,
  a232 := Tryd.isAgg124,
  z232 := Tryd.sizeOf124,
  v232 := Tryd.zeroValue124,
  t233 := Tryd.underlying125,
  a233 := Tryd.isAgg125,
  z233 := Tryd.sizeOf125,
  v233 := Tryd.zeroValue125,
  g17 := by kernel_rfl,
  g18 := by kernel_rfl,
  g19 := by kernel_rfl,
  i0 := by kernel_rfl,
  i2 := by kernel_rfl,
  i3 := by kernel_rfl,
  i4 := by kernel_rfl,
  i5 := by kernel_rfl,
  i9 := by kernel_rfl,
  i20 := by kernel_rfl,
  i37 := by kernel_rfl,
  i46 := by kernel_rfl,
  i51 := by kernel_rfl,
  i53 := by kernel_rfl,
  i171 := by kernel_rfl,
  i173 := by kernel_rfl,
  i212 := by kernel_rfl,
  i232 := by kernel_rfl,
  i233 := by kernel_rfl,
  m17 := by kernel_rfl,
  m18 := by kernel_rfl,
  m19 := by kernel_rfl }

theorem gl_pow10 {I : Imm} {L : Own} {W : World} (hG : Gl I) (hW : Holds I L W) : Go.Lib.TabIs Tryd.prog W "internal/strconv.uint64pow10" .u64 Go.Lib.pow10Tab := by
  obtain ⟨t, fz, hb⟩ := hG.b2
  have h1 := hW.imm _ _ hb
  unfold Go.Lib.TabIs World.var?
  rw [show Tryd.prog.globalNamed "internal/strconv.uint64pow10" = some 2 by kernel_rfl]
  simp only [Option.bind_some, h1]
  rfl
def strconv_FormatInt (a0 a1 : Int) : Option ByteArray := if a1 = 10 ∧ -9223372036854775808 ≤ a0 ∧ a0 ≤ 9223372036854775807 then some ⟨(itoaF a0).toArray⟩ else none
theorem strconv_FormatInt_walk {a0 a1 : Int} {I : Imm} {r : ByteArray} (hG : Gl I) (hr : strconv_FormatInt a0 a1 = some r) (L : Own) :
    CallsTo Tryd.prog 33 #[.int .i64 a0, .int .i64 a1] I L (fun v I' L' => v = .string r ∧ L = L') := by
  unfold strconv_FormatInt at hr
  split at hr <;> cases hr
  rename_i hs
  obtain ⟨rfl, h0, h1⟩ := hs
  intro W hW
  refine (Go.Proofs.Any.strconv_FormatInt_10 lays173 a0 h0 h1 W (gl_pow10 hG hW)).mono ?_
  rintro e W' ⟨he, k, os, rfl⟩
  exact ⟨_, I, L, he, Imm.refl I, Holds.grow (hW.drawn (W.drawn + k)) os, by rw [itoaF_eq h0 h1], rfl⟩

end Go.Proofs.YtlhpclfkoblnkaaDoor
