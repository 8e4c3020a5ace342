/- Parts: Q1d, Q1, GBR, PB1x, PB2x, PG0x, LX1. -/
import Derived.Test.YtnlkfajnaelnnaaGreatDoorQ1cz
import Derived.Test.YtnlkfajnaelnnaaGreatDoorGB30z
import Derived.Test.YtnlkfajnaelnnaaGreatDoorRows
import Derived.Deep.Slices
import Derived.Below
import Derived.Test.YtnlkfajnaelnnaaGreatDoorPA3z
import Derived.Lib.ValidLaws
set_option linter.unusedVariables false
set_option linter.unusedSimpArgs false
set_option maxRecDepth 100000
namespace Go.Proofs.YtnlkfajnaelnnaaGreatDoor
open Go.GB
/-! 74 tocsinref04_Text_Run ('obj', 'imm') -/
/-! 75 tocsinref04_Text_Fail ('obj', 'imm') -/
/-! 76 tocsinref04_Text_Is ('obj', 'imm') -/
/-! 117 tocsinref04_Text_Want ('obj', 'imm') -/
/-! 118 tocsinref04_Text_Value ('obj',) -/
/-! 77 tocsinref04_Text_set ('obj',) -/
/-! 78 tocsinref04_twice  -/
/-! 80 tocsinref04_full  -/
/-! 79 tocsinref04_sorted  -/
/-! 26 tocsinref04_Parse  -/
/-! 28 tocsinlaw04_Spoil_f28 ('own',) -/
/-! 85 labels_Hash_1 ('imm', 'obj') -/
noncomputable def labels_Hash_1_l16 (a0 : ByteArray) : (Int × Int) → Option ((Int × Int) ⊕ (Int)) := fun s7 =>
  bif (decide (s7.2 < (a0.size : Int))) then
  (Option.bind (bx a0 s7.2) fun (c19 : Int) =>
    some (Sum.inl ((IntKind.wrap .u64 ((bitXor .u64 s7.1 (IntKind.wrap .u64 c19)) * 1099511628211)), (IntKind.wrap .i64 (s7.2 + 1)))))
  else
  (some (Sum.inr s7.1))
noncomputable def labels_Hash_1 (a0 : ByteArray) (a1 : Int) : Option Int :=
  Option.bind (loopO (labels_Hash_1_l16 a0) (a1, 0)) fun (r5 : Int) =>
  some (IntKind.wrap .u64 ((bitXor .u64 r5 255) * 1099511628211))
theorem labels_Hash_1_walk {a0 : ByteArray} {a1 : Int} {g1 : Nat} {T1 : TypeId} {I : Imm} {r : Int}  (hr : labels_Hash_1 a0 a1 = some r) (L : Own) :
    CallsTo Tryz.prog 85 #[.string a0, .pointer (some ⟨g1, 0, none⟩)] I ((g1, .cells #[.int .u64 a1] T1) :: L) (fun v I' L' => v = .tuple #[] ∧ (g1, .cells #[.int .u64 r] T1) :: L = L') := by
  unfold labels_Hash_1 at hr
  refine callsTo_body (N := 20) Tryz.func85 (by kernel_rfl) (by kernel_rfl) (by kernel_rfl) ?_
  refine gk_pick [0, 1] (K' := [(0, .string a0), (1, .pointer (some ⟨g1, 0, none⟩))]) (by kernel_rfl) ?_
  refine gk_seq (by kernel_rfl) ?_
  refine gk_seq (by kernel_rfl) ?_
  refine gk_region (by kernel_rfl) ?_
  refine gl_pure 3 [0, 1, 5, 6] (K' := [(0, .string a0), (1, .pointer (some ⟨g1, 0, none⟩)), (5, .int .i64 (a0.size : Int)), (6, .int .i64 0)]) (by kernel_rfl) ?_
  refine gl_atE (by kernel_rfl) ?_
  refine ge_seq ?_
  obtain ⟨r5, hl6, hr⟩ := bind_some hr
  refine gk_join (fun t I' L' => I ≤ I' ∧ (g1, .cells #[.int .u64 r5] T1) :: L = L' ∧ Knows 20 [(1, .pointer (some ⟨g1, 0, none⟩))] t) ?_ ?_
  · refine gk_block (by kernel_rfl) ?_
    refine gk_pick [0, 1, 5, 6] (K' := [(0, .string a0), (1, .pointer (some ⟨g1, 0, none⟩)), (5, .int .i64 (a0.size : Int)), (6, .int .i64 0)]) (by kernel_rfl) ?_
    intro t hK
    refine gc_loop (labels_Hash_1_l16 a0) (fun s7 t I' L' => I ≤ I' ∧ (g1, .cells #[.int .u64 s7.1] T1) :: L = L' ∧ Knows 20 [(0, .string a0), (1, .pointer (some ⟨g1, 0, none⟩)), (5, .int .i64 (a0.size : Int)), (6, .int .i64 s7.2)] t) (by kernel_rfl) ?_ hl6 ⟨(Imm.refl _), rfl, hK⟩
    rintro s7 o8 t I12 L' hb9 ⟨hI10, rfl, hK11⟩
    unfold labels_Hash_1_l16 at hb9
    refine gk_at hK11 ?_
    refine gk_seq (by kernel_rfl) ?_
    refine gk_region (by kernel_rfl) ?_
    refine gl_pure 1 [0, 1, 5, 6, 7] (K' := [(0, .string a0), (1, .pointer (some ⟨g1, 0, none⟩)), (5, .int .i64 (a0.size : Int)), (6, .int .i64 s7.2), (7, .bool (decide (s7.2 < (a0.size : Int))))]) (by kernel_rfl) ?_
    refine gl_atE (by kernel_rfl) ?_
    refine ge_seq ?_
    refine gk_seq (by kernel_rfl) ?_
    refine gk_cond (b := (decide (s7.2 < (a0.size : Int)))) (by kernel_rfl) (by kernel_rfl) (fun hc18 => ?_) (fun hc18 => ?_)
    · have hb9 := cond_t hc18 hb9
      refine gk_skip (by kernel_rfl) ?_
      refine ge_seq ?_
      refine gk_seq (by kernel_rfl) ?_
      refine gk_block (by kernel_rfl) ?_
      refine gk_seq (by kernel_rfl) ?_
      refine gk_region (by kernel_rfl) ?_
      refine gl_pure 2 [0, 1, 3, 5, 6] (K' := [(0, .string a0), (1, .pointer (some ⟨g1, 0, none⟩)), (3, .int .i64 s7.2), (5, .int .i64 (a0.size : Int)), (6, .int .i64 s7.2)]) (by kernel_rfl) ?_
      refine gl_atE (by kernel_rfl) ?_
      refine ge_seq ?_
      refine gk_draw 7 [(0, true), (1, true), (2, true), (3, true), (4, true), (5, true), (6, true)] [(g1, .cells #[.int .u64 s7.1] T1)] (List.forall_mem_cons.2 ⟨List.mem_cons_self, (fun p hp => by cases hp)⟩) (by kernel_rfl) (by kernel_rfl) (by kernel_rfl) ?_ (by kernel_rfl)
      refine gd_q (v := .int .u64 s7.1) (by kernel_rfl) (by kernel_rfl) (CC.refl (List.forall_mem_cons.2 ⟨List.mem_cons_self, (fun p hp => by cases hp)⟩)) (fun I' L' T hC kk => gl_loadB (T' := 41) (xp := (.tmp 1)) (v := .int .u64 s7.1) (g := g1) (off := 0) (cs := #[.int .u64 s7.1]) (e := T1) (fz := (0, 0)) (by kernel_rfl) (by kernel_rfl) (by kernel_rfl) (hC.sub _ List.mem_cons_self) (by kernel_rfl) kk) ?_
      refine gd_pure 2 [0, 1, 5, 6, 9, 10, 11] (K' := [(0, .string a0), (1, .pointer (some ⟨g1, 0, none⟩)), (5, .int .i64 (a0.size : Int)), (6, .int .i64 s7.2), (9, .int .u64 s7.1), (10, .string a0), (11, .int .i64 s7.2)]) (s' := [(3, true), (4, true), (5, true), (6, true)]) (CC.refl (List.forall_mem_cons.2 ⟨List.mem_cons_self, (fun p hp => by cases hp)⟩)) (by kernel_rfl) ?_
      obtain ⟨c19, hx20, hb9⟩ := bind_some hb9
      refine gd_q (v := .int .u8 c19) (by kernel_rfl) (by kernel_rfl) (CC.refl (List.forall_mem_cons.2 ⟨List.mem_cons_self, (fun p hp => by cases hp)⟩)) (fun I' L' T hC kk => gl_index' (T' := 9) (xs := (.tmp 10)) (xi := (.tmp 11)) (kd := .i64) hx20 (by kernel_rfl) (by kernel_rfl) (by kernel_rfl) (by kernel_rfl) (by kernel_rfl) kk) ?_
      refine gd_pure 3 [0, 1, 5, 6, 15] (K' := [(0, .string a0), (1, .pointer (some ⟨g1, 0, none⟩)), (5, .int .i64 (a0.size : Int)), (6, .int .i64 s7.2), (15, .int .u64 (IntKind.wrap .u64 ((bitXor .u64 s7.1 (IntKind.wrap .u64 c19)) * 1099511628211)))]) (s' := []) (CC.refl (List.forall_mem_cons.2 ⟨List.mem_cons_self, (fun p hp => by cases hp)⟩)) (by kernel_rfl) ?_
      refine gd_done ?_
      refine gl_storeB (T' := 41) (xp := (.tmp 1)) (xv := (.tmp 15)) (v := .int .u64 (IntKind.wrap .u64 ((bitXor .u64 s7.1 (IntKind.wrap .u64 c19)) * 1099511628211))) (g := g1) (off := 0) (cs := #[.int .u64 s7.1]) (cs' := #[.int .u64 (IntKind.wrap .u64 ((bitXor .u64 s7.1 (IntKind.wrap .u64 c19)) * 1099511628211))]) (by kernel_rfl) (by kernel_rfl) (by kernel_rfl) (by kernel_rfl) (by kernel_rfl) (Upd.set _ _ _ _) ?_ (by kernel_rfl)
      refine gl_atE (by kernel_rfl) ?_
      refine ge_block_normal ?_
      refine ge_seq ?_
      refine gk_region (by kernel_rfl) ?_
      refine gl_pure 2 [0, 1, 5, 6] (K' := [(0, .string a0), (1, .pointer (some ⟨g1, 0, none⟩)), (5, .int .i64 (a0.size : Int)), (6, .int .i64 (IntKind.wrap .i64 (s7.2 + 1)))]) (by kernel_rfl) ?_
      refine gl_atE (by kernel_rfl) ?_
      obtain rfl := some_inj hb9
      exact ge_round fun t ht => ⟨hI10, rfl, ht.pick (l := [0, 1, 5, 6]) (by kernel_rfl)⟩
    · have hb9 := cond_f hc18 hb9
      refine gk_exit (by kernel_rfl) ?_
      refine ge_seq_exit ?_
      obtain rfl := some_inj hb9
      refine ge_round_out (fun hrr => ?_) (by intro h; cases h)
      obtain rfl := hrr
      refine ge_block_hit (by kernel_rfl) ?_
      exact ge_mid fun t ht => ⟨hI10, rfl, ht.pick (l := [1]) (by kernel_rfl)⟩
  · rintro t I15 L' ⟨hI13, rfl, hK14⟩
    refine ge_at hK14 ?_
    refine ge_seq ?_
    refine gk_region (by kernel_rfl) ?_
    refine gl_loadB (T' := 41) (xp := (.tmp 1)) (v := .int .u64 r5) (g := g1) (off := 0) (cs := #[.int .u64 r5]) (e := T1) (fz := (0, 0)) (by kernel_rfl) (by kernel_rfl) (by kernel_rfl) List.mem_cons_self (by kernel_rfl) ?_
    refine gl_pure 2 [1, 19] (K' := [(1, .pointer (some ⟨g1, 0, none⟩)), (19, .int .u64 (IntKind.wrap .u64 ((bitXor .u64 r5 255) * 1099511628211)))]) (by kernel_rfl) ?_
    refine gl_storeB (T' := 41) (xp := (.tmp 1)) (xv := (.tmp 19)) (v := .int .u64 (IntKind.wrap .u64 ((bitXor .u64 r5 255) * 1099511628211))) (g := g1) (off := 0) (cs := #[.int .u64 r5]) (cs' := #[.int .u64 (IntKind.wrap .u64 ((bitXor .u64 r5 255) * 1099511628211))]) (by kernel_rfl) (by kernel_rfl) (by kernel_rfl) (by kernel_rfl) (by kernel_rfl) (Upd.set _ _ _ _) ?_ (by kernel_rfl)
    refine gl_atE (by kernel_rfl) ?_
    obtain rfl := some_inj hr
    exact ge_result trivial ResOk.nil hI13 ⟨rfl, rfl⟩
/-! 35 labels_Hash  -/
noncomputable def labels_Hash_l17 (a0 : List S49) : (Int × Int) → Option ((Int × Int) ⊕ (Int)) := fun s8 =>
  bif (decide (s8.2 < (a0.length : Int))) then
  (Option.bind (ix a0 s8.2) fun (x20 : S49) =>
    Option.bind (labels_Hash_1 x20.f0 s8.1) fun (y29 : Int) =>
    Option.bind (labels_Hash_1 x20.f1 y29) fun (y34 : Int) =>
    some (Sum.inl (y34, (IntKind.wrap .i64 (s8.2 + 1)))))
  else
  (some (Sum.inr s8.1))
noncomputable def labels_Hash (a0 : List S49) : Option Int :=
  Option.bind (loopO (labels_Hash_l17 a0) (14695981039346656037, 0)) fun (r6 : Int) =>
  some r6
theorem labels_Hash_walk {a0 : List S49} {A0_0 : Option Addr} {n0_0 : Nat} {I : Imm} {r : Int}  (hf0_0 : RepS kS49 I A0_0 n0_0 a0) (hr : labels_Hash a0 = some r) (L : Own) :
    CallsTo Tryz.prog 35 #[.slice A0_0 a0.length n0_0] I L (fun v I' L' => v = .int .u64 r ∧ L = L') := by
  unfold labels_Hash at hr
  refine callsTo_body (N := 24) Tryz.func35 (by kernel_rfl) (by kernel_rfl) (by kernel_rfl) ?_
  refine gk_pick [0] (K' := [(0, .slice A0_0 a0.length n0_0)]) (by kernel_rfl) ?_
  refine gk_seq (by kernel_rfl) ?_
  refine gk_region (by kernel_rfl) ?_
  refine gl_pure 1 [0] (K' := [(0, .slice A0_0 a0.length n0_0)]) (by kernel_rfl) ?_
  refine gl_atE (by kernel_rfl) ?_
  refine ge_seq ?_
  refine gk_seq (by kernel_rfl) ?_
  refine gk_region (by kernel_rfl) ?_
  refine gl_alloc (T' := 41) (cs := #[.int .u64 0]) (by kernel_rfl) (by kernel_rfl) (by kernel_rfl) (fun g1 => ?_)
  refine gl_storeB (T' := 41) (xp := (.tmp 3)) (xv := (.const (.int .u64 14695981039346656037))) (v := .int .u64 14695981039346656037) (g := g1) (off := 0) (cs := #[.int .u64 0]) (cs' := #[.int .u64 14695981039346656037]) (by kernel_rfl) (by kernel_rfl) (by kernel_rfl) (by kernel_rfl) (by kernel_rfl) (Upd.set _ _ _ _) ?_ (by kernel_rfl)
  refine gl_atE (by kernel_rfl) ?_
  refine ge_seq ?_
  refine gk_seq (by kernel_rfl) ?_
  refine gk_region (by kernel_rfl) ?_
  refine gl_pure 2 [0, 3, 4] (K' := [(0, .slice A0_0 a0.length n0_0), (3, .pointer (some ⟨g1, 0, none⟩)), (4, .func (.func 85) #[] #[.pointer (some ⟨g1, 0, none⟩)])]) (by kernel_rfl) ?_
  refine gl_atE (by kernel_rfl) ?_
  refine ge_seq ?_
  refine gk_seq (by kernel_rfl) ?_
  refine gk_seq (by kernel_rfl) ?_
  refine gk_region (by kernel_rfl) ?_
  refine gl_pure 3 [3, 4, 8, 9, 10] (K' := [(3, .pointer (some ⟨g1, 0, none⟩)), (4, .func (.func 85) #[] #[.pointer (some ⟨g1, 0, none⟩)]), (8, .slice A0_0 a0.length n0_0), (9, .int .i64 (a0.length : Int)), (10, .int .i64 0)]) (by kernel_rfl) ?_
  refine gl_atE (by kernel_rfl) ?_
  refine ge_seq ?_
  obtain ⟨r6, hl7, hr⟩ := bind_some hr
  refine gk_join (fun t I' L' => I ≤ I' ∧ (g1, .cells #[.int .u64 r6] 41) :: L = L' ∧ Knows 24 [(3, .pointer (some ⟨g1, 0, none⟩))] t) ?_ ?_
  · refine gk_block (by kernel_rfl) ?_
    refine gk_pick [3, 4, 8, 9, 10] (K' := [(3, .pointer (some ⟨g1, 0, none⟩)), (4, .func (.func 85) #[] #[.pointer (some ⟨g1, 0, none⟩)]), (8, .slice A0_0 a0.length n0_0), (9, .int .i64 (a0.length : Int)), (10, .int .i64 0)]) (by kernel_rfl) ?_
    intro t hK
    refine gc_loop (labels_Hash_l17 a0) (fun s8 t I' L' => I ≤ I' ∧ (g1, .cells #[.int .u64 s8.1] 41) :: L = L' ∧ Knows 24 [(3, .pointer (some ⟨g1, 0, none⟩)), (4, .func (.func 85) #[] #[.pointer (some ⟨g1, 0, none⟩)]), (8, .slice A0_0 a0.length n0_0), (9, .int .i64 (a0.length : Int)), (10, .int .i64 s8.2)] t) (by kernel_rfl) ?_ hl7 ⟨(Imm.refl _), rfl, hK⟩
    rintro s8 o9 t I13 L' hb10 ⟨hI11, rfl, hK12⟩
    unfold labels_Hash_l17 at hb10
    refine gk_at hK12 ?_
    refine gk_seq (by kernel_rfl) ?_
    refine gk_region (by kernel_rfl) ?_
    refine gl_pure 1 [3, 4, 8, 9, 10, 11] (K' := [(3, .pointer (some ⟨g1, 0, none⟩)), (4, .func (.func 85) #[] #[.pointer (some ⟨g1, 0, none⟩)]), (8, .slice A0_0 a0.length n0_0), (9, .int .i64 (a0.length : Int)), (10, .int .i64 s8.2), (11, .bool (decide (s8.2 < (a0.length : Int))))]) (by kernel_rfl) ?_
    refine gl_atE (by kernel_rfl) ?_
    refine ge_seq ?_
    refine gk_seq (by kernel_rfl) ?_
    refine gk_cond (b := (decide (s8.2 < (a0.length : Int)))) (by kernel_rfl) (by kernel_rfl) (fun hc19 => ?_) (fun hc19 => ?_)
    · have hb10 := cond_t hc19 hb10
      refine gk_skip (by kernel_rfl) ?_
      refine ge_seq ?_
      refine gk_seq (by kernel_rfl) ?_
      refine gk_block (by kernel_rfl) ?_
      refine gk_seq (by kernel_rfl) ?_
      refine gk_region (by kernel_rfl) ?_
      obtain ⟨x20, hx21, hb10⟩ := bind_some hb10
      obtain ⟨p22, cs23, hR24, hA25, ha26⟩ := RepS.ixAt hx21 (hf0_0.mono hI11)
      have hi27 := ix_some hx21
      obtain rfl := kS49_open hR24
      refine gl_indexAddrF (c := n0_0) (T' := 22) (e := 50) (xs := (.tmp 8)) (xi := (.tmp 10)) (kd := .i64) ha26 hi27.1 hi27.2.1 (by kernel_rfl) (by kernel_rfl) (by kernel_rfl) (by kernel_rfl) (by kernel_rfl) ?_
      refine gl_loadA (T' := 50) (xp := (.tmp 12)) (p := p22) (cs := [.string x20.f0, .string x20.f1]) (by kernel_rfl) (by kernel_rfl) (by kernel_rfl) (by kernel_rfl) (hA25.take 2) ?_
      refine gl_alloc (T' := 50) (cs := #[.string (⟨#[]⟩ : ByteArray), .string (⟨#[]⟩ : ByteArray)]) (by kernel_rfl) (by kernel_rfl) (by kernel_rfl) (fun g28 => ?_)
      refine gl_storeB (T' := 50) (xp := (.tmp 6)) (xv := (.tmp 13)) (v := .agg #[.string x20.f0, .string x20.f1]) (g := g28) (off := 0) (cs := #[.string (⟨#[]⟩ : ByteArray), .string (⟨#[]⟩ : ByteArray)]) (cs' := #[.string x20.f0, .string x20.f1]) (by kernel_rfl) (by kernel_rfl) (by kernel_rfl) (by kernel_rfl) (by kernel_rfl) (Upd.set _ _ _ _) ?_ (by kernel_rfl)
      refine gl_atE (by kernel_rfl) ?_
      refine ge_seq ?_
      refine gk_seq (by kernel_rfl) ?_
      refine gk_region (by kernel_rfl) ?_
      refine gl_pure 2 [3, 4, 6, 8, 9, 10, 14, 15] (K' := [(3, .pointer (some ⟨g1, 0, none⟩)), (4, .func (.func 85) #[] #[.pointer (some ⟨g1, 0, none⟩)]), (6, .pointer (some ⟨g28, 0, none⟩)), (8, .slice A0_0 a0.length n0_0), (9, .int .i64 (a0.length : Int)), (10, .int .i64 s8.2), (14, .func (.func 85) #[] #[.pointer (some ⟨g1, 0, none⟩)]), (15, .pointer (some ⟨g28, 0, none⟩))]) (by kernel_rfl) ?_
      refine gl_loadB (T' := 9) (xp := (.tmp 15)) (v := .string x20.f0) (g := g28) (off := 0) (cs := #[.string x20.f0, .string x20.f1]) (e := 50) (fz := (0, 0)) (by kernel_rfl) (by kernel_rfl) (by kernel_rfl) List.mem_cons_self (by kernel_rfl) ?_
      obtain ⟨y29, hx30, hb10⟩ := bind_some hb10
      refine gl_reord (D := (g1, .cells #[.int .u64 s8.1] 41) :: ((g28, .cells #[.string x20.f0, .string x20.f1] 50) :: L)) (Reord.step1 (Upd.one _ (Upd.rm1 _ _)) (Reord.step1 (Upd.rm1 _ _) (Reord.refl _))) ?_
      refine gl_call (by kernel_rfl) (labels_Hash_1_walk (r := y29) (g1 := g1) (T1 := 41) (a1 := s8.1) hx30 _) ?_
      rintro v I31 L32 hI33 ⟨rfl, rfl⟩
      refine gl_atE (by kernel_rfl) ?_
      refine ge_seq ?_
      refine gk_region (by kernel_rfl) ?_
      refine gl_pure 2 [3, 4, 8, 9, 10, 18, 19] (K' := [(3, .pointer (some ⟨g1, 0, none⟩)), (4, .func (.func 85) #[] #[.pointer (some ⟨g1, 0, none⟩)]), (8, .slice A0_0 a0.length n0_0), (9, .int .i64 (a0.length : Int)), (10, .int .i64 s8.2), (18, .func (.func 85) #[] #[.pointer (some ⟨g1, 0, none⟩)]), (19, .pointer (some ⟨g28, 1, none⟩))]) (by kernel_rfl) ?_
      refine gl_loadB (T' := 9) (xp := (.tmp 19)) (v := .string x20.f1) (g := g28) (off := 1) (cs := #[.string x20.f0, .string x20.f1]) (e := 50) (fz := (0, 0)) (by kernel_rfl) (by kernel_rfl) (by kernel_rfl) (List.mem_cons_of_mem _ List.mem_cons_self) (by kernel_rfl) ?_
      obtain ⟨y34, hx35, hb10⟩ := bind_some hb10
      refine gl_call (by kernel_rfl) (labels_Hash_1_walk (r := y34) (g1 := g1) (T1 := 41) (a1 := y29) hx35 _) ?_
      rintro v I36 L37 hI38 ⟨rfl, rfl⟩
      refine gl_atE (by kernel_rfl) ?_
      refine ge_block_normal ?_
      refine ge_seq ?_
      refine gk_region (by kernel_rfl) ?_
      refine gl_pure 2 [3, 4, 8, 9, 10] (K' := [(3, .pointer (some ⟨g1, 0, none⟩)), (4, .func (.func 85) #[] #[.pointer (some ⟨g1, 0, none⟩)]), (8, .slice A0_0 a0.length n0_0), (9, .int .i64 (a0.length : Int)), (10, .int .i64 (IntKind.wrap .i64 (s8.2 + 1)))]) (by kernel_rfl) ?_
      refine gl_reord (D := (g1, .cells #[.int .u64 y34] 41) :: L) (Reord.step1 (Upd.rm1 _ _) (Reord.skip (Reord.refl _))) ?_
      refine gl_atE (by kernel_rfl) ?_
      obtain rfl := some_inj hb10
      exact ge_round fun t ht => ⟨(Imm.trans (Imm.trans hI11 hI33) hI38), rfl, ht.pick (l := [3, 4, 8, 9, 10]) (by kernel_rfl)⟩
    · have hb10 := cond_f hc19 hb10
      refine gk_exit (by kernel_rfl) ?_
      refine ge_seq_exit ?_
      obtain rfl := some_inj hb10
      refine ge_round_out (fun hrr => ?_) (by intro h; cases h)
      obtain rfl := hrr
      refine ge_block_hit (by kernel_rfl) ?_
      exact ge_mid fun t ht => ⟨hI11, rfl, ht.pick (l := [3]) (by kernel_rfl)⟩
  · rintro t I16 L' ⟨hI14, rfl, hK15⟩
    refine ge_at hK15 ?_
    refine ge_seq ?_
    refine gk_seq (by kernel_rfl) ?_
    refine gk_region (by kernel_rfl) ?_
    refine gl_loadB (T' := 41) (xp := (.tmp 3)) (v := .int .u64 r6) (g := g1) (off := 0) (cs := #[.int .u64 r6]) (e := 41) (fz := (0, 0)) (by kernel_rfl) (by kernel_rfl) (by kernel_rfl) List.mem_cons_self (by kernel_rfl) ?_
    refine gl_pure 1 [2] (K' := [(2, .int .u64 r6)]) (by kernel_rfl) ?_
    refine gl_atE (by kernel_rfl) ?_
    refine ge_seq ?_
    refine gk_reord (D := L) (Reord.skip (Reord.refl _)) ?_
    refine gk_ret (by kernel_rfl) ?_
    obtain rfl := some_inj hr
    exact ge_result trivial (ResOk.tmp (by kernel_rfl) ResOk.nil) hI14 ⟨rfl, rfl⟩
/-! 22 tocsinlaw04_awake  -/
noncomputable def tocsinlaw04_awake : Option Bool :=
  Option.bind (labels_Parse (⟨#[117, 112, 32, 123, 32, 106, 111, 98, 32, 61, 32, 34, 120, 34, 32, 44, 32, 125]⟩ : ByteArray)) fun (y1 : (List S49) × Int × Int) =>
  Option.bind (labels_Print y1.1) fun (y10 : ByteArray × Int) =>
  Option.bind (bif (y1.2.1 == 0) then
    (bif (y10.2 == 0) then
      (bif (y10.1.toList == (⟨#[117, 112, 123, 106, 111, 98, 61, 34, 120, 34, 125]⟩ : ByteArray).toList) then
        (Option.bind (labels_Get y1.1 (⟨#[106, 111, 98]⟩ : ByteArray)) fun (y20 : ByteArray) =>
          bif (y20.toList == (⟨#[120]⟩ : ByteArray).toList) then
          (Option.bind (labels_Hash []) fun (y23 : Int) =>
            some (y23 == 14695981039346656037))
          else
          (some false))
        else
        (some false))
      else
      (some false))
    else
    (some false)) fun (j12 : Bool) =>
  some j12
theorem tocsinlaw04_awake_walk  {I : Imm} {r : Bool} (hG : Gl I) (hr : tocsinlaw04_awake = some r) (L : Own) :
    CallsTo Tryz.prog 22 #[] I L (fun v I' L' => v = .bool r ∧ L = L') := by
  unfold tocsinlaw04_awake at hr
  refine callsTo_body (N := 35) Tryz.func22 (by kernel_rfl) (by kernel_rfl) (by kernel_rfl) ?_
  refine gk_pick [] (K' := []) (by kernel_rfl) ?_
  refine gk_seq (by kernel_rfl) ?_
  refine gk_region (by kernel_rfl) ?_
  refine gl_pure 1 [] (K' := []) (by kernel_rfl) ?_
  refine gl_atE (by kernel_rfl) ?_
  refine ge_seq ?_
  refine gk_seq (by kernel_rfl) ?_
  refine gk_region (by kernel_rfl) ?_
  obtain ⟨y1, hx2, hr⟩ := bind_some hr
  refine gl_call (by kernel_rfl) (labels_Parse_walk (r := y1) hG hx2 _) ?_
  rintro v I3 L4 hI5 ⟨A6, c7, C8, hO9, rfl, rfl⟩
  refine gl_pure 7 [1, 2] (K' := [(1, .slice A6 y1.1.length c7), (2, .int .i64 y1.2.1)]) (by kernel_rfl) ?_
  refine gl_atE (by kernel_rfl) ?_
  refine ge_seq ?_
  refine gk_seq (by kernel_rfl) ?_
  refine gk_region (by kernel_rfl) ?_
  refine gl_pure 1 [1, 2, 12] (K' := [(1, .slice A6 y1.1.length c7), (2, .int .i64 y1.2.1), (12, .slice A6 y1.1.length c7)]) (by kernel_rfl) ?_
  obtain ⟨y10, hx11, hr⟩ := bind_some hr
  refine gl_callB (r := .tuple #[.string y10.1, .int .i64 y10.2]) (Tk.step (Upd.rmC _ _) (Tk.nil _)) (by kernel_rfl) (fun J hJ hC => labels_Print_walk (r := y10) (hG.mono (Imm.trans hI5 hJ)) (OwnS.rest hO9 hJ hC.left) hx11 _) ?_
  refine gl_pure 5 [1, 2, 4, 5] (K' := [(1, .slice A6 y1.1.length c7), (2, .int .i64 y1.2.1), (4, .string y10.1), (5, .int .i64 y10.2)]) (by kernel_rfl) ?_
  refine gl_atE (by kernel_rfl) ?_
  refine ge_seq ?_
  refine gk_seq (by kernel_rfl) ?_
  obtain ⟨j12, hj13, hr⟩ := bind_some hr
  refine gk_join (fun t I' L' => I3 ≤ I' ∧ L = L' ∧ Knows 35 [(0, .bool j12)] t) ?_ ?_
  · refine gk_region (by kernel_rfl) ?_
    refine gl_pure 3 [1, 4, 5, 18] (K' := [(1, .slice A6 y1.1.length c7), (4, .string y10.1), (5, .int .i64 y10.2), (18, .bool (y1.2.1 == 0))]) (by kernel_rfl) ?_
    refine gl_case 18 (b := (y1.2.1 == 0)) (by kernel_rfl) (fun hc17 => ?_) (fun hc17 => ?_)
    · have hj13 := cond_t hc17 hj13
      refine gl_pure 4 [1, 4, 22] (K' := [(1, .slice A6 y1.1.length c7), (4, .string y10.1), (22, .bool (y10.2 == 0))]) (by kernel_rfl) ?_
      refine gl_case 22 (b := (y10.2 == 0)) (by kernel_rfl) (fun hc18 => ?_) (fun hc18 => ?_)
      · have hj13 := cond_t hc18 hj13
        refine gl_pure 4 [1, 26] (K' := [(1, .slice A6 y1.1.length c7), (26, .bool (y10.1.toList == (⟨#[117, 112, 123, 106, 111, 98, 61, 34, 120, 34, 125]⟩ : ByteArray).toList))]) (by kernel_rfl) ?_
        refine gl_case 26 (b := (y10.1.toList == (⟨#[117, 112, 123, 106, 111, 98, 61, 34, 120, 34, 125]⟩ : ByteArray).toList)) (by kernel_rfl) (fun hc19 => ?_) (fun hc19 => ?_)
        · have hj13 := cond_t hc19 hj13
          refine gl_pure 1 [26, 27] (K' := [(26, .bool true), (27, .slice A6 y1.1.length c7)]) (by kernel_rfl) ?_
          obtain ⟨y20, hx21, hj13⟩ := bind_some hj13
          refine gl_callB (r := .string y20) (Tk.step (Upd.rmC _ _) (Tk.nil _)) (by kernel_rfl) (fun J hJ hC => labels_Get_walk (r := y20) (OwnS.rest hO9 hJ hC.left) hx21 _) ?_
          refine gl_pure 3 [31] (K' := [(31, .bool (y20.toList == (⟨#[120]⟩ : ByteArray).toList))]) (by kernel_rfl) ?_
          refine gl_case 31 (b := (y20.toList == (⟨#[120]⟩ : ByteArray).toList)) (by kernel_rfl) (fun hc22 => ?_) (fun hc22 => ?_)
          · have hj13 := cond_t hc22 hj13
            obtain ⟨y23, hx24, hj13⟩ := bind_some hj13
            refine gl_callQ (by kernel_rfl) (labels_Hash_walk (r := y23) (RepS.nil _ _) hx24 _) ?_
            refine gl_pure 3 [0] (K' := [(0, .bool (y23 == 14695981039346656037))]) (by kernel_rfl) ?_
            refine gl_reord (D := L) (Reord.skipC (Reord.refl _)) ?_
            refine gl_atE (by kernel_rfl) ?_
            obtain rfl := some_inj hj13
            exact ge_mid fun t ht => ⟨(Imm.refl _), rfl, ht.pick (l := [0]) (by kernel_rfl)⟩
          · have hj13 := cond_f hc22 hj13
            refine gl_pure 4 [0] (K' := [(0, .bool false)]) (by kernel_rfl) ?_
            refine gl_reord (D := L) (Reord.skipC (Reord.refl _)) ?_
            refine gl_atE (by kernel_rfl) ?_
            obtain rfl := some_inj hj13
            exact ge_mid fun t ht => ⟨(Imm.refl _), rfl, ht.pick (l := [0]) (by kernel_rfl)⟩
        · have hj13 := cond_f hc19 hj13
          refine gl_pure 9 [0] (K' := [(0, .bool false)]) (by kernel_rfl) ?_
          refine gl_reord (D := L) (Reord.skipC (Reord.refl _)) ?_
          refine gl_atE (by kernel_rfl) ?_
          obtain rfl := some_inj hj13
          exact ge_mid fun t ht => ⟨(Imm.refl _), rfl, ht.pick (l := [0]) (by kernel_rfl)⟩
      · have hj13 := cond_f hc18 hj13
        refine gl_pure 13 [0] (K' := [(0, .bool false)]) (by kernel_rfl) ?_
        refine gl_reord (D := L) (Reord.skipC (Reord.refl _)) ?_
        refine gl_atE (by kernel_rfl) ?_
        obtain rfl := some_inj hj13
        exact ge_mid fun t ht => ⟨(Imm.refl _), rfl, ht.pick (l := [0]) (by kernel_rfl)⟩
    · have hj13 := cond_f hc17 hj13
      refine gl_pure 17 [0] (K' := [(0, .bool false)]) (by kernel_rfl) ?_
      refine gl_reord (D := L) (Reord.skipC (Reord.refl _)) ?_
      refine gl_atE (by kernel_rfl) ?_
      obtain rfl := some_inj hj13
      exact ge_mid fun t ht => ⟨(Imm.refl _), rfl, ht.pick (l := [0]) (by kernel_rfl)⟩
  · rintro t I16 L' ⟨hI14, rfl, hK15⟩
    refine ge_at hK15 ?_
    refine ge_seq ?_
    refine gk_ret (by kernel_rfl) ?_
    obtain rfl := some_inj hr
    exact ge_result trivial (ResOk.tmp (by kernel_rfl) ResOk.nil) (Imm.trans hI5 hI14) ⟨rfl, rfl⟩
end Go.Proofs.YtnlkfajnaelnnaaGreatDoor

set_option linter.unusedVariables false
set_option linter.unusedSimpArgs false
set_option maxRecDepth 100000
namespace Go.Proofs.YtnlkfajnaelnnaaGreatDoor
open Go.GB
/-! 4 tocsinlaw04_LabelsTexts  -/
/-! 120 vint_joined  -/
noncomputable def vint_joined (a0 : List Int) (a1 : List Int) : Option (List Int) :=
  Option.bind (mkrow (0 : Int) 0 (IntKind.wrap .i64 ((a0.length : Int) + (a1.length : Int)))) fun (xs1 : List Int) =>
  Option.bind (app xs1 a0) fun (zs6 : List Int) =>
  Option.bind (app zs6 a1) fun (zs12 : List Int) =>
  some zs12
theorem vint_joined_walk {a0 : List Int} {A0_0 : Option Addr} {n0_0 : Nat} {a1 : List Int} {A1_0 : Option Addr} {n1_0 : Nat} {I : Imm} {r : (List Int)}  (hf0_0 : RepS (Kd.int .u8) I A0_0 n0_0 a0)  (hf1_0 : RepS (Kd.int .u8) I A1_0 n1_0 a1) (hr : vint_joined a0 a1 = some r) (L : Own) :
    CallsTo Tryz.prog 120 #[.slice A0_0 a0.length n0_0, .slice A1_0 a1.length n1_0] I L (fun v I' L' => ∃ A0 c0 C0, OwnS (Kd.int .u8) 5 I' A0 c0 r C0 ∧ v = .slice A0 r.length c0 ∧ C0 ++ L = L') := by
  unfold vint_joined at hr
  refine callsTo_body (N := 17) Tryz.func120 (by kernel_rfl) (by kernel_rfl) (by kernel_rfl) ?_
  refine gk_pick [0, 1] (K' := [(0, .slice A0_0 a0.length n0_0), (1, .slice A1_0 a1.length n1_0)]) (by kernel_rfl) ?_
  refine gk_seq (by kernel_rfl) ?_
  refine gk_region (by kernel_rfl) ?_
  refine gl_pure 1 [0, 1] (K' := [(0, .slice A0_0 a0.length n0_0), (1, .slice A1_0 a1.length n1_0)]) (by kernel_rfl) ?_
  refine gl_atE (by kernel_rfl) ?_
  refine ge_seq ?_
  refine gk_seq (by kernel_rfl) ?_
  refine gk_region (by kernel_rfl) ?_
  refine gl_pure 5 [0, 1, 10] (K' := [(0, .slice A0_0 a0.length n0_0), (1, .slice A1_0 a1.length n1_0), (10, .int .i64 (IntKind.wrap .i64 ((a0.length : Int) + (a1.length : Int))))]) (by kernel_rfl) ?_
  obtain ⟨xs1, hx2, hr⟩ := bind_some hr
  refine gl_makeSlice (d := (Kd.int .u8)) (T' := 51) (e := 5) (lx := (.const (.int .i64 0))) (cx := (.tmp 10)) (kl := .i64) (kc := .i64) (zc := #[.int .u8 0]) hx2 (by kernel_rfl) (by kernel_rfl) (by kernel_rfl) (by kernel_rfl) (by kernel_rfl) (by kernel_rfl) (by kernel_rfl) rfl (fun A3 C4 hO5 => ?_)
  refine gl_pure 1 [0, 1, 5] (K' := [(0, .slice A0_0 a0.length n0_0), (1, .slice A1_0 a1.length n1_0), (5, .slice A3 xs1.length ((IntKind.wrap .i64 ((a0.length : Int) + (a1.length : Int))).toNat))]) (by kernel_rfl) ?_
  refine gl_atE (by kernel_rfl) ?_
  refine ge_seq ?_
  refine gk_seq (by kernel_rfl) ?_
  refine gk_region (by kernel_rfl) ?_
  refine gl_pure 2 [1, 12, 13] (K' := [(1, .slice A1_0 a1.length n1_0), (12, .slice A3 xs1.length ((IntKind.wrap .i64 ((a0.length : Int) + (a1.length : Int))).toNat)), (13, .slice A0_0 a0.length n0_0)]) (by kernel_rfl) ?_
  obtain ⟨zs6, hz7, hr⟩ := bind_some hr
  refine gl_append (xv := .slice A0_0 a0.length n0_0) (d := (Kd.int .u8)) (t := 51) (tx := 51) (e := 5) (s := (.tmp 12)) (x := (.tmp 13)) (xs := xs1) (fun X => X ++ L) hz7 (by kernel_rfl) (by kernel_rfl) (by kernel_rfl) (by kernel_rfl) (by kernel_rfl) (by kernel_rfl) (fun X => (Upd.head _ X _)) hO5 (SrcOk.slice (c := n0_0) (e := 5) (n := 1) (RepS.rd hf0_0 _) (by kernel_rfl)) (fun A8 n9 C10 hO11 => ?_)
  refine gl_pure 1 [14, 15] (K' := [(14, .slice A8 zs6.length n9), (15, .slice A1_0 a1.length n1_0)]) (by kernel_rfl) ?_
  obtain ⟨zs12, hz13, hr⟩ := bind_some hr
  refine gl_append (xv := .slice A1_0 a1.length n1_0) (d := (Kd.int .u8)) (t := 51) (tx := 51) (e := 5) (s := (.tmp 14)) (x := (.tmp 15)) (xs := zs6) (fun X => X ++ L) hz13 (by kernel_rfl) (by kernel_rfl) (by kernel_rfl) (by kernel_rfl) (by kernel_rfl) (by kernel_rfl) (fun X => (Upd.head _ X _)) hO11 (SrcOk.slice (c := n1_0) (e := 5) (n := 1) (RepS.rd hf1_0 _) (by kernel_rfl)) (fun A14 n15 C16 hO17 => ?_)
  refine gl_pure 1 [4] (K' := [(4, .slice A14 zs12.length n15)]) (by kernel_rfl) ?_
  refine gl_atE (by kernel_rfl) ?_
  refine ge_seq ?_
  refine gk_ret (by kernel_rfl) ?_
  obtain rfl := some_inj hr
  exact ge_result trivial (ResOk.tmp (by kernel_rfl) ResOk.nil) (Imm.refl _) ⟨A14, n15, C16, hO17, rfl, rfl⟩
/-! 86 vint_PutU  -/
noncomputable def vint_PutU_l28 : (Int × (List Int)) → Option ((Int × (List Int)) ⊕ (Int × (List Int))) := fun s11 =>
  bif (decide (s11.1 ≥ 128)) then
  (Option.bind (app s11.2 [(bitOr .u8 (IntKind.wrap .u8 s11.1) 128)]) fun (zs35 : List Int) =>
    some (Sum.inl ((shr .u64 s11.1 7), zs35)))
  else
  (some (Sum.inr (s11.1, s11.2)))
noncomputable def vint_PutU (a0 : List Int) (a1 : Int) : Option (List Int) :=
  Option.bind (loopO vint_PutU_l28 (a1, [])) fun (r9 : Int × (List Int)) =>
  Option.bind (app r9.2 [(IntKind.wrap .u8 r9.1)]) fun (zs45 : List Int) =>
  Option.bind (vint_joined a0 zs45) fun (y55 : (List Int)) =>
  some y55
theorem vint_PutU_walk {a0 : List Int} {A0_0 : Option Addr} {n0_0 : Nat} {a1 : Int} {I : Imm} {r : (List Int)}  (hf0_0 : RepS (Kd.int .u8) I A0_0 n0_0 a0) (hr : vint_PutU a0 a1 = some r) (L : Own) :
    CallsTo Tryz.prog 86 #[.slice A0_0 a0.length n0_0, .int .u64 a1] I L (fun v I' L' => ∃ A0 c0 C0, OwnS (Kd.int .u8) 5 I' A0 c0 r C0 ∧ v = .slice A0 r.length c0 ∧ C0 ++ L = L') := by
  unfold vint_PutU at hr
  refine callsTo_body (N := 23) Tryz.func86 (by kernel_rfl) (by kernel_rfl) (by kernel_rfl) ?_
  refine gk_pick [0, 1] (K' := [(0, .slice A0_0 a0.length n0_0), (1, .int .u64 a1)]) (by kernel_rfl) ?_
  refine gk_seq (by kernel_rfl) ?_
  refine gk_region (by kernel_rfl) ?_
  refine gl_pure 1 [0, 1] (K' := [(0, .slice A0_0 a0.length n0_0), (1, .int .u64 a1)]) (by kernel_rfl) ?_
  refine gl_atE (by kernel_rfl) ?_
  refine ge_seq ?_
  refine gk_seq (by kernel_rfl) ?_
  refine gk_region (by kernel_rfl) ?_
  refine gl_pure 1 [0, 1, 5] (K' := [(0, .slice A0_0 a0.length n0_0), (1, .int .u64 a1), (5, .slice none 0 0)]) (by kernel_rfl) ?_
  refine gl_atE (by kernel_rfl) ?_
  refine ge_seq ?_
  refine gk_seq (by kernel_rfl) ?_
  obtain ⟨r9, hl10, hr⟩ := bind_some hr
  refine gk_join (fun t I' L' => ∃ A22 n23 C24, OwnS (Kd.int .u8) 5 I' A22 n23 r9.2 C24 ∧ I ≤ I' ∧ C24 ++ L = L' ∧ Knows 23 [(0, .slice A0_0 a0.length n0_0), (1, .int .u64 r9.1), (5, .slice A22 r9.2.length n23)] t) ?_ ?_
  · refine gk_block (by kernel_rfl) ?_
    refine gk_pick [0, 1, 5] (K' := [(0, .slice A0_0 a0.length n0_0), (1, .int .u64 a1), (5, .slice none 0 0)]) (by kernel_rfl) ?_
    intro t hK
    refine gc_loop (vint_PutU_l28) (fun s11 t I' L' => ∃ A15 n16 C17, OwnS (Kd.int .u8) 5 I' A15 n16 s11.2 C17 ∧ I ≤ I' ∧ C17 ++ L = L' ∧ Knows 23 [(0, .slice A0_0 a0.length n0_0), (1, .int .u64 s11.1), (5, .slice A15 s11.2.length n16)] t) (by kernel_rfl) ?_ hl10 ⟨none, 0, [], OwnS.nil _ _ _ _, (Imm.refl _), rfl, hK⟩
    rintro s11 o12 t I20 L' hb13 ⟨A15, n16, C17, hO18, hI14, rfl, hK19⟩
    unfold vint_PutU_l28 at hb13
    refine gk_at hK19 ?_
    refine gk_seq (by kernel_rfl) ?_
    refine gk_seq (by kernel_rfl) ?_
    refine gk_region (by kernel_rfl) ?_
    refine gl_pure 2 [0, 1, 5, 7] (K' := [(0, .slice A0_0 a0.length n0_0), (1, .int .u64 s11.1), (5, .slice A15 s11.2.length n16), (7, .bool (decide (s11.1 ≥ 128)))]) (by kernel_rfl) ?_
    refine gl_atE (by kernel_rfl) ?_
    refine ge_seq ?_
    refine gk_cond (b := (decide (s11.1 ≥ 128))) (by kernel_rfl) (by kernel_rfl) (fun hc30 => ?_) (fun hc30 => ?_)
    · have hb13 := cond_t hc30 hb13
      refine gk_skip (by kernel_rfl) ?_
      refine ge_seq ?_
      refine gk_seq (by kernel_rfl) ?_
      refine gk_block (by kernel_rfl) ?_
      refine gk_region (by kernel_rfl) ?_
      refine gl_pure 4 [0, 1, 10, 13] (K' := [(0, .slice A0_0 a0.length n0_0), (1, .int .u64 s11.1), (10, .slice A15 s11.2.length n16), (13, .int .u8 (bitOr .u8 (IntKind.wrap .u8 s11.1) 128))]) (by kernel_rfl) ?_
      refine gl_buildSlice (T' := 51) (e := 5) (n := 1) (len := 1) (parts := #[(0, (.tmp 13))]) (l := [(0, .int .u8 (bitOr .u8 (IntKind.wrap .u8 s11.1) 128))]) (cs := #[.int .u8 (bitOr .u8 (IntKind.wrap .u8 s11.1) 128)]) (by kernel_rfl) (by kernel_rfl) (by kernel_rfl) (by kernel_rfl) (by kernel_rfl) (fun g31 => ?_)
      have hO32 : OwnS (Kd.int .u8) 5 I20 (some ⟨g31, 0, none⟩) 1 [(bitOr .u8 (IntKind.wrap .u8 s11.1) 128)] [(g31, .cells #[.int .u8 (bitOr .u8 (IntKind.wrap .u8 s11.1) 128)] 5)] := OwnS.lit (row_cons (l := [.int .u8 (bitOr .u8 (IntKind.wrap .u8 s11.1) 128)]) rfl (row_nil _ _)) rfl rfl rfl
      refine gl_reord (D := [(g31, .cells #[.int .u8 (bitOr .u8 (IntKind.wrap .u8 s11.1) 128)] 5)] ++ (C17 ++ L)) (Reord.refl _) ?_
      obtain ⟨zs35, hz36, hb13⟩ := bind_some hb13
      refine gl_append (xv := .slice (some ⟨g31, 0, none⟩) [(bitOr .u8 (IntKind.wrap .u8 s11.1) 128)].length 1) (d := (Kd.int .u8)) (t := 51) (tx := 51) (e := 5) (s := (.tmp 10)) (x := (.tmp 14)) (xs := s11.2) (fun X => [(g31, .cells #[.int .u8 (bitOr .u8 (IntKind.wrap .u8 s11.1) 128)] 5)] ++ (X ++ L)) hz36 (by kernel_rfl) (by kernel_rfl) (by kernel_rfl) (by kernel_rfl) (by kernel_rfl) (by kernel_rfl) (fun X => (Upd.app _ (Upd.head _ X _))) hO18 (SrcOk.slice (c := 1) (e := 5) (n := 1) (OwnS.rd hO32 (Upd.selfC _ _)) (by kernel_rfl)) (fun A37 n38 C39 hO40 => ?_)
      refine gl_pure 1 [0, 1, 5] (K' := [(0, .slice A0_0 a0.length n0_0), (1, .int .u64 s11.1), (5, .slice A37 zs35.length n38)]) (by kernel_rfl) ?_
      refine gl_atE (by kernel_rfl) ?_
      refine ge_block_normal ?_
      refine ge_seq ?_
      refine gk_region (by kernel_rfl) ?_
      refine gl_pure 3 [0, 1, 5] (K' := [(0, .slice A0_0 a0.length n0_0), (1, .int .u64 (shr .u64 s11.1 7)), (5, .slice A37 zs35.length n38)]) (by kernel_rfl) ?_
      refine gl_reord (D := C39 ++ L) (Reord.step (Upd.app _ (Upd.rmC _ _)) (Reord.skipC (Reord.refl _))) ?_
      refine gl_atE (by kernel_rfl) ?_
      obtain rfl := some_inj hb13
      exact ge_round fun t ht => ⟨A37, n38, C39, hO40, hI14, rfl, ht.pick (l := [0, 1, 5]) (by kernel_rfl)⟩
    · have hb13 := cond_f hc30 hb13
      refine gk_exit (by kernel_rfl) ?_
      refine ge_seq_exit ?_
      obtain rfl := some_inj hb13
      refine ge_round_out (fun hrr => ?_) (by intro h; cases h)
      obtain rfl := hrr
      refine ge_block_hit (by kernel_rfl) ?_
      exact ge_mid fun t ht => ⟨A15, n16, C17, hO18, hI14, rfl, ht.pick (l := [0, 1, 5]) (by kernel_rfl)⟩
  · rintro t I27 L' ⟨A22, n23, C24, hO25, hI21, rfl, hK26⟩
    refine ge_at hK26 ?_
    refine ge_seq ?_
    refine gk_seq (by kernel_rfl) ?_
    refine gk_region (by kernel_rfl) ?_
    refine gl_pure 4 [16, 17, 19] (K' := [(16, .slice A0_0 a0.length n0_0), (17, .slice A22 r9.2.length n23), (19, .int .u8 (IntKind.wrap .u8 r9.1))]) (by kernel_rfl) ?_
    refine gl_buildSlice (T' := 51) (e := 5) (n := 1) (len := 1) (parts := #[(0, (.tmp 19))]) (l := [(0, .int .u8 (IntKind.wrap .u8 r9.1))]) (cs := #[.int .u8 (IntKind.wrap .u8 r9.1)]) (by kernel_rfl) (by kernel_rfl) (by kernel_rfl) (by kernel_rfl) (by kernel_rfl) (fun g41 => ?_)
    have hO42 : OwnS (Kd.int .u8) 5 I27 (some ⟨g41, 0, none⟩) 1 [(IntKind.wrap .u8 r9.1)] [(g41, .cells #[.int .u8 (IntKind.wrap .u8 r9.1)] 5)] := OwnS.lit (row_cons (l := [.int .u8 (IntKind.wrap .u8 r9.1)]) rfl (row_nil _ _)) rfl rfl rfl
    refine gl_reord (D := [(g41, .cells #[.int .u8 (IntKind.wrap .u8 r9.1)] 5)] ++ (C24 ++ L)) (Reord.refl _) ?_
    obtain ⟨zs45, hz46, hr⟩ := bind_some hr
    refine gl_append (xv := .slice (some ⟨g41, 0, none⟩) [(IntKind.wrap .u8 r9.1)].length 1) (d := (Kd.int .u8)) (t := 51) (tx := 51) (e := 5) (s := (.tmp 17)) (x := (.tmp 20)) (xs := r9.2) (fun X => [(g41, .cells #[.int .u8 (IntKind.wrap .u8 r9.1)] 5)] ++ (X ++ L)) hz46 (by kernel_rfl) (by kernel_rfl) (by kernel_rfl) (by kernel_rfl) (by kernel_rfl) (by kernel_rfl) (fun X => (Upd.app _ (Upd.head _ X _))) hO25 (SrcOk.slice (c := 1) (e := 5) (n := 1) (OwnS.rd hO42 (Upd.selfC _ _)) (by kernel_rfl)) (fun A47 n48 C49 hO50 => ?_)
    refine gl_rest (Tk.step (Upd.app _ (Upd.rmC _ _)) (Tk.nil _)) (fun J51 hJ52 hC53 => ?_)
    have hf54 := (OwnS.rest hO50 hJ52 hC53.left)
    obtain ⟨y55, hx56, hr⟩ := bind_some hr
    refine gl_call (by kernel_rfl) (vint_joined_walk (r := y55) (hf0_0.mono (Imm.trans hI21 hJ52)) hf54 hx56 _) ?_
    rintro v I57 L58 hI59 ⟨A60, c61, C62, hO63, rfl, rfl⟩
    refine gl_pure 1 [4] (K' := [(4, .slice A60 y55.length c61)]) (by kernel_rfl) ?_
    refine gl_atE (by kernel_rfl) ?_
    refine ge_seq ?_
    refine gk_reord (D := C62 ++ L) (Reord.step (Upd.rmC _ _) (Reord.skipC (Reord.refl _))) ?_
    refine gk_ret (by kernel_rfl) ?_
    obtain rfl := some_inj hr
    exact ge_result trivial (ResOk.tmp (by kernel_rfl) ResOk.nil) (Imm.trans (Imm.trans hI21 hJ52) hI59) ⟨A60, c61, C62, hO63, rfl, rfl⟩
/-! 87 vint_PutText  -/
noncomputable def vint_PutText (a0 : List Int) (a1 : ByteArray) : Option (List Int) :=
  Option.bind (vint_PutU a0 (IntKind.wrap .u64 (a1.size : Int))) fun (y1 : (List Int)) =>
  Option.bind (sb a1) fun (l10 : List Int) =>
  Option.bind (vint_joined y1 l10) fun (y21 : (List Int)) =>
  some y21
theorem vint_PutText_walk {a0 : List Int} {A0_0 : Option Addr} {n0_0 : Nat} {a1 : ByteArray} {I : Imm} {r : (List Int)}  (hf0_0 : RepS (Kd.int .u8) I A0_0 n0_0 a0) (hr : vint_PutText a0 a1 = some r) (L : Own) :
    CallsTo Tryz.prog 87 #[.slice A0_0 a0.length n0_0, .string a1] I L (fun v I' L' => ∃ A0 c0 C0, OwnS (Kd.int .u8) 5 I' A0 c0 r C0 ∧ v = .slice A0 r.length c0 ∧ C0 ++ L = L') := by
  unfold vint_PutText at hr
  refine callsTo_body (N := 13) Tryz.func87 (by kernel_rfl) (by kernel_rfl) (by kernel_rfl) ?_
  refine gk_pick [0, 1] (K' := [(0, .slice A0_0 a0.length n0_0), (1, .string a1)]) (by kernel_rfl) ?_
  refine gk_seq (by kernel_rfl) ?_
  refine gk_region (by kernel_rfl) ?_
  refine gl_pure 1 [0, 1] (K' := [(0, .slice A0_0 a0.length n0_0), (1, .string a1)]) (by kernel_rfl) ?_
  refine gl_atE (by kernel_rfl) ?_
  refine ge_seq ?_
  refine gk_seq (by kernel_rfl) ?_
  refine gk_region (by kernel_rfl) ?_
  refine gl_pure 4 [1, 5, 8] (K' := [(1, .string a1), (5, .slice A0_0 a0.length n0_0), (8, .int .u64 (IntKind.wrap .u64 (a1.size : Int)))]) (by kernel_rfl) ?_
  obtain ⟨y1, hx2, hr⟩ := bind_some hr
  refine gl_call (by kernel_rfl) (vint_PutU_walk (r := y1) hf0_0 hx2 _) ?_
  rintro v I3 L4 hI5 ⟨A6, c7, C8, hO9, rfl, rfl⟩
  refine gl_pure 1 [9, 10] (K' := [(9, .slice A6 y1.length c7), (10, .string a1)]) (by kernel_rfl) ?_
  obtain ⟨l10, hx11, hr⟩ := bind_some hr
  refine gl_strBytes (src := 9) (dst := 51) (e := 5) (n := 1) (x := (.tmp 10)) hx11 (by kernel_rfl) (by kernel_rfl) (by kernel_rfl) (by kernel_rfl) (by kernel_rfl) (by kernel_rfl) (fun A12 n13 C14 hO15 => ?_)
  refine gl_rest (Tk.step (Upd.rmC _ _) (Tk.step (Upd.rmC _ _) (Tk.nil _))) (fun J16 hJ17 hC18 => ?_)
  have hf19 := (OwnS.rest hO15 hJ17 hC18.left)
  have hf20 := (OwnS.rest hO9 hJ17 hC18.right.left)
  obtain ⟨y21, hx22, hr⟩ := bind_some hr
  refine gl_call (by kernel_rfl) (vint_joined_walk (r := y21) hf20 hf19 hx22 _) ?_
  rintro v I23 L24 hI25 ⟨A26, c27, C28, hO29, rfl, rfl⟩
  refine gl_pure 1 [4] (K' := [(4, .slice A26 y21.length c27)]) (by kernel_rfl) ?_
  refine gl_atE (by kernel_rfl) ?_
  refine ge_seq ?_
  refine gk_ret (by kernel_rfl) ?_
  obtain rfl := some_inj hr
  exact ge_result trivial (ResOk.tmp (by kernel_rfl) ResOk.nil) (Imm.trans (Imm.trans hI5 hJ17) hI25) ⟨A26, c27, C28, hO29, rfl, rfl⟩
/-! 42 labels_Put  -/
noncomputable def labels_Put_l40 (a1 : List S49) : ((List Int) × Int) → Option (((List Int) × Int) ⊕ ((List Int))) := fun s23 =>
  bif (decide (s23.2 < (a1.length : Int))) then
  (Option.bind (ix a1 s23.2) fun (x43 : S49) =>
    Option.bind (vint_PutText s23.1 x43.f0) fun (y56 : (List Int)) =>
    Option.bind (vint_PutText y56 x43.f1) fun (y69 : (List Int)) =>
    some (Sum.inl (y69, (IntKind.wrap .i64 (s23.2 + 1)))))
  else
  (some (Sum.inr s23.1))
noncomputable def labels_Put (a0 : List Int) (a1 : List S49) : Option ((List Int) × Int) :=
  Option.bind (labels_right a1) fun (y1 : Int) =>
  bif (y1 != 0) then
  (some ([], y1))
  else
  (Option.bind (vint_PutU a0 (IntKind.wrap .u64 (a1.length : Int))) fun (y4 : (List Int)) =>
    Option.bind (loopO (labels_Put_l40 a1) (y4, 0)) fun (r21 : (List Int)) =>
    some (r21, 0))
theorem labels_Put_walk {a0 : List Int} {A0_0 : Option Addr} {n0_0 : Nat} {a1 : List S49} {A1_0 : Option Addr} {n1_0 : Nat} {I : Imm} {r : (List Int) × Int} (hG : Gl I)  (hf0_0 : RepS (Kd.int .u8) I A0_0 n0_0 a0)  (hf1_0 : RepS kS49 I A1_0 n1_0 a1) (hr : labels_Put a0 a1 = some r) (L : Own) :
    CallsTo Tryz.prog 42 #[.slice A0_0 a0.length n0_0, .slice A1_0 a1.length n1_0] I L (fun v I' L' => ∃ A0 c0 C0, OwnS (Kd.int .u8) 5 I' A0 c0 r.1 C0 ∧ v = .tuple #[.slice A0 r.1.length c0, .int .i64 r.2] ∧ C0 ++ L = L') := by
  unfold labels_Put at hr
  refine callsTo_body (N := 35) Tryz.func42 (by kernel_rfl) (by kernel_rfl) (by kernel_rfl) ?_
  refine gk_pick [0, 1] (K' := [(0, .slice A0_0 a0.length n0_0), (1, .slice A1_0 a1.length n1_0)]) (by kernel_rfl) ?_
  refine gk_seq (by kernel_rfl) ?_
  refine gk_region (by kernel_rfl) ?_
  refine gl_pure 2 [0, 1] (K' := [(0, .slice A0_0 a0.length n0_0), (1, .slice A1_0 a1.length n1_0)]) (by kernel_rfl) ?_
  refine gl_atE (by kernel_rfl) ?_
  refine ge_seq ?_
  refine gk_seq (by kernel_rfl) ?_
  refine gk_seq (by kernel_rfl) ?_
  refine gk_region (by kernel_rfl) ?_
  refine gl_pure 1 [0, 1, 10] (K' := [(0, .slice A0_0 a0.length n0_0), (1, .slice A1_0 a1.length n1_0), (10, .slice A1_0 a1.length n1_0)]) (by kernel_rfl) ?_
  obtain ⟨y1, hx2, hr⟩ := bind_some hr
  refine gl_callQ (by kernel_rfl) (labels_right_walk (r := y1) hG hf1_0 hx2 _) ?_
  refine gl_pure 1 [0, 1, 6] (K' := [(0, .slice A0_0 a0.length n0_0), (1, .slice A1_0 a1.length n1_0), (6, .int .i64 y1)]) (by kernel_rfl) ?_
  refine gl_atE (by kernel_rfl) ?_
  refine ge_seq ?_
  refine gk_seq (by kernel_rfl) ?_
  refine gk_region (by kernel_rfl) ?_
  refine gl_pure 2 [0, 1, 6, 13] (K' := [(0, .slice A0_0 a0.length n0_0), (1, .slice A1_0 a1.length n1_0), (6, .int .i64 y1), (13, .bool (y1 != 0))]) (by kernel_rfl) ?_
  refine gl_atE (by kernel_rfl) ?_
  refine ge_seq ?_
  refine gk_cond (b := (y1 != 0)) (by kernel_rfl) (by kernel_rfl) (fun hc3 => ?_) (fun hc3 => ?_)
  · have hr := cond_t hc3 hr
    refine gk_seq (by kernel_rfl) ?_
    refine gk_region (by kernel_rfl) ?_
    refine gl_pure 3 [4, 5] (K' := [(4, .slice none 0 0), (5, .int .i64 y1)]) (by kernel_rfl) ?_
    refine gl_atE (by kernel_rfl) ?_
    refine ge_seq ?_
    refine gk_ret (by kernel_rfl) ?_
    refine ge_seq_ret ?_
    obtain rfl := some_inj hr
    exact ge_result trivial (ResOk.tmp (by kernel_rfl) (ResOk.tmp (by kernel_rfl) ResOk.nil)) (Imm.refl _) ⟨none, 0, [], OwnS.nil _ _ _ _, rfl, rfl⟩
  · have hr := cond_f hc3 hr
    refine gk_skip (by kernel_rfl) ?_
    refine ge_seq ?_
    refine gk_seq (by kernel_rfl) ?_
    refine gk_region (by kernel_rfl) ?_
    refine gl_pure 4 [1, 15, 18] (K' := [(1, .slice A1_0 a1.length n1_0), (15, .slice A0_0 a0.length n0_0), (18, .int .u64 (IntKind.wrap .u64 (a1.length : Int)))]) (by kernel_rfl) ?_
    obtain ⟨y4, hx5, hr⟩ := bind_some hr
    refine gl_call (by kernel_rfl) (vint_PutU_walk (r := y4) hf0_0 hx5 _) ?_
    rintro v I6 L7 hI8 ⟨A9, c10, C11, hO12, rfl, rfl⟩
    refine gl_pure 1 [1, 7] (K' := [(1, .slice A1_0 a1.length n1_0), (7, .slice A9 y4.length c10)]) (by kernel_rfl) ?_
    refine gl_atE (by kernel_rfl) ?_
    refine ge_seq ?_
    refine gk_seq (by kernel_rfl) ?_
    refine gk_seq (by kernel_rfl) ?_
    refine gk_region (by kernel_rfl) ?_
    refine gl_pure 3 [7, 20, 21, 22] (K' := [(7, .slice A9 y4.length c10), (20, .slice A1_0 a1.length n1_0), (21, .int .i64 (a1.length : Int)), (22, .int .i64 0)]) (by kernel_rfl) ?_
    refine gl_atE (by kernel_rfl) ?_
    refine ge_seq ?_
    obtain ⟨r21, hl22, hr⟩ := bind_some hr
    refine gk_join (fun t I' L' => ∃ A34 n35 C36, OwnS (Kd.int .u8) 5 I' A34 n35 r21 C36 ∧ I6 ≤ I' ∧ C36 ++ L = L' ∧ Knows 35 [(7, .slice A34 r21.length n35)] t) ?_ ?_
    · refine gk_block (by kernel_rfl) ?_
      refine gk_pick [7, 20, 21, 22] (K' := [(7, .slice A9 y4.length c10), (20, .slice A1_0 a1.length n1_0), (21, .int .i64 (a1.length : Int)), (22, .int .i64 0)]) (by kernel_rfl) ?_
      intro t hK
      refine gc_loop (labels_Put_l40 a1) (fun s23 t I' L' => ∃ A27 n28 C29, OwnS (Kd.int .u8) 5 I' A27 n28 s23.1 C29 ∧ I6 ≤ I' ∧ C29 ++ L = L' ∧ Knows 35 [(7, .slice A27 s23.1.length n28), (20, .slice A1_0 a1.length n1_0), (21, .int .i64 (a1.length : Int)), (22, .int .i64 s23.2)] t) (by kernel_rfl) ?_ hl22 ⟨A9, c10, C11, hO12, (Imm.refl _), rfl, hK⟩
      rintro s23 o24 t I32 L' hb25 ⟨A27, n28, C29, hO30, hI26, rfl, hK31⟩
      unfold labels_Put_l40 at hb25
      refine gk_at hK31 ?_
      refine gk_seq (by kernel_rfl) ?_
      refine gk_region (by kernel_rfl) ?_
      refine gl_pure 1 [7, 20, 21, 22, 23] (K' := [(7, .slice A27 s23.1.length n28), (20, .slice A1_0 a1.length n1_0), (21, .int .i64 (a1.length : Int)), (22, .int .i64 s23.2), (23, .bool (decide (s23.2 < (a1.length : Int))))]) (by kernel_rfl) ?_
      refine gl_atE (by kernel_rfl) ?_
      refine ge_seq ?_
      refine gk_seq (by kernel_rfl) ?_
      refine gk_cond (b := (decide (s23.2 < (a1.length : Int)))) (by kernel_rfl) (by kernel_rfl) (fun hc42 => ?_) (fun hc42 => ?_)
      · have hb25 := cond_t hc42 hb25
        refine gk_skip (by kernel_rfl) ?_
        refine ge_seq ?_
        refine gk_seq (by kernel_rfl) ?_
        refine gk_block (by kernel_rfl) ?_
        refine gk_seq (by kernel_rfl) ?_
        refine gk_region (by kernel_rfl) ?_
        obtain ⟨x43, hx44, hb25⟩ := bind_some hb25
        obtain ⟨p45, cs46, hR47, hA48, ha49⟩ := RepS.ixAt hx44 (hf1_0.mono (Imm.trans hI8 hI26))
        have hi50 := ix_some hx44
        obtain rfl := kS49_open hR47
        refine gl_indexAddrF (c := n1_0) (T' := 22) (e := 50) (xs := (.tmp 20)) (xi := (.tmp 22)) (kd := .i64) ha49 hi50.1 hi50.2.1 (by kernel_rfl) (by kernel_rfl) (by kernel_rfl) (by kernel_rfl) (by kernel_rfl) ?_
        refine gl_loadA (T' := 50) (xp := (.tmp 24)) (p := p45) (cs := [.string x43.f0, .string x43.f1]) (by kernel_rfl) (by kernel_rfl) (by kernel_rfl) (by kernel_rfl) (hA48.take 2) ?_
        refine gl_alloc (T' := 50) (cs := #[.string (⟨#[]⟩ : ByteArray), .string (⟨#[]⟩ : ByteArray)]) (by kernel_rfl) (by kernel_rfl) (by kernel_rfl) (fun g51 => ?_)
        refine gl_storeB (T' := 50) (xp := (.tmp 9)) (xv := (.tmp 25)) (v := .agg #[.string x43.f0, .string x43.f1]) (g := g51) (off := 0) (cs := #[.string (⟨#[]⟩ : ByteArray), .string (⟨#[]⟩ : ByteArray)]) (cs' := #[.string x43.f0, .string x43.f1]) (by kernel_rfl) (by kernel_rfl) (by kernel_rfl) (by kernel_rfl) (by kernel_rfl) (Upd.set _ _ _ _) ?_ (by kernel_rfl)
        refine gl_atE (by kernel_rfl) ?_
        refine ge_seq ?_
        refine gk_draw 6 [(0, true), (1, true), (2, true), (4, true), (5, true), (3, false)] [(g51, .cells #[.string x43.f0, .string x43.f1] 50)] (List.forall_mem_cons.2 ⟨List.mem_cons_self, (fun p hp => by cases hp)⟩) (by kernel_rfl) (by kernel_rfl) (by kernel_rfl) ?_ (by kernel_rfl)
        refine gd_pure 2 [7, 9, 20, 21, 22, 26, 27] (K' := [(7, .slice A27 s23.1.length n28), (9, .pointer (some ⟨g51, 0, none⟩)), (20, .slice A1_0 a1.length n1_0), (21, .int .i64 (a1.length : Int)), (22, .int .i64 s23.2), (26, .slice A27 s23.1.length n28), (27, .pointer (some ⟨g51, 0, none⟩))]) (s' := [(2, true), (4, true), (5, true), (3, false)]) (CC.refl (List.forall_mem_cons.2 ⟨List.mem_cons_self, (fun p hp => by cases hp)⟩)) (by kernel_rfl) ?_
        refine gd_q (v := .string x43.f0) (by kernel_rfl) (by kernel_rfl) (CC.refl (List.forall_mem_cons.2 ⟨List.mem_cons_self, (fun p hp => by cases hp)⟩)) (fun I' L' T hC kk => gl_loadB (T' := 9) (xp := (.tmp 27)) (v := .string x43.f0) (g := g51) (off := 0) (cs := #[.string x43.f0, .string x43.f1]) (e := 50) (fz := (0, 0)) (by kernel_rfl) (by kernel_rfl) (by kernel_rfl) (hC.sub _ List.mem_cons_self) (by kernel_rfl) kk) ?_
        refine gd_pure 1 [7, 20, 21, 22, 26, 28, 30] (K' := [(7, .slice A27 s23.1.length n28), (20, .slice A1_0 a1.length n1_0), (21, .int .i64 (a1.length : Int)), (22, .int .i64 s23.2), (26, .slice A27 s23.1.length n28), (28, .string x43.f0), (30, .pointer (some ⟨g51, 1, none⟩))]) (s' := [(5, true), (3, false)]) (CC.refl (List.forall_mem_cons.2 ⟨List.mem_cons_self, (fun p hp => by cases hp)⟩)) (by kernel_rfl) ?_
        refine gd_q (v := .string x43.f1) (by kernel_rfl) (by kernel_rfl) (CC.refl (List.forall_mem_cons.2 ⟨List.mem_cons_self, (fun p hp => by cases hp)⟩)) (fun I' L' T hC kk => gl_loadB (T' := 9) (xp := (.tmp 30)) (v := .string x43.f1) (g := g51) (off := 1) (cs := #[.string x43.f0, .string x43.f1]) (e := 50) (fz := (0, 0)) (by kernel_rfl) (by kernel_rfl) (by kernel_rfl) (hC.sub _ List.mem_cons_self) (by kernel_rfl) kk) ?_
        refine gd_one (by kernel_rfl) ?_
        refine gl_rest (Tk.step (Upd.one _ (Upd.rmC _ _)) (Tk.nil _)) (fun J52 hJ53 hC54 => ?_)
        have hf55 := (OwnS.rest hO30 hJ53 hC54.left)
        obtain ⟨y56, hx57, hb25⟩ := bind_some hb25
        refine gl_call (by kernel_rfl) (vint_PutText_walk (r := y56) hf55 hx57 _) ?_
        rintro v I58 L59 hI60 ⟨A61, c62, C63, hO64, rfl, rfl⟩
        refine gl_toD (by kernel_rfl) ⟨(Imm.trans hJ53 hI60), (List.forall_mem_cons.2 ⟨(List.mem_append_right _ List.mem_cons_self), (fun p hp => by cases hp)⟩)⟩ ?_
        refine gd_done ?_
        refine gl_rest (Tk.step (Upd.rmC _ _) (Tk.nil _)) (fun J65 hJ66 hC67 => ?_)
        have hf68 := (OwnS.rest hO64 hJ66 hC67.left)
        obtain ⟨y69, hx70, hb25⟩ := bind_some hb25
        refine gl_call (by kernel_rfl) (vint_PutText_walk (r := y69) hf68 hx70 _) ?_
        rintro v I71 L72 hI73 ⟨A74, c75, C76, hO77, rfl, rfl⟩
        refine gl_pure 1 [7, 20, 21, 22] (K' := [(7, .slice A74 y69.length c75), (20, .slice A1_0 a1.length n1_0), (21, .int .i64 (a1.length : Int)), (22, .int .i64 s23.2)]) (by kernel_rfl) ?_
        refine gl_atE (by kernel_rfl) ?_
        refine ge_block_normal ?_
        refine ge_seq ?_
        refine gk_region (by kernel_rfl) ?_
        refine gl_pure 2 [7, 20, 21, 22] (K' := [(7, .slice A74 y69.length c75), (20, .slice A1_0 a1.length n1_0), (21, .int .i64 (a1.length : Int)), (22, .int .i64 (IntKind.wrap .i64 (s23.2 + 1)))]) (by kernel_rfl) ?_
        refine gl_reord (D := C76 ++ L) (Reord.step (Upd.rmC _ _) (Reord.skip (Reord.refl _))) ?_
        refine gl_atE (by kernel_rfl) ?_
        obtain rfl := some_inj hb25
        exact ge_round fun t ht => ⟨A74, c75, C76, hO77, (Imm.trans (Imm.trans (Imm.trans (Imm.trans hI26 hJ53) hI60) hJ66) hI73), rfl, ht.pick (l := [7, 20, 21, 22]) (by kernel_rfl)⟩
      · have hb25 := cond_f hc42 hb25
        refine gk_exit (by kernel_rfl) ?_
        refine ge_seq_exit ?_
        obtain rfl := some_inj hb25
        refine ge_round_out (fun hrr => ?_) (by intro h; cases h)
        obtain rfl := hrr
        refine ge_block_hit (by kernel_rfl) ?_
        exact ge_mid fun t ht => ⟨A27, n28, C29, hO30, hI26, rfl, ht.pick (l := [7]) (by kernel_rfl)⟩
    · rintro t I39 L' ⟨A34, n35, C36, hO37, hI33, rfl, hK38⟩
      refine ge_at hK38 ?_
      refine ge_seq ?_
      refine gk_seq (by kernel_rfl) ?_
      refine gk_region (by kernel_rfl) ?_
      refine gl_pure 3 [4, 5] (K' := [(4, .slice A34 r21.length n35), (5, .int .i64 0)]) (by kernel_rfl) ?_
      refine gl_atE (by kernel_rfl) ?_
      refine ge_seq ?_
      refine gk_ret (by kernel_rfl) ?_
      obtain rfl := some_inj hr
      exact ge_result trivial (ResOk.tmp (by kernel_rfl) (ResOk.tmp (by kernel_rfl) ResOk.nil)) (Imm.trans hI8 hI33) ⟨A34, n35, C36, hO37, rfl, rfl⟩
/-! 90 vint_U  -/
noncomputable def vint_U_l24 (a0 : List Int) (a1 : Int) : (Int × Int) → Option ((Int × Int) ⊕ ((Unit) ⊕ (Int × Int × Int))) := fun s14 =>
  bif (decide ((IntKind.wrap .i64 (a1 + s14.2)) ≥ (a0.length : Int))) then
  (some (Sum.inr (Sum.inr (0, 0, 9))))
  else
  (Option.bind (ix a0 (IntKind.wrap .i64 (a1 + s14.2))) fun (x27 : Int) =>
    bif ((s14.2 == 9) && (decide (x27 > 1))) then
    (some (Sum.inr (Sum.inr (0, 0, 7))))
    else
    (bif (((decide (x27 < 128)) && (x27 == 0)) && (decide (s14.2 > 0))) then
      (some (Sum.inr (Sum.inr (0, 0, 3))))
      else
      (Option.bind (shlx .u64 (IntKind.wrap .u64 (bitAnd .u8 x27 127)) (IntKind.wrap .i64 (7 * s14.2))) fun (q50 : Int) =>
        bif (decide (x27 < 128)) then
        (some (Sum.inr (Sum.inr ((bitOr .u64 s14.1 q50), (IntKind.wrap .i64 ((IntKind.wrap .i64 (a1 + s14.2)) + 1)), 0))))
        else
        (some (Sum.inl ((bitOr .u64 s14.1 q50), (IntKind.wrap .i64 (s14.2 + 1))))))))
noncomputable def vint_U (a0 : List Int) (a1 : Int) : Option (Int × Int × Int) :=
  bif ((decide (a1 < 0)) || (decide (a1 > (a0.length : Int)))) then
  (some (0, 0, 1))
  else
  (Option.bind (loopO (vint_U_l24 a0 a1) (0, 0)) fun (r12 : (Unit) ⊕ (Int × Int × Int)) =>
    match r12 with
    | Sum.inl r20 => none
    | Sum.inr v53 => some v53)
theorem vint_U_walk {a0 : List Int} {A0_0 : Option Addr} {n0_0 : Nat} {a1 : Int} {I : Imm} {r : Int × Int × Int}  (hf0_0 : RepS (Kd.int .u8) I A0_0 n0_0 a0) (hr : vint_U a0 a1 = some r) (L : Own) :
    CallsTo Tryz.prog 90 #[.slice A0_0 a0.length n0_0, .int .i64 a1] I L (fun v I' L' => v = .tuple #[.int .u64 r.1, .int .i64 r.2.1, .int .i64 r.2.2] ∧ L = L') := by
  unfold vint_U at hr
  refine callsTo_body (N := 65) Tryz.func90 (by kernel_rfl) (by kernel_rfl) (by kernel_rfl) ?_
  refine gk_pick [0, 1] (K' := [(0, .slice A0_0 a0.length n0_0), (1, .int .i64 a1)]) (by kernel_rfl) ?_
  refine gk_seq (by kernel_rfl) ?_
  refine gk_region (by kernel_rfl) ?_
  refine gl_pure 3 [0, 1] (K' := [(0, .slice A0_0 a0.length n0_0), (1, .int .i64 a1)]) (by kernel_rfl) ?_
  refine gl_atE (by kernel_rfl) ?_
  refine ge_seq ?_
  refine gk_seq (by kernel_rfl) ?_
  refine gk_seq (by kernel_rfl) ?_
  obtain ⟨b3, hb4⟩ : ∃ z, z = ((decide (a1 < 0)) || (decide (a1 > (a0.length : Int)))) := ⟨_, rfl⟩
  refine gk_join (fun t I' L' => I ≤ I' ∧ L = L' ∧ Knows 65 [(0, .slice A0_0 a0.length n0_0), (1, .int .i64 a1), (17, .bool b3)] t) ?_ ?_
  · refine gk_region (by kernel_rfl) ?_
    refine gl_pure 3 [0, 1, 12] (K' := [(0, .slice A0_0 a0.length n0_0), (1, .int .i64 a1), (12, .bool (decide (a1 < 0)))]) (by kernel_rfl) ?_
    refine gl_case 12 (b := (decide (a1 < 0))) (by kernel_rfl) (fun hc6 => ?_) (fun hc6 => ?_)
    · refine gl_pure 5 [0, 1, 17] (K' := [(0, .slice A0_0 a0.length n0_0), (1, .int .i64 a1), (17, .bool true)]) (by kernel_rfl) ?_
      refine gl_atE (by kernel_rfl) ?_
      exact ge_mid fun t ht => ⟨(Imm.refl _), rfl, by rw [(show b3 = true from hb4.trans (by first | (rw [hc6]; done) | (rw [hc6]; rfl) | (simp [hc6]; done) | (simp only [hc6]; rfl) | (simp at *; omega)))]; exact ht.pick (l := [0, 1, 17]) (by kernel_rfl)⟩
    · refine gl_pure 5 [0, 1, 17] (K' := [(0, .slice A0_0 a0.length n0_0), (1, .int .i64 a1), (17, .bool (decide (a1 > (a0.length : Int))))]) (by kernel_rfl) ?_
      refine gl_atE (by kernel_rfl) ?_
      exact ge_mid fun t ht => ⟨(Imm.refl _), rfl, by rw [(show b3 = (decide (a1 > (a0.length : Int))) from hb4.trans (by first | (rw [hc6]; done) | (rw [hc6]; rfl) | (simp [hc6]; done) | (simp only [hc6]; rfl) | (simp at *; omega)))]; exact ht.pick (l := [0, 1, 17]) (by kernel_rfl)⟩
  · rintro t I5 L' ⟨hI1, rfl, hK2⟩
    subst hb4
    refine ge_at hK2 ?_
    refine ge_seq ?_
    refine gk_cond (b := ((decide (a1 < 0)) || (decide (a1 > (a0.length : Int))))) (by kernel_rfl) (by kernel_rfl) (fun hc7 => ?_) (fun hc7 => ?_)
    · have hr := cond_t hc7 hr
      refine gk_seq (by kernel_rfl) ?_
      refine gk_region (by kernel_rfl) ?_
      refine gl_pure 3 [4, 5, 6] (K' := [(4, .int .u64 0), (5, .int .i64 0), (6, .int .i64 1)]) (by kernel_rfl) ?_
      refine gl_atE (by kernel_rfl) ?_
      refine ge_seq ?_
      refine gk_ret (by kernel_rfl) ?_
      refine ge_seq_ret ?_
      obtain rfl := some_inj hr
      exact ge_result trivial (ResOk.tmp (by kernel_rfl) (ResOk.tmp (by kernel_rfl) (ResOk.tmp (by kernel_rfl) ResOk.nil))) hI1 ⟨rfl, rfl⟩
    · have hr := cond_f hc7 hr
      refine gk_skip (by kernel_rfl) ?_
      refine ge_seq ?_
      refine gk_seq (by kernel_rfl) ?_
      refine gk_region (by kernel_rfl) ?_
      refine gl_pure 1 [0, 1, 7] (K' := [(0, .slice A0_0 a0.length n0_0), (1, .int .i64 a1), (7, .int .u64 0)]) (by kernel_rfl) ?_
      refine gl_atE (by kernel_rfl) ?_
      refine ge_seq ?_
      refine gk_seq (by kernel_rfl) ?_
      refine gk_region (by kernel_rfl) ?_
      refine gl_pure 1 [0, 1, 7, 8] (K' := [(0, .slice A0_0 a0.length n0_0), (1, .int .i64 a1), (7, .int .u64 0), (8, .int .i64 0)]) (by kernel_rfl) ?_
      refine gl_atE (by kernel_rfl) ?_
      refine ge_seq ?_
      obtain ⟨r12, hl13, hr⟩ := bind_some hr
      refine gk_join (fun _ _ _ => False) ?_ ?_
      · refine gk_block (by kernel_rfl) ?_
        refine gk_pick [0, 1, 7, 8] (K' := [(0, .slice A0_0 a0.length n0_0), (1, .int .i64 a1), (7, .int .u64 0), (8, .int .i64 0)]) (by kernel_rfl) ?_
        intro t hK
        refine gc_loop (vint_U_l24 a0 a1) (fun s14 t I' L' => I5 ≤ I' ∧ L = L' ∧ Knows 65 [(0, .slice A0_0 a0.length n0_0), (1, .int .i64 a1), (7, .int .u64 s14.1), (8, .int .i64 s14.2)] t) (by kernel_rfl) ?_ hl13 ⟨(Imm.refl _), rfl, hK⟩
        rintro s14 o15 t I19 L' hb16 ⟨hI17, rfl, hK18⟩
        unfold vint_U_l24 at hb16
        refine gk_at hK18 ?_
        refine gk_seq (by kernel_rfl) ?_
        refine gk_block (by kernel_rfl) ?_
        refine gk_seq (by kernel_rfl) ?_
        refine gk_seq (by kernel_rfl) ?_
        refine gk_region (by kernel_rfl) ?_
        refine gl_pure 6 [0, 1, 7, 8, 25] (K' := [(0, .slice A0_0 a0.length n0_0), (1, .int .i64 a1), (7, .int .u64 s14.1), (8, .int .i64 s14.2), (25, .bool (decide ((IntKind.wrap .i64 (a1 + s14.2)) ≥ (a0.length : Int))))]) (by kernel_rfl) ?_
        refine gl_atE (by kernel_rfl) ?_
        refine ge_seq ?_
        refine gk_cond (b := (decide ((IntKind.wrap .i64 (a1 + s14.2)) ≥ (a0.length : Int)))) (by kernel_rfl) (by kernel_rfl) (fun hc26 => ?_) (fun hc26 => ?_)
        · have hb16 := cond_t hc26 hb16
          refine gk_seq (by kernel_rfl) ?_
          refine gk_region (by kernel_rfl) ?_
          refine gl_pure 3 [4, 5, 6] (K' := [(4, .int .u64 0), (5, .int .i64 0), (6, .int .i64 9)]) (by kernel_rfl) ?_
          refine gl_atE (by kernel_rfl) ?_
          refine ge_seq ?_
          refine gk_ret (by kernel_rfl) ?_
          refine ge_seq_ret ?_
          refine ge_block_ret ?_
          refine ge_seq_ret ?_
          obtain rfl := some_inj hb16
          refine ge_round_out (fun hrr => ?_) (by intro h; cases h)
          obtain rfl := hrr
          refine ge_block_ret ?_
          refine ge_seq_ret ?_
          obtain rfl := some_inj hr
          exact ge_result trivial (ResOk.tmp (by kernel_rfl) (ResOk.tmp (by kernel_rfl) (ResOk.tmp (by kernel_rfl) ResOk.nil))) (Imm.trans hI1 hI17) ⟨rfl, rfl⟩
        · have hb16 := cond_f hc26 hb16
          refine gk_skip (by kernel_rfl) ?_
          refine ge_seq ?_
          refine gk_seq (by kernel_rfl) ?_
          refine gk_region (by kernel_rfl) ?_
          refine gl_pure 4 [0, 1, 7, 8, 26, 29] (K' := [(0, .slice A0_0 a0.length n0_0), (1, .int .i64 a1), (7, .int .u64 s14.1), (8, .int .i64 s14.2), (26, .slice A0_0 a0.length n0_0), (29, .int .i64 (IntKind.wrap .i64 (a1 + s14.2)))]) (by kernel_rfl) ?_
          obtain ⟨x27, hx28, hb16⟩ := bind_some hb16
          obtain ⟨p29, cs30, hR31, hA32, ha33⟩ := RepS.ixAt hx28 (hf0_0.mono (Imm.trans hI1 hI17))
          have hi34 := ix_some hx28
          obtain rfl := hR31
          refine gl_indexAddrF (c := n0_0) (T' := 51) (e := 5) (xs := (.tmp 26)) (xi := (.tmp 29)) (kd := .i64) ha33 hi34.1 hi34.2.1 (by kernel_rfl) (by kernel_rfl) (by kernel_rfl) (by kernel_rfl) (by kernel_rfl) ?_
          refine gl_load (T' := 5) (xp := (.tmp 30)) (p := p29) (c := .int .u8 x27) (n := 1) (by kernel_rfl) (by kernel_rfl) (by kernel_rfl) (by kernel_rfl) hA32 ?_
          refine gl_pure 1 [0, 1, 7, 8, 9] (K' := [(0, .slice A0_0 a0.length n0_0), (1, .int .i64 a1), (7, .int .u64 s14.1), (8, .int .i64 s14.2), (9, .int .u8 x27)]) (by kernel_rfl) ?_
          refine gl_atE (by kernel_rfl) ?_
          refine ge_seq ?_
          refine gk_seq (by kernel_rfl) ?_
          refine gk_block (by kernel_rfl) ?_
          refine gk_seq (by kernel_rfl) ?_
          obtain ⟨b37, hb38⟩ : ∃ z, z = ((s14.2 == 9) && (decide (x27 > 1))) := ⟨_, rfl⟩
          refine gk_join (fun t I' L' => I19 ≤ I' ∧ L = L' ∧ Knows 65 [(0, .slice A0_0 a0.length n0_0), (1, .int .i64 a1), (7, .int .u64 s14.1), (8, .int .i64 s14.2), (9, .int .u8 x27), (32, .bool b37)] t) ?_ ?_
          · refine gk_region (by kernel_rfl) ?_
            refine gl_pure 3 [0, 1, 7, 8, 9, 35] (K' := [(0, .slice A0_0 a0.length n0_0), (1, .int .i64 a1), (7, .int .u64 s14.1), (8, .int .i64 s14.2), (9, .int .u8 x27), (35, .bool (s14.2 == 9))]) (by kernel_rfl) ?_
            refine gl_case 35 (b := (s14.2 == 9)) (by kernel_rfl) (fun hc40 => ?_) (fun hc40 => ?_)
            · refine gl_pure 4 [0, 1, 7, 8, 9, 32] (K' := [(0, .slice A0_0 a0.length n0_0), (1, .int .i64 a1), (7, .int .u64 s14.1), (8, .int .i64 s14.2), (9, .int .u8 x27), (32, .bool (decide (x27 > 1)))]) (by kernel_rfl) ?_
              refine gl_atE (by kernel_rfl) ?_
              exact ge_mid fun t ht => ⟨(Imm.refl _), rfl, by rw [(show b37 = (decide (x27 > 1)) from hb38.trans (by first | (rw [hc40]; done) | (rw [hc40]; rfl) | (simp [hc40]; done) | (simp only [hc40]; rfl) | (simp at *; omega)))]; exact ht.pick (l := [0, 1, 7, 8, 9, 32]) (by kernel_rfl)⟩
            · refine gl_pure 4 [0, 1, 7, 8, 9, 32] (K' := [(0, .slice A0_0 a0.length n0_0), (1, .int .i64 a1), (7, .int .u64 s14.1), (8, .int .i64 s14.2), (9, .int .u8 x27), (32, .bool false)]) (by kernel_rfl) ?_
              refine gl_atE (by kernel_rfl) ?_
              exact ge_mid fun t ht => ⟨(Imm.refl _), rfl, by rw [(show b37 = false from hb38.trans (by first | (rw [hc40]; done) | (rw [hc40]; rfl) | (simp [hc40]; done) | (simp only [hc40]; rfl) | (simp at *; omega)))]; exact ht.pick (l := [0, 1, 7, 8, 9, 32]) (by kernel_rfl)⟩
          · rintro t I39 L' ⟨hI35, rfl, hK36⟩
            subst hb38
            refine ge_at hK36 ?_
            refine ge_seq ?_
            refine gk_cond (b := ((s14.2 == 9) && (decide (x27 > 1)))) (by kernel_rfl) (by kernel_rfl) (fun hc41 => ?_) (fun hc41 => ?_)
            · have hb16 := cond_t hc41 hb16
              refine gk_seq (by kernel_rfl) ?_
              refine gk_region (by kernel_rfl) ?_
              refine gl_pure 3 [4, 5, 6] (K' := [(4, .int .u64 0), (5, .int .i64 0), (6, .int .i64 7)]) (by kernel_rfl) ?_
              refine gl_atE (by kernel_rfl) ?_
              refine ge_seq ?_
              refine gk_ret (by kernel_rfl) ?_
              refine ge_block_ret ?_
              refine ge_seq_ret ?_
              refine ge_block_ret ?_
              refine ge_seq_ret ?_
              obtain rfl := some_inj hb16
              refine ge_round_out (fun hrr => ?_) (by intro h; cases h)
              obtain rfl := hrr
              refine ge_block_ret ?_
              refine ge_seq_ret ?_
              obtain rfl := some_inj hr
              exact ge_result trivial (ResOk.tmp (by kernel_rfl) (ResOk.tmp (by kernel_rfl) (ResOk.tmp (by kernel_rfl) ResOk.nil))) (Imm.trans (Imm.trans hI1 hI17) hI35) ⟨rfl, rfl⟩
            · have hb16 := cond_f hc41 hb16
              refine gk_seq (by kernel_rfl) ?_
              obtain ⟨b44, hb45⟩ : ∃ z, z = (((decide (x27 < 128)) && (x27 == 0)) && (decide (s14.2 > 0))) := ⟨_, rfl⟩
              refine gk_join (fun t I' L' => I39 ≤ I' ∧ L = L' ∧ Knows 65 [(0, .slice A0_0 a0.length n0_0), (1, .int .i64 a1), (7, .int .u64 s14.1), (8, .int .i64 s14.2), (9, .int .u8 x27), (39, .bool b44)] t) ?_ ?_
              · refine gk_region (by kernel_rfl) ?_
                refine gl_pure 3 [0, 1, 7, 8, 9, 42] (K' := [(0, .slice A0_0 a0.length n0_0), (1, .int .i64 a1), (7, .int .u64 s14.1), (8, .int .i64 s14.2), (9, .int .u8 x27), (42, .bool (decide (x27 < 128)))]) (by kernel_rfl) ?_
                refine gl_case 42 (b := (decide (x27 < 128))) (by kernel_rfl) (fun hc47 => ?_) (fun hc47 => ?_)
                · refine gl_pure 4 [0, 1, 7, 8, 9, 46] (K' := [(0, .slice A0_0 a0.length n0_0), (1, .int .i64 a1), (7, .int .u64 s14.1), (8, .int .i64 s14.2), (9, .int .u8 x27), (46, .bool (x27 == 0))]) (by kernel_rfl) ?_
                  refine gl_case 46 (b := (x27 == 0)) (by kernel_rfl) (fun hc48 => ?_) (fun hc48 => ?_)
                  · refine gl_pure 4 [0, 1, 7, 8, 9, 39] (K' := [(0, .slice A0_0 a0.length n0_0), (1, .int .i64 a1), (7, .int .u64 s14.1), (8, .int .i64 s14.2), (9, .int .u8 x27), (39, .bool (decide (s14.2 > 0)))]) (by kernel_rfl) ?_
                    refine gl_atE (by kernel_rfl) ?_
                    exact ge_mid fun t ht => ⟨(Imm.refl _), rfl, by rw [(show b44 = (decide (s14.2 > 0)) from hb45.trans (by first | (rw [hc47, hc48]; done) | (rw [hc47, hc48]; rfl) | (simp [hc47, hc48]; done) | (simp only [hc47, hc48]; rfl) | (simp at *; omega)))]; exact ht.pick (l := [0, 1, 7, 8, 9, 39]) (by kernel_rfl)⟩
                  · refine gl_pure 4 [0, 1, 7, 8, 9, 39] (K' := [(0, .slice A0_0 a0.length n0_0), (1, .int .i64 a1), (7, .int .u64 s14.1), (8, .int .i64 s14.2), (9, .int .u8 x27), (39, .bool false)]) (by kernel_rfl) ?_
                    refine gl_atE (by kernel_rfl) ?_
                    exact ge_mid fun t ht => ⟨(Imm.refl _), rfl, by rw [(show b44 = false from hb45.trans (by first | (rw [hc47, hc48]; done) | (rw [hc47, hc48]; rfl) | (simp [hc47, hc48]; done) | (simp only [hc47, hc48]; rfl) | (simp at *; omega)))]; exact ht.pick (l := [0, 1, 7, 8, 9, 39]) (by kernel_rfl)⟩
                · refine gl_pure 8 [0, 1, 7, 8, 9, 39] (K' := [(0, .slice A0_0 a0.length n0_0), (1, .int .i64 a1), (7, .int .u64 s14.1), (8, .int .i64 s14.2), (9, .int .u8 x27), (39, .bool false)]) (by kernel_rfl) ?_
                  refine gl_atE (by kernel_rfl) ?_
                  exact ge_mid fun t ht => ⟨(Imm.refl _), rfl, by rw [(show b44 = false from hb45.trans (by first | (rw [hc47]; done) | (rw [hc47]; rfl) | (simp [hc47]; done) | (simp only [hc47]; rfl) | (simp at *; omega)))]; exact ht.pick (l := [0, 1, 7, 8, 9, 39]) (by kernel_rfl)⟩
              · rintro t I46 L' ⟨hI42, rfl, hK43⟩
                subst hb45
                refine ge_at hK43 ?_
                refine ge_seq ?_
                refine gk_cond (b := (((decide (x27 < 128)) && (x27 == 0)) && (decide (s14.2 > 0)))) (by kernel_rfl) (by kernel_rfl) (fun hc49 => ?_) (fun hc49 => ?_)
                · have hb16 := cond_t hc49 hb16
                  refine gk_seq (by kernel_rfl) ?_
                  refine gk_region (by kernel_rfl) ?_
                  refine gl_pure 3 [4, 5, 6] (K' := [(4, .int .u64 0), (5, .int .i64 0), (6, .int .i64 3)]) (by kernel_rfl) ?_
                  refine gl_atE (by kernel_rfl) ?_
                  refine ge_seq ?_
                  refine gk_ret (by kernel_rfl) ?_
                  refine ge_block_ret ?_
                  refine ge_seq_ret ?_
                  refine ge_block_ret ?_
                  refine ge_seq_ret ?_
                  obtain rfl := some_inj hb16
                  refine ge_round_out (fun hrr => ?_) (by intro h; cases h)
                  obtain rfl := hrr
                  refine ge_block_ret ?_
                  refine ge_seq_ret ?_
                  obtain rfl := some_inj hr
                  exact ge_result trivial (ResOk.tmp (by kernel_rfl) (ResOk.tmp (by kernel_rfl) (ResOk.tmp (by kernel_rfl) ResOk.nil))) (Imm.trans (Imm.trans (Imm.trans hI1 hI17) hI35) hI42) ⟨rfl, rfl⟩
                · have hb16 := cond_f hc49 hb16
                  refine gk_skip (by kernel_rfl) ?_
                  refine ge_block_normal ?_
                  refine ge_seq ?_
                  refine gk_seq (by kernel_rfl) ?_
                  refine gk_region (by kernel_rfl) ?_
                  refine gl_pure 6 [0, 1, 8, 9, 50, 53, 55] (K' := [(0, .slice A0_0 a0.length n0_0), (1, .int .i64 a1), (8, .int .i64 s14.2), (9, .int .u8 x27), (50, .int .u64 s14.1), (53, .int .u64 (IntKind.wrap .u64 (bitAnd .u8 x27 127))), (55, .int .i64 (IntKind.wrap .i64 (7 * s14.2)))]) (by kernel_rfl) ?_
                  obtain ⟨q50, hx51, hb16⟩ := bind_some hb16
                  refine gl_shl (t := 41) (t' := 3) (x := (.tmp 53)) (y := (.tmp 55)) (kx := .u64) (ky := .i64) hx51 (by kernel_rfl) (by kernel_rfl) (by kernel_rfl) (by kernel_rfl) ?_
                  refine gl_pure 2 [0, 1, 7, 8, 9] (K' := [(0, .slice A0_0 a0.length n0_0), (1, .int .i64 a1), (7, .int .u64 (bitOr .u64 s14.1 q50)), (8, .int .i64 s14.2), (9, .int .u8 x27)]) (by kernel_rfl) ?_
                  refine gl_atE (by kernel_rfl) ?_
                  refine ge_seq ?_
                  refine gk_seq (by kernel_rfl) ?_
                  refine gk_region (by kernel_rfl) ?_
                  refine gl_pure 2 [0, 1, 7, 8, 59] (K' := [(0, .slice A0_0 a0.length n0_0), (1, .int .i64 a1), (7, .int .u64 (bitOr .u64 s14.1 q50)), (8, .int .i64 s14.2), (59, .bool (decide (x27 < 128)))]) (by kernel_rfl) ?_
                  refine gl_atE (by kernel_rfl) ?_
                  refine ge_seq ?_
                  refine gk_cond (b := (decide (x27 < 128))) (by kernel_rfl) (by kernel_rfl) (fun hc52 => ?_) (fun hc52 => ?_)
                  · have hb16 := cond_t hc52 hb16
                    refine gk_seq (by kernel_rfl) ?_
                    refine gk_region (by kernel_rfl) ?_
                    refine gl_pure 8 [4, 5, 6] (K' := [(4, .int .u64 (bitOr .u64 s14.1 q50)), (5, .int .i64 (IntKind.wrap .i64 ((IntKind.wrap .i64 (a1 + s14.2)) + 1))), (6, .int .i64 0)]) (by kernel_rfl) ?_
                    refine gl_atE (by kernel_rfl) ?_
                    refine ge_seq ?_
                    refine gk_ret (by kernel_rfl) ?_
                    refine ge_block_ret ?_
                    refine ge_seq_ret ?_
                    obtain rfl := some_inj hb16
                    refine ge_round_out (fun hrr => ?_) (by intro h; cases h)
                    obtain rfl := hrr
                    refine ge_block_ret ?_
                    refine ge_seq_ret ?_
                    obtain rfl := some_inj hr
                    exact ge_result trivial (ResOk.tmp (by kernel_rfl) (ResOk.tmp (by kernel_rfl) (ResOk.tmp (by kernel_rfl) ResOk.nil))) (Imm.trans (Imm.trans (Imm.trans hI1 hI17) hI35) hI42) ⟨rfl, rfl⟩
                  · have hb16 := cond_f hc52 hb16
                    refine gk_skip (by kernel_rfl) ?_
                    refine ge_block_normal ?_
                    refine ge_seq ?_
                    refine gk_region (by kernel_rfl) ?_
                    refine gl_pure 3 [0, 1, 7, 8] (K' := [(0, .slice A0_0 a0.length n0_0), (1, .int .i64 a1), (7, .int .u64 (bitOr .u64 s14.1 q50)), (8, .int .i64 (IntKind.wrap .i64 (s14.2 + 1)))]) (by kernel_rfl) ?_
                    refine gl_atE (by kernel_rfl) ?_
                    obtain rfl := some_inj hb16
                    exact ge_round fun t ht => ⟨(Imm.trans (Imm.trans hI17 hI35) hI42), rfl, ht.pick (l := [0, 1, 7, 8]) (by kernel_rfl)⟩
      · rintro t I L' h
        exact h.elim
/-! 91 vint_Text  -/
noncomputable def vint_Text (a0 : List Int) (a1 : Int) (a2 : Int) : Option (ByteArray × Int × Int) :=
  bif (((decide (a1 < 0)) || (decide (a1 > (a0.length : Int)))) || (decide (a2 < 0))) then
  (some ((⟨#[]⟩ : ByteArray), 0, 1))
  else
  (Option.bind (vint_U a0 a1) fun (y9 : Int × Int × Int) =>
    bif (y9.2.2 != 0) then
    (some ((⟨#[]⟩ : ByteArray), 0, y9.2.2))
    else
    (bif (decide (y9.1 > (IntKind.wrap .u64 a2))) then
      (some ((⟨#[]⟩ : ByteArray), 0, 4))
      else
      (bif (decide (y9.1 > (IntKind.wrap .u64 (IntKind.wrap .i64 ((a0.length : Int) - y9.2.1))))) then
        (some ((⟨#[]⟩ : ByteArray), 0, 9))
        else
        (Option.bind (lx a0 y9.2.1 (IntKind.wrap .i64 (y9.2.1 + (IntKind.wrap .i64 y9.1)))) fun (l15 : List Int) =>
          Option.bind (utf8_ValidString (ofBytes l15)) fun (y19 : Bool) =>
          bif (!y19) then
          (some ((⟨#[]⟩ : ByteArray), 0, 12))
          else
          (some ((ofBytes l15), (IntKind.wrap .i64 (y9.2.1 + (IntKind.wrap .i64 y9.1))), 0))))))
theorem vint_Text_walk {a0 : List Int} {A0_0 : Option Addr} {n0_0 : Nat} {a1 : Int} {a2 : Int} {I : Imm} {r : ByteArray × Int × Int} (hG : Gl I)  (hf0_0 : RepS (Kd.int .u8) I A0_0 n0_0 a0) (hr : vint_Text a0 a1 a2 = some r) (L : Own) :
    CallsTo Tryz.prog 91 #[.slice A0_0 a0.length n0_0, .int .i64 a1, .int .i64 a2] I L (fun v I' L' => v = .tuple #[.string r.1, .int .i64 r.2.1, .int .i64 r.2.2] ∧ L = L') := by
  unfold vint_Text at hr
  refine callsTo_body (N := 65) Tryz.func91 (by kernel_rfl) (by kernel_rfl) (by kernel_rfl) ?_
  refine gk_pick [0, 1, 2] (K' := [(0, .slice A0_0 a0.length n0_0), (1, .int .i64 a1), (2, .int .i64 a2)]) (by kernel_rfl) ?_
  refine gk_seq (by kernel_rfl) ?_
  refine gk_region (by kernel_rfl) ?_
  refine gl_pure 3 [0, 1, 2] (K' := [(0, .slice A0_0 a0.length n0_0), (1, .int .i64 a1), (2, .int .i64 a2)]) (by kernel_rfl) ?_
  refine gl_atE (by kernel_rfl) ?_
  refine ge_seq ?_
  refine gk_seq (by kernel_rfl) ?_
  refine gk_seq (by kernel_rfl) ?_
  obtain ⟨b3, hb4⟩ : ∃ z, z = (((decide (a1 < 0)) || (decide (a1 > (a0.length : Int)))) || (decide (a2 < 0))) := ⟨_, rfl⟩
  refine gk_join (fun t I' L' => I ≤ I' ∧ L = L' ∧ Knows 65 [(0, .slice A0_0 a0.length n0_0), (1, .int .i64 a1), (2, .int .i64 a2), (24, .bool b3)] t) ?_ ?_
  · refine gk_region (by kernel_rfl) ?_
    refine gl_pure 3 [0, 1, 2, 15] (K' := [(0, .slice A0_0 a0.length n0_0), (1, .int .i64 a1), (2, .int .i64 a2), (15, .bool (decide (a1 < 0)))]) (by kernel_rfl) ?_
    refine gl_case 15 (b := (decide (a1 < 0))) (by kernel_rfl) (fun hc6 => ?_) (fun hc6 => ?_)
    · refine gl_pure 9 [0, 1, 2, 24] (K' := [(0, .slice A0_0 a0.length n0_0), (1, .int .i64 a1), (2, .int .i64 a2), (24, .bool true)]) (by kernel_rfl) ?_
      refine gl_atE (by kernel_rfl) ?_
      exact ge_mid fun t ht => ⟨(Imm.refl _), rfl, by rw [(show b3 = true from hb4.trans (by first | (rw [hc6]; done) | (rw [hc6]; rfl) | (simp [hc6]; done) | (simp only [hc6]; rfl) | (simp at *; omega)))]; exact ht.pick (l := [0, 1, 2, 24]) (by kernel_rfl)⟩
    · refine gl_pure 6 [0, 1, 2, 21] (K' := [(0, .slice A0_0 a0.length n0_0), (1, .int .i64 a1), (2, .int .i64 a2), (21, .bool (decide (a1 > (a0.length : Int))))]) (by kernel_rfl) ?_
      refine gl_case 21 (b := (decide (a1 > (a0.length : Int)))) (by kernel_rfl) (fun hc7 => ?_) (fun hc7 => ?_)
      · refine gl_pure 3 [0, 1, 2, 24] (K' := [(0, .slice A0_0 a0.length n0_0), (1, .int .i64 a1), (2, .int .i64 a2), (24, .bool true)]) (by kernel_rfl) ?_
        refine gl_atE (by kernel_rfl) ?_
        exact ge_mid fun t ht => ⟨(Imm.refl _), rfl, by rw [(show b3 = true from hb4.trans (by first | (rw [hc6, hc7]; done) | (rw [hc6, hc7]; rfl) | (simp [hc6, hc7]; done) | (simp only [hc6, hc7]; rfl) | (simp at *; omega)))]; exact ht.pick (l := [0, 1, 2, 24]) (by kernel_rfl)⟩
      · refine gl_pure 3 [0, 1, 2, 24] (K' := [(0, .slice A0_0 a0.length n0_0), (1, .int .i64 a1), (2, .int .i64 a2), (24, .bool (decide (a2 < 0)))]) (by kernel_rfl) ?_
        refine gl_atE (by kernel_rfl) ?_
        exact ge_mid fun t ht => ⟨(Imm.refl _), rfl, by rw [(show b3 = (decide (a2 < 0)) from hb4.trans (by first | (rw [hc6, hc7]; done) | (rw [hc6, hc7]; rfl) | (simp [hc6, hc7]; done) | (simp only [hc6, hc7]; rfl) | (simp at *; omega)))]; exact ht.pick (l := [0, 1, 2, 24]) (by kernel_rfl)⟩
  · rintro t I5 L' ⟨hI1, rfl, hK2⟩
    subst hb4
    refine ge_at hK2 ?_
    refine ge_seq ?_
    refine gk_cond (b := (((decide (a1 < 0)) || (decide (a1 > (a0.length : Int)))) || (decide (a2 < 0)))) (by kernel_rfl) (by kernel_rfl) (fun hc8 => ?_) (fun hc8 => ?_)
    · have hr := cond_t hc8 hr
      refine gk_seq (by kernel_rfl) ?_
      refine gk_region (by kernel_rfl) ?_
      refine gl_pure 3 [6, 7, 8] (K' := [(6, .string (⟨#[]⟩ : ByteArray)), (7, .int .i64 0), (8, .int .i64 1)]) (by kernel_rfl) ?_
      refine gl_atE (by kernel_rfl) ?_
      refine ge_seq ?_
      refine gk_ret (by kernel_rfl) ?_
      refine ge_seq_ret ?_
      obtain rfl := some_inj hr
      exact ge_result trivial (ResOk.tmp (by kernel_rfl) (ResOk.tmp (by kernel_rfl) (ResOk.tmp (by kernel_rfl) ResOk.nil))) hI1 ⟨rfl, rfl⟩
    · have hr := cond_f hc8 hr
      refine gk_skip (by kernel_rfl) ?_
      refine ge_seq ?_
      refine gk_seq (by kernel_rfl) ?_
      refine gk_region (by kernel_rfl) ?_
      refine gl_pure 2 [0, 2, 26, 27] (K' := [(0, .slice A0_0 a0.length n0_0), (2, .int .i64 a2), (26, .slice A0_0 a0.length n0_0), (27, .int .i64 a1)]) (by kernel_rfl) ?_
      obtain ⟨y9, hx10, hr⟩ := bind_some hr
      refine gl_callQ (by kernel_rfl) (vint_U_walk (r := y9) (hf0_0.mono hI1) hx10 _) ?_
      refine gl_pure 7 [0, 2, 9, 10, 11] (K' := [(0, .slice A0_0 a0.length n0_0), (2, .int .i64 a2), (9, .int .u64 y9.1), (10, .int .i64 y9.2.1), (11, .int .i64 y9.2.2)]) (by kernel_rfl) ?_
      refine gl_atE (by kernel_rfl) ?_
      refine ge_seq ?_
      refine gk_seq (by kernel_rfl) ?_
      refine gk_block (by kernel_rfl) ?_
      refine gk_seq (by kernel_rfl) ?_
      refine gk_region (by kernel_rfl) ?_
      refine gl_pure 3 [0, 2, 9, 10, 11, 32] (K' := [(0, .slice A0_0 a0.length n0_0), (2, .int .i64 a2), (9, .int .u64 y9.1), (10, .int .i64 y9.2.1), (11, .int .i64 y9.2.2), (32, .bool (y9.2.2 != 0))]) (by kernel_rfl) ?_
      refine gl_atE (by kernel_rfl) ?_
      refine ge_seq ?_
      refine gk_cond (b := (y9.2.2 != 0)) (by kernel_rfl) (by kernel_rfl) (fun hc11 => ?_) (fun hc11 => ?_)
      · have hr := cond_t hc11 hr
        refine gk_seq (by kernel_rfl) ?_
        refine gk_region (by kernel_rfl) ?_
        refine gl_pure 4 [6, 7, 8] (K' := [(6, .string (⟨#[]⟩ : ByteArray)), (7, .int .i64 0), (8, .int .i64 y9.2.2)]) (by kernel_rfl) ?_
        refine gl_atE (by kernel_rfl) ?_
        refine ge_seq ?_
        refine gk_ret (by kernel_rfl) ?_
        refine ge_block_ret ?_
        refine ge_seq_ret ?_
        obtain rfl := some_inj hr
        exact ge_result trivial (ResOk.tmp (by kernel_rfl) (ResOk.tmp (by kernel_rfl) (ResOk.tmp (by kernel_rfl) ResOk.nil))) hI1 ⟨rfl, rfl⟩
      · have hr := cond_f hc11 hr
        refine gk_seq (by kernel_rfl) ?_
        refine gk_region (by kernel_rfl) ?_
        refine gl_pure 5 [0, 9, 10, 36] (K' := [(0, .slice A0_0 a0.length n0_0), (9, .int .u64 y9.1), (10, .int .i64 y9.2.1), (36, .bool (decide (y9.1 > (IntKind.wrap .u64 a2))))]) (by kernel_rfl) ?_
        refine gl_atE (by kernel_rfl) ?_
        refine ge_seq ?_
        refine gk_cond (b := (decide (y9.1 > (IntKind.wrap .u64 a2)))) (by kernel_rfl) (by kernel_rfl) (fun hc12 => ?_) (fun hc12 => ?_)
        · have hr := cond_t hc12 hr
          refine gk_seq (by kernel_rfl) ?_
          refine gk_region (by kernel_rfl) ?_
          refine gl_pure 3 [6, 7, 8] (K' := [(6, .string (⟨#[]⟩ : ByteArray)), (7, .int .i64 0), (8, .int .i64 4)]) (by kernel_rfl) ?_
          refine gl_atE (by kernel_rfl) ?_
          refine ge_seq ?_
          refine gk_ret (by kernel_rfl) ?_
          refine ge_block_ret ?_
          refine ge_seq_ret ?_
          obtain rfl := some_inj hr
          exact ge_result trivial (ResOk.tmp (by kernel_rfl) (ResOk.tmp (by kernel_rfl) (ResOk.tmp (by kernel_rfl) ResOk.nil))) hI1 ⟨rfl, rfl⟩
        · have hr := cond_f hc12 hr
          refine gk_seq (by kernel_rfl) ?_
          refine gk_region (by kernel_rfl) ?_
          refine gl_pure 8 [0, 9, 10, 41] (K' := [(0, .slice A0_0 a0.length n0_0), (9, .int .u64 y9.1), (10, .int .i64 y9.2.1), (41, .bool (decide (y9.1 > (IntKind.wrap .u64 (IntKind.wrap .i64 ((a0.length : Int) - y9.2.1))))))]) (by kernel_rfl) ?_
          refine gl_atE (by kernel_rfl) ?_
          refine ge_seq ?_
          refine gk_cond (b := (decide (y9.1 > (IntKind.wrap .u64 (IntKind.wrap .i64 ((a0.length : Int) - y9.2.1)))))) (by kernel_rfl) (by kernel_rfl) (fun hc13 => ?_) (fun hc13 => ?_)
          · have hr := cond_t hc13 hr
            refine gk_seq (by kernel_rfl) ?_
            refine gk_region (by kernel_rfl) ?_
            refine gl_pure 3 [6, 7, 8] (K' := [(6, .string (⟨#[]⟩ : ByteArray)), (7, .int .i64 0), (8, .int .i64 9)]) (by kernel_rfl) ?_
            refine gl_atE (by kernel_rfl) ?_
            refine ge_seq ?_
            refine gk_ret (by kernel_rfl) ?_
            refine ge_block_ret ?_
            refine ge_seq_ret ?_
            obtain rfl := some_inj hr
            exact ge_result trivial (ResOk.tmp (by kernel_rfl) (ResOk.tmp (by kernel_rfl) (ResOk.tmp (by kernel_rfl) ResOk.nil))) hI1 ⟨rfl, rfl⟩
          · have hr := cond_f hc13 hr
            refine gk_skip (by kernel_rfl) ?_
            refine ge_block_normal ?_
            refine ge_seq ?_
            refine gk_seq (by kernel_rfl) ?_
            refine gk_region (by kernel_rfl) ?_
            refine gl_pure 6 [9, 10, 49, 50, 54] (K' := [(9, .int .u64 y9.1), (10, .int .i64 y9.2.1), (49, .slice A0_0 a0.length n0_0), (50, .int .i64 y9.2.1), (54, .int .i64 (IntKind.wrap .i64 (y9.2.1 + (IntKind.wrap .i64 y9.1))))]) (by kernel_rfl) ?_
            obtain ⟨l15, hx14, hr⟩ := bind_some hr
            refine gl_sliceR (d := (Kd.int .u8)) (T' := 51) (e := 5) (xs := (.tmp 49)) (lo := (some (.tmp 50))) (hi := (some (.tmp 54))) hx14 (hf0_0.mono hI1) (by kernel_rfl) (by kernel_rfl) (by kernel_rfl) (by kernel_rfl) (by kernel_rfl) (by kernel_rfl) (fun A16 n17 hf18 => ?_)
            refine gl_bytesStr (c := n17) (src := 51) (dst := 9) (e := 5) (n := 1) (x := (.tmp 55)) (by kernel_rfl) (by kernel_rfl) (by kernel_rfl) (by kernel_rfl) (by kernel_rfl) (by kernel_rfl) (RepS.rd hf18 _) ?_
            refine gl_pure 1 [9, 10, 12] (K' := [(9, .int .u64 y9.1), (10, .int .i64 y9.2.1), (12, .string (ofBytes l15))]) (by kernel_rfl) ?_
            refine gl_atE (by kernel_rfl) ?_
            refine ge_seq ?_
            refine gk_seq (by kernel_rfl) ?_
            refine gk_seq (by kernel_rfl) ?_
            refine gk_region (by kernel_rfl) ?_
            refine gl_pure 1 [9, 10, 12, 57] (K' := [(9, .int .u64 y9.1), (10, .int .i64 y9.2.1), (12, .string (ofBytes l15)), (57, .string (ofBytes l15))]) (by kernel_rfl) ?_
            obtain ⟨y19, hx20, hr⟩ := bind_some hr
            refine gl_callQ (by kernel_rfl) (utf8_ValidString_walk (r := y19) (hG.mono hI1) hx20 _) ?_
            refine gl_pure 1 [9, 10, 12, 59] (K' := [(9, .int .u64 y9.1), (10, .int .i64 y9.2.1), (12, .string (ofBytes l15)), (59, .bool (!y19))]) (by kernel_rfl) ?_
            refine gl_atE (by kernel_rfl) ?_
            refine ge_seq ?_
            refine gk_cond (b := (!y19)) (by kernel_rfl) (by kernel_rfl) (fun hc21 => ?_) (fun hc21 => ?_)
            · have hr := cond_t hc21 hr
              refine gk_seq (by kernel_rfl) ?_
              refine gk_region (by kernel_rfl) ?_
              refine gl_pure 3 [6, 7, 8] (K' := [(6, .string (⟨#[]⟩ : ByteArray)), (7, .int .i64 0), (8, .int .i64 12)]) (by kernel_rfl) ?_
              refine gl_atE (by kernel_rfl) ?_
              refine ge_seq ?_
              refine gk_ret (by kernel_rfl) ?_
              refine ge_seq_ret ?_
              obtain rfl := some_inj hr
              exact ge_result trivial (ResOk.tmp (by kernel_rfl) (ResOk.tmp (by kernel_rfl) (ResOk.tmp (by kernel_rfl) ResOk.nil))) hI1 ⟨rfl, rfl⟩
            · have hr := cond_f hc21 hr
              refine gk_skip (by kernel_rfl) ?_
              refine ge_seq ?_
              refine gk_seq (by kernel_rfl) ?_
              refine gk_region (by kernel_rfl) ?_
              refine gl_pure 8 [6, 7, 8] (K' := [(6, .string (ofBytes l15)), (7, .int .i64 (IntKind.wrap .i64 (y9.2.1 + (IntKind.wrap .i64 y9.1)))), (8, .int .i64 0)]) (by kernel_rfl) ?_
              refine gl_atE (by kernel_rfl) ?_
              refine ge_seq ?_
              refine gk_ret (by kernel_rfl) ?_
              obtain rfl := some_inj hr
              exact ge_result trivial (ResOk.tmp (by kernel_rfl) (ResOk.tmp (by kernel_rfl) (ResOk.tmp (by kernel_rfl) ResOk.nil))) hI1 ⟨rfl, rfl⟩
/-! 44 labels_Read  -/
noncomputable def labels_Read_l33 (a0 : List Int) (y1 : Int × Int × Int) : (Int × (List S49) × Int) → Option ((Int × (List S49) × Int) ⊕ ((Int × (List S49)) ⊕ ((List S49) × Int × Int))) := fun s15 =>
  bif (decide (s15.2.2 < y1.1)) then
  (Option.bind (vint_Text a0 s15.1 64) fun (y37 : ByteArray × Int × Int) =>
    bif (y37.2.2 != 0) then
    (some (Sum.inr (Sum.inr ([], 0, y37.2.2))))
    else
    (Option.bind (vint_Text a0 y37.2.1 256) fun (y40 : ByteArray × Int × Int) =>
      bif (y40.2.2 != 0) then
      (some (Sum.inr (Sum.inr ([], 0, y40.2.2))))
      else
      (Option.bind (app s15.2.1 [(⟨y37.1, y40.1⟩ : S49)]) fun (zs47 : List S49) =>
        some (Sum.inl (y40.2.1, zs47, (IntKind.wrap .u64 (s15.2.2 + 1)))))))
  else
  (some (Sum.inr (Sum.inl (s15.1, s15.2.1))))
noncomputable def labels_Read (a0 : List Int) (a1 : Int) : Option ((List S49) × Int × Int) :=
  Option.bind (vint_U a0 a1) fun (y1 : Int × Int × Int) =>
  bif (y1.2.2 != 0) then
  (some ([], 0, y1.2.2))
  else
  (bif (decide (y1.1 > 16)) then
    (some ([], 0, 8))
    else
    (Option.bind (loopO (labels_Read_l33 a0 y1) (y1.2.1, [], 0)) fun (r13 : (Int × (List S49)) ⊕ ((List S49) × Int × Int)) =>
      match r13 with
      | Sum.inl r25 => Option.bind (labels_right r25.2) fun (y53 : Int) =>
        bif (y53 != 0) then
        (some ([], 0, y53))
        else
        (some (r25.2, r25.1, 0))
      | Sum.inr v56 => some v56))
theorem labels_Read_walk {a0 : List Int} {A0_0 : Option Addr} {n0_0 : Nat} {a1 : Int} {I : Imm} {r : (List S49) × Int × Int} (hG : Gl I)  (hf0_0 : RepS (Kd.int .u8) I A0_0 n0_0 a0) (hr : labels_Read a0 a1 = some r) (L : Own) :
    CallsTo Tryz.prog 44 #[.slice A0_0 a0.length n0_0, .int .i64 a1] I L (fun v I' L' => ∃ A0 c0 C0, OwnS kS49 50 I' A0 c0 r.1 C0 ∧ v = .tuple #[.slice A0 r.1.length c0, .int .i64 r.2.1, .int .i64 r.2.2] ∧ C0 ++ L = L') := by
  unfold labels_Read at hr
  refine callsTo_body (N := 60) Tryz.func44 (by kernel_rfl) (by kernel_rfl) (by kernel_rfl) ?_
  refine gk_pick [0, 1] (K' := [(0, .slice A0_0 a0.length n0_0), (1, .int .i64 a1)]) (by kernel_rfl) ?_
  refine gk_seq (by kernel_rfl) ?_
  refine gk_region (by kernel_rfl) ?_
  refine gl_pure 3 [0, 1] (K' := [(0, .slice A0_0 a0.length n0_0), (1, .int .i64 a1)]) (by kernel_rfl) ?_
  refine gl_atE (by kernel_rfl) ?_
  refine ge_seq ?_
  refine gk_seq (by kernel_rfl) ?_
  refine gk_region (by kernel_rfl) ?_
  refine gl_pure 2 [0, 12, 13] (K' := [(0, .slice A0_0 a0.length n0_0), (12, .slice A0_0 a0.length n0_0), (13, .int .i64 a1)]) (by kernel_rfl) ?_
  obtain ⟨y1, hx2, hr⟩ := bind_some hr
  refine gl_callQ (by kernel_rfl) (vint_U_walk (r := y1) hf0_0 hx2 _) ?_
  refine gl_pure 7 [0, 1, 7, 8] (K' := [(0, .slice A0_0 a0.length n0_0), (1, .int .i64 y1.2.1), (7, .int .u64 y1.1), (8, .int .i64 y1.2.2)]) (by kernel_rfl) ?_
  refine gl_atE (by kernel_rfl) ?_
  refine ge_seq ?_
  refine gk_seq (by kernel_rfl) ?_
  refine gk_seq (by kernel_rfl) ?_
  refine gk_region (by kernel_rfl) ?_
  refine gl_pure 2 [0, 1, 7, 8, 19] (K' := [(0, .slice A0_0 a0.length n0_0), (1, .int .i64 y1.2.1), (7, .int .u64 y1.1), (8, .int .i64 y1.2.2), (19, .bool (y1.2.2 != 0))]) (by kernel_rfl) ?_
  refine gl_atE (by kernel_rfl) ?_
  refine ge_seq ?_
  refine gk_cond (b := (y1.2.2 != 0)) (by kernel_rfl) (by kernel_rfl) (fun hc3 => ?_) (fun hc3 => ?_)
  · have hr := cond_t hc3 hr
    refine gk_seq (by kernel_rfl) ?_
    refine gk_region (by kernel_rfl) ?_
    refine gl_pure 4 [4, 5, 6] (K' := [(4, .slice none 0 0), (5, .int .i64 0), (6, .int .i64 y1.2.2)]) (by kernel_rfl) ?_
    refine gl_atE (by kernel_rfl) ?_
    refine ge_seq ?_
    refine gk_ret (by kernel_rfl) ?_
    refine ge_seq_ret ?_
    obtain rfl := some_inj hr
    exact ge_result trivial (ResOk.tmp (by kernel_rfl) (ResOk.tmp (by kernel_rfl) (ResOk.tmp (by kernel_rfl) ResOk.nil))) (Imm.refl _) ⟨none, 0, [], OwnS.nil _ _ _ _, rfl, rfl⟩
  · have hr := cond_f hc3 hr
    refine gk_skip (by kernel_rfl) ?_
    refine ge_seq ?_
    refine gk_seq (by kernel_rfl) ?_
    refine gk_seq (by kernel_rfl) ?_
    refine gk_region (by kernel_rfl) ?_
    refine gl_pure 2 [0, 1, 7, 22] (K' := [(0, .slice A0_0 a0.length n0_0), (1, .int .i64 y1.2.1), (7, .int .u64 y1.1), (22, .bool (decide (y1.1 > 16)))]) (by kernel_rfl) ?_
    refine gl_atE (by kernel_rfl) ?_
    refine ge_seq ?_
    refine gk_cond (b := (decide (y1.1 > 16))) (by kernel_rfl) (by kernel_rfl) (fun hc4 => ?_) (fun hc4 => ?_)
    · have hr := cond_t hc4 hr
      refine gk_seq (by kernel_rfl) ?_
      refine gk_region (by kernel_rfl) ?_
      refine gl_pure 3 [4, 5, 6] (K' := [(4, .slice none 0 0), (5, .int .i64 0), (6, .int .i64 8)]) (by kernel_rfl) ?_
      refine gl_atE (by kernel_rfl) ?_
      refine ge_seq ?_
      refine gk_ret (by kernel_rfl) ?_
      refine ge_seq_ret ?_
      obtain rfl := some_inj hr
      exact ge_result trivial (ResOk.tmp (by kernel_rfl) (ResOk.tmp (by kernel_rfl) (ResOk.tmp (by kernel_rfl) ResOk.nil))) (Imm.refl _) ⟨none, 0, [], OwnS.nil _ _ _ _, rfl, rfl⟩
    · have hr := cond_f hc4 hr
      refine gk_skip (by kernel_rfl) ?_
      refine ge_seq ?_
      refine gk_seq (by kernel_rfl) ?_
      refine gk_region (by kernel_rfl) ?_
      refine gl_pure 1 [0, 1, 7, 9] (K' := [(0, .slice A0_0 a0.length n0_0), (1, .int .i64 y1.2.1), (7, .int .u64 y1.1), (9, .slice none 0 0)]) (by kernel_rfl) ?_
      refine gl_atE (by kernel_rfl) ?_
      refine ge_seq ?_
      refine gk_seq (by kernel_rfl) ?_
      refine gk_seq (by kernel_rfl) ?_
      refine gk_region (by kernel_rfl) ?_
      refine gl_pure 2 [0, 1, 9, 23, 24] (K' := [(0, .slice A0_0 a0.length n0_0), (1, .int .i64 y1.2.1), (9, .slice none 0 0), (23, .int .u64 y1.1), (24, .int .u64 0)]) (by kernel_rfl) ?_
      refine gl_atE (by kernel_rfl) ?_
      refine ge_seq ?_
      obtain ⟨r13, hl14, hr⟩ := bind_some hr
      refine gk_join (fun t I' L' => ∃ r25, r13 = Sum.inl r25 ∧ ∃ A27 n28 C29, OwnS kS49 50 I' A27 n28 r25.2 C29 ∧ I ≤ I' ∧ C29 ++ L = L' ∧ Knows 60 [(1, .int .i64 r25.1), (9, .slice A27 r25.2.length n28)] t) ?_ ?_
      · refine gk_block (by kernel_rfl) ?_
        refine gk_pick [0, 1, 9, 23, 24] (K' := [(0, .slice A0_0 a0.length n0_0), (1, .int .i64 y1.2.1), (9, .slice none 0 0), (23, .int .u64 y1.1), (24, .int .u64 0)]) (by kernel_rfl) ?_
        intro t hK
        refine gc_loop (labels_Read_l33 a0 y1) (fun s15 t I' L' => ∃ A19 n20 C21, OwnS kS49 50 I' A19 n20 s15.2.1 C21 ∧ I ≤ I' ∧ C21 ++ L = L' ∧ Knows 60 [(0, .slice A0_0 a0.length n0_0), (1, .int .i64 s15.1), (9, .slice A19 s15.2.1.length n20), (23, .int .u64 y1.1), (24, .int .u64 s15.2.2)] t) (by kernel_rfl) ?_ hl14 ⟨none, 0, [], OwnS.nil _ _ _ _, (Imm.refl _), rfl, hK⟩
        rintro s15 o16 t I24 L' hb17 ⟨A19, n20, C21, hO22, hI18, rfl, hK23⟩
        unfold labels_Read_l33 at hb17
        refine gk_at hK23 ?_
        refine gk_seq (by kernel_rfl) ?_
        refine gk_region (by kernel_rfl) ?_
        refine gl_pure 1 [0, 1, 9, 23, 24, 25] (K' := [(0, .slice A0_0 a0.length n0_0), (1, .int .i64 s15.1), (9, .slice A19 s15.2.1.length n20), (23, .int .u64 y1.1), (24, .int .u64 s15.2.2), (25, .bool (decide (s15.2.2 < y1.1)))]) (by kernel_rfl) ?_
        refine gl_atE (by kernel_rfl) ?_
        refine ge_seq ?_
        refine gk_seq (by kernel_rfl) ?_
        refine gk_cond (b := (decide (s15.2.2 < y1.1))) (by kernel_rfl) (by kernel_rfl) (fun hc35 => ?_) (fun hc35 => ?_)
        · have hb17 := cond_t hc35 hb17
          refine gk_skip (by kernel_rfl) ?_
          refine ge_seq ?_
          refine gk_seq (by kernel_rfl) ?_
          refine gk_block (by kernel_rfl) ?_
          refine gk_seq (by kernel_rfl) ?_
          refine gk_region (by kernel_rfl) ?_
          refine gl_alloc (T' := 50) (cs := #[.string (⟨#[]⟩ : ByteArray), .string (⟨#[]⟩ : ByteArray)]) (by kernel_rfl) (by kernel_rfl) (by kernel_rfl) (fun g36 => ?_)
          refine gl_atE (by kernel_rfl) ?_
          refine ge_seq ?_
          refine gk_seq (by kernel_rfl) ?_
          refine gk_seq (by kernel_rfl) ?_
          refine gk_region (by kernel_rfl) ?_
          refine gl_pure 2 [0, 9, 10, 23, 24, 27, 28] (K' := [(0, .slice A0_0 a0.length n0_0), (9, .slice A19 s15.2.1.length n20), (10, .pointer (some ⟨g36, 0, none⟩)), (23, .int .u64 y1.1), (24, .int .u64 s15.2.2), (27, .slice A0_0 a0.length n0_0), (28, .int .i64 s15.1)]) (by kernel_rfl) ?_
          obtain ⟨y37, hx38, hb17⟩ := bind_some hb17
          refine gl_callQ (by kernel_rfl) (vint_Text_walk (r := y37) (hG.mono hI18) (hf0_0.mono hI18) hx38 _) ?_
          refine gl_pure 5 [0, 9, 10, 23, 24, 30, 31, 32, 33] (K' := [(0, .slice A0_0 a0.length n0_0), (9, .slice A19 s15.2.1.length n20), (10, .pointer (some ⟨g36, 0, none⟩)), (23, .int .u64 y1.1), (24, .int .u64 s15.2.2), (30, .string y37.1), (31, .int .i64 y37.2.1), (32, .int .i64 y37.2.2), (33, .pointer (some ⟨g36, 0, none⟩))]) (by kernel_rfl) ?_
          refine gl_storeB (T' := 9) (xp := (.tmp 33)) (xv := (.tmp 30)) (v := .string y37.1) (g := g36) (off := 0) (cs := #[.string (⟨#[]⟩ : ByteArray), .string (⟨#[]⟩ : ByteArray)]) (cs' := #[.string y37.1, .string (⟨#[]⟩ : ByteArray)]) (by kernel_rfl) (by kernel_rfl) (by kernel_rfl) (by kernel_rfl) (by kernel_rfl) (Upd.set _ _ _ _) ?_ (by kernel_rfl)
          refine gl_pure 2 [0, 1, 8, 9, 10, 23, 24] (K' := [(0, .slice A0_0 a0.length n0_0), (1, .int .i64 y37.2.1), (8, .int .i64 y37.2.2), (9, .slice A19 s15.2.1.length n20), (10, .pointer (some ⟨g36, 0, none⟩)), (23, .int .u64 y1.1), (24, .int .u64 s15.2.2)]) (by kernel_rfl) ?_
          refine gl_atE (by kernel_rfl) ?_
          refine ge_seq ?_
          refine gk_seq (by kernel_rfl) ?_
          refine gk_region (by kernel_rfl) ?_
          refine gl_pure 2 [0, 1, 8, 9, 10, 23, 24, 35] (K' := [(0, .slice A0_0 a0.length n0_0), (1, .int .i64 y37.2.1), (8, .int .i64 y37.2.2), (9, .slice A19 s15.2.1.length n20), (10, .pointer (some ⟨g36, 0, none⟩)), (23, .int .u64 y1.1), (24, .int .u64 s15.2.2), (35, .bool (y37.2.2 != 0))]) (by kernel_rfl) ?_
          refine gl_atE (by kernel_rfl) ?_
          refine ge_seq ?_
          refine gk_cond (b := (y37.2.2 != 0)) (by kernel_rfl) (by kernel_rfl) (fun hc39 => ?_) (fun hc39 => ?_)
          · have hb17 := cond_t hc39 hb17
            refine gk_seq (by kernel_rfl) ?_
            refine gk_region (by kernel_rfl) ?_
            refine gl_pure 4 [4, 5, 6] (K' := [(4, .slice none 0 0), (5, .int .i64 0), (6, .int .i64 y37.2.2)]) (by kernel_rfl) ?_
            refine gl_atE (by kernel_rfl) ?_
            refine ge_seq ?_
            refine gk_reord (D := L) (Reord.skip (Reord.skipC (Reord.refl _))) ?_
            refine gk_ret (by kernel_rfl) ?_
            refine ge_seq_ret ?_
            refine ge_block_ret ?_
            refine ge_seq_ret ?_
            obtain rfl := some_inj hb17
            refine ge_round_out (fun hrr => ?_) (by intro h; cases h)
            obtain rfl := hrr
            refine ge_block_ret ?_
            refine ge_seq_ret ?_
            refine ge_seq_ret ?_
            obtain rfl := some_inj hr
            exact ge_result trivial (ResOk.tmp (by kernel_rfl) (ResOk.tmp (by kernel_rfl) (ResOk.tmp (by kernel_rfl) ResOk.nil))) hI18 ⟨none, 0, [], OwnS.nil _ _ _ _, rfl, rfl⟩
          · have hb17 := cond_f hc39 hb17
            refine gk_skip (by kernel_rfl) ?_
            refine ge_seq ?_
            refine gk_seq (by kernel_rfl) ?_
            refine gk_seq (by kernel_rfl) ?_
            refine gk_region (by kernel_rfl) ?_
            refine gl_pure 2 [0, 9, 10, 23, 24, 38, 39] (K' := [(0, .slice A0_0 a0.length n0_0), (9, .slice A19 s15.2.1.length n20), (10, .pointer (some ⟨g36, 0, none⟩)), (23, .int .u64 y1.1), (24, .int .u64 s15.2.2), (38, .slice A0_0 a0.length n0_0), (39, .int .i64 y37.2.1)]) (by kernel_rfl) ?_
            obtain ⟨y40, hx41, hb17⟩ := bind_some hb17
            refine gl_callQ (by kernel_rfl) (vint_Text_walk (r := y40) (hG.mono hI18) (hf0_0.mono hI18) hx41 _) ?_
            refine gl_pure 5 [0, 9, 10, 23, 24, 41, 42, 43, 44] (K' := [(0, .slice A0_0 a0.length n0_0), (9, .slice A19 s15.2.1.length n20), (10, .pointer (some ⟨g36, 0, none⟩)), (23, .int .u64 y1.1), (24, .int .u64 s15.2.2), (41, .string y40.1), (42, .int .i64 y40.2.1), (43, .int .i64 y40.2.2), (44, .pointer (some ⟨g36, 1, none⟩))]) (by kernel_rfl) ?_
            refine gl_storeB (T' := 9) (xp := (.tmp 44)) (xv := (.tmp 41)) (v := .string y40.1) (g := g36) (off := 1) (cs := #[.string y37.1, .string (⟨#[]⟩ : ByteArray)]) (cs' := #[.string y37.1, .string y40.1]) (by kernel_rfl) (by kernel_rfl) (by kernel_rfl) (by kernel_rfl) (by kernel_rfl) (Upd.set _ _ _ _) ?_ (by kernel_rfl)
            refine gl_pure 2 [0, 1, 8, 9, 10, 23, 24] (K' := [(0, .slice A0_0 a0.length n0_0), (1, .int .i64 y40.2.1), (8, .int .i64 y40.2.2), (9, .slice A19 s15.2.1.length n20), (10, .pointer (some ⟨g36, 0, none⟩)), (23, .int .u64 y1.1), (24, .int .u64 s15.2.2)]) (by kernel_rfl) ?_
            refine gl_atE (by kernel_rfl) ?_
            refine ge_seq ?_
            refine gk_seq (by kernel_rfl) ?_
            refine gk_region (by kernel_rfl) ?_
            refine gl_pure 2 [0, 1, 8, 9, 10, 23, 24, 46] (K' := [(0, .slice A0_0 a0.length n0_0), (1, .int .i64 y40.2.1), (8, .int .i64 y40.2.2), (9, .slice A19 s15.2.1.length n20), (10, .pointer (some ⟨g36, 0, none⟩)), (23, .int .u64 y1.1), (24, .int .u64 s15.2.2), (46, .bool (y40.2.2 != 0))]) (by kernel_rfl) ?_
            refine gl_atE (by kernel_rfl) ?_
            refine ge_seq ?_
            refine gk_cond (b := (y40.2.2 != 0)) (by kernel_rfl) (by kernel_rfl) (fun hc42 => ?_) (fun hc42 => ?_)
            · have hb17 := cond_t hc42 hb17
              refine gk_seq (by kernel_rfl) ?_
              refine gk_region (by kernel_rfl) ?_
              refine gl_pure 4 [4, 5, 6] (K' := [(4, .slice none 0 0), (5, .int .i64 0), (6, .int .i64 y40.2.2)]) (by kernel_rfl) ?_
              refine gl_atE (by kernel_rfl) ?_
              refine ge_seq ?_
              refine gk_reord (D := L) (Reord.skip (Reord.skipC (Reord.refl _))) ?_
              refine gk_ret (by kernel_rfl) ?_
              refine ge_seq_ret ?_
              refine ge_block_ret ?_
              refine ge_seq_ret ?_
              obtain rfl := some_inj hb17
              refine ge_round_out (fun hrr => ?_) (by intro h; cases h)
              obtain rfl := hrr
              refine ge_block_ret ?_
              refine ge_seq_ret ?_
              refine ge_seq_ret ?_
              obtain rfl := some_inj hr
              exact ge_result trivial (ResOk.tmp (by kernel_rfl) (ResOk.tmp (by kernel_rfl) (ResOk.tmp (by kernel_rfl) ResOk.nil))) hI18 ⟨none, 0, [], OwnS.nil _ _ _ _, rfl, rfl⟩
            · have hb17 := cond_f hc42 hb17
              refine gk_skip (by kernel_rfl) ?_
              refine ge_seq ?_
              refine gk_region (by kernel_rfl) ?_
              refine gl_pure 1 [0, 1, 10, 23, 24, 48] (K' := [(0, .slice A0_0 a0.length n0_0), (1, .int .i64 y40.2.1), (10, .pointer (some ⟨g36, 0, none⟩)), (23, .int .u64 y1.1), (24, .int .u64 s15.2.2), (48, .slice A19 s15.2.1.length n20)]) (by kernel_rfl) ?_
              refine gl_loadB (T' := 50) (xp := (.tmp 10)) (v := .agg #[.string y37.1, .string y40.1]) (g := g36) (off := 0) (cs := #[.string y37.1, .string y40.1]) (e := 50) (fz := (0, 0)) (by kernel_rfl) (by kernel_rfl) (by kernel_rfl) List.mem_cons_self (by kernel_rfl) ?_
              refine gl_buildSlice (T' := 22) (e := 50) (n := 2) (len := 1) (parts := #[(0, (.tmp 49))]) (l := [(0, .agg #[.string y37.1, .string y40.1])]) (cs := #[.string y37.1, .string y40.1]) (by kernel_rfl) (by kernel_rfl) (by kernel_rfl) (by kernel_rfl) (by kernel_rfl) (fun g43 => ?_)
              have hO44 : OwnS kS49 50 I24 (some ⟨g43, 0, none⟩) 1 [(⟨y37.1, y40.1⟩ : S49)] [(g43, .cells #[.string y37.1, .string y40.1] 50)] := OwnS.lit (row_cons (l := [.string y37.1, .string y40.1]) (kS49_mk (x := (⟨y37.1, y40.1⟩ : S49)) ) (row_nil _ _)) rfl rfl rfl
              refine gl_reord (D := [(g43, .cells #[.string y37.1, .string y40.1] 50)] ++ ((g36, .cells #[.string y37.1, .string y40.1] 50) :: (C21 ++ L))) (Reord.refl _) ?_
              obtain ⟨zs47, hz48, hb17⟩ := bind_some hb17
              refine gl_append (xv := .slice (some ⟨g43, 0, none⟩) [(⟨y37.1, y40.1⟩ : S49)].length 1) (d := kS49) (t := 22) (tx := 22) (e := 50) (s := (.tmp 48)) (x := (.tmp 50)) (xs := s15.2.1) (fun X => [(g43, .cells #[.string y37.1, .string y40.1] 50)] ++ ((g36, .cells #[.string y37.1, .string y40.1] 50) :: (X ++ L))) hz48 (by kernel_rfl) (by kernel_rfl) (by kernel_rfl) (by kernel_rfl) (by kernel_rfl) (by kernel_rfl) (fun X => (Upd.app _ (Upd.one _ (Upd.head _ X _)))) hO22 (SrcOk.slice (c := 1) (e := 50) (n := 2) (OwnS.rd hO44 (Upd.selfC _ _)) (by kernel_rfl)) (fun A49 n50 C51 hO52 => ?_)
              refine gl_pure 1 [0, 1, 9, 23, 24] (K' := [(0, .slice A0_0 a0.length n0_0), (1, .int .i64 y40.2.1), (9, .slice A49 zs47.length n50), (23, .int .u64 y1.1), (24, .int .u64 s15.2.2)]) (by kernel_rfl) ?_
              refine gl_atE (by kernel_rfl) ?_
              refine ge_block_normal ?_
              refine ge_seq ?_
              refine gk_region (by kernel_rfl) ?_
              refine gl_pure 2 [0, 1, 9, 23, 24] (K' := [(0, .slice A0_0 a0.length n0_0), (1, .int .i64 y40.2.1), (9, .slice A49 zs47.length n50), (23, .int .u64 y1.1), (24, .int .u64 (IntKind.wrap .u64 (s15.2.2 + 1)))]) (by kernel_rfl) ?_
              refine gl_reord (D := C51 ++ L) (Reord.step (Upd.app _ (Upd.one _ (Upd.rmC _ _))) (Reord.skipC (Reord.skip (Reord.refl _)))) ?_
              refine gl_atE (by kernel_rfl) ?_
              obtain rfl := some_inj hb17
              exact ge_round fun t ht => ⟨A49, n50, C51, hO52, hI18, rfl, ht.pick (l := [0, 1, 9, 23, 24]) (by kernel_rfl)⟩
        · have hb17 := cond_f hc35 hb17
          refine gk_exit (by kernel_rfl) ?_
          refine ge_seq_exit ?_
          obtain rfl := some_inj hb17
          refine ge_round_out (fun hrr => ?_) (by intro h; cases h)
          obtain rfl := hrr
          refine ge_block_hit (by kernel_rfl) ?_
          exact ge_mid fun t ht => ⟨_, rfl, A19, n20, C21, hO22, hI18, rfl, ht.pick (l := [1, 9]) (by kernel_rfl)⟩
      · rintro t I32 L' ⟨r25, rfl, A27, n28, C29, hO30, hI26, rfl, hK31⟩
        refine ge_at hK31 ?_
        refine ge_seq ?_
        refine gk_seq (by kernel_rfl) ?_
        refine gk_seq (by kernel_rfl) ?_
        refine gk_region (by kernel_rfl) ?_
        refine gl_pure 1 [1, 9, 53] (K' := [(1, .int .i64 r25.1), (9, .slice A27 r25.2.length n28), (53, .slice A27 r25.2.length n28)]) (by kernel_rfl) ?_
        obtain ⟨y53, hx54, hr⟩ := bind_some hr
        refine gl_callB (r := .int .i64 y53) (Tk.step (Upd.rmC _ _) (Tk.nil _)) (by kernel_rfl) (fun J hJ hC => labels_right_walk (r := y53) (hG.mono (Imm.trans hI26 hJ)) (OwnS.rest hO30 hJ hC.left) hx54 _) ?_
        refine gl_pure 1 [1, 8, 9] (K' := [(1, .int .i64 r25.1), (8, .int .i64 y53), (9, .slice A27 r25.2.length n28)]) (by kernel_rfl) ?_
        refine gl_atE (by kernel_rfl) ?_
        refine ge_seq ?_
        refine gk_seq (by kernel_rfl) ?_
        refine gk_region (by kernel_rfl) ?_
        refine gl_pure 2 [1, 8, 9, 56] (K' := [(1, .int .i64 r25.1), (8, .int .i64 y53), (9, .slice A27 r25.2.length n28), (56, .bool (y53 != 0))]) (by kernel_rfl) ?_
        refine gl_atE (by kernel_rfl) ?_
        refine ge_seq ?_
        refine gk_cond (b := (y53 != 0)) (by kernel_rfl) (by kernel_rfl) (fun hc55 => ?_) (fun hc55 => ?_)
        · have hr := cond_t hc55 hr
          refine gk_seq (by kernel_rfl) ?_
          refine gk_region (by kernel_rfl) ?_
          refine gl_pure 4 [4, 5, 6] (K' := [(4, .slice none 0 0), (5, .int .i64 0), (6, .int .i64 y53)]) (by kernel_rfl) ?_
          refine gl_atE (by kernel_rfl) ?_
          refine ge_seq ?_
          refine gk_reord (D := L) (Reord.skipC (Reord.refl _)) ?_
          refine gk_ret (by kernel_rfl) ?_
          refine ge_seq_ret ?_
          obtain rfl := some_inj hr
          exact ge_result trivial (ResOk.tmp (by kernel_rfl) (ResOk.tmp (by kernel_rfl) (ResOk.tmp (by kernel_rfl) ResOk.nil))) hI26 ⟨none, 0, [], OwnS.nil _ _ _ _, rfl, rfl⟩
        · have hr := cond_f hc55 hr
          refine gk_skip (by kernel_rfl) ?_
          refine ge_seq ?_
          refine gk_seq (by kernel_rfl) ?_
          refine gk_region (by kernel_rfl) ?_
          refine gl_pure 5 [4, 5, 6] (K' := [(4, .slice A27 r25.2.length n28), (5, .int .i64 r25.1), (6, .int .i64 0)]) (by kernel_rfl) ?_
          refine gl_atE (by kernel_rfl) ?_
          refine ge_seq ?_
          refine gk_ret (by kernel_rfl) ?_
          obtain rfl := some_inj hr
          exact ge_result trivial (ResOk.tmp (by kernel_rfl) (ResOk.tmp (by kernel_rfl) (ResOk.tmp (by kernel_rfl) ResOk.nil))) hI26 ⟨A27, n28, C29, hO30, rfl, rfl⟩
/-! 10 tocsinlaw04_LabelsBack  -/
noncomputable def tocsinlaw04_LabelsBack (a0 : List S49) (a1 : List Int) : Option Bool :=
  Option.bind (labels_Right a0) fun (y1 : Int × Int) =>
  Option.bind (labels_Print a0) fun (y3 : ByteArray × Int) =>
  Option.bind (labels_Put a1 a0) fun (y5 : (List Int) × Int) =>
  bif ((y1.1 != y3.2) || (y1.1 != y5.2)) then
  (some false)
  else
  (bif (y1.1 != 0) then
    (Option.bind (bif (y3.1.toList == (⟨#[]⟩ : ByteArray).toList) then
        (bif ((y5.1.length : Int) == 0) then
          (Option.bind tocsinlaw04_awake fun (y29 : Bool) =>
            some y29)
          else
          (some false))
        else
        (some false)) fun (j22 : Bool) =>
      some j22)
    else
    (Option.bind (labels_Parse y3.1) fun (y31 : (List S49) × Int × Int) =>
      Option.bind (labels_Read y5.1 (a1.length : Int)) fun (y44 : (List S49) × Int × Int) =>
      Option.bind (bif (y31.2.1 == 0) then
        (Option.bind (tocsinlaw04_same y31.1 a0) fun (y59 : Bool) =>
          bif y59 then
          (bif (y44.2.2 == 0) then
            (Option.bind (tocsinlaw04_same y44.1 a0) fun (y63 : Bool) =>
              bif y63 then
              (bif (y44.2.1 == (y5.1.length : Int)) then
                (Option.bind tocsinlaw04_awake fun (y67 : Bool) =>
                  some y67)
                else
                (some false))
              else
              (some false))
            else
            (some false))
          else
          (some false))
        else
        (some false)) fun (j53 : Bool) =>
      some j53))
theorem tocsinlaw04_LabelsBack_walk {a0 : List S49} {A0_0 : Option Addr} {n0_0 : Nat} {a1 : List Int} {A1_0 : Option Addr} {n1_0 : Nat} {I : Imm} {r : Bool} (hG : Gl I)  (hf0_0 : RepS kS49 I A0_0 n0_0 a0)  (hf1_0 : RepS (Kd.int .u8) I A1_0 n1_0 a1) (hr : tocsinlaw04_LabelsBack a0 a1 = some r) (L : Own) :
    CallsTo Tryz.prog 10 #[.slice A0_0 a0.length n0_0, .slice A1_0 a1.length n1_0] I L (fun v I' L' => v = .bool r ∧ L = L') := by
  unfold tocsinlaw04_LabelsBack at hr
  refine callsTo_body (N := 92) Tryz.func10 (by kernel_rfl) (by kernel_rfl) (by kernel_rfl) ?_
  refine gk_pick [0, 1] (K' := [(0, .slice A0_0 a0.length n0_0), (1, .slice A1_0 a1.length n1_0)]) (by kernel_rfl) ?_
  refine gk_seq (by kernel_rfl) ?_
  refine gk_region (by kernel_rfl) ?_
  refine gl_pure 1 [0, 1] (K' := [(0, .slice A0_0 a0.length n0_0), (1, .slice A1_0 a1.length n1_0)]) (by kernel_rfl) ?_
  refine gl_atE (by kernel_rfl) ?_
  refine ge_seq ?_
  refine gk_seq (by kernel_rfl) ?_
  refine gk_region (by kernel_rfl) ?_
  refine gl_pure 1 [0, 1, 18] (K' := [(0, .slice A0_0 a0.length n0_0), (1, .slice A1_0 a1.length n1_0), (18, .slice A0_0 a0.length n0_0)]) (by kernel_rfl) ?_
  obtain ⟨y1, hx2, hr⟩ := bind_some hr
  refine gl_callQ (by kernel_rfl) (labels_Right_walk (r := y1) hG hf0_0 hx2 _) ?_
  refine gl_pure 5 [0, 1, 5] (K' := [(0, .slice A0_0 a0.length n0_0), (1, .slice A1_0 a1.length n1_0), (5, .int .i64 y1.1)]) (by kernel_rfl) ?_
  refine gl_atE (by kernel_rfl) ?_
  refine ge_seq ?_
  refine gk_seq (by kernel_rfl) ?_
  refine gk_region (by kernel_rfl) ?_
  refine gl_pure 1 [0, 1, 5, 23] (K' := [(0, .slice A0_0 a0.length n0_0), (1, .slice A1_0 a1.length n1_0), (5, .int .i64 y1.1), (23, .slice A0_0 a0.length n0_0)]) (by kernel_rfl) ?_
  obtain ⟨y3, hx4, hr⟩ := bind_some hr
  refine gl_callQ (by kernel_rfl) (labels_Print_walk (r := y3) hG hf0_0 hx4 _) ?_
  refine gl_pure 5 [0, 1, 5, 7, 8] (K' := [(0, .slice A0_0 a0.length n0_0), (1, .slice A1_0 a1.length n1_0), (5, .int .i64 y1.1), (7, .string y3.1), (8, .int .i64 y3.2)]) (by kernel_rfl) ?_
  refine gl_atE (by kernel_rfl) ?_
  refine ge_seq ?_
  refine gk_seq (by kernel_rfl) ?_
  refine gk_region (by kernel_rfl) ?_
  refine gl_pure 2 [0, 1, 5, 7, 8, 28, 29] (K' := [(0, .slice A0_0 a0.length n0_0), (1, .slice A1_0 a1.length n1_0), (5, .int .i64 y1.1), (7, .string y3.1), (8, .int .i64 y3.2), (28, .slice A1_0 a1.length n1_0), (29, .slice A0_0 a0.length n0_0)]) (by kernel_rfl) ?_
  obtain ⟨y5, hx6, hr⟩ := bind_some hr
  refine gl_call (by kernel_rfl) (labels_Put_walk (r := y5) hG hf1_0 hf0_0 hx6 _) ?_
  rintro v I7 L8 hI9 ⟨A10, c11, C12, hO13, rfl, rfl⟩
  refine gl_pure 5 [0, 1, 5, 7, 8, 9, 10] (K' := [(0, .slice A0_0 a0.length n0_0), (1, .slice A1_0 a1.length n1_0), (5, .int .i64 y1.1), (7, .string y3.1), (8, .int .i64 y3.2), (9, .slice A10 y5.1.length c11), (10, .int .i64 y5.2)]) (by kernel_rfl) ?_
  refine gl_atE (by kernel_rfl) ?_
  refine ge_seq ?_
  refine gk_seq (by kernel_rfl) ?_
  refine gk_seq (by kernel_rfl) ?_
  obtain ⟨b16, hb17⟩ : ∃ z, z = ((y1.1 != y3.2) || (y1.1 != y5.2)) := ⟨_, rfl⟩
  refine gk_join (fun t I' L' => I7 ≤ I' ∧ C12 ++ L = L' ∧ Knows 92 [(0, .slice A0_0 a0.length n0_0), (1, .slice A1_0 a1.length n1_0), (5, .int .i64 y1.1), (7, .string y3.1), (9, .slice A10 y5.1.length c11), (40, .bool b16)] t) ?_ ?_
  · refine gk_region (by kernel_rfl) ?_
    refine gl_pure 4 [0, 1, 5, 7, 9, 10, 36] (K' := [(0, .slice A0_0 a0.length n0_0), (1, .slice A1_0 a1.length n1_0), (5, .int .i64 y1.1), (7, .string y3.1), (9, .slice A10 y5.1.length c11), (10, .int .i64 y5.2), (36, .bool (y1.1 != y3.2))]) (by kernel_rfl) ?_
    refine gl_case 36 (b := (y1.1 != y3.2)) (by kernel_rfl) (fun hc19 => ?_) (fun hc19 => ?_)
    · refine gl_pure 4 [0, 1, 5, 7, 9, 40] (K' := [(0, .slice A0_0 a0.length n0_0), (1, .slice A1_0 a1.length n1_0), (5, .int .i64 y1.1), (7, .string y3.1), (9, .slice A10 y5.1.length c11), (40, .bool true)]) (by kernel_rfl) ?_
      refine gl_atE (by kernel_rfl) ?_
      exact ge_mid fun t ht => ⟨(Imm.refl _), rfl, by rw [(show b16 = true from hb17.trans (by first | (rw [hc19]; done) | (rw [hc19]; rfl) | (simp [hc19]; done) | (simp only [hc19]; rfl) | (simp at *; omega)))]; exact ht.pick (l := [0, 1, 5, 7, 9, 40]) (by kernel_rfl)⟩
    · refine gl_pure 4 [0, 1, 5, 7, 9, 40] (K' := [(0, .slice A0_0 a0.length n0_0), (1, .slice A1_0 a1.length n1_0), (5, .int .i64 y1.1), (7, .string y3.1), (9, .slice A10 y5.1.length c11), (40, .bool (y1.1 != y5.2))]) (by kernel_rfl) ?_
      refine gl_atE (by kernel_rfl) ?_
      exact ge_mid fun t ht => ⟨(Imm.refl _), rfl, by rw [(show b16 = (y1.1 != y5.2) from hb17.trans (by first | (rw [hc19]; done) | (rw [hc19]; rfl) | (simp [hc19]; done) | (simp only [hc19]; rfl) | (simp at *; omega)))]; exact ht.pick (l := [0, 1, 5, 7, 9, 40]) (by kernel_rfl)⟩
  · rintro t I18 L' ⟨hI14, rfl, hK15⟩
    subst hb17
    refine ge_at hK15 ?_
    refine ge_seq ?_
    refine gk_cond (b := ((y1.1 != y3.2) || (y1.1 != y5.2))) (by kernel_rfl) (by kernel_rfl) (fun hc20 => ?_) (fun hc20 => ?_)
    · have hr := cond_t hc20 hr
      refine gk_seq (by kernel_rfl) ?_
      refine gk_region (by kernel_rfl) ?_
      refine gl_pure 1 [4] (K' := [(4, .bool false)]) (by kernel_rfl) ?_
      refine gl_atE (by kernel_rfl) ?_
      refine ge_seq ?_
      refine gk_reord (D := L) (Reord.skipC (Reord.refl _)) ?_
      refine gk_ret (by kernel_rfl) ?_
      refine ge_seq_ret ?_
      obtain rfl := some_inj hr
      exact ge_result trivial (ResOk.tmp (by kernel_rfl) ResOk.nil) (Imm.trans hI9 hI14) ⟨rfl, rfl⟩
    · have hr := cond_f hc20 hr
      refine gk_skip (by kernel_rfl) ?_
      refine ge_seq ?_
      refine gk_seq (by kernel_rfl) ?_
      refine gk_seq (by kernel_rfl) ?_
      refine gk_region (by kernel_rfl) ?_
      refine gl_pure 2 [0, 1, 7, 9, 42] (K' := [(0, .slice A0_0 a0.length n0_0), (1, .slice A1_0 a1.length n1_0), (7, .string y3.1), (9, .slice A10 y5.1.length c11), (42, .bool (y1.1 != 0))]) (by kernel_rfl) ?_
      refine gl_atE (by kernel_rfl) ?_
      refine ge_seq ?_
      refine gk_cond (b := (y1.1 != 0)) (by kernel_rfl) (by kernel_rfl) (fun hc21 => ?_) (fun hc21 => ?_)
      · have hr := cond_t hc21 hr
        refine gk_seq (by kernel_rfl) ?_
        obtain ⟨j22, hj23, hr⟩ := bind_some hr
        refine gk_join (fun t I' L' => I18 ≤ I' ∧ L = L' ∧ Knows 92 [(4, .bool j22)] t) ?_ ?_
        · refine gk_region (by kernel_rfl) ?_
          refine gl_pure 3 [9, 45] (K' := [(9, .slice A10 y5.1.length c11), (45, .bool (y3.1.toList == (⟨#[]⟩ : ByteArray).toList))]) (by kernel_rfl) ?_
          refine gl_case 45 (b := (y3.1.toList == (⟨#[]⟩ : ByteArray).toList)) (by kernel_rfl) (fun hc27 => ?_) (fun hc27 => ?_)
          · have hj23 := cond_t hc27 hj23
            refine gl_pure 5 [50] (K' := [(50, .bool ((y5.1.length : Int) == 0))]) (by kernel_rfl) ?_
            refine gl_case 50 (b := ((y5.1.length : Int) == 0)) (by kernel_rfl) (fun hc28 => ?_) (fun hc28 => ?_)
            · have hj23 := cond_t hc28 hj23
              obtain ⟨y29, hx30, hj23⟩ := bind_some hj23
              refine gl_callQ (by kernel_rfl) (tocsinlaw04_awake_walk (r := y29) (hG.mono (Imm.trans hI9 hI14)) hx30 _) ?_
              refine gl_pure 2 [4] (K' := [(4, .bool y29)]) (by kernel_rfl) ?_
              refine gl_reord (D := L) (Reord.skipC (Reord.refl _)) ?_
              refine gl_atE (by kernel_rfl) ?_
              obtain rfl := some_inj hj23
              exact ge_mid fun t ht => ⟨(Imm.refl _), rfl, ht.pick (l := [4]) (by kernel_rfl)⟩
            · have hj23 := cond_f hc28 hj23
              refine gl_pure 3 [4] (K' := [(4, .bool false)]) (by kernel_rfl) ?_
              refine gl_reord (D := L) (Reord.skipC (Reord.refl _)) ?_
              refine gl_atE (by kernel_rfl) ?_
              obtain rfl := some_inj hj23
              exact ge_mid fun t ht => ⟨(Imm.refl _), rfl, ht.pick (l := [4]) (by kernel_rfl)⟩
          · have hj23 := cond_f hc27 hj23
            refine gl_pure 8 [4] (K' := [(4, .bool false)]) (by kernel_rfl) ?_
            refine gl_reord (D := L) (Reord.skipC (Reord.refl _)) ?_
            refine gl_atE (by kernel_rfl) ?_
            obtain rfl := some_inj hj23
            exact ge_mid fun t ht => ⟨(Imm.refl _), rfl, ht.pick (l := [4]) (by kernel_rfl)⟩
        · rintro t I26 L' ⟨hI24, rfl, hK25⟩
          refine ge_at hK25 ?_
          refine ge_seq ?_
          refine gk_ret (by kernel_rfl) ?_
          refine ge_seq_ret ?_
          obtain rfl := some_inj hr
          exact ge_result trivial (ResOk.tmp (by kernel_rfl) ResOk.nil) (Imm.trans (Imm.trans hI9 hI14) hI24) ⟨rfl, rfl⟩
      · have hr := cond_f hc21 hr
        refine gk_skip (by kernel_rfl) ?_
        refine ge_seq ?_
        refine gk_seq (by kernel_rfl) ?_
        refine gk_region (by kernel_rfl) ?_
        refine gl_pure 1 [0, 1, 9, 54] (K' := [(0, .slice A0_0 a0.length n0_0), (1, .slice A1_0 a1.length n1_0), (9, .slice A10 y5.1.length c11), (54, .string y3.1)]) (by kernel_rfl) ?_
        obtain ⟨y31, hx32, hr⟩ := bind_some hr
        refine gl_call (by kernel_rfl) (labels_Parse_walk (r := y31) (hG.mono (Imm.trans hI9 hI14)) hx32 _) ?_
        rintro v I33 L34 hI35 ⟨A36, c37, C38, hO39, rfl, rfl⟩
        refine gl_pure 7 [0, 1, 9, 11, 12] (K' := [(0, .slice A0_0 a0.length n0_0), (1, .slice A1_0 a1.length n1_0), (9, .slice A10 y5.1.length c11), (11, .slice A36 y31.1.length c37), (12, .int .i64 y31.2.1)]) (by kernel_rfl) ?_
        refine gl_atE (by kernel_rfl) ?_
        refine ge_seq ?_
        refine gk_seq (by kernel_rfl) ?_
        refine gk_region (by kernel_rfl) ?_
        refine gl_pure 3 [0, 9, 11, 12, 60, 62] (K' := [(0, .slice A0_0 a0.length n0_0), (9, .slice A10 y5.1.length c11), (11, .slice A36 y31.1.length c37), (12, .int .i64 y31.2.1), (60, .slice A10 y5.1.length c11), (62, .int .i64 (a1.length : Int))]) (by kernel_rfl) ?_
        refine gl_rest (Tk.step (Upd.app _ (Upd.rmC _ _)) (Tk.nil _)) (fun J40 hJ41 hC42 => ?_)
        have hf43 := (OwnS.rest (hO13.mono (Imm.trans hI14 hI35)) hJ41 hC42.left)
        obtain ⟨y44, hx45, hr⟩ := bind_some hr
        refine gl_call (by kernel_rfl) (labels_Read_walk (r := y44) (hG.mono (Imm.trans (Imm.trans (Imm.trans hI9 hI14) hI35) hJ41)) hf43 hx45 _) ?_
        rintro v I46 L47 hI48 ⟨A49, c50, C51, hO52, rfl, rfl⟩
        refine gl_pure 7 [0, 9, 11, 12, 14, 15, 16] (K' := [(0, .slice A0_0 a0.length n0_0), (9, .slice A10 y5.1.length c11), (11, .slice A36 y31.1.length c37), (12, .int .i64 y31.2.1), (14, .slice A49 y44.1.length c50), (15, .int .i64 y44.2.1), (16, .int .i64 y44.2.2)]) (by kernel_rfl) ?_
        refine gl_atE (by kernel_rfl) ?_
        refine ge_seq ?_
        refine gk_seq (by kernel_rfl) ?_
        obtain ⟨j53, hj54, hr⟩ := bind_some hr
        refine gk_join (fun t I' L' => I46 ≤ I' ∧ L = L' ∧ Knows 92 [(4, .bool j53)] t) ?_ ?_
        · refine gk_region (by kernel_rfl) ?_
          refine gl_pure 3 [0, 9, 11, 14, 15, 16, 69] (K' := [(0, .slice A0_0 a0.length n0_0), (9, .slice A10 y5.1.length c11), (11, .slice A36 y31.1.length c37), (14, .slice A49 y44.1.length c50), (15, .int .i64 y44.2.1), (16, .int .i64 y44.2.2), (69, .bool (y31.2.1 == 0))]) (by kernel_rfl) ?_
          refine gl_case 69 (b := (y31.2.1 == 0)) (by kernel_rfl) (fun hc58 => ?_) (fun hc58 => ?_)
          · have hj54 := cond_t hc58 hj54
            refine gl_pure 2 [0, 9, 14, 15, 16, 69, 70, 71] (K' := [(0, .slice A0_0 a0.length n0_0), (9, .slice A10 y5.1.length c11), (14, .slice A49 y44.1.length c50), (15, .int .i64 y44.2.1), (16, .int .i64 y44.2.2), (69, .bool true), (70, .slice A36 y31.1.length c37), (71, .slice A0_0 a0.length n0_0)]) (by kernel_rfl) ?_
            obtain ⟨y59, hx60, hj54⟩ := bind_some hj54
            refine gl_callB (r := .bool y59) (Tk.step (Upd.app _ (Upd.rmC _ _)) (Tk.nil _)) (by kernel_rfl) (fun J hJ hC => tocsinlaw04_same_walk (r := y59) (OwnS.rest (hO39.mono (Imm.trans hJ41 hI48)) hJ hC.left) (hf0_0.mono (Imm.trans (Imm.trans (Imm.trans (Imm.trans (Imm.trans hI9 hI14) hI35) hJ41) hI48) hJ)) hx60 _) ?_
            refine gl_pure 2 [0, 9, 14, 15, 16, 74] (K' := [(0, .slice A0_0 a0.length n0_0), (9, .slice A10 y5.1.length c11), (14, .slice A49 y44.1.length c50), (15, .int .i64 y44.2.1), (16, .int .i64 y44.2.2), (74, .bool y59)]) (by kernel_rfl) ?_
            refine gl_case 74 (b := y59) (by kernel_rfl) (fun hc61 => ?_) (fun hc61 => ?_)
            · have hj54 := cond_t hc61 hj54
              refine gl_pure 4 [0, 9, 14, 15, 78] (K' := [(0, .slice A0_0 a0.length n0_0), (9, .slice A10 y5.1.length c11), (14, .slice A49 y44.1.length c50), (15, .int .i64 y44.2.1), (78, .bool (y44.2.2 == 0))]) (by kernel_rfl) ?_
              refine gl_case 78 (b := (y44.2.2 == 0)) (by kernel_rfl) (fun hc62 => ?_) (fun hc62 => ?_)
              · have hj54 := cond_t hc62 hj54
                refine gl_pure 2 [9, 15, 78, 79, 80] (K' := [(9, .slice A10 y5.1.length c11), (15, .int .i64 y44.2.1), (78, .bool true), (79, .slice A49 y44.1.length c50), (80, .slice A0_0 a0.length n0_0)]) (by kernel_rfl) ?_
                obtain ⟨y63, hx64, hj54⟩ := bind_some hj54
                refine gl_callB (r := .bool y63) (Tk.step (Upd.rmC _ _) (Tk.nil _)) (by kernel_rfl) (fun J hJ hC => tocsinlaw04_same_walk (r := y63) (OwnS.rest hO52 hJ hC.left) (hf0_0.mono (Imm.trans (Imm.trans (Imm.trans (Imm.trans (Imm.trans hI9 hI14) hI35) hJ41) hI48) hJ)) hx64 _) ?_
                refine gl_pure 2 [9, 15, 83] (K' := [(9, .slice A10 y5.1.length c11), (15, .int .i64 y44.2.1), (83, .bool y63)]) (by kernel_rfl) ?_
                refine gl_case 83 (b := y63) (by kernel_rfl) (fun hc65 => ?_) (fun hc65 => ?_)
                · have hj54 := cond_t hc65 hj54
                  refine gl_pure 6 [89] (K' := [(89, .bool (y44.2.1 == (y5.1.length : Int)))]) (by kernel_rfl) ?_
                  refine gl_case 89 (b := (y44.2.1 == (y5.1.length : Int))) (by kernel_rfl) (fun hc66 => ?_) (fun hc66 => ?_)
                  · have hj54 := cond_t hc66 hj54
                    obtain ⟨y67, hx68, hj54⟩ := bind_some hj54
                    refine gl_callQ (by kernel_rfl) (tocsinlaw04_awake_walk (r := y67) (hG.mono (Imm.trans (Imm.trans (Imm.trans (Imm.trans hI9 hI14) hI35) hJ41) hI48)) hx68 _) ?_
                    refine gl_pure 2 [4] (K' := [(4, .bool y67)]) (by kernel_rfl) ?_
                    refine gl_reord (D := L) (Reord.skipC (Reord.skipC (Reord.refl _))) ?_
                    refine gl_atE (by kernel_rfl) ?_
                    obtain rfl := some_inj hj54
                    exact ge_mid fun t ht => ⟨(Imm.refl _), rfl, ht.pick (l := [4]) (by kernel_rfl)⟩
                  · have hj54 := cond_f hc66 hj54
                    refine gl_pure 3 [4] (K' := [(4, .bool false)]) (by kernel_rfl) ?_
                    refine gl_reord (D := L) (Reord.skipC (Reord.skipC (Reord.refl _))) ?_
                    refine gl_atE (by kernel_rfl) ?_
                    obtain rfl := some_inj hj54
                    exact ge_mid fun t ht => ⟨(Imm.refl _), rfl, ht.pick (l := [4]) (by kernel_rfl)⟩
                · have hj54 := cond_f hc65 hj54
                  refine gl_pure 9 [4] (K' := [(4, .bool false)]) (by kernel_rfl) ?_
                  refine gl_reord (D := L) (Reord.skipC (Reord.skipC (Reord.refl _))) ?_
                  refine gl_atE (by kernel_rfl) ?_
                  obtain rfl := some_inj hj54
                  exact ge_mid fun t ht => ⟨(Imm.refl _), rfl, ht.pick (l := [4]) (by kernel_rfl)⟩
              · have hj54 := cond_f hc62 hj54
                refine gl_pure 14 [4] (K' := [(4, .bool false)]) (by kernel_rfl) ?_
                refine gl_reord (D := L) (Reord.skipC (Reord.skipC (Reord.refl _))) ?_
                refine gl_atE (by kernel_rfl) ?_
                obtain rfl := some_inj hj54
                exact ge_mid fun t ht => ⟨(Imm.refl _), rfl, ht.pick (l := [4]) (by kernel_rfl)⟩
            · have hj54 := cond_f hc61 hj54
              refine gl_pure 18 [4] (K' := [(4, .bool false)]) (by kernel_rfl) ?_
              refine gl_reord (D := L) (Reord.skipC (Reord.skipC (Reord.refl _))) ?_
              refine gl_atE (by kernel_rfl) ?_
              obtain rfl := some_inj hj54
              exact ge_mid fun t ht => ⟨(Imm.refl _), rfl, ht.pick (l := [4]) (by kernel_rfl)⟩
          · have hj54 := cond_f hc58 hj54
            refine gl_pure 23 [4] (K' := [(4, .bool false)]) (by kernel_rfl) ?_
            refine gl_reord (D := L) (Reord.skipC (Reord.skipC (Reord.refl _))) ?_
            refine gl_atE (by kernel_rfl) ?_
            obtain rfl := some_inj hj54
            exact ge_mid fun t ht => ⟨(Imm.refl _), rfl, ht.pick (l := [4]) (by kernel_rfl)⟩
        · rintro t I57 L' ⟨hI55, rfl, hK56⟩
          refine ge_at hK56 ?_
          refine ge_seq ?_
          refine gk_ret (by kernel_rfl) ?_
          obtain rfl := some_inj hr
          exact ge_result trivial (ResOk.tmp (by kernel_rfl) ResOk.nil) (Imm.trans (Imm.trans (Imm.trans (Imm.trans (Imm.trans hI9 hI14) hI35) hJ41) hI48) hI55) ⟨rfl, rfl⟩
end Go.Proofs.YtnlkfajnaelnnaaGreatDoor

/- From data that are read to what the walks ask: rows. -/
set_option linter.unusedVariables false
set_option linter.unusedSimpArgs false
namespace Go.GB
open Go Go.RowKit
open Go.Proofs.YtnlkfajnaelnnaaGreatDoor.Rows (uptoBulk uptoBulkAll)

def immOf (W : World) : Imm := ⟨fun b => W.heap[b]?, W.os, W.tape, W.output, 0⟩
theorem holds_immOf (W : World) : Holds (immOf W) [] W := ⟨fun _ _ h => h, by simp, by simp, by simp, rfl, rfl, rfl, Nat.zero_le _⟩
theorem below_of {I' : Imm} {L' : Own} {W W' : World} (h : Holds I' L' W') (hI : immOf W ≤ I') : Below W.heap.size W W' := by
  refine ⟨by rw [h.os, hI.os]; rfl, by rw [h.tape, hI.tape]; rfl, by rw [h.out, hI.out]; rfl, ?_, fun k hk => ?_⟩
  · rcases Nat.eq_zero_or_pos W.heap.size with h0 | h0
    · omega
    · have : W.heap[W.heap.size - 1]? = some (W.heap[W.heap.size - 1]'(by omega)) := Array.getElem?_eq_getElem _
      have := lt_of_heap (h.imm _ _ (hI.h _ _ this))
      omega
  · have : W.heap[k]? = some (W.heap[k]) := Array.getElem?_eq_getElem hk
    rw [this]; exact h.imm _ _ (hI.h _ _ this)
theorem imm_cell {W : World} {a : Addr} {v : Value} (h : W.cell? a = some v) : (immOf W).cell a = some v := h
theorem run_of_cells {W : World} {a : Addr} {n : Nat} {cs : List Value} (h : W.cells? 0 a n = some cs) : RunAt (immOf W) a cs := fun j v hj => by
  unfold World.cells? at h
  rw [if_pos (Nat.zero_le _)] at h
  have hl := mapM_some_length h
  have hj' : j < n := by have := (List.getElem?_eq_some_iff.1 hj).1; simpa [hl] using this
  have := mapM_some_get h j j (by simp [hj'])
  exact imm_cell (this.trans hj)

def Reads {α : Type} (P : Program) (T : TypeId) (d : Kd α) (w : α → Nat → Prop) : Prop := ∀ {H : Type} {enc : TypeId × Value → H} {W : World} {spare : Nat → Bool} {held : Bool} {fuel : Nat} {cs : List Value} {x : DataW H × List MemPlace},
  DataW.trod enc P W 0 spare held fuel T cs = some x → uptoBulk x.1 ≤ 1048576 → ∃ y, d.R (immOf W) y cs ∧ w y (uptoBulk x.1)
theorem reads_int {P : Program} {T : TypeId} {k : IntKind} (h : P.underlying T = some (.int k)) : Reads P T (Kd.int k) (wInt k) := fun ht _ => by
  obtain ⟨n, rfl, _, hw⟩ := DataW.trod_int h ht
  simp only [Lit.wf, Bool.and_eq_true, decide_eq_true_eq] at hw
  exact ⟨n, rfl, hw⟩
theorem reads_str {P : Program} {T : TypeId} (h : P.underlying T = some .string) : Reads P T Kd.str wStr := fun ht _ => by
  obtain ⟨n, rfl, rfl, _⟩ := DataW.trod_string h ht
  exact ⟨n, rfl, by simp [uptoBulk, wStr]⟩
theorem bulk_pos {H : Type} (d : DataW H) : 1 ≤ uptoBulk d := by
  cases d with
  | lit l => cases l <;> simp [uptoBulk]
  | _ => simp [uptoBulk]
theorem bulkAll_ge {H : Type} : ∀ (l : List (DataW H)), l.length ≤ uptoBulkAll l
  | [] => by simp
  | d :: r => by have := bulk_pos d; have := bulkAll_ge r; simp only [uptoBulkAll, List.length_cons]; omega
theorem bulkAll_mem {H : Type} {d : DataW H} : ∀ {l : List (DataW H)}, d ∈ l → uptoBulk d ≤ uptoBulkAll l
  | [], h => by cases h
  | e :: r, h => by
    simp only [uptoBulkAll]
    rcases List.mem_cons.1 h with rfl | h
    · omega
    · have := bulkAll_mem h; omega
theorem choose_list {α : Type} {p : Nat → α → Prop} : ∀ (n : Nat), (∀ i, i < n → ∃ y, p i y) → ∃ xs : List α, xs.length = n ∧ ∀ i x, xs[i]? = some x → p i x
  | 0, _ => ⟨[], rfl, fun i x h => by simp at h⟩
  | m + 1, key => by
    obtain ⟨xs, hxl, hx⟩ := choose_list m (fun i hi => key i (by omega))
    obtain ⟨y, hy⟩ := key m (by omega)
    refine ⟨xs ++ [y], by simp [hxl], fun i x h => ?_⟩
    rcases Nat.lt_or_ge i m with hi | hi
    · rw [List.getElem?_append_left (by omega)] at h; exact hx i x h
    · rw [List.getElem?_append_right (by omega), hxl] at h
      have hi0 : i - m = 0 := by have := (List.getElem?_eq_some_iff.1 h).1; simpa using this
      rw [hi0] at h
      simp only [List.getElem?_cons_zero, Option.some.injEq] at h
      subst h
      rw [show i = m from by omega]
      exact hy
theorem wSl_of {α H : Type} {w : α → Nat → Prop} : ∀ (xs : List α) (es : List (DataW H)), xs.length = es.length → (∀ (i : Nat) (x : α) (e : DataW H), xs[i]? = some x → es[i]? = some e → w x (uptoBulk e)) → wSl w xs (uptoBulkAll es)
  | [], _, _, _ => trivial
  | x :: r, [], h, _ => by simp at h
  | x :: r, e :: es, h, hw => ⟨uptoBulk e, uptoBulkAll es, hw 0 x e rfl rfl, wSl_of r es (by simpa using h) (fun i x' e' h1 h2 => hw (i + 1) x' e' (by simpa using h1) (by simpa using h2)), by simp [uptoBulkAll], bulk_pos e⟩
theorem reads_slice {α : Type} {P : Program} {T e : TypeId} {d : Kd α} {w : α → Nat → Prop} (hu : P.underlying T = some (.slice e)) (hn : P.cellsOf e = d.n) (hr : Reads P e d w) : Reads P T (Kd.sl d) (wSl w) := by
  intro H enc W spare held fuel cs x ht hb
  rcases DataW.trod_slice hu ht with ⟨rfl, rfl⟩ | ⟨a, len, cap, elems, rest, n, rfl, rfl, rfl, _, hlc, hcm, hel, hat, _, _⟩
  · exact ⟨[], ⟨none, 0, rfl, RepS.nil _ _⟩, trivial⟩
  · simp only [uptoBulk] at hb
    have hlen := bulkAll_ge (elems.map (·.1))
    rw [List.length_map, hel] at hlen
    have key : ∀ i, i < len → ∃ y, (∃ cs', d.R (immOf W) y cs' ∧ RunAt (immOf W) (a.add (i * d.n)) cs') ∧ ∀ e, (elems.map (·.1))[i]? = some e → w y (uptoBulk e) := fun i hi => by
      have h1 := hat i hi
      have hie : i < elems.length := by omega
      rw [List.getElem?_eq_getElem hie] at h1
      simp only [Option.bind_eq_some_iff] at h1
      obtain ⟨cs', h2, h3⟩ := h1
      obtain ⟨y, hy, hw⟩ := hr h3 (by
        have := bulkAll_mem (l := elems.map (·.1)) (List.mem_map_of_mem (List.getElem_mem hie))
        omega)
      refine ⟨y, ⟨cs', hy, ?_⟩, fun e he => ?_⟩
      · rw [← hn]
        exact run_of_cells h2
      · rw [List.getElem?_map, List.getElem?_eq_getElem hie] at he
        cases he; exact hw
    have hex := choose_list (p := fun i y => (∃ cs', d.R (immOf W) y cs' ∧ RunAt (immOf W) (a.add (i * d.n)) cs') ∧ ∀ e, (elems.map (·.1))[i]? = some e → w y (uptoBulk e)) len key
    obtain ⟨xs, hxl, hx⟩ := hex
    refine ⟨xs, ⟨some a, cap, by rw [hxl], by omega, by unfold maxLen'; omega, fun i x h => ?_⟩, ?_⟩
    · obtain ⟨⟨cs', h1, h2⟩, _⟩ := hx i x h
      exact ⟨a, cs', rfl, h1, h2⟩
    · exact (wSl_of xs (elems.map (·.1)) (by simp [hxl, hel]) (fun i x e h1 h2 => (hx i x h1).2 e h2)).le (by simp only [uptoBulk]; omega)
theorem pairR {α β : Type} {a : Kd α} {b : Kd β} {I : Imm} {x : α} {y : β} {cs : List Value} {o n m : Nat} (h0 : a.R I x ((cs.drop o).take n)) (h1 : b.R I y (cs.drop m)) (hm : m = o + n) : (Kd.pair a b).R I (x, y) (cs.drop o) := by
  subst hm
  exact ⟨(cs.drop o).take n, (cs.drop o).drop n, (List.take_append_drop _ _).symm, h0, by rw [List.drop_drop]; exact h1⟩
theorem lastR {α : Type} {a : Kd α} {I : Imm} {x : α} {cs : List Value} {o n : Nat} (h : a.R I x ((cs.drop o).take n)) (hl : cs.length = o + n) : a.R I x (cs.drop o) := by
  rwa [List.take_of_length_le (by rw [List.length_drop]; omega)] at h
def fieldD (P : Program) (T : TypeId) (i : Nat) : Field := (P.fieldsOf T).getD i default
/-- A field of a struct that is read. -/
theorem field_read {α : Type} {H : Type} {enc : TypeId × Value → H} {P : Program} {W : World} {spare : Nat → Bool} {held : Bool} {m : Nat} {T t : TypeId} {d : Kd α} {w : α → Nat → Prop} {cs : List Value} {xs : List (DataW H × List MemPlace)} {x : DataW H × List MemPlace} {i o n : Nat}
    (hf : ∀ (i : Nat) (f : Field), (P.fieldsOf T)[i]? = some f → DataW.trod enc P W 0 spare held m f.type ((cs.drop f.offset).take (P.cellsOf f.type)) = xs[i]?)
    (hx : xs[i]? = some x) (h1 : (P.fieldsOf T)[i]? = some (fieldD P T i)) (h2 : (fieldD P T i).type = t) (h3 : (fieldD P T i).offset = o) (h4 : P.cellsOf t = n) (hr : Reads P t d w) (hb : uptoBulk x.1 ≤ 1048576) : ∃ y, d.R (immOf W) y ((cs.drop o).take n) ∧ w y (uptoBulk x.1) := by
  have := hf i _ h1
  rw [hx, h2, h3, h4] at this
  exact hr this hb
theorem calls_of {P : Program} {f : FuncId} {args : Array Value} {W : World} {b : Value} (h : CallsTo P f args (immOf W) [] (fun v I' L' => v = b ∧ [] = L')) : Calls P f args W fun e W' => e = .returned b ∧ Below W.heap.size W W' :=
  (h W (holds_immOf W)).mono fun e W' ⟨v, I', L', he, hI, hh, hv, _⟩ => ⟨by rw [he, hv], below_of hh hI⟩
end Go.GB

/- Plain laws: the document's Utf8 is the library's. -/
set_option linter.unusedVariables false
set_option linter.unusedSimpArgs false
set_option maxRecDepth 100000
namespace Go.Proofs.YtnlkfajnaelnnaaGreatDoor
open Go.GB Go.Lib
/-- The byte at a place, 0 behind the end. -/
def bat (s : ByteArray) (i : Nat) : Nat := (s.data.toList.getD i 0).toNat
theorem bx_bat {s : ByteArray} {i : Nat} (h : i < s.size) : bx s (i : Int) = some ((bat s i : Nat) : Int) := bx_at h
theorem fin_and {P : Nat → Prop} (h : ∀ c : Fin 256, P c.val) {n : Nat} (hn : n < 256) : P n := h ⟨n, hn⟩
theorem valid_eq {s : ByteArray} (hs : s.size < 4611686018427387904) : utf8_ValidString s = some (validD s.data.toList) := by
  unfold utf8_ValidString
  rw [if_pos (by omega)]
end Go.Proofs.YtnlkfajnaelnnaaGreatDoor

/- Plain laws: names, values, label sets: the program's are the document's. -/
set_option linter.unusedVariables false
set_option linter.unusedSimpArgs false
set_option maxRecDepth 100000
namespace Go.Proofs.YtnlkfajnaelnnaaGreatDoor
open Go.GB Go.Lib
theorem ix_bytes {s : ByteArray} {i : Nat} (h : i < s.size) : ix (bytesOf s) (i : Int) = some ((bat s i : Nat) : Int) := by
  rw [ix_nat]
  unfold bytesOf bat
  have : i < s.data.toList.length := by rw [size_list]; exact h
  rw [List.getElem?_map, List.getElem?_eq_getElem this, List.getD_eq_getElem?_getD, List.getElem?_eq_getElem this]
  rfl
noncomputable def namedB (s : ByteArray) (most : Nat) (colon : Bool) : Bool := decide (s.size ≠ 0) && (decide (s.size ≤ most) && (!labels_digit (bat s 0) && (List.range s.size).all fun i => labels_letter (bat s i) || (labels_digit (bat s i) || (colon && ((bat s i : Nat) : Int) == 58))))
theorem named_eq (s : ByteArray) {most : Nat} (hm : most ≤ 2147483648) (colon : Bool) : labels_named s (most : Int) colon = some (namedB s most colon) := by
  unfold labels_named namedB
  rw [nil_size]
  by_cases h0 : s.size = 0
  · simp [h0]
  · by_cases h1 : s.size ≤ most
    · have e1 : decide ((s.size : Int) > (most : Int)) = false := decide_eq_false (by omega)
      have e2 : bx s 0 = some ((bat s 0 : Nat) : Int) := bx_bat (i := 0) (by omega)
      simp only [h0, decide_false, cond_false, e1, e2, Option.bind_some, not_false_eq_true, ne_eq, decide_true, h1, Bool.true_and]
      cases hd : labels_digit ((bat s 0 : Nat) : Int) with
      | true => simp
      | false =>
        have e3 : sb s = some (bytesOf s) := by unfold sb maxLen'; rw [if_pos (by omega)]
        simp only [cond_false, e3, Option.bind_some, Bool.not_false, Bool.true_and]
        rw [up_all (n := s.size) (fun i => labels_letter (bat s i) || (labels_digit (bat s i) || (colon && ((bat s i : Nat) : Int) == 58))) (fun i hi => ?_) ?_]
        · simp only [Option.bind_some]
          cases (List.range s.size).all fun i => labels_letter (bat s i) || (labels_digit (bat s i) || (colon && ((bat s i : Nat) : Int) == 58)) <;> rfl
        · unfold labels_named_l33
          rw [show decide ((s.size : Int) < ((bytesOf s).length : Int)) = false from decide_eq_false (by rw [bytesOf_length]; omega)]
          rfl
        · unfold labels_named_l33
          rw [show decide ((i : Int) < ((bytesOf s).length : Int)) = true from decide_eq_true (by rw [bytesOf_length]; omega)]
          simp only [cond_true, ix_bytes hi, Option.bind_some, wrap_up (show i < 4294967296 by omega)]
          cases labels_letter ((bat s i : Nat) : Int) <;> cases labels_digit ((bat s i : Nat) : Int) <;> cases (colon && ((bat s i : Nat) : Int) == 58) <;> rfl
    · have e1 : decide ((s.size : Int) > (most : Int)) = true := decide_eq_true (by omega)
      simp only [h0, h1, decide_false, decide_true, cond_false, e1, cond_true, Option.bind_some, ne_eq, not_false_eq_true, Bool.false_and, Bool.and_false]
theorem Name_eq (s : ByteArray) : labels_Name s = some (namedB s 64 false) := by
  unfold labels_Name
  rw [show (64 : Int) = ((64 : Nat) : Int) from rfl, named_eq s (by omega) false]
  rfl
noncomputable def valueE (s : ByteArray) : Int := if s.size = 0 then 41 else if s.size > 256 then 4 else if validD s.data.toList then 0 else 12
theorem value_eq (s : ByteArray) : labels_value s = some (valueE s) := by
  unfold labels_value valueE
  rw [nil_size]
  by_cases h0 : s.size = 0
  · simp [h0]
  · by_cases h1 : s.size > 256
    · simp [h0, h1, show decide ((s.size : Int) > 256) = true from decide_eq_true (by omega)]
    · have e1 : decide ((s.size : Int) > 256) = false := decide_eq_false (by omega)
      simp only [h0, decide_false, cond_false, e1, valid_eq (show s.size < 4611686018427387904 by omega), Option.bind_some, if_false, h1]
      cases validD s.data.toList <;> rfl
noncomputable def oneE (x : S49) : Int := if namedB x.f0 64 false then valueE x.f1 else 40
/-- The first fault of a label set, at a place. -/
noncomputable def faultAt (l : List S49) (i : Nat) : Option (Int × Int) := match l[i]? with
  | none => none
  | some x => if oneE x ≠ 0 then some (oneE x, (i : Int)) else if i = 0 then none else match l[i - 1]? with
    | none => none
    | some y => if cmpS y.f0 x.f0 = -1 then none else some (3, (i : Int))
noncomputable def rightE (l : List S49) : Int × Int := if l.length > 16 then (8, 0) else ((List.range l.length).findSome? (faultAt l)).getD (0, 0)
theorem oneE_ne {x : S49} (h : namedB x.f0 64 false = false) : oneE x = 40 := by unfold oneE; rw [h]; rfl
theorem ix_prev {α : Type} {l : List α} {i : Nat} (h0 : 0 < i) (hi : i < 4294967296) : ix l (IntKind.wrap .i64 ((i : Int) - 1)) = l[i - 1]? := by
  rw [wrap64 (by omega) (by omega), show (i : Int) - 1 = ((i - 1 : Nat) : Int) by omega, ix_nat]
theorem Right_eq (l : List S49) : labels_Right l = some (rightE l) := by
  unfold labels_Right rightE
  by_cases hl : l.length > 16
  · simp [hl, show decide ((l.length : Int) > 16) = true from decide_eq_true (by omega)]
  · rw [show decide ((l.length : Int) > 16) = false from decide_eq_false (by omega), if_neg hl]
    simp only [cond_false]
    rw [up_find (n := l.length) (faultAt l) (fun i hi => ?_) ?_]
    · simp only [Option.bind_some]
      cases (List.range l.length).findSome? (faultAt l) <;> rfl
    · unfold labels_Right_l18
      rw [show decide ((l.length : Int) < (l.length : Int)) = false from decide_eq_false (by omega)]
      rfl
    · unfold labels_Right_l18 faultAt
      have hx : l[i]? = some l[i] := List.getElem?_eq_getElem hi
      rw [show decide ((i : Int) < (l.length : Int)) = true from decide_eq_true (by omega)]
      simp only [cond_true, ix_nat, hx, Option.bind_some, Name_eq, value_eq]
      cases hn : namedB l[i].f0 64 false with
      | false => rw [oneE_ne hn]; rfl
      | true =>
        have ho : oneE l[i] = valueE l[i].f1 := by unfold oneE; rw [hn]; rfl
        rw [ho]
        simp only [Bool.not_true, cond_false]
        by_cases hv : valueE l[i].f1 = 0
        · have e2 : (valueE l[i].f1 != 0) = false := by simp [hv]
          rw [if_neg (by simpa using hv)]
          simp only [e2, cond_false, wrap_up (show i < 4294967296 by omega)]
          by_cases hi0 : i = 0
          · subst hi0
            simp
          · have e3 : decide ((i : Int) > 0) = true := decide_eq_true (by omega)
            have hy : l[i - 1]? = some (l[i - 1]'(by omega)) := List.getElem?_eq_getElem (by omega)
            rw [if_neg hi0]
            simp only [e3, cond_true, ix_prev (show 0 < i by omega) (show i < 4294967296 by omega), hy, Option.bind_some, less_eq, beq_eq]
            have hs := cmpS_swap (l[i - 1]'(by omega)).f0 l[i].f0
            have hr := cmpS_range (l[i - 1]'(by omega)).f0 l[i].f0
            by_cases hc : cmpS (l[i - 1]'(by omega)).f0 l[i].f0 = -1
            · rw [if_pos hc]
              have : (decide (cmpS l[i].f0 (l[i - 1]'(by omega)).f0 = -1) || decide (cmpS l[i].f0 (l[i - 1]'(by omega)).f0 = 0)) = false := by
                rw [Bool.eq_false_iff]; simp only [ne_eq, Bool.or_eq_true, decide_eq_true_eq]; omega
              rw [this]; rfl
            · rw [if_neg hc]
              have : (decide (cmpS l[i].f0 (l[i - 1]'(by omega)).f0 = -1) || decide (cmpS l[i].f0 (l[i - 1]'(by omega)).f0 = 0)) = true := by
                simp only [Bool.or_eq_true, decide_eq_true_eq]; omega
              rw [this]; rfl
        · have e2 : (valueE l[i].f1 != 0) = true := by simpa using hv
          rw [if_pos hv]
          simp only [e2, cond_true]
end Go.Proofs.YtnlkfajnaelnnaaGreatDoor

/- Plain laws: what a right label set is made of. -/
set_option linter.unusedVariables false
set_option linter.unusedSimpArgs false
set_option maxRecDepth 100000
namespace Go.Proofs.YtnlkfajnaelnnaaGreatDoor
open Go.GB Go.Lib
theorem faultAt_ne {l : List S49} {i : Nat} {v : Int × Int} (h : faultAt l i = some v) : v.1 ≠ 0 := by
  unfold faultAt at h
  split at h
  · cases h
  · rename_i x _
    by_cases h1 : oneE x ≠ 0
    · rw [if_pos h1] at h; cases h; exact h1
    · rw [if_neg h1] at h
      split at h
      · cases h
      · split at h
        · cases h
        · split at h
          · cases h
          · cases h; show (3 : Int) ≠ 0; decide
theorem right_none {l : List S49} (h : (rightE l).1 = 0) : l.length ≤ 16 ∧ ∀ i, i < l.length → faultAt l i = none := by
  unfold rightE at h
  split at h
  · cases h
  · refine ⟨by omega, fun i hi => ?_⟩
    cases hf : (List.range l.length).findSome? (faultAt l) with
    | some v =>
      rw [hf] at h
      obtain ⟨j, _, hj⟩ := List.exists_of_findSome?_eq_some hf
      exact absurd h (faultAt_ne hj)
    | none => rw [List.findSome?_eq_none_iff] at hf; exact hf i (List.mem_range.2 hi)
theorem right_zero {l : List S49} (h : (rightE l).1 = 0) : rightE l = (0, 0) := by
  obtain ⟨h1, h2⟩ := right_none h
  unfold rightE
  rw [if_neg (by omega)]
  have : (List.range l.length).findSome? (faultAt l) = none := by
    rw [List.findSome?_eq_none_iff]
    exact fun i hi => h2 i (List.mem_range.1 hi)
  rw [this]; rfl
theorem one_parts {x : S49} (h : oneE x = 0) : namedB x.f0 64 false = true ∧ x.f1.size ≠ 0 ∧ x.f1.size ≤ 256 ∧ validD x.f1.data.toList = true := by
  unfold oneE at h
  cases hn : namedB x.f0 64 false with
  | false => rw [hn] at h; cases h
  | true =>
    rw [hn] at h
    simp only [if_true] at h
    unfold valueE at h
    by_cases h0 : x.f1.size = 0
    · rw [if_pos h0] at h; cases h
    · rw [if_neg h0] at h
      by_cases h1 : x.f1.size > 256
      · rw [if_pos h1] at h; cases h
      · rw [if_neg h1] at h
        cases hv : validD x.f1.data.toList with
        | false => rw [hv] at h; cases h
        | true => exact ⟨rfl, h0, by omega, rfl⟩
theorem named_valid {s : ByteArray} {most : Nat} {c : Bool} (h : namedB s most c = true) : s.size ≤ most ∧ s.size ≠ 0 ∧ validD s.data.toList = true := by
  unfold namedB at h
  simp only [Bool.and_eq_true, decide_eq_true_eq, List.all_eq_true, Bool.not_eq_true'] at h
  obtain ⟨h0, h1, _, h2⟩ := h
  refine ⟨h1, h0, ?_⟩
  have := validD_ascii s.data.toList.length s.data.toList (fun b hb => by
    rw [List.take_length] at hb
    obtain ⟨i, hi, rfl⟩ := List.getElem_of_mem hb
    have h3 := h2 i (List.mem_range.2 (by rw [← size_list]; exact hi))
    have e : bat s i = (s.data.toList[i]).toNat := by
      unfold bat
      rw [List.getD_eq_getElem?_getD, List.getElem?_eq_getElem hi]; rfl
    rw [e] at h3
    unfold labels_letter labels_digit at h3
    simp only [Bool.or_eq_true, Bool.and_eq_true, decide_eq_true_eq, beq_iff_eq] at h3
    omega)
  rw [this, List.drop_length]
  rfl
theorem right_parts {l : List S49} (h : (rightE l).1 = 0) : l.length ≤ 16 ∧ ∀ x ∈ l, oneE x = 0 := by
  obtain ⟨h1, h2⟩ := right_none h
  refine ⟨h1, fun x hx => ?_⟩
  obtain ⟨i, hi, rfl⟩ := List.getElem_of_mem hx
  have := h2 i hi
  unfold faultAt at this
  rw [List.getElem?_eq_getElem hi] at this
  simp only at this
  by_cases h0 : oneE l[i] ≠ 0
  · rw [if_pos h0] at this; cases this
  · simpa using h0
end Go.Proofs.YtnlkfajnaelnnaaGreatDoor

set_option linter.unusedVariables false
namespace Go.GB
/-! bytes -/
/-- how many bytes of a kind stand ahead -/
def runL (p : Nat → Bool) (l : List UInt8) : Nat := (l.takeWhile fun c => p c.toNat).length
/-- the byte at a place; 0 behind the end -/
def gB (l : List UInt8) (i : Nat) : Nat := (l.getD i 0).toNat
theorem gB_drop (l : List UInt8) (a i : Nat) : gB (l.drop a) i = gB l (a + i) := by simp [gB, List.getD, List.getElem?_drop]
theorem runL_le (p : Nat → Bool) (l : List UInt8) : runL p l ≤ l.length := by
  unfold runL; exact (List.takeWhile_sublist _).length_le
theorem runL_cons (p : Nat → Bool) (c : UInt8) (l : List UInt8) : runL p (c :: l) = if p c.toNat then runL p l + 1 else 0 := by
  unfold runL; rw [List.takeWhile_cons]; split <;> simp
theorem runL_end {p : Nat → Bool} {l : List UInt8} (h : runL p l < l.length) : p (gB l (runL p l)) = false := by
  induction l with
  | nil => simp at h
  | cons c l ih =>
    rw [runL_cons] at h ⊢
    split
    · rename_i hc
      rw [if_pos hc] at h
      have := ih (by simpa using h)
      simpa [gB] using this
    · rename_i hc; simpa [gB] using hc
theorem runL_step {p : Nat → Bool} {l : List UInt8} {i : Nat} (hi : i < l.length) : runL p (l.drop i) = if p (gB l i) then runL p (l.drop (i + 1)) + 1 else 0 := by
  rw [List.drop_eq_getElem_cons hi, runL_cons]
  simp [gB, List.getD, List.getElem?_eq_getElem hi]
theorem runL_out {p : Nat → Bool} {l : List UInt8} {i : Nat} (hi : l.length ≤ i) : runL p (l.drop i) = 0 := by rw [List.drop_eq_nil_of_le hi]; rfl
/-! numbers -/
end Go.GB
