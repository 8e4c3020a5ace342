import Derived.Test.YtlhpclfkoblnkaaDoorProg
import Derived.Test.YtlhpclfkoblnkaaDoorChecked
import Derived.Test.YtlhpclfkoblnkaaDoorGB24
import Derived.Test.YtlhpclfkoblnkaaDoorM1
import Derived.Lib.LaidU8T
import Derived.Shelf.Unicode.ValidAny
import Derived.Shelf.Unicode.DecodeAny
set_option linter.unusedVariables false
set_option linter.unusedSimpArgs false
set_option maxRecDepth 100000
namespace Go.Proofs.YtlhpclfkoblnkaaDoor
open Go.GB
structure S79 where
  f0 : Int
  f1 : Int
def kS79 : Kd S79 := Kd.iso (Kd.pair (Kd.int .u8) (Kd.int .u8)) (fun x => (x.f0, x.f1))
def wS79 (x : S79) (n : Nat) : Prop := ∃ n0 n1, n0 + n1 + 1 ≤ n ∧ (wInt .u8) x.f0 n0 ∧ (wInt .u8) x.f1 n1
theorem kS79_open {I : Imm} {x : S79} {cs : List Value} (h : kS79.R I x cs) : cs = [.int .u8 x.f0, .int .u8 x.f1] := by
  obtain ⟨_, _, rfl, h_0, h_1⟩ := h
  obtain rfl := h_0
  obtain rfl := h_1
  exact rfl
theorem kS79_mk {I : Imm} {x : S79}   : kS79.R I x [.int .u8 x.f0, .int .u8 x.f1] :=
  ⟨[.int .u8 x.f0], [.int .u8 x.f1], rfl, rfl, rfl⟩
def tab0 : List Int := (List.range 256).map fun c => (Go.Lib.firstT c : Int)
def tab1 : List S79 := (List.range 16).map fun i => ⟨(Go.Lib.accLo i : Int), (Go.Lib.accHi i : Int)⟩
def tab2 : List Int := (List.range 20).map fun i => ((10 ^ i : Nat) : Int)
structure Gl (I : Imm) : Prop where
  dr : I.dr = 0
  g0 : RepS (Kd.int .u8) I (some ⟨0, 0, none⟩) 256 tab0
  g1 : RepS kS79 I (some ⟨1, 0, none⟩) 16 tab1
  g2 : RepS (Kd.int .u64) I (some ⟨2, 0, none⟩) 20 tab2
  b2 : ∃ t fz, I.h 2 = some (.cells (tab2.map fun z => Value.int .u64 z).toArray t fz)
theorem Gl.mono {I J : Imm} (h : Gl I) (hI : I ≤ J) : Gl J := ⟨hI.dr.trans h.dr, h.g0.mono hI, h.g1.mono hI, h.g2.mono hI, (let ⟨t, fz, hb⟩ := h.b2; ⟨t, fz, hI.h _ _ hb⟩)⟩
/-! 20 lex_skip  -/
noncomputable def lex_skip_l20 (a1 : Int) (s2 : ByteArray) : (Nat × Bool) → Option ((Nat × Bool) ⊕ ((Unit) ⊕ (Int))) := fun s10 =>
  bif decide (s10.1 < s2.size) then
  (Option.bind ((bif ((runeAt s2 s10.1) == 10) then
      (some (Sum.inl false))
      else
      (Option.bind ((bif (((s10.2 || ((runeAt s2 s10.1) == 32)) || ((runeAt s2 s10.1) == 9)) || ((runeAt s2 s10.1) == 13)) then
          (some (Sum.inl s10.2))
          else
          (bif ((runeAt s2 s10.1) == 35) then
            (some (Sum.inl true))
            else
            (some (Sum.inr (Sum.inr (Sum.inr (Sum.inr (IntKind.wrap .i64 (a1 + (s10.1 : Int))))))))) : Option ((Bool) ⊕ ((Bool) ⊕ ((Nat × Bool) ⊕ ((Unit) ⊕ (Int))))))) fun (j38 : (Bool) ⊕ ((Bool) ⊕ ((Nat × Bool) ⊕ ((Unit) ⊕ (Int))))) =>
        match j38 with
        | Sum.inl j40 => some (Sum.inl j40)
        | Sum.inr v46 => some v46) : Option ((Bool) ⊕ ((Nat × Bool) ⊕ ((Unit) ⊕ (Int)))))) fun (j23 : (Bool) ⊕ ((Nat × Bool) ⊕ ((Unit) ⊕ (Int)))) =>
    match j23 with
    | Sum.inl j25 => some (Sum.inl ((s10.1 + runeW s2 s10.1), j25))
    | Sum.inr v47 => some v47)
  else
  (some (Sum.inr (Sum.inl ())))
noncomputable def lex_skip (a0 : ByteArray) (a1 : Int) : Option Int :=
  Option.bind (sx a0 a1 (a0.size : Int)) fun (s2 : ByteArray) =>
  Option.bind (loopO (lex_skip_l20 a1 s2) (0, false)) fun (r8 : (Unit) ⊕ (Int)) =>
  match r8 with
  | Sum.inl r16 => some (a0.size : Int)
  | Sum.inr v48 => some v48
theorem lex_skip_walk {a0 : ByteArray} {a1 : Int} {I : Imm} {r : Int}  (hr : lex_skip a0 a1 = some r) (L : Own) :
    CallsTo Tryd.prog 20 #[.string a0, .int .i64 a1] I L (fun v I' L' => v = .int .i64 r ∧ L = L') := by
  unfold lex_skip at hr
  refine callsTo_body (N := 41) Tryd.func20 (by kernel_rfl) (by kernel_rfl) (by kernel_rfl) ?_
  refine gk_pick [0, 1] (K' := [(0, .string a0), (1, .int .i64 a1)]) (by kernel_rfl) ?_
  refine gk_seq (by kernel_rfl) ?_
  refine gk_region (by kernel_rfl) ?_
  refine gl_pure 1 [0, 1] (K' := [(0, .string a0), (1, .int .i64 a1)]) (by kernel_rfl) ?_
  refine gl_atE (by kernel_rfl) ?_
  refine ge_seq ?_
  refine gk_seq (by kernel_rfl) ?_
  refine gk_region (by kernel_rfl) ?_
  refine gl_pure 1 [0, 1, 5] (K' := [(0, .string a0), (1, .int .i64 a1), (5, .bool false)]) (by kernel_rfl) ?_
  refine gl_atE (by kernel_rfl) ?_
  refine ge_seq ?_
  refine gk_seq (by kernel_rfl) ?_
  refine gk_seq (by kernel_rfl) ?_
  refine gk_region (by kernel_rfl) ?_
  refine gl_pure 2 [0, 1, 5, 8, 9] (K' := [(0, .string a0), (1, .int .i64 a1), (5, .bool false), (8, .string a0), (9, .int .i64 a1)]) (by kernel_rfl) ?_
  obtain ⟨s2, hx1, hr⟩ := bind_some hr
  refine gl_slice' (T' := 9) (xs := (.tmp 8)) (lo := (some (.tmp 9))) (hi := none) hx1 (by kernel_rfl) (by kernel_rfl) (by kernel_rfl) (by kernel_rfl) (by kernel_rfl) (by kernel_rfl) ?_
  refine gl_range (T' := 9) (x := (.tmp 10)) (s := s2) (by kernel_rfl) (by kernel_rfl) (by kernel_rfl) (by kernel_rfl) (fun g3 => ?_)
  refine gl_atE (by kernel_rfl) ?_
  refine ge_seq ?_
  obtain ⟨r8, hl9, hr⟩ := bind_some hr
  refine gk_join (fun t I' L' => ∃ r16, r8 = Sum.inl r16 ∧ I ≤ I' ∧ L = L' ∧ Knows 41 [(0, .string a0)] t) ?_ ?_
  · refine gk_block (by kernel_rfl) ?_
    refine gk_pick [0, 1, 5, 11] (K' := [(0, .string a0), (1, .int .i64 a1), (5, .bool false), (11, .pointer (some ⟨g3, 0, none⟩))]) (by kernel_rfl) ?_
    intro t hK
    refine gc_loop (lex_skip_l20 a1 s2) (fun s10 t I' L' => I ≤ I' ∧ (g3, .stringIter s2 s10.1) :: L = L' ∧ Knows 41 [(0, .string a0), (1, .int .i64 a1), (5, .bool s10.2), (11, .pointer (some ⟨g3, 0, none⟩))] t) (by kernel_rfl) ?_ hl9 ⟨(Imm.refl _), rfl, hK⟩
    rintro s10 o11 t I15 L' hb12 ⟨hI13, rfl, hK14⟩
    unfold lex_skip_l20 at hb12
    refine gk_at hK14 ?_
    refine gk_seq (by kernel_rfl) ?_
    refine gk_region (by kernel_rfl) ?_
    refine gl_next (x := (.tmp 11)) (s := s2) (pos := s10.1) (g := g3) (by kernel_rfl) (by kernel_rfl) (by kernel_rfl) (Upd.set _ _ _ _) (Upd.set _ _ _ _) (fun hc22 => ?_) (fun hc22 => ?_)
    · have hb12 := cond_t hc22 hb12
      refine gl_pure 1 [0, 1, 5, 11, 12, 13] (K' := [(0, .string a0), (1, .int .i64 a1), (5, .bool s10.2), (11, .pointer (some ⟨g3, 0, none⟩)), (12, .tuple #[.bool true, .int .i64 (s10.1 : Int), .int .i32 (runeAt s2 s10.1)]), (13, .bool true)]) (by kernel_rfl) ?_
      refine gl_atE (by kernel_rfl) ?_
      refine ge_seq ?_
      refine gk_seq (by kernel_rfl) ?_
      refine gk_cond (b := true) (by kernel_rfl) (by kernel_rfl) (fun _ => ?_) (fun h => by cases h)
      refine gk_skip (by kernel_rfl) ?_
      refine ge_seq ?_
      refine gk_block (by kernel_rfl) ?_
      refine gk_seq (by kernel_rfl) ?_
      refine gk_region (by kernel_rfl) ?_
      refine gl_pure 4 [0, 1, 5, 6, 7, 11] (K' := [(0, .string a0), (1, .int .i64 a1), (5, .bool s10.2), (6, .int .i64 (s10.1 : Int)), (7, .int .i32 (runeAt s2 s10.1)), (11, .pointer (some ⟨g3, 0, none⟩))]) (by kernel_rfl) ?_
      refine gl_atE (by kernel_rfl) ?_
      refine ge_seq ?_
      refine gk_block (by kernel_rfl) ?_
      refine gk_seq (by kernel_rfl) ?_
      refine gk_region (by kernel_rfl) ?_
      refine gl_pure 3 [0, 1, 5, 6, 7, 11, 19] (K' := [(0, .string a0), (1, .int .i64 a1), (5, .bool s10.2), (6, .int .i64 (s10.1 : Int)), (7, .int .i32 (runeAt s2 s10.1)), (11, .pointer (some ⟨g3, 0, none⟩)), (19, .bool ((runeAt s2 s10.1) == 10))]) (by kernel_rfl) ?_
      refine gl_atE (by kernel_rfl) ?_
      refine ge_seq ?_
      obtain ⟨j23, hj24, hb12⟩ := bind_some hb12
      refine gk_join (fun t I' L' => ∃ j25, j23 = Sum.inl j25 ∧ I15 ≤ I' ∧ (g3, .stringIter s2 (s10.1 + runeW s2 s10.1)) :: L = L' ∧ Knows 41 [(0, .string a0), (1, .int .i64 a1), (5, .bool j25), (11, .pointer (some ⟨g3, 0, none⟩))] t) ?_ ?_
      · refine gk_cond (b := ((runeAt s2 s10.1) == 10)) (by kernel_rfl) (by kernel_rfl) (fun hc29 => ?_) (fun hc29 => ?_)
        · have hj24 := cond_t hc29 hj24
          refine gk_region (by kernel_rfl) ?_
          refine gl_pure 1 [0, 1, 5, 11] (K' := [(0, .string a0), (1, .int .i64 a1), (5, .bool false), (11, .pointer (some ⟨g3, 0, none⟩))]) (by kernel_rfl) ?_
          refine gl_atE (by kernel_rfl) ?_
          obtain rfl := some_inj hj24
          exact ge_mid fun t ht => ⟨_, rfl, (Imm.refl _), rfl, ht.pick (l := [0, 1, 5, 11]) (by kernel_rfl)⟩
        · have hj24 := cond_f hc29 hj24
          refine gk_seq (by kernel_rfl) ?_
          obtain ⟨b32, hb33⟩ : ∃ z, z = (((s10.2 || ((runeAt s2 s10.1) == 32)) || ((runeAt s2 s10.1) == 9)) || ((runeAt s2 s10.1) == 13)) := ⟨_, rfl⟩
          refine gk_join (fun t I' L' => I15 ≤ I' ∧ (g3, .stringIter s2 (s10.1 + runeW s2 s10.1)) :: L = L' ∧ Knows 41 [(0, .string a0), (1, .int .i64 a1), (5, .bool s10.2), (6, .int .i64 (s10.1 : Int)), (7, .int .i32 (runeAt s2 s10.1)), (11, .pointer (some ⟨g3, 0, none⟩)), (22, .bool b32)] t) ?_ ?_
          · refine gk_region (by kernel_rfl) ?_
            refine gl_pure 2 [0, 1, 5, 6, 7, 11, 24] (K' := [(0, .string a0), (1, .int .i64 a1), (5, .bool s10.2), (6, .int .i64 (s10.1 : Int)), (7, .int .i32 (runeAt s2 s10.1)), (11, .pointer (some ⟨g3, 0, none⟩)), (24, .bool s10.2)]) (by kernel_rfl) ?_
            refine gl_case 24 (b := s10.2) (by kernel_rfl) (fun hc35 => ?_) (fun hc35 => ?_)
            · refine gl_pure 12 [0, 1, 5, 6, 7, 11, 22] (K' := [(0, .string a0), (1, .int .i64 a1), (5, .bool s10.2), (6, .int .i64 (s10.1 : Int)), (7, .int .i32 (runeAt s2 s10.1)), (11, .pointer (some ⟨g3, 0, none⟩)), (22, .bool true)]) (by kernel_rfl) ?_
              refine gl_atE (by kernel_rfl) ?_
              exact ge_mid fun t ht => ⟨(Imm.refl _), rfl, by rw [(show b32 = true from hb33.trans (by rw [hc35]; try rfl))]; exact ht.pick (l := [0, 1, 5, 6, 7, 11, 22]) (by kernel_rfl)⟩
            · refine gl_pure 4 [0, 1, 5, 6, 7, 11, 28] (K' := [(0, .string a0), (1, .int .i64 a1), (5, .bool s10.2), (6, .int .i64 (s10.1 : Int)), (7, .int .i32 (runeAt s2 s10.1)), (11, .pointer (some ⟨g3, 0, none⟩)), (28, .bool ((runeAt s2 s10.1) == 32))]) (by kernel_rfl) ?_
              refine gl_case 28 (b := ((runeAt s2 s10.1) == 32)) (by kernel_rfl) (fun hc36 => ?_) (fun hc36 => ?_)
              · refine gl_pure 8 [0, 1, 5, 6, 7, 11, 22] (K' := [(0, .string a0), (1, .int .i64 a1), (5, .bool s10.2), (6, .int .i64 (s10.1 : Int)), (7, .int .i32 (runeAt s2 s10.1)), (11, .pointer (some ⟨g3, 0, none⟩)), (22, .bool true)]) (by kernel_rfl) ?_
                refine gl_atE (by kernel_rfl) ?_
                exact ge_mid fun t ht => ⟨(Imm.refl _), rfl, by rw [(show b32 = true from hb33.trans (by rw [hc35, hc36]; try rfl))]; exact ht.pick (l := [0, 1, 5, 6, 7, 11, 22]) (by kernel_rfl)⟩
              · refine gl_pure 4 [0, 1, 5, 6, 7, 11, 32] (K' := [(0, .string a0), (1, .int .i64 a1), (5, .bool s10.2), (6, .int .i64 (s10.1 : Int)), (7, .int .i32 (runeAt s2 s10.1)), (11, .pointer (some ⟨g3, 0, none⟩)), (32, .bool ((runeAt s2 s10.1) == 9))]) (by kernel_rfl) ?_
                refine gl_case 32 (b := ((runeAt s2 s10.1) == 9)) (by kernel_rfl) (fun hc37 => ?_) (fun hc37 => ?_)
                · refine gl_pure 4 [0, 1, 5, 6, 7, 11, 22] (K' := [(0, .string a0), (1, .int .i64 a1), (5, .bool s10.2), (6, .int .i64 (s10.1 : Int)), (7, .int .i32 (runeAt s2 s10.1)), (11, .pointer (some ⟨g3, 0, none⟩)), (22, .bool true)]) (by kernel_rfl) ?_
                  refine gl_atE (by kernel_rfl) ?_
                  exact ge_mid fun t ht => ⟨(Imm.refl _), rfl, by rw [(show b32 = true from hb33.trans (by rw [hc35, hc36, hc37]; try rfl))]; exact ht.pick (l := [0, 1, 5, 6, 7, 11, 22]) (by kernel_rfl)⟩
                · refine gl_pure 4 [0, 1, 5, 6, 7, 11, 22] (K' := [(0, .string a0), (1, .int .i64 a1), (5, .bool s10.2), (6, .int .i64 (s10.1 : Int)), (7, .int .i32 (runeAt s2 s10.1)), (11, .pointer (some ⟨g3, 0, none⟩)), (22, .bool ((runeAt s2 s10.1) == 13))]) (by kernel_rfl) ?_
                  refine gl_atE (by kernel_rfl) ?_
                  exact ge_mid fun t ht => ⟨(Imm.refl _), rfl, by rw [(show b32 = ((runeAt s2 s10.1) == 13) from hb33.trans (by rw [hc35, hc36, hc37]; try rfl))]; exact ht.pick (l := [0, 1, 5, 6, 7, 11, 22]) (by kernel_rfl)⟩
          · rintro t I34 L' ⟨hI30, rfl, hK31⟩
            subst hb33
            refine ge_at hK31 ?_
            refine ge_seq ?_
            obtain ⟨j38, hj39, hj24⟩ := bind_some hj24
            refine gk_join (fun t I' L' => ∃ j40, j38 = Sum.inl j40 ∧ I34 ≤ I' ∧ (g3, .stringIter s2 (s10.1 + runeW s2 s10.1)) :: L = L' ∧ Knows 41 [(0, .string a0), (1, .int .i64 a1), (5, .bool j40), (11, .pointer (some ⟨g3, 0, none⟩))] t) ?_ ?_
            · refine gk_cond (b := (((s10.2 || ((runeAt s2 s10.1) == 32)) || ((runeAt s2 s10.1) == 9)) || ((runeAt s2 s10.1) == 13))) (by kernel_rfl) (by kernel_rfl) (fun hc44 => ?_) (fun hc44 => ?_)
              · have hj39 := cond_t hc44 hj39
                refine gk_skip (by kernel_rfl) ?_
                obtain rfl := some_inj hj39
                exact ge_mid fun t ht => ⟨_, rfl, (Imm.refl _), rfl, ht.pick (l := [0, 1, 5, 11]) (by kernel_rfl)⟩
              · have hj39 := cond_f hc44 hj39
                refine gk_seq (by kernel_rfl) ?_
                refine gk_region (by kernel_rfl) ?_
                refine gl_pure 3 [0, 1, 6, 11, 36] (K' := [(0, .string a0), (1, .int .i64 a1), (6, .int .i64 (s10.1 : Int)), (11, .pointer (some ⟨g3, 0, none⟩)), (36, .bool ((runeAt s2 s10.1) == 35))]) (by kernel_rfl) ?_
                refine gl_atE (by kernel_rfl) ?_
                refine ge_seq ?_
                refine gk_cond (b := ((runeAt s2 s10.1) == 35)) (by kernel_rfl) (by kernel_rfl) (fun hc45 => ?_) (fun hc45 => ?_)
                · have hj39 := cond_t hc45 hj39
                  refine gk_region (by kernel_rfl) ?_
                  refine gl_pure 1 [0, 1, 5, 11] (K' := [(0, .string a0), (1, .int .i64 a1), (5, .bool true), (11, .pointer (some ⟨g3, 0, none⟩))]) (by kernel_rfl) ?_
                  refine gl_atE (by kernel_rfl) ?_
                  obtain rfl := some_inj hj39
                  exact ge_mid fun t ht => ⟨_, rfl, (Imm.refl _), rfl, ht.pick (l := [0, 1, 5, 11]) (by kernel_rfl)⟩
                · have hj39 := cond_f hc45 hj39
                  refine gk_seq (by kernel_rfl) ?_
                  refine gk_region (by kernel_rfl) ?_
                  refine gl_pure 4 [4] (K' := [(4, .int .i64 (IntKind.wrap .i64 (a1 + (s10.1 : Int))))]) (by kernel_rfl) ?_
                  refine gl_atE (by kernel_rfl) ?_
                  refine ge_seq ?_
                  refine gk_reord (D := L) (Reord.skip (Reord.refl _)) ?_
                  refine gk_ret (by kernel_rfl) ?_
                  refine ge_seq_ret ?_
                  obtain rfl := some_inj hj39
                  refine ge_seq_ret ?_
                  obtain rfl := some_inj hj24
                  refine ge_block_ret ?_
                  refine ge_block_ret ?_
                  obtain rfl := some_inj hb12
                  refine ge_round_out (fun hrr => ?_) (by intro h; cases h)
                  obtain rfl := hrr
                  refine ge_block_ret ?_
                  refine ge_seq_ret ?_
                  refine ge_seq_ret ?_
                  obtain rfl := some_inj hr
                  exact ge_result trivial (ResOk.tmp (by kernel_rfl) ResOk.nil) (Imm.trans hI13 hI30) ⟨rfl, rfl⟩
            · rintro t I43 L' ⟨j40, rfl, hI41, rfl, hK42⟩
              refine ge_at hK42 ?_
              obtain rfl := some_inj hj24
              exact ge_mid fun t ht => ⟨_, rfl, (Imm.trans hI30 hI41), rfl, ht.pick (l := [0, 1, 5, 11]) (by kernel_rfl)⟩
      · rintro t I28 L' ⟨j25, rfl, hI26, rfl, hK27⟩
        refine ge_at hK27 ?_
        refine ge_block_normal ?_
        refine ge_block_normal ?_
        obtain rfl := some_inj hb12
        exact ge_round fun t ht => ⟨(Imm.trans hI13 hI26), rfl, ht.pick (l := [0, 1, 5, 11]) (by kernel_rfl)⟩
    · have hb12 := cond_f hc22 hb12
      refine gl_pure 1 [0, 1, 5, 11, 12, 13] (K' := [(0, .string a0), (1, .int .i64 a1), (5, .bool s10.2), (11, .pointer (some ⟨g3, 0, none⟩)), (12, .tuple #[.bool false]), (13, .bool false)]) (by kernel_rfl) ?_
      refine gl_atE (by kernel_rfl) ?_
      refine ge_seq ?_
      refine gk_seq (by kernel_rfl) ?_
      refine gk_cond (b := false) (by kernel_rfl) (by kernel_rfl) (fun h => by cases h) (fun _ => ?_)
      refine gk_reord (D := L) (Reord.skip (Reord.refl _)) ?_
      refine gk_exit (by kernel_rfl) ?_
      refine ge_seq_exit ?_
      obtain rfl := some_inj hb12
      refine ge_round_out (fun hrr => ?_) (by intro h; cases h)
      obtain rfl := hrr
      refine ge_block_hit (by kernel_rfl) ?_
      exact ge_mid fun t ht => ⟨_, rfl, hI13, rfl, ht.pick (l := [0]) (by kernel_rfl)⟩
  · rintro t I19 L' ⟨r16, rfl, hI17, rfl, hK18⟩
    refine ge_at hK18 ?_
    refine ge_seq ?_
    refine gk_seq (by kernel_rfl) ?_
    refine gk_region (by kernel_rfl) ?_
    refine gl_pure 3 [4] (K' := [(4, .int .i64 (a0.size : Int))]) (by kernel_rfl) ?_
    refine gl_atE (by kernel_rfl) ?_
    refine ge_seq ?_
    refine gk_ret (by kernel_rfl) ?_
    obtain rfl := some_inj hr
    exact ge_result trivial (ResOk.tmp (by kernel_rfl) ResOk.nil) hI17 ⟨rfl, rfl⟩
/-! 35 lex_letter  -/
noncomputable def lex_letter (a0 : Int) : Bool :=
  (((((decide (a0 ≥ 97)) && (decide (a0 ≤ 122))) || ((decide (a0 ≥ 65)) && (decide (a0 ≤ 90)))) || (a0 == 95)) || (a0 == 58))
theorem lex_letter_walk {a0 : Int} {I : Imm} {r : Bool}  (hr : lex_letter a0 = r) (L : Own) :
    CallsTo Tryd.prog 35 #[.int .u8 a0] I L (fun v I' L' => v = .bool r ∧ L = L') := by
  replace hr : some (lex_letter a0) = some r := congrArg some hr
  unfold lex_letter at hr
  refine callsTo_body (N := 25) Tryd.func35 (by kernel_rfl) (by kernel_rfl) (by kernel_rfl) ?_
  refine gk_pick [0] (K' := [(0, .int .u8 a0)]) (by kernel_rfl) ?_
  refine gk_seq (by kernel_rfl) ?_
  refine gk_region (by kernel_rfl) ?_
  refine gl_pure 1 [0] (K' := [(0, .int .u8 a0)]) (by kernel_rfl) ?_
  refine gl_atE (by kernel_rfl) ?_
  refine ge_seq ?_
  refine gk_seq (by kernel_rfl) ?_
  obtain ⟨b3, hb4⟩ : ∃ z, z = (((((decide (a0 ≥ 97)) && (decide (a0 ≤ 122))) || ((decide (a0 ≥ 65)) && (decide (a0 ≤ 90)))) || (a0 == 95)) || (a0 == 58)) := ⟨_, rfl⟩
  refine gk_join (fun t I' L' => I ≤ I' ∧ L = L' ∧ Knows 25 [(2, .bool b3)] t) ?_ ?_
  · refine gk_region (by kernel_rfl) ?_
    refine gl_pure 3 [0, 5] (K' := [(0, .int .u8 a0), (5, .bool (decide (a0 ≥ 97)))]) (by kernel_rfl) ?_
    refine gl_case 5 (b := (decide (a0 ≥ 97))) (by kernel_rfl) (fun hc6 => ?_) (fun hc6 => ?_)
    · refine gl_pure 4 [0, 9] (K' := [(0, .int .u8 a0), (9, .bool (decide (a0 ≤ 122)))]) (by kernel_rfl) ?_
      refine gl_case 9 (b := (decide (a0 ≤ 122))) (by kernel_rfl) (fun hc7 => ?_) (fun hc7 => ?_)
      · refine gl_pure 16 [2] (K' := [(2, .bool true)]) (by kernel_rfl) ?_
        refine gl_atE (by kernel_rfl) ?_
        exact ge_mid fun t ht => ⟨(Imm.refl _), rfl, by rw [(show b3 = true from hb4.trans (by rw [hc6, hc7]; try rfl))]; exact ht.pick (l := [2]) (by kernel_rfl)⟩
      · refine gl_pure 3 [0, 9, 12] (K' := [(0, .int .u8 a0), (9, .bool false), (12, .bool (decide (a0 ≥ 65)))]) (by kernel_rfl) ?_
        refine gl_case 12 (b := (decide (a0 ≥ 65))) (by kernel_rfl) (fun hc8 => ?_) (fun hc8 => ?_)
        · refine gl_pure 5 [0, 17] (K' := [(0, .int .u8 a0), (17, .bool (decide (a0 ≤ 90)))]) (by kernel_rfl) ?_
          refine gl_case 17 (b := (decide (a0 ≤ 90))) (by kernel_rfl) (fun hc9 => ?_) (fun hc9 => ?_)
          · refine gl_pure 8 [2] (K' := [(2, .bool true)]) (by kernel_rfl) ?_
            refine gl_atE (by kernel_rfl) ?_
            exact ge_mid fun t ht => ⟨(Imm.refl _), rfl, by rw [(show b3 = true from hb4.trans (by rw [hc6, hc7, hc8, hc9]; try rfl))]; exact ht.pick (l := [2]) (by kernel_rfl)⟩
          · refine gl_pure 4 [0, 21] (K' := [(0, .int .u8 a0), (21, .bool (a0 == 95))]) (by kernel_rfl) ?_
            refine gl_case 21 (b := (a0 == 95)) (by kernel_rfl) (fun hc10 => ?_) (fun hc10 => ?_)
            · refine gl_pure 4 [2] (K' := [(2, .bool true)]) (by kernel_rfl) ?_
              refine gl_atE (by kernel_rfl) ?_
              exact ge_mid fun t ht => ⟨(Imm.refl _), rfl, by rw [(show b3 = true from hb4.trans (by rw [hc6, hc7, hc8, hc9, hc10]; try rfl))]; exact ht.pick (l := [2]) (by kernel_rfl)⟩
            · refine gl_pure 4 [2] (K' := [(2, .bool (a0 == 58))]) (by kernel_rfl) ?_
              refine gl_atE (by kernel_rfl) ?_
              exact ge_mid fun t ht => ⟨(Imm.refl _), rfl, by rw [(show b3 = (a0 == 58) from hb4.trans (by rw [hc6, hc7, hc8, hc9, hc10]; try rfl))]; exact ht.pick (l := [2]) (by kernel_rfl)⟩
        · refine gl_pure 9 [0, 21] (K' := [(0, .int .u8 a0), (21, .bool (a0 == 95))]) (by kernel_rfl) ?_
          refine gl_case 21 (b := (a0 == 95)) (by kernel_rfl) (fun hc11 => ?_) (fun hc11 => ?_)
          · refine gl_pure 4 [2] (K' := [(2, .bool true)]) (by kernel_rfl) ?_
            refine gl_atE (by kernel_rfl) ?_
            exact ge_mid fun t ht => ⟨(Imm.refl _), rfl, by rw [(show b3 = true from hb4.trans (by rw [hc6, hc7, hc8, hc11]; try rfl))]; exact ht.pick (l := [2]) (by kernel_rfl)⟩
          · refine gl_pure 4 [2] (K' := [(2, .bool (a0 == 58))]) (by kernel_rfl) ?_
            refine gl_atE (by kernel_rfl) ?_
            exact ge_mid fun t ht => ⟨(Imm.refl _), rfl, by rw [(show b3 = (a0 == 58) from hb4.trans (by rw [hc6, hc7, hc8, hc11]; try rfl))]; exact ht.pick (l := [2]) (by kernel_rfl)⟩
    · refine gl_pure 7 [0, 9, 12] (K' := [(0, .int .u8 a0), (9, .bool false), (12, .bool (decide (a0 ≥ 65)))]) (by kernel_rfl) ?_
      refine gl_case 12 (b := (decide (a0 ≥ 65))) (by kernel_rfl) (fun hc12 => ?_) (fun hc12 => ?_)
      · refine gl_pure 5 [0, 17] (K' := [(0, .int .u8 a0), (17, .bool (decide (a0 ≤ 90)))]) (by kernel_rfl) ?_
        refine gl_case 17 (b := (decide (a0 ≤ 90))) (by kernel_rfl) (fun hc13 => ?_) (fun hc13 => ?_)
        · refine gl_pure 8 [2] (K' := [(2, .bool true)]) (by kernel_rfl) ?_
          refine gl_atE (by kernel_rfl) ?_
          exact ge_mid fun t ht => ⟨(Imm.refl _), rfl, by rw [(show b3 = true from hb4.trans (by rw [hc6, hc12, hc13]; try rfl))]; exact ht.pick (l := [2]) (by kernel_rfl)⟩
        · refine gl_pure 4 [0, 21] (K' := [(0, .int .u8 a0), (21, .bool (a0 == 95))]) (by kernel_rfl) ?_
          refine gl_case 21 (b := (a0 == 95)) (by kernel_rfl) (fun hc14 => ?_) (fun hc14 => ?_)
          · refine gl_pure 4 [2] (K' := [(2, .bool true)]) (by kernel_rfl) ?_
            refine gl_atE (by kernel_rfl) ?_
            exact ge_mid fun t ht => ⟨(Imm.refl _), rfl, by rw [(show b3 = true from hb4.trans (by rw [hc6, hc12, hc13, hc14]; try rfl))]; exact ht.pick (l := [2]) (by kernel_rfl)⟩
          · refine gl_pure 4 [2] (K' := [(2, .bool (a0 == 58))]) (by kernel_rfl) ?_
            refine gl_atE (by kernel_rfl) ?_
            exact ge_mid fun t ht => ⟨(Imm.refl _), rfl, by rw [(show b3 = (a0 == 58) from hb4.trans (by rw [hc6, hc12, hc13, hc14]; try rfl))]; exact ht.pick (l := [2]) (by kernel_rfl)⟩
      · refine gl_pure 9 [0, 21] (K' := [(0, .int .u8 a0), (21, .bool (a0 == 95))]) (by kernel_rfl) ?_
        refine gl_case 21 (b := (a0 == 95)) (by kernel_rfl) (fun hc15 => ?_) (fun hc15 => ?_)
        · refine gl_pure 4 [2] (K' := [(2, .bool true)]) (by kernel_rfl) ?_
          refine gl_atE (by kernel_rfl) ?_
          exact ge_mid fun t ht => ⟨(Imm.refl _), rfl, by rw [(show b3 = true from hb4.trans (by rw [hc6, hc12, hc15]; try rfl))]; exact ht.pick (l := [2]) (by kernel_rfl)⟩
        · refine gl_pure 4 [2] (K' := [(2, .bool (a0 == 58))]) (by kernel_rfl) ?_
          refine gl_atE (by kernel_rfl) ?_
          exact ge_mid fun t ht => ⟨(Imm.refl _), rfl, by rw [(show b3 = (a0 == 58) from hb4.trans (by rw [hc6, hc12, hc15]; try rfl))]; exact ht.pick (l := [2]) (by kernel_rfl)⟩
  · rintro t I5 L' ⟨hI1, rfl, hK2⟩
    subst hb4
    refine ge_at hK2 ?_
    refine ge_seq ?_
    refine gk_ret (by kernel_rfl) ?_
    obtain rfl := some_inj hr
    exact ge_result trivial (ResOk.tmp (by kernel_rfl) ResOk.nil) hI1 ⟨rfl, rfl⟩
structure Fn46 (I : Imm) (fv : Value) (f : Int → Option Bool) : Prop where
  out : ∀ I', I ≤ I' → ∀ (x0 : Int) (r : Bool), f x0 = some r → ∀ L, CallsV Tryd.prog fv [.int .u8 x0] I' L (fun v I' L' => v = .bool r ∧ L = L')
theorem Fn46.mono {I J : Imm} {fv : Value} {f : Int → Option Bool} (h : Fn46 I fv f) (hI : I ≤ J) : Fn46 J fv f := ⟨fun I' hI' => h.out I' (Imm.trans hI hI')⟩
/-! 36 lex_run  -/
noncomputable def lex_run_l16 (a0 : ByteArray) (a1 : Int) (a2 : Int → Option Bool) : Int → Option ((Int) ⊕ (Int)) := fun s7 =>
  Option.bind (bif (decide ((IntKind.wrap .i64 (a1 + s7)) < (a0.size : Int))) then
    (Option.bind (bx a0 (IntKind.wrap .i64 (a1 + s7))) fun (c24 : Int) =>
      Option.bind (a2 c24) fun (y27 : Bool) =>
      some y27)
    else
    (some false)) fun (j18 : Bool) =>
  bif j18 then
  (some (Sum.inl (IntKind.wrap .i64 (s7 + 1))))
  else
  (some (Sum.inr s7))
noncomputable def lex_run (a0 : ByteArray) (a1 : Int) (a2 : Int → Option Bool) : Option Int :=
  Option.bind (loopO (lex_run_l16 a0 a1 a2) 0) fun (r5 : Int) =>
  some r5
theorem lex_run_walk {a0 : ByteArray} {a1 : Int} {a2 : Int → Option Bool} {fv2 : Value} {I : Imm} {r : Int} (hf2 : Fn46 I fv2 a2) (hr : lex_run a0 a1 a2 = some r) (L : Own) :
    CallsTo Tryd.prog 36 #[.string a0, .int .i64 a1, fv2] I L (fun v I' L' => v = .int .i64 r ∧ L = L') := by
  unfold lex_run at hr
  refine callsTo_body (N := 26) Tryd.func36 (by kernel_rfl) (by kernel_rfl) (by kernel_rfl) ?_
  refine gk_pick [0, 1, 2] (K' := [(0, .string a0), (1, .int .i64 a1), (2, fv2)]) (by kernel_rfl) ?_
  refine gk_seq (by kernel_rfl) ?_
  refine gk_region (by kernel_rfl) ?_
  refine gl_pure 1 [0, 1, 2] (K' := [(0, .string a0), (1, .int .i64 a1), (2, fv2)]) (by kernel_rfl) ?_
  refine gl_atE (by kernel_rfl) ?_
  refine ge_seq ?_
  refine gk_seq (by kernel_rfl) ?_
  refine gk_region (by kernel_rfl) ?_
  refine gl_pure 1 [0, 1, 2, 7] (K' := [(0, .string a0), (1, .int .i64 a1), (2, fv2), (7, .int .i64 0)]) (by kernel_rfl) ?_
  refine gl_atE (by kernel_rfl) ?_
  refine ge_seq ?_
  refine gk_seq (by kernel_rfl) ?_
  obtain ⟨r5, hl6, hr⟩ := bind_some hr
  refine gk_join (fun t I' L' => I ≤ I' ∧ L = L' ∧ Knows 26 [(7, .int .i64 r5)] t) ?_ ?_
  · refine gk_block (by kernel_rfl) ?_
    refine gk_pick [0, 1, 2, 7] (K' := [(0, .string a0), (1, .int .i64 a1), (2, fv2), (7, .int .i64 0)]) (by kernel_rfl) ?_
    intro t hK
    refine gc_loop (lex_run_l16 a0 a1 a2) (fun s7 t I' L' => I ≤ I' ∧ L = L' ∧ Knows 26 [(0, .string a0), (1, .int .i64 a1), (2, fv2), (7, .int .i64 s7)] t) (by kernel_rfl) ?_ hl6 ⟨(Imm.refl _), rfl, hK⟩
    rintro s7 o8 t I12 L' hb9 ⟨hI10, rfl, hK11⟩
    unfold lex_run_l16 at hb9
    refine gk_at hK11 ?_
    refine gk_seq (by kernel_rfl) ?_
    refine gk_seq (by kernel_rfl) ?_
    obtain ⟨j18, hj19, hb9⟩ := bind_some hb9
    refine gk_join (fun t I' L' => I12 ≤ I' ∧ L = L' ∧ Knows 26 [(0, .string a0), (1, .int .i64 a1), (2, fv2), (7, .int .i64 s7), (22, .bool j18)] t) ?_ ?_
    · refine gk_region (by kernel_rfl) ?_
      refine gl_pure 7 [0, 1, 2, 7, 14] (K' := [(0, .string a0), (1, .int .i64 a1), (2, fv2), (7, .int .i64 s7), (14, .bool (decide ((IntKind.wrap .i64 (a1 + s7)) < (a0.size : Int))))]) (by kernel_rfl) ?_
      refine gl_case 14 (b := (decide ((IntKind.wrap .i64 (a1 + s7)) < (a0.size : Int)))) (by kernel_rfl) (fun hc23 => ?_) (fun hc23 => ?_)
      · have hj19 := cond_t hc23 hj19
        refine gl_pure 5 [0, 1, 2, 7, 14, 15, 16, 19] (K' := [(0, .string a0), (1, .int .i64 a1), (2, fv2), (7, .int .i64 s7), (14, .bool true), (15, fv2), (16, .string a0), (19, .int .i64 (IntKind.wrap .i64 (a1 + s7)))]) (by kernel_rfl) ?_
        obtain ⟨c24, hx25, hj19⟩ := bind_some hj19
        refine gl_index' (T' := 9) (xs := (.tmp 16)) (xi := (.tmp 19)) (kd := .i64) hx25 (by kernel_rfl) (by kernel_rfl) (by kernel_rfl) (by kernel_rfl) (by kernel_rfl) ?_
        obtain ⟨y27, hx26, hj19⟩ := bind_some hj19
        refine gl_callvQ (by kernel_rfl) ((hf2.mono hI10).out _ (Imm.refl _) _ _ hx26   _) ?_
        refine gl_pure 1 [0, 1, 2, 7, 22] (K' := [(0, .string a0), (1, .int .i64 a1), (2, fv2), (7, .int .i64 s7), (22, .bool y27)]) (by kernel_rfl) ?_
        refine gl_atE (by kernel_rfl) ?_
        obtain rfl := some_inj hj19
        exact ge_mid fun t ht => ⟨(Imm.refl _), rfl, ht.pick (l := [0, 1, 2, 7, 22]) (by kernel_rfl)⟩
      · have hj19 := cond_f hc23 hj19
        refine gl_pure 8 [0, 1, 2, 7, 22] (K' := [(0, .string a0), (1, .int .i64 a1), (2, fv2), (7, .int .i64 s7), (22, .bool false)]) (by kernel_rfl) ?_
        refine gl_atE (by kernel_rfl) ?_
        obtain rfl := some_inj hj19
        exact ge_mid fun t ht => ⟨(Imm.refl _), rfl, ht.pick (l := [0, 1, 2, 7, 22]) (by kernel_rfl)⟩
    · rintro t I22 L' ⟨hI20, rfl, hK21⟩
      refine ge_at hK21 ?_
      refine ge_seq ?_
      refine gk_cond (b := j18) (by kernel_rfl) (by kernel_rfl) (fun hc28 => ?_) (fun hc28 => ?_)
      · have hb9 := cond_t hc28 hb9
        refine gk_skip (by kernel_rfl) ?_
        refine ge_seq ?_
        refine gk_block (by kernel_rfl) ?_
        refine gk_region (by kernel_rfl) ?_
        refine gl_pure 3 [0, 1, 2, 7] (K' := [(0, .string a0), (1, .int .i64 a1), (2, fv2), (7, .int .i64 (IntKind.wrap .i64 (s7 + 1)))]) (by kernel_rfl) ?_
        refine gl_atE (by kernel_rfl) ?_
        refine ge_block_normal ?_
        obtain rfl := some_inj hb9
        exact ge_round fun t ht => ⟨(Imm.trans hI10 hI20), rfl, ht.pick (l := [0, 1, 2, 7]) (by kernel_rfl)⟩
      · have hb9 := cond_f hc28 hb9
        refine gk_exit (by kernel_rfl) ?_
        refine ge_seq_exit ?_
        obtain rfl := some_inj hb9
        refine ge_round_out (fun hrr => ?_) (by intro h; cases h)
        obtain rfl := hrr
        refine ge_block_hit (by kernel_rfl) ?_
        exact ge_mid fun t ht => ⟨(Imm.trans hI10 hI20), rfl, ht.pick (l := [7]) (by kernel_rfl)⟩
  · rintro t I15 L' ⟨hI13, rfl, hK14⟩
    refine ge_at hK14 ?_
    refine ge_seq ?_
    refine gk_seq (by kernel_rfl) ?_
    refine gk_region (by kernel_rfl) ?_
    refine gl_pure 2 [6] (K' := [(6, .int .i64 r5)]) (by kernel_rfl) ?_
    refine gl_atE (by kernel_rfl) ?_
    refine ge_seq ?_
    refine gk_ret (by kernel_rfl) ?_
    obtain rfl := some_inj hr
    exact ge_result trivial (ResOk.tmp (by kernel_rfl) ResOk.nil) hI13 ⟨rfl, rfl⟩
/-! 38 lex_digit  -/
noncomputable def lex_digit (a0 : Int) : Bool :=
  ((decide (a0 ≥ 48)) && (decide (a0 ≤ 57)))
theorem lex_digit_walk {a0 : Int} {I : Imm} {r : Bool}  (hr : lex_digit a0 = r) (L : Own) :
    CallsTo Tryd.prog 38 #[.int .u8 a0] I L (fun v I' L' => v = .bool r ∧ L = L') := by
  replace hr : some (lex_digit a0) = some r := congrArg some hr
  unfold lex_digit at hr
  refine callsTo_body (N := 9) Tryd.func38 (by kernel_rfl) (by kernel_rfl) (by kernel_rfl) ?_
  refine gk_pick [0] (K' := [(0, .int .u8 a0)]) (by kernel_rfl) ?_
  refine gk_seq (by kernel_rfl) ?_
  refine gk_region (by kernel_rfl) ?_
  refine gl_pure 1 [0] (K' := [(0, .int .u8 a0)]) (by kernel_rfl) ?_
  refine gl_atE (by kernel_rfl) ?_
  refine ge_seq ?_
  refine gk_seq (by kernel_rfl) ?_
  obtain ⟨b3, hb4⟩ : ∃ z, z = ((decide (a0 ≥ 48)) && (decide (a0 ≤ 57))) := ⟨_, rfl⟩
  refine gk_join (fun t I' L' => I ≤ I' ∧ L = L' ∧ Knows 9 [(2, .bool b3)] t) ?_ ?_
  · refine gk_region (by kernel_rfl) ?_
    refine gl_pure 3 [0, 5] (K' := [(0, .int .u8 a0), (5, .bool (decide (a0 ≥ 48)))]) (by kernel_rfl) ?_
    refine gl_case 5 (b := (decide (a0 ≥ 48))) (by kernel_rfl) (fun hc6 => ?_) (fun hc6 => ?_)
    · refine gl_pure 4 [2] (K' := [(2, .bool (decide (a0 ≤ 57)))]) (by kernel_rfl) ?_
      refine gl_atE (by kernel_rfl) ?_
      exact ge_mid fun t ht => ⟨(Imm.refl _), rfl, by rw [(show b3 = (decide (a0 ≤ 57)) from hb4.trans (by rw [hc6]; try rfl))]; exact ht.pick (l := [2]) (by kernel_rfl)⟩
    · refine gl_pure 4 [2] (K' := [(2, .bool false)]) (by kernel_rfl) ?_
      refine gl_atE (by kernel_rfl) ?_
      exact ge_mid fun t ht => ⟨(Imm.refl _), rfl, by rw [(show b3 = false from hb4.trans (by rw [hc6]; try rfl))]; exact ht.pick (l := [2]) (by kernel_rfl)⟩
  · rintro t I5 L' ⟨hI1, rfl, hK2⟩
    subst hb4
    refine ge_at hK2 ?_
    refine ge_seq ?_
    refine gk_ret (by kernel_rfl) ?_
    obtain rfl := some_inj hr
    exact ge_result trivial (ResOk.tmp (by kernel_rfl) ResOk.nil) hI1 ⟨rfl, rfl⟩
/-! 37 lex_one_1  -/
noncomputable def lex_one_1 (a0 : Int) : Bool :=
  ((lex_letter a0) || (lex_digit a0))
theorem lex_one_1_walk {a0 : Int} {I : Imm} {r : Bool}  (hr : lex_one_1 a0 = r) (L : Own) :
    CallsTo Tryd.prog 37 #[.int .u8 a0] I L (fun v I' L' => v = .bool r ∧ L = L') := by
  replace hr : some (lex_one_1 a0) = some r := congrArg some hr
  unfold lex_one_1 at hr
  refine callsTo_body (N := 9) Tryd.func37 (by kernel_rfl) (by kernel_rfl) (by kernel_rfl) ?_
  refine gk_pick [0] (K' := [(0, .int .u8 a0)]) (by kernel_rfl) ?_
  refine gk_seq (by kernel_rfl) ?_
  refine gk_region (by kernel_rfl) ?_
  refine gl_pure 1 [0] (K' := [(0, .int .u8 a0)]) (by kernel_rfl) ?_
  refine gl_atE (by kernel_rfl) ?_
  refine ge_seq ?_
  refine gk_seq (by kernel_rfl) ?_
  obtain ⟨b3, hb4⟩ : ∃ z, z = ((lex_letter a0) || (lex_digit a0)) := ⟨_, rfl⟩
  refine gk_join (fun t I' L' => I ≤ I' ∧ L = L' ∧ Knows 9 [(2, .bool b3)] t) ?_ ?_
  · refine gk_region (by kernel_rfl) ?_
    refine gl_pure 1 [0, 3] (K' := [(0, .int .u8 a0), (3, .int .u8 a0)]) (by kernel_rfl) ?_
    refine gl_callQ (by kernel_rfl) (lex_letter_walk (r := (lex_letter a0))  rfl _) ?_
    refine gl_pure 1 [0, 5] (K' := [(0, .int .u8 a0), (5, .bool (lex_letter a0))]) (by kernel_rfl) ?_
    refine gl_case 5 (b := (lex_letter a0)) (by kernel_rfl) (fun hc6 => ?_) (fun hc6 => ?_)
    · refine gl_pure 4 [2] (K' := [(2, .bool true)]) (by kernel_rfl) ?_
      refine gl_atE (by kernel_rfl) ?_
      exact ge_mid fun t ht => ⟨(Imm.refl _), rfl, by rw [(show b3 = true from hb4.trans (by rw [hc6]; try rfl))]; exact ht.pick (l := [2]) (by kernel_rfl)⟩
    · refine gl_pure 1 [5, 6] (K' := [(5, .bool false), (6, .int .u8 a0)]) (by kernel_rfl) ?_
      refine gl_callQ (by kernel_rfl) (lex_digit_walk (r := (lex_digit a0))  rfl _) ?_
      refine gl_pure 2 [2] (K' := [(2, .bool (lex_digit a0))]) (by kernel_rfl) ?_
      refine gl_atE (by kernel_rfl) ?_
      exact ge_mid fun t ht => ⟨(Imm.refl _), rfl, by rw [(show b3 = (lex_digit a0) from hb4.trans (by rw [hc6]; try rfl))]; exact ht.pick (l := [2]) (by kernel_rfl)⟩
  · rintro t I5 L' ⟨hI1, rfl, hK2⟩
    subst hb4
    refine ge_at hK2 ?_
    refine ge_seq ?_
    refine gk_ret (by kernel_rfl) ?_
    obtain rfl := some_inj hr
    exact ge_result trivial (ResOk.tmp (by kernel_rfl) ResOk.nil) hI1 ⟨rfl, rfl⟩
theorem lex_one_1_impl46  {I : Imm}  : Fn46 I (.func (.func 37) #[] #[]) (fun x0 => some (lex_one_1 x0)) := ⟨fun I' hI x0 r hr  L => ⟨37, #[], #[], rfl, ⟨_, Tryd.func37, by kernel_rfl, by kernel_rfl⟩, by
  simp only [List.append_toArray, List.nil_append, List.append_nil, Array.append_empty, Array.empty_append, List.push_append_toArray, List.cons_append]
  exact lex_one_1_walk    (some_inj hr) L⟩⟩
/-! 58 stringslite_HasPrefix  -/
noncomputable def stringslite_HasPrefix (a0 : ByteArray) (a1 : ByteArray) : Option Bool :=
  Option.bind (bif (decide ((a0.size : Int) ≥ (a1.size : Int))) then
    (Option.bind (sx a0 0 (a1.size : Int)) fun (s8 : ByteArray) =>
      some (s8.toList == a1.toList))
    else
    (some false)) fun (j1 : Bool) =>
  some j1
theorem stringslite_HasPrefix_walk {a0 : ByteArray} {a1 : ByteArray} {I : Imm} {r : Bool}  (hr : stringslite_HasPrefix a0 a1 = some r) (L : Own) :
    CallsTo Tryd.prog 58 #[.string a0, .string a1] I L (fun v I' L' => v = .bool r ∧ L = L') := by
  unfold stringslite_HasPrefix at hr
  refine callsTo_body (N := 18) Tryd.func58 (by kernel_rfl) (by kernel_rfl) (by kernel_rfl) ?_
  refine gk_pick [0, 1] (K' := [(0, .string a0), (1, .string a1)]) (by kernel_rfl) ?_
  refine gk_seq (by kernel_rfl) ?_
  refine gk_region (by kernel_rfl) ?_
  refine gl_pure 1 [0, 1] (K' := [(0, .string a0), (1, .string a1)]) (by kernel_rfl) ?_
  refine gl_atE (by kernel_rfl) ?_
  refine ge_seq ?_
  refine gk_seq (by kernel_rfl) ?_
  obtain ⟨j1, hj2, hr⟩ := bind_some hr
  refine gk_join (fun t I' L' => I ≤ I' ∧ L = L' ∧ Knows 18 [(4, .bool j1)] t) ?_ ?_
  · refine gk_region (by kernel_rfl) ?_
    refine gl_pure 6 [0, 1, 10] (K' := [(0, .string a0), (1, .string a1), (10, .bool (decide ((a0.size : Int) ≥ (a1.size : Int))))]) (by kernel_rfl) ?_
    refine gl_case 10 (b := (decide ((a0.size : Int) ≥ (a1.size : Int)))) (by kernel_rfl) (fun hc6 => ?_) (fun hc6 => ?_)
    · have hj2 := cond_t hc6 hj2
      refine gl_pure 3 [1, 10, 11, 13] (K' := [(1, .string a1), (10, .bool true), (11, .string a0), (13, .int .i64 (a1.size : Int))]) (by kernel_rfl) ?_
      obtain ⟨s8, hx7, hj2⟩ := bind_some hj2
      refine gl_slice' (T' := 9) (xs := (.tmp 11)) (lo := none) (hi := (some (.tmp 13))) hx7 (by kernel_rfl) (by kernel_rfl) (by kernel_rfl) (by kernel_rfl) (by kernel_rfl) (by kernel_rfl) ?_
      refine gl_pure 4 [4] (K' := [(4, .bool (s8.toList == a1.toList))]) (by kernel_rfl) ?_
      refine gl_atE (by kernel_rfl) ?_
      obtain rfl := some_inj hj2
      exact ge_mid fun t ht => ⟨(Imm.refl _), rfl, ht.pick (l := [4]) (by kernel_rfl)⟩
    · have hj2 := cond_f hc6 hj2
      refine gl_pure 8 [4] (K' := [(4, .bool false)]) (by kernel_rfl) ?_
      refine gl_atE (by kernel_rfl) ?_
      obtain rfl := some_inj hj2
      exact ge_mid fun t ht => ⟨(Imm.refl _), rfl, ht.pick (l := [4]) (by kernel_rfl)⟩
  · rintro t I5 L' ⟨hI3, rfl, hK4⟩
    refine ge_at hK4 ?_
    refine ge_seq ?_
    refine gk_ret (by kernel_rfl) ?_
    obtain rfl := some_inj hr
    exact ge_result trivial (ResOk.tmp (by kernel_rfl) ResOk.nil) hI3 ⟨rfl, rfl⟩
/-! 42 strings_HasPrefix  -/
noncomputable def strings_HasPrefix (a0 : ByteArray) (a1 : ByteArray) : Option Bool :=
  Option.bind (stringslite_HasPrefix a0 a1) fun (y1 : Bool) =>
  some y1
theorem strings_HasPrefix_walk {a0 : ByteArray} {a1 : ByteArray} {I : Imm} {r : Bool}  (hr : strings_HasPrefix a0 a1 = some r) (L : Own) :
    CallsTo Tryd.prog 42 #[.string a0, .string a1] I L (fun v I' L' => v = .bool r ∧ L = L') := by
  unfold strings_HasPrefix at hr
  refine callsTo_body (N := 8) Tryd.func42 (by kernel_rfl) (by kernel_rfl) (by kernel_rfl) ?_
  refine gk_pick [0, 1] (K' := [(0, .string a0), (1, .string a1)]) (by kernel_rfl) ?_
  refine gk_seq (by kernel_rfl) ?_
  refine gk_region (by kernel_rfl) ?_
  refine gl_pure 1 [0, 1] (K' := [(0, .string a0), (1, .string a1)]) (by kernel_rfl) ?_
  refine gl_atE (by kernel_rfl) ?_
  refine ge_seq ?_
  refine gk_seq (by kernel_rfl) ?_
  refine gk_region (by kernel_rfl) ?_
  refine gl_pure 2 [5, 6] (K' := [(5, .string a0), (6, .string a1)]) (by kernel_rfl) ?_
  obtain ⟨y1, hx2, hr⟩ := bind_some hr
  refine gl_callQ (by kernel_rfl) (stringslite_HasPrefix_walk (r := y1)  hx2 _) ?_
  refine gl_pure 1 [4] (K' := [(4, .bool y1)]) (by kernel_rfl) ?_
  refine gl_atE (by kernel_rfl) ?_
  refine ge_seq ?_
  refine gk_ret (by kernel_rfl) ?_
  obtain rfl := some_inj hr
  exact ge_result trivial (ResOk.tmp (by kernel_rfl) ResOk.nil) (Imm.refl _) ⟨rfl, rfl⟩
/-! 54 lex_hex  -/
noncomputable def lex_hex (a0 : Int) : Bool :=
  (((lex_digit a0) || ((decide (a0 ≥ 97)) && (decide (a0 ≤ 102)))) || ((decide (a0 ≥ 65)) && (decide (a0 ≤ 70))))
theorem lex_hex_walk {a0 : Int} {I : Imm} {r : Bool}  (hr : lex_hex a0 = r) (L : Own) :
    CallsTo Tryd.prog 54 #[.int .u8 a0] I L (fun v I' L' => v = .bool r ∧ L = L') := by
  replace hr : some (lex_hex a0) = some r := congrArg some hr
  unfold lex_hex at hr
  refine callsTo_body (N := 21) Tryd.func54 (by kernel_rfl) (by kernel_rfl) (by kernel_rfl) ?_
  refine gk_pick [0] (K' := [(0, .int .u8 a0)]) (by kernel_rfl) ?_
  refine gk_seq (by kernel_rfl) ?_
  refine gk_region (by kernel_rfl) ?_
  refine gl_pure 1 [0] (K' := [(0, .int .u8 a0)]) (by kernel_rfl) ?_
  refine gl_atE (by kernel_rfl) ?_
  refine ge_seq ?_
  refine gk_seq (by kernel_rfl) ?_
  obtain ⟨b3, hb4⟩ : ∃ z, z = (((lex_digit a0) || ((decide (a0 ≥ 97)) && (decide (a0 ≤ 102)))) || ((decide (a0 ≥ 65)) && (decide (a0 ≤ 70)))) := ⟨_, rfl⟩
  refine gk_join (fun t I' L' => I ≤ I' ∧ L = L' ∧ Knows 21 [(2, .bool b3)] t) ?_ ?_
  · refine gk_region (by kernel_rfl) ?_
    refine gl_pure 1 [0, 3] (K' := [(0, .int .u8 a0), (3, .int .u8 a0)]) (by kernel_rfl) ?_
    refine gl_callQ (by kernel_rfl) (lex_digit_walk (r := (lex_digit a0))  rfl _) ?_
    refine gl_pure 1 [0, 5] (K' := [(0, .int .u8 a0), (5, .bool (lex_digit a0))]) (by kernel_rfl) ?_
    refine gl_case 5 (b := (lex_digit a0)) (by kernel_rfl) (fun hc6 => ?_) (fun hc6 => ?_)
    · refine gl_pure 16 [2] (K' := [(2, .bool true)]) (by kernel_rfl) ?_
      refine gl_atE (by kernel_rfl) ?_
      exact ge_mid fun t ht => ⟨(Imm.refl _), rfl, by rw [(show b3 = true from hb4.trans (by rw [hc6]; try rfl))]; exact ht.pick (l := [2]) (by kernel_rfl)⟩
    · refine gl_pure 3 [0, 5, 8] (K' := [(0, .int .u8 a0), (5, .bool false), (8, .bool (decide (a0 ≥ 97)))]) (by kernel_rfl) ?_
      refine gl_case 8 (b := (decide (a0 ≥ 97))) (by kernel_rfl) (fun hc7 => ?_) (fun hc7 => ?_)
      · refine gl_pure 5 [0, 13] (K' := [(0, .int .u8 a0), (13, .bool (decide (a0 ≤ 102)))]) (by kernel_rfl) ?_
        refine gl_case 13 (b := (decide (a0 ≤ 102))) (by kernel_rfl) (fun hc8 => ?_) (fun hc8 => ?_)
        · refine gl_pure 8 [2] (K' := [(2, .bool true)]) (by kernel_rfl) ?_
          refine gl_atE (by kernel_rfl) ?_
          exact ge_mid fun t ht => ⟨(Imm.refl _), rfl, by rw [(show b3 = true from hb4.trans (by rw [hc6, hc7, hc8]; try rfl))]; exact ht.pick (l := [2]) (by kernel_rfl)⟩
        · refine gl_pure 3 [0, 13, 16] (K' := [(0, .int .u8 a0), (13, .bool false), (16, .bool (decide (a0 ≥ 65)))]) (by kernel_rfl) ?_
          refine gl_case 16 (b := (decide (a0 ≥ 65))) (by kernel_rfl) (fun hc9 => ?_) (fun hc9 => ?_)
          · refine gl_pure 5 [2] (K' := [(2, .bool (decide (a0 ≤ 70)))]) (by kernel_rfl) ?_
            refine gl_atE (by kernel_rfl) ?_
            exact ge_mid fun t ht => ⟨(Imm.refl _), rfl, by rw [(show b3 = (decide (a0 ≤ 70)) from hb4.trans (by rw [hc6, hc7, hc8, hc9]; try rfl))]; exact ht.pick (l := [2]) (by kernel_rfl)⟩
          · refine gl_pure 5 [2] (K' := [(2, .bool false)]) (by kernel_rfl) ?_
            refine gl_atE (by kernel_rfl) ?_
            exact ge_mid fun t ht => ⟨(Imm.refl _), rfl, by rw [(show b3 = false from hb4.trans (by rw [hc6, hc7, hc8, hc9]; try rfl))]; exact ht.pick (l := [2]) (by kernel_rfl)⟩
      · refine gl_pure 8 [0, 13, 16] (K' := [(0, .int .u8 a0), (13, .bool false), (16, .bool (decide (a0 ≥ 65)))]) (by kernel_rfl) ?_
        refine gl_case 16 (b := (decide (a0 ≥ 65))) (by kernel_rfl) (fun hc10 => ?_) (fun hc10 => ?_)
        · refine gl_pure 5 [2] (K' := [(2, .bool (decide (a0 ≤ 70)))]) (by kernel_rfl) ?_
          refine gl_atE (by kernel_rfl) ?_
          exact ge_mid fun t ht => ⟨(Imm.refl _), rfl, by rw [(show b3 = (decide (a0 ≤ 70)) from hb4.trans (by rw [hc6, hc7, hc10]; try rfl))]; exact ht.pick (l := [2]) (by kernel_rfl)⟩
        · refine gl_pure 5 [2] (K' := [(2, .bool false)]) (by kernel_rfl) ?_
          refine gl_atE (by kernel_rfl) ?_
          exact ge_mid fun t ht => ⟨(Imm.refl _), rfl, by rw [(show b3 = false from hb4.trans (by rw [hc6, hc7, hc10]; try rfl))]; exact ht.pick (l := [2]) (by kernel_rfl)⟩
  · rintro t I5 L' ⟨hI1, rfl, hK2⟩
    subst hb4
    refine ge_at hK2 ?_
    refine ge_seq ?_
    refine gk_ret (by kernel_rfl) ?_
    obtain rfl := some_inj hr
    exact ge_result trivial (ResOk.tmp (by kernel_rfl) ResOk.nil) hI1 ⟨rfl, rfl⟩
theorem lex_hex_impl46  {I : Imm}  : Fn46 I (.func (.func 54) #[] #[]) (fun x0 => some (lex_hex x0)) := ⟨fun I' hI x0 r hr  L => ⟨54, #[], #[], rfl, ⟨_, Tryd.func54, by kernel_rfl, by kernel_rfl⟩, by
  simp only [List.append_toArray, List.nil_append, List.append_nil, Array.append_empty, Array.empty_append, List.push_append_toArray, List.cons_append]
  exact lex_hex_walk    (some_inj hr) L⟩⟩
theorem lex_digit_impl46  {I : Imm}  : Fn46 I (.func (.func 38) #[] #[]) (fun x0 => some (lex_digit x0)) := ⟨fun I' hI x0 r hr  L => ⟨38, #[], #[], rfl, ⟨_, Tryd.func38, by kernel_rfl, by kernel_rfl⟩, by
  simp only [List.append_toArray, List.nil_append, List.append_nil, Array.append_empty, Array.empty_append, List.push_append_toArray, List.cons_append]
  exact lex_digit_walk    (some_inj hr) L⟩⟩
/-! 39 lex_number  -/
noncomputable def lex_number (a0 : ByteArray) : Option Int :=
  Option.bind (Option.bind (strings_HasPrefix a0 (⟨#[48, 120]⟩ : ByteArray)) fun (y6 : Bool) =>
    bif y6 then
    (some true)
    else
    (Option.bind (strings_HasPrefix a0 (⟨#[48, 88]⟩ : ByteArray)) fun (y9 : Bool) =>
      some y9)) fun (j1 : Bool) =>
  Option.bind ((bif j1 then
    (Option.bind (lex_run a0 2 (fun x0 => some (lex_hex x0))) fun (y18 : Int) =>
      bif (decide (y18 > 0)) then
      (some (Sum.inr (IntKind.wrap .i64 (2 + y18))))
      else
      (some (Sum.inl ())))
    else
    (some (Sum.inl ())) : Option ((Unit) ⊕ (Int)))) fun (j11 : (Unit) ⊕ (Int)) =>
  match j11 with
  | Sum.inl j13 => Option.bind (lex_run a0 0 (fun x0 => some (lex_digit x0))) fun (y21 : Int) =>
    Option.bind (bif (decide (y21 < (a0.size : Int))) then
      (Option.bind (bx a0 y21) fun (c29 : Int) =>
        some (c29 == 46))
      else
      (some false)) fun (j23 : Bool) =>
    Option.bind ((bif j23 then
      (Option.bind (lex_run a0 (IntKind.wrap .i64 (y21 + 1)) (fun x0 => some (lex_digit x0))) fun (y38 : Int) =>
        bif ((IntKind.wrap .i64 (y21 + y38)) == 0) then
        (some (Sum.inr 0))
        else
        (some (Sum.inl (IntKind.wrap .i64 (y21 + (IntKind.wrap .i64 (1 + y38)))))))
      else
      (some (Sum.inl y21)) : Option ((Int) ⊕ (Int)))) fun (j31 : (Int) ⊕ (Int)) =>
    match j31 with
    | Sum.inl j33 => bif (j33 == 0) then
      (some 0)
      else
      (Option.bind (bif (decide (j33 < (a0.size : Int))) then
          (Option.bind (bx a0 j33) fun (c48 : Int) =>
            bif (c48 == 101) then
            (some true)
            else
            (Option.bind (bx a0 j33) fun (c51 : Int) =>
              some (c51 == 69)))
          else
          (some false)) fun (j42 : Bool) =>
        Option.bind (bif j42 then
          (Option.bind (bif (decide ((IntKind.wrap .i64 (j33 + 1)) < (a0.size : Int))) then
              (Option.bind (bx a0 (IntKind.wrap .i64 (j33 + 1))) fun (c65 : Int) =>
                bif (c65 == 43) then
                (some true)
                else
                (Option.bind (bx a0 (IntKind.wrap .i64 (j33 + 1))) fun (c68 : Int) =>
                  some (c68 == 45)))
              else
              (some false)) fun (j59 : Bool) =>
            Option.bind (bif j59 then
              (some (IntKind.wrap .i64 ((IntKind.wrap .i64 (j33 + 1)) + 1)))
              else
              (some (IntKind.wrap .i64 (j33 + 1)))) fun (j70 : Int) =>
            Option.bind (lex_run a0 j70 (fun x0 => some (lex_digit x0))) fun (y76 : Int) =>
            Option.bind (bif (decide (y76 > 0)) then
              (some (IntKind.wrap .i64 (j70 + y76)))
              else
              (some j33)) fun (j78 : Int) =>
            some j78)
          else
          (some j33)) fun (j53 : Int) =>
        some j53)
    | Sum.inr v84 => some v84
  | Sum.inr v85 => some v85
theorem lex_number_walk {a0 : ByteArray} {I : Imm} {r : Int}  (hr : lex_number a0 = some r) (L : Own) :
    CallsTo Tryd.prog 39 #[.string a0] I L (fun v I' L' => v = .int .i64 r ∧ L = L') := by
  unfold lex_number at hr
  refine callsTo_body (N := 93) Tryd.func39 (by kernel_rfl) (by kernel_rfl) (by kernel_rfl) ?_
  refine gk_pick [0] (K' := [(0, .string a0)]) (by kernel_rfl) ?_
  refine gk_seq (by kernel_rfl) ?_
  refine gk_region (by kernel_rfl) ?_
  refine gl_pure 1 [0] (K' := [(0, .string a0)]) (by kernel_rfl) ?_
  refine gl_atE (by kernel_rfl) ?_
  refine ge_seq ?_
  refine gk_seq (by kernel_rfl) ?_
  refine gk_seq (by kernel_rfl) ?_
  obtain ⟨j1, hj2, hr⟩ := bind_some hr
  refine gk_join (fun t I' L' => I ≤ I' ∧ L = L' ∧ Knows 93 [(0, .string a0), (14, .bool j1)] t) ?_ ?_
  · refine gk_region (by kernel_rfl) ?_
    refine gl_pure 1 [0, 9] (K' := [(0, .string a0), (9, .string a0)]) (by kernel_rfl) ?_
    obtain ⟨y6, hx7, hj2⟩ := bind_some hj2
    refine gl_callQ (by kernel_rfl) (strings_HasPrefix_walk (r := y6)  hx7 _) ?_
    refine gl_pure 1 [0, 11] (K' := [(0, .string a0), (11, .bool y6)]) (by kernel_rfl) ?_
    refine gl_case 11 (b := y6) (by kernel_rfl) (fun hc8 => ?_) (fun hc8 => ?_)
    · have hj2 := cond_t hc8 hj2
      refine gl_pure 3 [0, 14] (K' := [(0, .string a0), (14, .bool true)]) (by kernel_rfl) ?_
      refine gl_atE (by kernel_rfl) ?_
      obtain rfl := some_inj hj2
      exact ge_mid fun t ht => ⟨(Imm.refl _), rfl, ht.pick (l := [0, 14]) (by kernel_rfl)⟩
    · have hj2 := cond_f hc8 hj2
      refine gl_pure 1 [0, 11, 12] (K' := [(0, .string a0), (11, .bool false), (12, .string a0)]) (by kernel_rfl) ?_
      obtain ⟨y9, hx10, hj2⟩ := bind_some hj2
      refine gl_callQ (by kernel_rfl) (strings_HasPrefix_walk (r := y9)  hx10 _) ?_
      refine gl_pure 1 [0, 14] (K' := [(0, .string a0), (14, .bool y9)]) (by kernel_rfl) ?_
      refine gl_atE (by kernel_rfl) ?_
      obtain rfl := some_inj hj2
      exact ge_mid fun t ht => ⟨(Imm.refl _), rfl, ht.pick (l := [0, 14]) (by kernel_rfl)⟩
  · rintro t I5 L' ⟨hI3, rfl, hK4⟩
    refine ge_at hK4 ?_
    refine ge_seq ?_
    obtain ⟨j11, hj12, hr⟩ := bind_some hr
    refine gk_join (fun t I' L' => ∃ j13, j11 = Sum.inl j13 ∧ I5 ≤ I' ∧ L = L' ∧ Knows 93 [(0, .string a0)] t) ?_ ?_
    · refine gk_cond (b := j1) (by kernel_rfl) (by kernel_rfl) (fun hc17 => ?_) (fun hc17 => ?_)
      · have hj12 := cond_t hc17 hj12
        refine gk_seq (by kernel_rfl) ?_
        refine gk_region (by kernel_rfl) ?_
        refine gl_pure 1 [0, 15] (K' := [(0, .string a0), (15, .string a0)]) (by kernel_rfl) ?_
        obtain ⟨y18, hx19, hj12⟩ := bind_some hj12
        refine gl_callQ (by kernel_rfl) (lex_run_walk (r := y18) lex_hex_impl46 hx19 _) ?_
        refine gl_pure 1 [0, 3] (K' := [(0, .string a0), (3, .int .i64 y18)]) (by kernel_rfl) ?_
        refine gl_atE (by kernel_rfl) ?_
        refine ge_seq ?_
        refine gk_seq (by kernel_rfl) ?_
        refine gk_region (by kernel_rfl) ?_
        refine gl_pure 2 [0, 3, 18] (K' := [(0, .string a0), (3, .int .i64 y18), (18, .bool (decide (y18 > 0)))]) (by kernel_rfl) ?_
        refine gl_atE (by kernel_rfl) ?_
        refine ge_seq ?_
        refine gk_cond (b := (decide (y18 > 0))) (by kernel_rfl) (by kernel_rfl) (fun hc20 => ?_) (fun hc20 => ?_)
        · have hj12 := cond_t hc20 hj12
          refine gk_seq (by kernel_rfl) ?_
          refine gk_region (by kernel_rfl) ?_
          refine gl_pure 3 [2] (K' := [(2, .int .i64 (IntKind.wrap .i64 (2 + y18)))]) (by kernel_rfl) ?_
          refine gl_atE (by kernel_rfl) ?_
          refine ge_seq ?_
          refine gk_ret (by kernel_rfl) ?_
          refine ge_seq_ret ?_
          obtain rfl := some_inj hj12
          refine ge_seq_ret ?_
          obtain rfl := some_inj hr
          exact ge_result trivial (ResOk.tmp (by kernel_rfl) ResOk.nil) hI3 ⟨rfl, rfl⟩
        · have hj12 := cond_f hc20 hj12
          refine gk_skip (by kernel_rfl) ?_
          obtain rfl := some_inj hj12
          exact ge_mid fun t ht => ⟨_, rfl, (Imm.refl _), rfl, ht.pick (l := [0]) (by kernel_rfl)⟩
      · have hj12 := cond_f hc17 hj12
        refine gk_skip (by kernel_rfl) ?_
        obtain rfl := some_inj hj12
        exact ge_mid fun t ht => ⟨_, rfl, (Imm.refl _), rfl, ht.pick (l := [0]) (by kernel_rfl)⟩
    · rintro t I16 L' ⟨j13, rfl, hI14, rfl, hK15⟩
      refine ge_at hK15 ?_
      refine ge_seq ?_
      refine gk_seq (by kernel_rfl) ?_
      refine gk_region (by kernel_rfl) ?_
      refine gl_pure 1 [0, 21] (K' := [(0, .string a0), (21, .string a0)]) (by kernel_rfl) ?_
      obtain ⟨y21, hx22, hr⟩ := bind_some hr
      refine gl_callQ (by kernel_rfl) (lex_run_walk (r := y21) lex_digit_impl46 hx22 _) ?_
      refine gl_pure 1 [0, 4] (K' := [(0, .string a0), (4, .int .i64 y21)]) (by kernel_rfl) ?_
      refine gl_atE (by kernel_rfl) ?_
      refine ge_seq ?_
      refine gk_seq (by kernel_rfl) ?_
      refine gk_region (by kernel_rfl) ?_
      refine gl_pure 2 [0, 4, 5] (K' := [(0, .string a0), (4, .int .i64 y21), (5, .int .i64 y21)]) (by kernel_rfl) ?_
      refine gl_atE (by kernel_rfl) ?_
      refine ge_seq ?_
      refine gk_seq (by kernel_rfl) ?_
      refine gk_seq (by kernel_rfl) ?_
      obtain ⟨j23, hj24, hr⟩ := bind_some hr
      refine gk_join (fun t I' L' => I16 ≤ I' ∧ L = L' ∧ Knows 93 [(0, .string a0), (4, .int .i64 y21), (5, .int .i64 y21), (33, .bool j23)] t) ?_ ?_
      · refine gk_region (by kernel_rfl) ?_
        refine gl_pure 5 [0, 4, 5, 28] (K' := [(0, .string a0), (4, .int .i64 y21), (5, .int .i64 y21), (28, .bool (decide (y21 < (a0.size : Int))))]) (by kernel_rfl) ?_
        refine gl_case 28 (b := (decide (y21 < (a0.size : Int)))) (by kernel_rfl) (fun hc28 => ?_) (fun hc28 => ?_)
        · have hj24 := cond_t hc28 hj24
          refine gl_pure 2 [0, 4, 5, 28, 29, 30] (K' := [(0, .string a0), (4, .int .i64 y21), (5, .int .i64 y21), (28, .bool true), (29, .string a0), (30, .int .i64 y21)]) (by kernel_rfl) ?_
          obtain ⟨c29, hx30, hj24⟩ := bind_some hj24
          refine gl_index' (T' := 9) (xs := (.tmp 29)) (xi := (.tmp 30)) (kd := .i64) hx30 (by kernel_rfl) (by kernel_rfl) (by kernel_rfl) (by kernel_rfl) (by kernel_rfl) ?_
          refine gl_pure 2 [0, 4, 5, 33] (K' := [(0, .string a0), (4, .int .i64 y21), (5, .int .i64 y21), (33, .bool (c29 == 46))]) (by kernel_rfl) ?_
          refine gl_atE (by kernel_rfl) ?_
          obtain rfl := some_inj hj24
          exact ge_mid fun t ht => ⟨(Imm.refl _), rfl, ht.pick (l := [0, 4, 5, 33]) (by kernel_rfl)⟩
        · have hj24 := cond_f hc28 hj24
          refine gl_pure 5 [0, 4, 5, 33] (K' := [(0, .string a0), (4, .int .i64 y21), (5, .int .i64 y21), (33, .bool false)]) (by kernel_rfl) ?_
          refine gl_atE (by kernel_rfl) ?_
          obtain rfl := some_inj hj24
          exact ge_mid fun t ht => ⟨(Imm.refl _), rfl, ht.pick (l := [0, 4, 5, 33]) (by kernel_rfl)⟩
      · rintro t I27 L' ⟨hI25, rfl, hK26⟩
        refine ge_at hK26 ?_
        refine ge_seq ?_
        obtain ⟨j31, hj32, hr⟩ := bind_some hr
        refine gk_join (fun t I' L' => ∃ j33, j31 = Sum.inl j33 ∧ I27 ≤ I' ∧ L = L' ∧ Knows 93 [(0, .string a0), (5, .int .i64 j33)] t) ?_ ?_
        · refine gk_cond (b := j23) (by kernel_rfl) (by kernel_rfl) (fun hc37 => ?_) (fun hc37 => ?_)
          · have hj32 := cond_t hc37 hj32
            refine gk_seq (by kernel_rfl) ?_
            refine gk_region (by kernel_rfl) ?_
            refine gl_pure 3 [0, 4, 5, 34, 36] (K' := [(0, .string a0), (4, .int .i64 y21), (5, .int .i64 y21), (34, .string a0), (36, .int .i64 (IntKind.wrap .i64 (y21 + 1)))]) (by kernel_rfl) ?_
            obtain ⟨y38, hx39, hj32⟩ := bind_some hj32
            refine gl_callQ (by kernel_rfl) (lex_run_walk (r := y38) lex_digit_impl46 hx39 _) ?_
            refine gl_pure 1 [0, 4, 5, 6] (K' := [(0, .string a0), (4, .int .i64 y21), (5, .int .i64 y21), (6, .int .i64 y38)]) (by kernel_rfl) ?_
            refine gl_atE (by kernel_rfl) ?_
            refine ge_seq ?_
            refine gk_seq (by kernel_rfl) ?_
            refine gk_seq (by kernel_rfl) ?_
            refine gk_region (by kernel_rfl) ?_
            refine gl_pure 4 [0, 5, 6, 41] (K' := [(0, .string a0), (5, .int .i64 y21), (6, .int .i64 y38), (41, .bool ((IntKind.wrap .i64 (y21 + y38)) == 0))]) (by kernel_rfl) ?_
            refine gl_atE (by kernel_rfl) ?_
            refine ge_seq ?_
            refine gk_cond (b := ((IntKind.wrap .i64 (y21 + y38)) == 0)) (by kernel_rfl) (by kernel_rfl) (fun hc40 => ?_) (fun hc40 => ?_)
            · have hj32 := cond_t hc40 hj32
              refine gk_seq (by kernel_rfl) ?_
              refine gk_region (by kernel_rfl) ?_
              refine gl_pure 1 [2] (K' := [(2, .int .i64 0)]) (by kernel_rfl) ?_
              refine gl_atE (by kernel_rfl) ?_
              refine ge_seq ?_
              refine gk_ret (by kernel_rfl) ?_
              refine ge_seq_ret ?_
              refine ge_seq_ret ?_
              obtain rfl := some_inj hj32
              refine ge_seq_ret ?_
              obtain rfl := some_inj hr
              exact ge_result trivial (ResOk.tmp (by kernel_rfl) ResOk.nil) (Imm.trans (Imm.trans hI3 hI14) hI25) ⟨rfl, rfl⟩
            · have hj32 := cond_f hc40 hj32
              refine gk_skip (by kernel_rfl) ?_
              refine ge_seq ?_
              refine gk_region (by kernel_rfl) ?_
              refine gl_pure 5 [0, 5] (K' := [(0, .string a0), (5, .int .i64 (IntKind.wrap .i64 (y21 + (IntKind.wrap .i64 (1 + y38)))))]) (by kernel_rfl) ?_
              refine gl_atE (by kernel_rfl) ?_
              obtain rfl := some_inj hj32
              exact ge_mid fun t ht => ⟨_, rfl, (Imm.refl _), rfl, ht.pick (l := [0, 5]) (by kernel_rfl)⟩
          · have hj32 := cond_f hc37 hj32
            refine gk_skip (by kernel_rfl) ?_
            obtain rfl := some_inj hj32
            exact ge_mid fun t ht => ⟨_, rfl, (Imm.refl _), rfl, ht.pick (l := [0, 5]) (by kernel_rfl)⟩
        · rintro t I36 L' ⟨j33, rfl, hI34, rfl, hK35⟩
          refine ge_at hK35 ?_
          refine ge_seq ?_
          refine gk_seq (by kernel_rfl) ?_
          refine gk_seq (by kernel_rfl) ?_
          refine gk_region (by kernel_rfl) ?_
          refine gl_pure 2 [0, 5, 47] (K' := [(0, .string a0), (5, .int .i64 j33), (47, .bool (j33 == 0))]) (by kernel_rfl) ?_
          refine gl_atE (by kernel_rfl) ?_
          refine ge_seq ?_
          refine gk_cond (b := (j33 == 0)) (by kernel_rfl) (by kernel_rfl) (fun hc41 => ?_) (fun hc41 => ?_)
          · have hr := cond_t hc41 hr
            refine gk_seq (by kernel_rfl) ?_
            refine gk_region (by kernel_rfl) ?_
            refine gl_pure 1 [2] (K' := [(2, .int .i64 0)]) (by kernel_rfl) ?_
            refine gl_atE (by kernel_rfl) ?_
            refine ge_seq ?_
            refine gk_ret (by kernel_rfl) ?_
            refine ge_seq_ret ?_
            obtain rfl := some_inj hr
            exact ge_result trivial (ResOk.tmp (by kernel_rfl) ResOk.nil) (Imm.trans (Imm.trans (Imm.trans hI3 hI14) hI25) hI34) ⟨rfl, rfl⟩
          · have hr := cond_f hc41 hr
            refine gk_skip (by kernel_rfl) ?_
            refine ge_seq ?_
            refine gk_seq (by kernel_rfl) ?_
            refine gk_seq (by kernel_rfl) ?_
            obtain ⟨j42, hj43, hr⟩ := bind_some hr
            refine gk_join (fun t I' L' => I36 ≤ I' ∧ L = L' ∧ Knows 93 [(0, .string a0), (5, .int .i64 j33), (63, .bool j42)] t) ?_ ?_
            · refine gk_region (by kernel_rfl) ?_
              refine gl_pure 5 [0, 5, 52] (K' := [(0, .string a0), (5, .int .i64 j33), (52, .bool (decide (j33 < (a0.size : Int))))]) (by kernel_rfl) ?_
              refine gl_case 52 (b := (decide (j33 < (a0.size : Int)))) (by kernel_rfl) (fun hc47 => ?_) (fun hc47 => ?_)
              · have hj43 := cond_t hc47 hj43
                refine gl_pure 2 [0, 5, 52, 53, 54] (K' := [(0, .string a0), (5, .int .i64 j33), (52, .bool true), (53, .string a0), (54, .int .i64 j33)]) (by kernel_rfl) ?_
                obtain ⟨c48, hx49, hj43⟩ := bind_some hj43
                refine gl_index' (T' := 9) (xs := (.tmp 53)) (xi := (.tmp 54)) (kd := .i64) hx49 (by kernel_rfl) (by kernel_rfl) (by kernel_rfl) (by kernel_rfl) (by kernel_rfl) ?_
                refine gl_pure 2 [0, 5, 52, 57] (K' := [(0, .string a0), (5, .int .i64 j33), (52, .bool true), (57, .bool (c48 == 101))]) (by kernel_rfl) ?_
                refine gl_case 57 (b := (c48 == 101)) (by kernel_rfl) (fun hc50 => ?_) (fun hc50 => ?_)
                · have hj43 := cond_t hc50 hj43
                  refine gl_pure 6 [0, 5, 63] (K' := [(0, .string a0), (5, .int .i64 j33), (63, .bool true)]) (by kernel_rfl) ?_
                  refine gl_atE (by kernel_rfl) ?_
                  obtain rfl := some_inj hj43
                  exact ge_mid fun t ht => ⟨(Imm.refl _), rfl, ht.pick (l := [0, 5, 63]) (by kernel_rfl)⟩
                · have hj43 := cond_f hc50 hj43
                  refine gl_pure 2 [0, 5, 52, 57, 58, 59] (K' := [(0, .string a0), (5, .int .i64 j33), (52, .bool true), (57, .bool false), (58, .string a0), (59, .int .i64 j33)]) (by kernel_rfl) ?_
                  obtain ⟨c51, hx52, hj43⟩ := bind_some hj43
                  refine gl_index' (T' := 9) (xs := (.tmp 58)) (xi := (.tmp 59)) (kd := .i64) hx52 (by kernel_rfl) (by kernel_rfl) (by kernel_rfl) (by kernel_rfl) (by kernel_rfl) ?_
                  refine gl_pure 3 [0, 5, 63] (K' := [(0, .string a0), (5, .int .i64 j33), (63, .bool (c51 == 69))]) (by kernel_rfl) ?_
                  refine gl_atE (by kernel_rfl) ?_
                  obtain rfl := some_inj hj43
                  exact ge_mid fun t ht => ⟨(Imm.refl _), rfl, ht.pick (l := [0, 5, 63]) (by kernel_rfl)⟩
              · have hj43 := cond_f hc47 hj43
                refine gl_pure 11 [0, 5, 63] (K' := [(0, .string a0), (5, .int .i64 j33), (63, .bool false)]) (by kernel_rfl) ?_
                refine gl_atE (by kernel_rfl) ?_
                obtain rfl := some_inj hj43
                exact ge_mid fun t ht => ⟨(Imm.refl _), rfl, ht.pick (l := [0, 5, 63]) (by kernel_rfl)⟩
            · rintro t I46 L' ⟨hI44, rfl, hK45⟩
              refine ge_at hK45 ?_
              refine ge_seq ?_
              obtain ⟨j53, hj54, hr⟩ := bind_some hr
              refine gk_join (fun t I' L' => I46 ≤ I' ∧ L = L' ∧ Knows 93 [(5, .int .i64 j53)] t) ?_ ?_
              · refine gk_cond (b := j42) (by kernel_rfl) (by kernel_rfl) (fun hc58 => ?_) (fun hc58 => ?_)
                · have hj54 := cond_t hc58 hj54
                  refine gk_seq (by kernel_rfl) ?_
                  refine gk_region (by kernel_rfl) ?_
                  refine gl_pure 3 [0, 5, 7] (K' := [(0, .string a0), (5, .int .i64 j33), (7, .int .i64 (IntKind.wrap .i64 (j33 + 1)))]) (by kernel_rfl) ?_
                  refine gl_atE (by kernel_rfl) ?_
                  refine ge_seq ?_
                  refine gk_seq (by kernel_rfl) ?_
                  refine gk_seq (by kernel_rfl) ?_
                  obtain ⟨j59, hj60, hj54⟩ := bind_some hj54
                  refine gk_join (fun t I' L' => I46 ≤ I' ∧ L = L' ∧ Knows 93 [(0, .string a0), (5, .int .i64 j33), (7, .int .i64 (IntKind.wrap .i64 (j33 + 1))), (81, .bool j59)] t) ?_ ?_
                  · refine gk_region (by kernel_rfl) ?_
                    refine gl_pure 5 [0, 5, 7, 70] (K' := [(0, .string a0), (5, .int .i64 j33), (7, .int .i64 (IntKind.wrap .i64 (j33 + 1))), (70, .bool (decide ((IntKind.wrap .i64 (j33 + 1)) < (a0.size : Int))))]) (by kernel_rfl) ?_
                    refine gl_case 70 (b := (decide ((IntKind.wrap .i64 (j33 + 1)) < (a0.size : Int)))) (by kernel_rfl) (fun hc64 => ?_) (fun hc64 => ?_)
                    · have hj60 := cond_t hc64 hj60
                      refine gl_pure 2 [0, 5, 7, 70, 71, 72] (K' := [(0, .string a0), (5, .int .i64 j33), (7, .int .i64 (IntKind.wrap .i64 (j33 + 1))), (70, .bool true), (71, .string a0), (72, .int .i64 (IntKind.wrap .i64 (j33 + 1)))]) (by kernel_rfl) ?_
                      obtain ⟨c65, hx66, hj60⟩ := bind_some hj60
                      refine gl_index' (T' := 9) (xs := (.tmp 71)) (xi := (.tmp 72)) (kd := .i64) hx66 (by kernel_rfl) (by kernel_rfl) (by kernel_rfl) (by kernel_rfl) (by kernel_rfl) ?_
                      refine gl_pure 2 [0, 5, 7, 70, 75] (K' := [(0, .string a0), (5, .int .i64 j33), (7, .int .i64 (IntKind.wrap .i64 (j33 + 1))), (70, .bool true), (75, .bool (c65 == 43))]) (by kernel_rfl) ?_
                      refine gl_case 75 (b := (c65 == 43)) (by kernel_rfl) (fun hc67 => ?_) (fun hc67 => ?_)
                      · have hj60 := cond_t hc67 hj60
                        refine gl_pure 6 [0, 5, 7, 81] (K' := [(0, .string a0), (5, .int .i64 j33), (7, .int .i64 (IntKind.wrap .i64 (j33 + 1))), (81, .bool true)]) (by kernel_rfl) ?_
                        refine gl_atE (by kernel_rfl) ?_
                        obtain rfl := some_inj hj60
                        exact ge_mid fun t ht => ⟨(Imm.refl _), rfl, ht.pick (l := [0, 5, 7, 81]) (by kernel_rfl)⟩
                      · have hj60 := cond_f hc67 hj60
                        refine gl_pure 2 [0, 5, 7, 70, 75, 76, 77] (K' := [(0, .string a0), (5, .int .i64 j33), (7, .int .i64 (IntKind.wrap .i64 (j33 + 1))), (70, .bool true), (75, .bool false), (76, .string a0), (77, .int .i64 (IntKind.wrap .i64 (j33 + 1)))]) (by kernel_rfl) ?_
                        obtain ⟨c68, hx69, hj60⟩ := bind_some hj60
                        refine gl_index' (T' := 9) (xs := (.tmp 76)) (xi := (.tmp 77)) (kd := .i64) hx69 (by kernel_rfl) (by kernel_rfl) (by kernel_rfl) (by kernel_rfl) (by kernel_rfl) ?_
                        refine gl_pure 3 [0, 5, 7, 81] (K' := [(0, .string a0), (5, .int .i64 j33), (7, .int .i64 (IntKind.wrap .i64 (j33 + 1))), (81, .bool (c68 == 45))]) (by kernel_rfl) ?_
                        refine gl_atE (by kernel_rfl) ?_
                        obtain rfl := some_inj hj60
                        exact ge_mid fun t ht => ⟨(Imm.refl _), rfl, ht.pick (l := [0, 5, 7, 81]) (by kernel_rfl)⟩
                    · have hj60 := cond_f hc64 hj60
                      refine gl_pure 11 [0, 5, 7, 81] (K' := [(0, .string a0), (5, .int .i64 j33), (7, .int .i64 (IntKind.wrap .i64 (j33 + 1))), (81, .bool false)]) (by kernel_rfl) ?_
                      refine gl_atE (by kernel_rfl) ?_
                      obtain rfl := some_inj hj60
                      exact ge_mid fun t ht => ⟨(Imm.refl _), rfl, ht.pick (l := [0, 5, 7, 81]) (by kernel_rfl)⟩
                  · rintro t I63 L' ⟨hI61, rfl, hK62⟩
                    refine ge_at hK62 ?_
                    refine ge_seq ?_
                    obtain ⟨j70, hj71, hj54⟩ := bind_some hj54
                    refine gk_join (fun t I' L' => I63 ≤ I' ∧ L = L' ∧ Knows 93 [(0, .string a0), (5, .int .i64 j33), (7, .int .i64 j70)] t) ?_ ?_
                    · refine gk_cond (b := j59) (by kernel_rfl) (by kernel_rfl) (fun hc75 => ?_) (fun hc75 => ?_)
                      · have hj71 := cond_t hc75 hj71
                        refine gk_region (by kernel_rfl) ?_
                        refine gl_pure 3 [0, 5, 7] (K' := [(0, .string a0), (5, .int .i64 j33), (7, .int .i64 (IntKind.wrap .i64 ((IntKind.wrap .i64 (j33 + 1)) + 1)))]) (by kernel_rfl) ?_
                        refine gl_atE (by kernel_rfl) ?_
                        obtain rfl := some_inj hj71
                        exact ge_mid fun t ht => ⟨(Imm.refl _), rfl, ht.pick (l := [0, 5, 7]) (by kernel_rfl)⟩
                      · have hj71 := cond_f hc75 hj71
                        refine gk_skip (by kernel_rfl) ?_
                        obtain rfl := some_inj hj71
                        exact ge_mid fun t ht => ⟨(Imm.refl _), rfl, ht.pick (l := [0, 5, 7]) (by kernel_rfl)⟩
                    · rintro t I74 L' ⟨hI72, rfl, hK73⟩
                      refine ge_at hK73 ?_
                      refine ge_seq ?_
                      refine gk_seq (by kernel_rfl) ?_
                      refine gk_region (by kernel_rfl) ?_
                      refine gl_pure 2 [5, 7, 84, 85] (K' := [(5, .int .i64 j33), (7, .int .i64 j70), (84, .string a0), (85, .int .i64 j70)]) (by kernel_rfl) ?_
                      obtain ⟨y76, hx77, hj54⟩ := bind_some hj54
                      refine gl_callQ (by kernel_rfl) (lex_run_walk (r := y76) lex_digit_impl46 hx77 _) ?_
                      refine gl_pure 1 [5, 7, 8] (K' := [(5, .int .i64 j33), (7, .int .i64 j70), (8, .int .i64 y76)]) (by kernel_rfl) ?_
                      refine gl_atE (by kernel_rfl) ?_
                      refine ge_seq ?_
                      refine gk_seq (by kernel_rfl) ?_
                      refine gk_region (by kernel_rfl) ?_
                      refine gl_pure 2 [5, 7, 8, 88] (K' := [(5, .int .i64 j33), (7, .int .i64 j70), (8, .int .i64 y76), (88, .bool (decide (y76 > 0)))]) (by kernel_rfl) ?_
                      refine gl_atE (by kernel_rfl) ?_
                      refine ge_seq ?_
                      obtain ⟨j78, hj79, hj54⟩ := bind_some hj54
                      refine gk_join (fun t I' L' => I74 ≤ I' ∧ L = L' ∧ Knows 93 [(5, .int .i64 j78)] t) ?_ ?_
                      · refine gk_cond (b := (decide (y76 > 0))) (by kernel_rfl) (by kernel_rfl) (fun hc83 => ?_) (fun hc83 => ?_)
                        · have hj79 := cond_t hc83 hj79
                          refine gk_region (by kernel_rfl) ?_
                          refine gl_pure 4 [5] (K' := [(5, .int .i64 (IntKind.wrap .i64 (j70 + y76)))]) (by kernel_rfl) ?_
                          refine gl_atE (by kernel_rfl) ?_
                          obtain rfl := some_inj hj79
                          exact ge_mid fun t ht => ⟨(Imm.refl _), rfl, ht.pick (l := [5]) (by kernel_rfl)⟩
                        · have hj79 := cond_f hc83 hj79
                          refine gk_skip (by kernel_rfl) ?_
                          obtain rfl := some_inj hj79
                          exact ge_mid fun t ht => ⟨(Imm.refl _), rfl, ht.pick (l := [5]) (by kernel_rfl)⟩
                      · rintro t I82 L' ⟨hI80, rfl, hK81⟩
                        refine ge_at hK81 ?_
                        obtain rfl := some_inj hj54
                        exact ge_mid fun t ht => ⟨(Imm.trans (Imm.trans hI61 hI72) hI80), rfl, ht.pick (l := [5]) (by kernel_rfl)⟩
                · have hj54 := cond_f hc58 hj54
                  refine gk_skip (by kernel_rfl) ?_
                  obtain rfl := some_inj hj54
                  exact ge_mid fun t ht => ⟨(Imm.refl _), rfl, ht.pick (l := [5]) (by kernel_rfl)⟩
              · rintro t I57 L' ⟨hI55, rfl, hK56⟩
                refine ge_at hK56 ?_
                refine ge_seq ?_
                refine gk_seq (by kernel_rfl) ?_
                refine gk_region (by kernel_rfl) ?_
                refine gl_pure 2 [2] (K' := [(2, .int .i64 j53)]) (by kernel_rfl) ?_
                refine gl_atE (by kernel_rfl) ?_
                refine ge_seq ?_
                refine gk_ret (by kernel_rfl) ?_
                obtain rfl := some_inj hr
                exact ge_result trivial (ResOk.tmp (by kernel_rfl) ResOk.nil) (Imm.trans (Imm.trans (Imm.trans (Imm.trans (Imm.trans hI3 hI14) hI25) hI34) hI44) hI55) ⟨rfl, rfl⟩
/-! 52 lex_span_1  -/
noncomputable def lex_span_1 (a0 : Int) : Bool :=
  ((decide (a0 ≥ 97)) && (decide (a0 ≤ 122)))
theorem lex_span_1_walk {a0 : Int} {I : Imm} {r : Bool}  (hr : lex_span_1 a0 = r) (L : Own) :
    CallsTo Tryd.prog 52 #[.int .u8 a0] I L (fun v I' L' => v = .bool r ∧ L = L') := by
  replace hr : some (lex_span_1 a0) = some r := congrArg some hr
  unfold lex_span_1 at hr
  refine callsTo_body (N := 9) Tryd.func52 (by kernel_rfl) (by kernel_rfl) (by kernel_rfl) ?_
  refine gk_pick [0] (K' := [(0, .int .u8 a0)]) (by kernel_rfl) ?_
  refine gk_seq (by kernel_rfl) ?_
  refine gk_region (by kernel_rfl) ?_
  refine gl_pure 1 [0] (K' := [(0, .int .u8 a0)]) (by kernel_rfl) ?_
  refine gl_atE (by kernel_rfl) ?_
  refine ge_seq ?_
  refine gk_seq (by kernel_rfl) ?_
  obtain ⟨b3, hb4⟩ : ∃ z, z = ((decide (a0 ≥ 97)) && (decide (a0 ≤ 122))) := ⟨_, rfl⟩
  refine gk_join (fun t I' L' => I ≤ I' ∧ L = L' ∧ Knows 9 [(2, .bool b3)] t) ?_ ?_
  · refine gk_region (by kernel_rfl) ?_
    refine gl_pure 3 [0, 5] (K' := [(0, .int .u8 a0), (5, .bool (decide (a0 ≥ 97)))]) (by kernel_rfl) ?_
    refine gl_case 5 (b := (decide (a0 ≥ 97))) (by kernel_rfl) (fun hc6 => ?_) (fun hc6 => ?_)
    · refine gl_pure 4 [2] (K' := [(2, .bool (decide (a0 ≤ 122)))]) (by kernel_rfl) ?_
      refine gl_atE (by kernel_rfl) ?_
      exact ge_mid fun t ht => ⟨(Imm.refl _), rfl, by rw [(show b3 = (decide (a0 ≤ 122)) from hb4.trans (by rw [hc6]; try rfl))]; exact ht.pick (l := [2]) (by kernel_rfl)⟩
    · refine gl_pure 4 [2] (K' := [(2, .bool false)]) (by kernel_rfl) ?_
      refine gl_atE (by kernel_rfl) ?_
      exact ge_mid fun t ht => ⟨(Imm.refl _), rfl, by rw [(show b3 = false from hb4.trans (by rw [hc6]; try rfl))]; exact ht.pick (l := [2]) (by kernel_rfl)⟩
  · rintro t I5 L' ⟨hI1, rfl, hK2⟩
    subst hb4
    refine ge_at hK2 ?_
    refine ge_seq ?_
    refine gk_ret (by kernel_rfl) ?_
    obtain rfl := some_inj hr
    exact ge_result trivial (ResOk.tmp (by kernel_rfl) ResOk.nil) hI1 ⟨rfl, rfl⟩
structure S62 where
  f0 : ByteArray
  f1 : Int
def kS62 : Kd S62 := Kd.iso (Kd.pair Kd.str (Kd.int .i64)) (fun x => (x.f0, x.f1))
def wS62 (x : S62) (n : Nat) : Prop := ∃ n0 n1, n0 + n1 + 1 ≤ n ∧ wStr x.f0 n0 ∧ (wInt .i64) x.f1 n1
theorem kS62_open {I : Imm} {x : S62} {cs : List Value} (h : kS62.R I x cs) : cs = [.string x.f0, .int .i64 x.f1] := by
  obtain ⟨_, _, rfl, h_0, h_1⟩ := h
  obtain rfl := h_0
  obtain rfl := h_1
  exact rfl
theorem kS62_mk {I : Imm} {x : S62}   : kS62.R I x [.string x.f0, .int .i64 x.f1] :=
  ⟨[.string x.f0], [.int .i64 x.f1], rfl, rfl, rfl⟩
/-! 32 lex_units  -/
noncomputable def lex_units : (List S62) :=
  [(⟨(⟨#[121]⟩ : ByteArray), 31536000000⟩ : S62), (⟨(⟨#[119]⟩ : ByteArray), 604800000⟩ : S62), (⟨(⟨#[100]⟩ : ByteArray), 86400000⟩ : S62), (⟨(⟨#[104]⟩ : ByteArray), 3600000⟩ : S62), (⟨(⟨#[109]⟩ : ByteArray), 60000⟩ : S62), (⟨(⟨#[115]⟩ : ByteArray), 1000⟩ : S62), (⟨(⟨#[109, 115]⟩ : ByteArray), 1⟩ : S62)]
theorem lex_units_walk  {I : Imm} {r : (List S62)}  (hr : lex_units = r) (L : Own) :
    CallsTo Tryd.prog 32 #[] I L (fun v I' L' => ∃ A0 c0 C0, OwnS kS62 63 I' A0 c0 r C0 ∧ v = .slice A0 r.length c0 ∧ C0 ++ L = L') := by
  replace hr : some (lex_units) = some r := congrArg some hr
  unfold lex_units at hr
  refine callsTo_body (N := 9) Tryd.func32 (by kernel_rfl) (by kernel_rfl) (by kernel_rfl) ?_
  refine gk_pick [] (K' := []) (by kernel_rfl) ?_
  refine gk_seq (by kernel_rfl) ?_
  refine gk_region (by kernel_rfl) ?_
  refine gl_pure 1 [] (K' := []) (by kernel_rfl) ?_
  refine gl_atE (by kernel_rfl) ?_
  refine ge_seq ?_
  refine gk_seq (by kernel_rfl) ?_
  refine gk_region (by kernel_rfl) ?_
  refine gl_pure 7 [1, 2, 3, 4, 5, 6, 7] (K' := [(1, .agg #[.string (⟨#[121]⟩ : ByteArray), .int .i64 31536000000]), (2, .agg #[.string (⟨#[119]⟩ : ByteArray), .int .i64 604800000]), (3, .agg #[.string (⟨#[100]⟩ : ByteArray), .int .i64 86400000]), (4, .agg #[.string (⟨#[104]⟩ : ByteArray), .int .i64 3600000]), (5, .agg #[.string (⟨#[109]⟩ : ByteArray), .int .i64 60000]), (6, .agg #[.string (⟨#[115]⟩ : ByteArray), .int .i64 1000]), (7, .agg #[.string (⟨#[109, 115]⟩ : ByteArray), .int .i64 1])]) (by kernel_rfl) ?_
  refine gl_buildSlice (T' := 60) (e := 63) (n := 2) (len := 7) (parts := #[(0, (.tmp 1)), (1, (.tmp 2)), (2, (.tmp 3)), (3, (.tmp 4)), (4, (.tmp 5)), (5, (.tmp 6)), (6, (.tmp 7))]) (l := [(0, .agg #[.string (⟨#[121]⟩ : ByteArray), .int .i64 31536000000]), (1, .agg #[.string (⟨#[119]⟩ : ByteArray), .int .i64 604800000]), (2, .agg #[.string (⟨#[100]⟩ : ByteArray), .int .i64 86400000]), (3, .agg #[.string (⟨#[104]⟩ : ByteArray), .int .i64 3600000]), (4, .agg #[.string (⟨#[109]⟩ : ByteArray), .int .i64 60000]), (5, .agg #[.string (⟨#[115]⟩ : ByteArray), .int .i64 1000]), (6, .agg #[.string (⟨#[109, 115]⟩ : ByteArray), .int .i64 1])]) (cs := #[.string (⟨#[121]⟩ : ByteArray), .int .i64 31536000000, .string (⟨#[119]⟩ : ByteArray), .int .i64 604800000, .string (⟨#[100]⟩ : ByteArray), .int .i64 86400000, .string (⟨#[104]⟩ : ByteArray), .int .i64 3600000, .string (⟨#[109]⟩ : ByteArray), .int .i64 60000, .string (⟨#[115]⟩ : ByteArray), .int .i64 1000, .string (⟨#[109, 115]⟩ : ByteArray), .int .i64 1]) (by kernel_rfl) (by kernel_rfl) (by kernel_rfl) (by kernel_rfl) (by kernel_rfl) (fun g1 => ?_)
  have hO2 : OwnS kS62 63 I (some ⟨g1, 0, none⟩) 7 [(⟨(⟨#[121]⟩ : ByteArray), 31536000000⟩ : S62), (⟨(⟨#[119]⟩ : ByteArray), 604800000⟩ : S62), (⟨(⟨#[100]⟩ : ByteArray), 86400000⟩ : S62), (⟨(⟨#[104]⟩ : ByteArray), 3600000⟩ : S62), (⟨(⟨#[109]⟩ : ByteArray), 60000⟩ : S62), (⟨(⟨#[115]⟩ : ByteArray), 1000⟩ : S62), (⟨(⟨#[109, 115]⟩ : ByteArray), 1⟩ : S62)] [(g1, .cells #[.string (⟨#[121]⟩ : ByteArray), .int .i64 31536000000, .string (⟨#[119]⟩ : ByteArray), .int .i64 604800000, .string (⟨#[100]⟩ : ByteArray), .int .i64 86400000, .string (⟨#[104]⟩ : ByteArray), .int .i64 3600000, .string (⟨#[109]⟩ : ByteArray), .int .i64 60000, .string (⟨#[115]⟩ : ByteArray), .int .i64 1000, .string (⟨#[109, 115]⟩ : ByteArray), .int .i64 1] 63)] := OwnS.lit (row_cons (l := [.string (⟨#[121]⟩ : ByteArray), .int .i64 31536000000]) (kS62_mk (x := (⟨(⟨#[121]⟩ : ByteArray), 31536000000⟩ : S62)) ) (row_cons (l := [.string (⟨#[119]⟩ : ByteArray), .int .i64 604800000]) (kS62_mk (x := (⟨(⟨#[119]⟩ : ByteArray), 604800000⟩ : S62)) ) (row_cons (l := [.string (⟨#[100]⟩ : ByteArray), .int .i64 86400000]) (kS62_mk (x := (⟨(⟨#[100]⟩ : ByteArray), 86400000⟩ : S62)) ) (row_cons (l := [.string (⟨#[104]⟩ : ByteArray), .int .i64 3600000]) (kS62_mk (x := (⟨(⟨#[104]⟩ : ByteArray), 3600000⟩ : S62)) ) (row_cons (l := [.string (⟨#[109]⟩ : ByteArray), .int .i64 60000]) (kS62_mk (x := (⟨(⟨#[109]⟩ : ByteArray), 60000⟩ : S62)) ) (row_cons (l := [.string (⟨#[115]⟩ : ByteArray), .int .i64 1000]) (kS62_mk (x := (⟨(⟨#[115]⟩ : ByteArray), 1000⟩ : S62)) ) (row_cons (l := [.string (⟨#[109, 115]⟩ : ByteArray), .int .i64 1]) (kS62_mk (x := (⟨(⟨#[109, 115]⟩ : ByteArray), 1⟩ : S62)) ) (row_nil _ _)))))))) rfl rfl rfl
  refine gl_reord (D := [(g1, .cells #[.string (⟨#[121]⟩ : ByteArray), .int .i64 31536000000, .string (⟨#[119]⟩ : ByteArray), .int .i64 604800000, .string (⟨#[100]⟩ : ByteArray), .int .i64 86400000, .string (⟨#[104]⟩ : ByteArray), .int .i64 3600000, .string (⟨#[109]⟩ : ByteArray), .int .i64 60000, .string (⟨#[115]⟩ : ByteArray), .int .i64 1000, .string (⟨#[109, 115]⟩ : ByteArray), .int .i64 1] 63)] ++ L) (Reord.refl _) ?_
  refine gl_pure 1 [0] (K' := [(0, .slice (some ⟨g1, 0, none⟩) [(⟨(⟨#[121]⟩ : ByteArray), 31536000000⟩ : S62), (⟨(⟨#[119]⟩ : ByteArray), 604800000⟩ : S62), (⟨(⟨#[100]⟩ : ByteArray), 86400000⟩ : S62), (⟨(⟨#[104]⟩ : ByteArray), 3600000⟩ : S62), (⟨(⟨#[109]⟩ : ByteArray), 60000⟩ : S62), (⟨(⟨#[115]⟩ : ByteArray), 1000⟩ : S62), (⟨(⟨#[109, 115]⟩ : ByteArray), 1⟩ : S62)].length 7)]) (by kernel_rfl) ?_
  refine gl_atE (by kernel_rfl) ?_
  refine ge_seq ?_
  refine gk_ret (by kernel_rfl) ?_
  obtain rfl := some_inj hr
  exact ge_result trivial (ResOk.tmp (by kernel_rfl) ResOk.nil) (Imm.refl _) ⟨(some ⟨g1, 0, none⟩), 7, [(g1, .cells #[.string (⟨#[121]⟩ : ByteArray), .int .i64 31536000000, .string (⟨#[119]⟩ : ByteArray), .int .i64 604800000, .string (⟨#[100]⟩ : ByteArray), .int .i64 86400000, .string (⟨#[104]⟩ : ByteArray), .int .i64 3600000, .string (⟨#[109]⟩ : ByteArray), .int .i64 60000, .string (⟨#[115]⟩ : ByteArray), .int .i64 1000, .string (⟨#[109, 115]⟩ : ByteArray), .int .i64 1] 63)], hO2, rfl, rfl⟩
/-! 53 lex_times  -/
noncomputable def lex_times_l16 (a0 : ByteArray) : (Int × Int) → Option ((Int × Int) ⊕ (Int)) := fun s7 =>
  bif (decide (s7.2 < (a0.size : Int))) then
  (Option.bind (bx a0 s7.2) fun (c19 : Int) =>
    some (Sum.inl ((if 1099511627777 < (IntKind.wrap .i64 ((IntKind.wrap .i64 (s7.1 * 10)) + (IntKind.wrap .i64 (IntKind.wrap .u8 (c19 - 48))))) then 1099511627777 else (IntKind.wrap .i64 ((IntKind.wrap .i64 (s7.1 * 10)) + (IntKind.wrap .i64 (IntKind.wrap .u8 (c19 - 48)))))), (IntKind.wrap .i64 (s7.2 + 1)))))
  else
  (some (Sum.inr s7.1))
noncomputable def lex_times (a0 : ByteArray) (a1 : Int) : Option Int :=
  Option.bind (loopO (lex_times_l16 a0) (0, 0)) fun (r5 : Int) =>
  Option.bind (quox .i64 1099511627776 a1) fun (q21 : Int) =>
  bif (decide (r5 > (IntKind.wrap .i64 (q21 + 1)))) then
  (some 1099511627777)
  else
  (some (if 1099511627777 < (IntKind.wrap .i64 (r5 * a1)) then 1099511627777 else (IntKind.wrap .i64 (r5 * a1))))
theorem lex_times_walk {a0 : ByteArray} {a1 : Int} {I : Imm} {r : Int}  (hr : lex_times a0 a1 = some r) (L : Own) :
    CallsTo Tryd.prog 53 #[.string a0, .int .i64 a1] I L (fun v I' L' => v = .int .i64 r ∧ L = L') := by
  unfold lex_times at hr
  refine callsTo_body (N := 31) Tryd.func53 (by kernel_rfl) (by kernel_rfl) (by kernel_rfl) ?_
  refine gk_pick [0, 1] (K' := [(0, .string a0), (1, .int .i64 a1)]) (by kernel_rfl) ?_
  refine gk_seq (by kernel_rfl) ?_
  refine gk_region (by kernel_rfl) ?_
  refine gl_pure 1 [0, 1] (K' := [(0, .string a0), (1, .int .i64 a1)]) (by kernel_rfl) ?_
  refine gl_atE (by kernel_rfl) ?_
  refine ge_seq ?_
  refine gk_seq (by kernel_rfl) ?_
  refine gk_region (by kernel_rfl) ?_
  refine gl_pure 1 [0, 1, 5] (K' := [(0, .string a0), (1, .int .i64 a1), (5, .int .i64 0)]) (by kernel_rfl) ?_
  refine gl_atE (by kernel_rfl) ?_
  refine ge_seq ?_
  refine gk_seq (by kernel_rfl) ?_
  refine gk_seq (by kernel_rfl) ?_
  refine gk_region (by kernel_rfl) ?_
  refine gl_pure 3 [0, 1, 5, 8, 9] (K' := [(0, .string a0), (1, .int .i64 a1), (5, .int .i64 0), (8, .int .i64 (a0.size : Int)), (9, .int .i64 0)]) (by kernel_rfl) ?_
  refine gl_atE (by kernel_rfl) ?_
  refine ge_seq ?_
  obtain ⟨r5, hl6, hr⟩ := bind_some hr
  refine gk_join (fun t I' L' => I ≤ I' ∧ L = L' ∧ Knows 31 [(1, .int .i64 a1), (5, .int .i64 r5)] t) ?_ ?_
  · refine gk_block (by kernel_rfl) ?_
    refine gk_pick [0, 1, 5, 8, 9] (K' := [(0, .string a0), (1, .int .i64 a1), (5, .int .i64 0), (8, .int .i64 (a0.size : Int)), (9, .int .i64 0)]) (by kernel_rfl) ?_
    intro t hK
    refine gc_loop (lex_times_l16 a0) (fun s7 t I' L' => I ≤ I' ∧ L = L' ∧ Knows 31 [(0, .string a0), (1, .int .i64 a1), (5, .int .i64 s7.1), (8, .int .i64 (a0.size : Int)), (9, .int .i64 s7.2)] t) (by kernel_rfl) ?_ hl6 ⟨(Imm.refl _), rfl, hK⟩
    rintro s7 o8 t I12 L' hb9 ⟨hI10, rfl, hK11⟩
    unfold lex_times_l16 at hb9
    refine gk_at hK11 ?_
    refine gk_seq (by kernel_rfl) ?_
    refine gk_region (by kernel_rfl) ?_
    refine gl_pure 1 [0, 1, 5, 8, 9, 10] (K' := [(0, .string a0), (1, .int .i64 a1), (5, .int .i64 s7.1), (8, .int .i64 (a0.size : Int)), (9, .int .i64 s7.2), (10, .bool (decide (s7.2 < (a0.size : Int))))]) (by kernel_rfl) ?_
    refine gl_atE (by kernel_rfl) ?_
    refine ge_seq ?_
    refine gk_seq (by kernel_rfl) ?_
    refine gk_cond (b := (decide (s7.2 < (a0.size : Int)))) (by kernel_rfl) (by kernel_rfl) (fun hc18 => ?_) (fun hc18 => ?_)
    · have hb9 := cond_t hc18 hb9
      refine gk_skip (by kernel_rfl) ?_
      refine ge_seq ?_
      refine gk_seq (by kernel_rfl) ?_
      refine gk_block (by kernel_rfl) ?_
      refine gk_seq (by kernel_rfl) ?_
      refine gk_region (by kernel_rfl) ?_
      refine gl_pure 2 [0, 1, 5, 6, 8, 9] (K' := [(0, .string a0), (1, .int .i64 a1), (5, .int .i64 s7.1), (6, .int .i64 s7.2), (8, .int .i64 (a0.size : Int)), (9, .int .i64 s7.2)]) (by kernel_rfl) ?_
      refine gl_atE (by kernel_rfl) ?_
      refine ge_seq ?_
      refine gk_region (by kernel_rfl) ?_
      refine gl_pure 4 [0, 1, 8, 9, 13, 14, 15] (K' := [(0, .string a0), (1, .int .i64 a1), (8, .int .i64 (a0.size : Int)), (9, .int .i64 s7.2), (13, .int .i64 (IntKind.wrap .i64 (s7.1 * 10))), (14, .string a0), (15, .int .i64 s7.2)]) (by kernel_rfl) ?_
      obtain ⟨c19, hx20, hb9⟩ := bind_some hb9
      refine gl_index' (T' := 9) (xs := (.tmp 14)) (xi := (.tmp 15)) (kd := .i64) hx20 (by kernel_rfl) (by kernel_rfl) (by kernel_rfl) (by kernel_rfl) (by kernel_rfl) ?_
      refine gl_pure 5 [0, 1, 5, 8, 9] (K' := [(0, .string a0), (1, .int .i64 a1), (5, .int .i64 (if 1099511627777 < (IntKind.wrap .i64 ((IntKind.wrap .i64 (s7.1 * 10)) + (IntKind.wrap .i64 (IntKind.wrap .u8 (c19 - 48))))) then 1099511627777 else (IntKind.wrap .i64 ((IntKind.wrap .i64 (s7.1 * 10)) + (IntKind.wrap .i64 (IntKind.wrap .u8 (c19 - 48))))))), (8, .int .i64 (a0.size : Int)), (9, .int .i64 s7.2)]) (by kernel_rfl) ?_
      refine gl_atE (by kernel_rfl) ?_
      refine ge_block_normal ?_
      refine ge_seq ?_
      refine gk_region (by kernel_rfl) ?_
      refine gl_pure 2 [0, 1, 5, 8, 9] (K' := [(0, .string a0), (1, .int .i64 a1), (5, .int .i64 (if 1099511627777 < (IntKind.wrap .i64 ((IntKind.wrap .i64 (s7.1 * 10)) + (IntKind.wrap .i64 (IntKind.wrap .u8 (c19 - 48))))) then 1099511627777 else (IntKind.wrap .i64 ((IntKind.wrap .i64 (s7.1 * 10)) + (IntKind.wrap .i64 (IntKind.wrap .u8 (c19 - 48))))))), (8, .int .i64 (a0.size : Int)), (9, .int .i64 (IntKind.wrap .i64 (s7.2 + 1)))]) (by kernel_rfl) ?_
      refine gl_atE (by kernel_rfl) ?_
      obtain rfl := some_inj hb9
      exact ge_round fun t ht => ⟨hI10, rfl, ht.pick (l := [0, 1, 5, 8, 9]) (by kernel_rfl)⟩
    · have hb9 := cond_f hc18 hb9
      refine gk_exit (by kernel_rfl) ?_
      refine ge_seq_exit ?_
      obtain rfl := some_inj hb9
      refine ge_round_out (fun hrr => ?_) (by intro h; cases h)
      obtain rfl := hrr
      refine ge_block_hit (by kernel_rfl) ?_
      exact ge_mid fun t ht => ⟨hI10, rfl, ht.pick (l := [1, 5]) (by kernel_rfl)⟩
  · rintro t I15 L' ⟨hI13, rfl, hK14⟩
    refine ge_at hK14 ?_
    refine ge_seq ?_
    refine gk_seq (by kernel_rfl) ?_
    refine gk_seq (by kernel_rfl) ?_
    refine gk_region (by kernel_rfl) ?_
    refine gl_pure 2 [1, 5, 22, 23] (K' := [(1, .int .i64 a1), (5, .int .i64 r5), (22, .int .i64 r5), (23, .int .i64 a1)]) (by kernel_rfl) ?_
    obtain ⟨q21, hx22, hr⟩ := bind_some hr
    refine gl_quo (t := 2) (t' := 2) (x := (.const (.int .i64 1099511627776))) (y := (.tmp 23)) (kx := .i64) hx22 (by kernel_rfl) (by kernel_rfl) (by kernel_rfl) (by kernel_rfl) ?_
    refine gl_pure 2 [1, 5, 26] (K' := [(1, .int .i64 a1), (5, .int .i64 r5), (26, .bool (decide (r5 > (IntKind.wrap .i64 (q21 + 1)))))]) (by kernel_rfl) ?_
    refine gl_atE (by kernel_rfl) ?_
    refine ge_seq ?_
    refine gk_cond (b := (decide (r5 > (IntKind.wrap .i64 (q21 + 1))))) (by kernel_rfl) (by kernel_rfl) (fun hc23 => ?_) (fun hc23 => ?_)
    · have hr := cond_t hc23 hr
      refine gk_seq (by kernel_rfl) ?_
      refine gk_region (by kernel_rfl) ?_
      refine gl_pure 1 [4] (K' := [(4, .int .i64 1099511627777)]) (by kernel_rfl) ?_
      refine gl_atE (by kernel_rfl) ?_
      refine ge_seq ?_
      refine gk_ret (by kernel_rfl) ?_
      refine ge_seq_ret ?_
      obtain rfl := some_inj hr
      exact ge_result trivial (ResOk.tmp (by kernel_rfl) ResOk.nil) hI13 ⟨rfl, rfl⟩
    · have hr := cond_f hc23 hr
      refine gk_skip (by kernel_rfl) ?_
      refine ge_seq ?_
      refine gk_seq (by kernel_rfl) ?_
      refine gk_region (by kernel_rfl) ?_
      refine gl_pure 5 [4] (K' := [(4, .int .i64 (if 1099511627777 < (IntKind.wrap .i64 (r5 * a1)) then 1099511627777 else (IntKind.wrap .i64 (r5 * a1))))]) (by kernel_rfl) ?_
      refine gl_atE (by kernel_rfl) ?_
      refine ge_seq ?_
      refine gk_ret (by kernel_rfl) ?_
      obtain rfl := some_inj hr
      exact ge_result trivial (ResOk.tmp (by kernel_rfl) ResOk.nil) hI13 ⟨rfl, rfl⟩
theorem lex_span_1_impl46  {I : Imm}  : Fn46 I (.func (.func 52) #[] #[]) (fun x0 => some (lex_span_1 x0)) := ⟨fun I' hI x0 r hr  L => ⟨52, #[], #[], rfl, ⟨_, Tryd.func52, by kernel_rfl, by kernel_rfl⟩, by
  simp only [List.append_toArray, List.nil_append, List.append_nil, Array.append_empty, Array.empty_append, List.push_append_toArray, List.cons_append]
  exact lex_span_1_walk    (some_inj hr) L⟩⟩
/-! 34 lex_span  -/
noncomputable def lex_span_l46 (a0 : ByteArray) (s7 : Int × Int × Int) (y18 : Int) (y21 : Int) : Int → Option ((Int) ⊕ ((Unit) ⊕ ((Int × Int × Int) ⊕ (Int × Int)))) := fun s36 =>
  bif (decide (s36 < (lex_units.length : Int))) then
  (Option.bind (ix lex_units s36) fun (x49 : S62) =>
    Option.bind (bif (decide (s36 ≥ s7.2.1)) then
      (Option.bind (sx a0 (IntKind.wrap .i64 (s7.1 + y18)) (IntKind.wrap .i64 (s7.1 + (IntKind.wrap .i64 (y18 + y21))))) fun (s66 : ByteArray) =>
        some (s66.toList == x49.f0.toList))
      else
      (some false)) fun (j59 : Bool) =>
    bif j59 then
    (Option.bind (sx a0 s7.1 (IntKind.wrap .i64 (s7.1 + y18))) fun (s69 : ByteArray) =>
      Option.bind (lex_times s69 x49.f1) fun (y70 : Int) =>
      some (Sum.inr (Sum.inr (Sum.inl ((IntKind.wrap .i64 (s7.1 + (IntKind.wrap .i64 (y18 + y21)))), (IntKind.wrap .i64 (s36 + 1)), (if 1099511627777 < (IntKind.wrap .i64 (s7.2.2 + y70)) then 1099511627777 else (IntKind.wrap .i64 (s7.2.2 + y70))))))))
    else
    (some (Sum.inl (IntKind.wrap .i64 (s36 + 1)))))
  else
  (some (Sum.inr (Sum.inl ())))
noncomputable def lex_span_l16 (a0 : ByteArray) : (Int × Int × Int) → Option ((Int × Int × Int) ⊕ (Int × Int)) := fun s7 =>
  Option.bind (lex_run a0 s7.1 (fun x0 => some (lex_digit x0))) fun (y18 : Int) =>
  bif (y18 == 0) then
  (some (Sum.inr (s7.1, s7.2.2)))
  else
  (Option.bind (lex_run a0 (IntKind.wrap .i64 (s7.1 + y18)) (fun x0 => some (lex_span_1 x0))) fun (y21 : Int) =>
    Option.bind (loopO (lex_span_l46 a0 s7 y18 y21) 0) fun (r34 : (Unit) ⊕ ((Int × Int × Int) ⊕ (Int × Int))) =>
    match r34 with
    | Sum.inl r42 => some (Sum.inr (s7.1, s7.2.2))
    | Sum.inr v72 => some v72)
noncomputable def lex_span (a0 : ByteArray) : Option (Int × Int) :=
  Option.bind (loopO (lex_span_l16 a0) (0, 0, 0)) fun (r5 : Int × Int) =>
  some (r5.1, r5.2)
theorem lex_span_walk {a0 : ByteArray} {I : Imm} {r : Int × Int}  (hr : lex_span a0 = some r) (L : Own) :
    CallsTo Tryd.prog 34 #[.string a0] I L (fun v I' L' => v = .tuple #[.int .i64 r.1, .int .i64 r.2] ∧ L = L') := by
  unfold lex_span at hr
  refine callsTo_body (N := 66) Tryd.func34 (by kernel_rfl) (by kernel_rfl) (by kernel_rfl) ?_
  refine gk_pick [0] (K' := [(0, .string a0)]) (by kernel_rfl) ?_
  refine gk_seq (by kernel_rfl) ?_
  refine gk_region (by kernel_rfl) ?_
  refine gl_pure 2 [0] (K' := [(0, .string a0)]) (by kernel_rfl) ?_
  refine gl_atE (by kernel_rfl) ?_
  refine ge_seq ?_
  refine gk_scope (by kernel_rfl) ?_
  refine gk_seq (by kernel_rfl) ?_
  refine gk_region (by kernel_rfl) ?_
  refine gl_pure 3 [0, 4, 5, 6] (K' := [(0, .string a0), (4, .int .i64 0), (5, .int .i64 0), (6, .int .i64 0)]) (by kernel_rfl) ?_
  refine gl_atE (by kernel_rfl) ?_
  refine ge_seq ?_
  refine gk_seq (by kernel_rfl) ?_
  refine gk_label (by kernel_rfl) ?_
  refine ge_seq ?_
  refine gk_seq (by kernel_rfl) ?_
  obtain ⟨r5, hl6, hr⟩ := bind_some hr
  refine gk_join (fun t I' L' => I ≤ I' ∧ L = L' ∧ Knows 66 [(4, .int .i64 r5.1), (6, .int .i64 r5.2)] t) ?_ ?_
  · refine gk_block (by kernel_rfl) ?_
    refine gk_pick [0, 4, 5, 6] (K' := [(0, .string a0), (4, .int .i64 0), (5, .int .i64 0), (6, .int .i64 0)]) (by kernel_rfl) ?_
    intro t hK
    refine gc_loop (lex_span_l16 a0) (fun s7 t I' L' => I ≤ I' ∧ L = L' ∧ Knows 66 [(0, .string a0), (4, .int .i64 s7.1), (5, .int .i64 s7.2.1), (6, .int .i64 s7.2.2)] t) (by kernel_rfl) ?_ hl6 ⟨(Imm.refl _), rfl, hK⟩
    rintro s7 o8 t I12 L' hb9 ⟨hI10, rfl, hK11⟩
    unfold lex_span_l16 at hb9
    refine gk_at hK11 ?_
    refine gk_block (by kernel_rfl) ?_
    refine gk_seq (by kernel_rfl) ?_
    refine gk_region (by kernel_rfl) ?_
    refine gl_pure 2 [0, 4, 5, 6, 11, 12] (K' := [(0, .string a0), (4, .int .i64 s7.1), (5, .int .i64 s7.2.1), (6, .int .i64 s7.2.2), (11, .string a0), (12, .int .i64 s7.1)]) (by kernel_rfl) ?_
    obtain ⟨y18, hx19, hb9⟩ := bind_some hb9
    refine gl_callQ (by kernel_rfl) (lex_run_walk (r := y18) lex_digit_impl46 hx19 _) ?_
    refine gl_pure 1 [0, 4, 5, 6, 7] (K' := [(0, .string a0), (4, .int .i64 s7.1), (5, .int .i64 s7.2.1), (6, .int .i64 s7.2.2), (7, .int .i64 y18)]) (by kernel_rfl) ?_
    refine gl_atE (by kernel_rfl) ?_
    refine ge_seq ?_
    refine gk_seq (by kernel_rfl) ?_
    refine gk_seq (by kernel_rfl) ?_
    refine gk_region (by kernel_rfl) ?_
    refine gl_pure 2 [0, 4, 5, 6, 7, 15] (K' := [(0, .string a0), (4, .int .i64 s7.1), (5, .int .i64 s7.2.1), (6, .int .i64 s7.2.2), (7, .int .i64 y18), (15, .bool (y18 == 0))]) (by kernel_rfl) ?_
    refine gl_atE (by kernel_rfl) ?_
    refine ge_seq ?_
    refine gk_cond (b := (y18 == 0)) (by kernel_rfl) (by kernel_rfl) (fun hc20 => ?_) (fun hc20 => ?_)
    · have hb9 := cond_t hc20 hb9
      refine gk_exit (by kernel_rfl) ?_
      refine ge_seq_exit ?_
      refine ge_block_miss (by kernel_rfl) ?_
      obtain rfl := some_inj hb9
      refine ge_round_out (fun hrr => ?_) (by intro h; cases h)
      obtain rfl := hrr
      refine ge_block_hit (by kernel_rfl) ?_
      exact ge_mid fun t ht => ⟨hI10, rfl, ht.pick (l := [4, 6]) (by kernel_rfl)⟩
    · have hb9 := cond_f hc20 hb9
      refine gk_skip (by kernel_rfl) ?_
      refine ge_seq ?_
      refine gk_seq (by kernel_rfl) ?_
      refine gk_region (by kernel_rfl) ?_
      refine gl_pure 5 [0, 4, 5, 6, 7, 16, 17, 20] (K' := [(0, .string a0), (4, .int .i64 s7.1), (5, .int .i64 s7.2.1), (6, .int .i64 s7.2.2), (7, .int .i64 y18), (16, .int .i64 y18), (17, .string a0), (20, .int .i64 (IntKind.wrap .i64 (s7.1 + y18)))]) (by kernel_rfl) ?_
      obtain ⟨y21, hx22, hb9⟩ := bind_some hb9
      refine gl_callQ (by kernel_rfl) (lex_run_walk (r := y21) lex_span_1_impl46 hx22 _) ?_
      refine gl_pure 2 [0, 4, 5, 6, 7, 8] (K' := [(0, .string a0), (4, .int .i64 s7.1), (5, .int .i64 s7.2.1), (6, .int .i64 s7.2.2), (7, .int .i64 y18), (8, .int .i64 (IntKind.wrap .i64 (y18 + y21)))]) (by kernel_rfl) ?_
      refine gl_atE (by kernel_rfl) ?_
      refine ge_seq ?_
      refine gk_seq (by kernel_rfl) ?_
      refine gk_seq (by kernel_rfl) ?_
      refine gk_region (by kernel_rfl) ?_
      refine gl_call (by kernel_rfl) (lex_units_walk (r := lex_units)  rfl _) ?_
      rintro v I23 L24 hI25 ⟨A26, c27, C28, hO29, rfl, rfl⟩
      refine gl_pure 2 [0, 4, 5, 6, 7, 8, 23, 24, 25] (K' := [(0, .string a0), (4, .int .i64 s7.1), (5, .int .i64 s7.2.1), (6, .int .i64 s7.2.2), (7, .int .i64 y18), (8, .int .i64 (IntKind.wrap .i64 (y18 + y21))), (23, .slice A26 lex_units.length c27), (24, .int .i64 (lex_units.length : Int)), (25, .int .i64 0)]) (by kernel_rfl) ?_
      refine gl_atE (by kernel_rfl) ?_
      refine ge_seq ?_
      obtain ⟨r34, hl35, hb9⟩ := bind_some hb9
      refine gk_join (fun t I' L' => ∃ r42, r34 = Sum.inl r42 ∧ I23 ≤ I' ∧ L = L' ∧ Knows 66 [(4, .int .i64 s7.1), (6, .int .i64 s7.2.2)] t) ?_ ?_
      · refine gk_block (by kernel_rfl) ?_
        refine gk_pick [0, 4, 5, 6, 7, 8, 23, 24, 25] (K' := [(0, .string a0), (4, .int .i64 s7.1), (5, .int .i64 s7.2.1), (6, .int .i64 s7.2.2), (7, .int .i64 y18), (8, .int .i64 (IntKind.wrap .i64 (y18 + y21))), (23, .slice A26 lex_units.length c27), (24, .int .i64 (lex_units.length : Int)), (25, .int .i64 0)]) (by kernel_rfl) ?_
        intro t hK
        refine gc_loop (lex_span_l46 a0 s7 y18 y21) (fun s36 t I' L' => I23 ≤ I' ∧ C28 ++ L = L' ∧ Knows 66 [(0, .string a0), (4, .int .i64 s7.1), (5, .int .i64 s7.2.1), (6, .int .i64 s7.2.2), (7, .int .i64 y18), (8, .int .i64 (IntKind.wrap .i64 (y18 + y21))), (23, .slice A26 lex_units.length c27), (24, .int .i64 (lex_units.length : Int)), (25, .int .i64 s36)] t) (by kernel_rfl) ?_ hl35 ⟨(Imm.refl _), rfl, hK⟩
        rintro s36 o37 t I41 L' hb38 ⟨hI39, rfl, hK40⟩
        unfold lex_span_l46 at hb38
        refine gk_at hK40 ?_
        refine gk_seq (by kernel_rfl) ?_
        refine gk_region (by kernel_rfl) ?_
        refine gl_pure 1 [0, 4, 5, 6, 7, 8, 23, 24, 25, 26] (K' := [(0, .string a0), (4, .int .i64 s7.1), (5, .int .i64 s7.2.1), (6, .int .i64 s7.2.2), (7, .int .i64 y18), (8, .int .i64 (IntKind.wrap .i64 (y18 + y21))), (23, .slice A26 lex_units.length c27), (24, .int .i64 (lex_units.length : Int)), (25, .int .i64 s36), (26, .bool (decide (s36 < (lex_units.length : Int))))]) (by kernel_rfl) ?_
        refine gl_atE (by kernel_rfl) ?_
        refine ge_seq ?_
        refine gk_seq (by kernel_rfl) ?_
        refine gk_cond (b := (decide (s36 < (lex_units.length : Int)))) (by kernel_rfl) (by kernel_rfl) (fun hc48 => ?_) (fun hc48 => ?_)
        · have hb38 := cond_t hc48 hb38
          refine gk_skip (by kernel_rfl) ?_
          refine ge_seq ?_
          refine gk_seq (by kernel_rfl) ?_
          refine gk_block (by kernel_rfl) ?_
          refine gk_seq (by kernel_rfl) ?_
          refine gk_region (by kernel_rfl) ?_
          refine gl_pure 1 [0, 4, 5, 6, 7, 8, 23, 24, 25, 27] (K' := [(0, .string a0), (4, .int .i64 s7.1), (5, .int .i64 s7.2.1), (6, .int .i64 s7.2.2), (7, .int .i64 y18), (8, .int .i64 (IntKind.wrap .i64 (y18 + y21))), (23, .slice A26 lex_units.length c27), (24, .int .i64 (lex_units.length : Int)), (25, .int .i64 s36), (27, .int .i64 s36)]) (by kernel_rfl) ?_
          obtain ⟨x49, hx50, hb38⟩ := bind_some hb38
          refine gl_indexAddrW (d := kS62) (c := c27) (T' := 60) (e := 63) (xs := (.tmp 23)) (xi := (.tmp 25)) (kd := .i64) hx50 (hO29.mono hI39) (Upd.selfC _ _) (by kernel_rfl) (by kernel_rfl) (by kernel_rfl) (by kernel_rfl) (by kernel_rfl) (fun p51 cs52 hR53 hA54 hp57 => ?_)
          obtain rfl := kS62_open hR53
          refine gl_loadOA (T' := 63) (xp := (.tmp 28)) (p := p51) (cs := [.string x49.f0, .int .i64 x49.f1]) (by kernel_rfl) (by kernel_rfl) (by kernel_rfl) (by kernel_rfl) (hA54.take 2) ?_
          refine gl_alloc (T' := 63) (cs := #[.string (⟨#[]⟩ : ByteArray), .int .i64 0]) (by kernel_rfl) (by kernel_rfl) (by kernel_rfl) (fun g58 => ?_)
          refine gl_pure 1 [0, 4, 5, 6, 7, 8, 9, 10, 23, 24, 25, 29] (K' := [(0, .string a0), (4, .int .i64 s7.1), (5, .int .i64 s7.2.1), (6, .int .i64 s7.2.2), (7, .int .i64 y18), (8, .int .i64 (IntKind.wrap .i64 (y18 + y21))), (9, .int .i64 s36), (10, .pointer (some ⟨g58, 0, none⟩)), (23, .slice A26 lex_units.length c27), (24, .int .i64 (lex_units.length : Int)), (25, .int .i64 s36), (29, .agg #[.string x49.f0, .int .i64 x49.f1])]) (by kernel_rfl) ?_
          refine gl_storeB (T' := 63) (xp := (.tmp 10)) (xv := (.tmp 29)) (v := .agg #[.string x49.f0, .int .i64 x49.f1]) (g := g58) (off := 0) (cs := #[.string (⟨#[]⟩ : ByteArray), .int .i64 0]) (cs' := #[.string x49.f0, .int .i64 x49.f1]) (by kernel_rfl) (by kernel_rfl) (by kernel_rfl) (by kernel_rfl) (by kernel_rfl) (Upd.set _ _ _ _) ?_ (by kernel_rfl)
          refine gl_atE (by kernel_rfl) ?_
          refine ge_seq ?_
          refine gk_seq (by kernel_rfl) ?_
          obtain ⟨j59, hj60, hb38⟩ := bind_some hb38
          refine gk_join (fun t I' L' => I41 ≤ I' ∧ (g58, .cells #[.string x49.f0, .int .i64 x49.f1] 63) :: (C28 ++ L) = L' ∧ Knows 66 [(0, .string a0), (4, .int .i64 s7.1), (5, .int .i64 s7.2.1), (6, .int .i64 s7.2.2), (7, .int .i64 y18), (8, .int .i64 (IntKind.wrap .i64 (y18 + y21))), (9, .int .i64 s36), (10, .pointer (some ⟨g58, 0, none⟩)), (23, .slice A26 lex_units.length c27), (24, .int .i64 (lex_units.length : Int)), (25, .int .i64 s36), (45, .bool j59)] t) ?_ ?_
          · refine gk_draw 16 [(0, true), (1, true), (2, true), (3, true), (4, true), (5, true), (6, true), (7, true), (8, true), (9, true), (10, true), (11, true), (12, true), (13, true), (14, true), (15, true)] [(g58, .cells #[.string x49.f0, .int .i64 x49.f1] 63)] (List.forall_mem_cons.2 ⟨List.mem_cons_self, (fun p hp => by cases hp)⟩) (by kernel_rfl) (by kernel_rfl) (by kernel_rfl) ?_ (by kernel_rfl)
            refine gd_pure 4 [0, 4, 5, 6, 7, 8, 9, 10, 23, 24, 25, 33] (K' := [(0, .string a0), (4, .int .i64 s7.1), (5, .int .i64 s7.2.1), (6, .int .i64 s7.2.2), (7, .int .i64 y18), (8, .int .i64 (IntKind.wrap .i64 (y18 + y21))), (9, .int .i64 s36), (10, .pointer (some ⟨g58, 0, none⟩)), (23, .slice A26 lex_units.length c27), (24, .int .i64 (lex_units.length : Int)), (25, .int .i64 s36), (33, .bool (decide (s36 ≥ s7.2.1)))]) (s' := [(4, true), (5, true), (6, true), (7, true), (8, true), (9, true), (10, true), (11, true), (12, true), (13, true), (14, true), (15, true)]) (CC.refl (List.forall_mem_cons.2 ⟨List.mem_cons_self, (fun p hp => by cases hp)⟩)) (by kernel_rfl) ?_
            refine gd_case 33 (b := (decide (s36 ≥ s7.2.1))) (by kernel_rfl) (fun hc64 => ?_) (fun hc64 => ?_)
            · have hj60 := cond_t hc64 hj60
              refine gd_pure 7 [0, 4, 5, 6, 7, 8, 9, 10, 23, 24, 25, 33, 34, 37, 40] (K' := [(0, .string a0), (4, .int .i64 s7.1), (5, .int .i64 s7.2.1), (6, .int .i64 s7.2.2), (7, .int .i64 y18), (8, .int .i64 (IntKind.wrap .i64 (y18 + y21))), (9, .int .i64 s36), (10, .pointer (some ⟨g58, 0, none⟩)), (23, .slice A26 lex_units.length c27), (24, .int .i64 (lex_units.length : Int)), (25, .int .i64 s36), (33, .bool true), (34, .string a0), (37, .int .i64 (IntKind.wrap .i64 (s7.1 + y18))), (40, .int .i64 (IntKind.wrap .i64 (s7.1 + (IntKind.wrap .i64 (y18 + y21)))))]) (s' := [(11, true), (12, true), (13, true), (14, true), (15, true)]) (CC.refl (List.forall_mem_cons.2 ⟨List.mem_cons_self, (fun p hp => by cases hp)⟩)) (by kernel_rfl) ?_
              obtain ⟨s66, hx65, hj60⟩ := bind_some hj60
              refine gd_q (v := .string s66) (by kernel_rfl) (by kernel_rfl) (CC.refl (List.forall_mem_cons.2 ⟨List.mem_cons_self, (fun p hp => by cases hp)⟩)) (fun I' L' T hC kk => gl_slice' (T' := 9) (xs := (.tmp 34)) (lo := (some (.tmp 37))) (hi := (some (.tmp 40))) hx65 (by kernel_rfl) (by kernel_rfl) (by kernel_rfl) (by kernel_rfl) (by kernel_rfl) (by kernel_rfl) kk) ?_
              refine gd_pure 1 [0, 4, 5, 6, 7, 8, 9, 10, 23, 24, 25, 33, 41, 42] (K' := [(0, .string a0), (4, .int .i64 s7.1), (5, .int .i64 s7.2.1), (6, .int .i64 s7.2.2), (7, .int .i64 y18), (8, .int .i64 (IntKind.wrap .i64 (y18 + y21))), (9, .int .i64 s36), (10, .pointer (some ⟨g58, 0, none⟩)), (23, .slice A26 lex_units.length c27), (24, .int .i64 (lex_units.length : Int)), (25, .int .i64 s36), (33, .bool true), (41, .string s66), (42, .pointer (some ⟨g58, 0, none⟩))]) (s' := [(13, true), (14, true), (15, true)]) (CC.refl (List.forall_mem_cons.2 ⟨List.mem_cons_self, (fun p hp => by cases hp)⟩)) (by kernel_rfl) ?_
              refine gd_q (v := .string x49.f0) (by kernel_rfl) (by kernel_rfl) (CC.refl (List.forall_mem_cons.2 ⟨List.mem_cons_self, (fun p hp => by cases hp)⟩)) (fun I' L' T hC kk => gl_loadB (T' := 9) (xp := (.tmp 42)) (v := .string x49.f0) (g := g58) (off := 0) (cs := #[.string x49.f0, .int .i64 x49.f1]) (e := 63) (fz := (0, 0)) (by kernel_rfl) (by kernel_rfl) (by kernel_rfl) (hC.sub _ List.mem_cons_self) (by kernel_rfl) kk) ?_
              refine gd_pure 2 [0, 4, 5, 6, 7, 8, 9, 10, 23, 24, 25, 45] (K' := [(0, .string a0), (4, .int .i64 s7.1), (5, .int .i64 s7.2.1), (6, .int .i64 s7.2.2), (7, .int .i64 y18), (8, .int .i64 (IntKind.wrap .i64 (y18 + y21))), (9, .int .i64 s36), (10, .pointer (some ⟨g58, 0, none⟩)), (23, .slice A26 lex_units.length c27), (24, .int .i64 (lex_units.length : Int)), (25, .int .i64 s36), (45, .bool (s66.toList == x49.f0.toList))]) (s' := []) (CC.refl (List.forall_mem_cons.2 ⟨List.mem_cons_self, (fun p hp => by cases hp)⟩)) (by kernel_rfl) ?_
              refine gd_done ?_
              refine gl_atE (by kernel_rfl) ?_
              obtain rfl := some_inj hj60
              exact ge_mid fun t ht => ⟨(Imm.refl _), rfl, ht.pick (l := [0, 4, 5, 6, 7, 8, 9, 10, 23, 24, 25, 45]) (by kernel_rfl)⟩
            · have hj60 := cond_f hc64 hj60
              refine gd_pure 12 [0, 4, 5, 6, 7, 8, 9, 10, 23, 24, 25, 45] (K' := [(0, .string a0), (4, .int .i64 s7.1), (5, .int .i64 s7.2.1), (6, .int .i64 s7.2.2), (7, .int .i64 y18), (8, .int .i64 (IntKind.wrap .i64 (y18 + y21))), (9, .int .i64 s36), (10, .pointer (some ⟨g58, 0, none⟩)), (23, .slice A26 lex_units.length c27), (24, .int .i64 (lex_units.length : Int)), (25, .int .i64 s36), (45, .bool false)]) (s' := []) (CC.refl (List.forall_mem_cons.2 ⟨List.mem_cons_self, (fun p hp => by cases hp)⟩)) (by kernel_rfl) ?_
              refine gd_done ?_
              refine gl_atE (by kernel_rfl) ?_
              obtain rfl := some_inj hj60
              exact ge_mid fun t ht => ⟨(Imm.refl _), rfl, ht.pick (l := [0, 4, 5, 6, 7, 8, 9, 10, 23, 24, 25, 45]) (by kernel_rfl)⟩
          · rintro t I63 L' ⟨hI61, rfl, hK62⟩
            refine ge_at hK62 ?_
            refine ge_seq ?_
            refine gk_cond (b := j59) (by kernel_rfl) (by kernel_rfl) (fun hc67 => ?_) (fun hc67 => ?_)
            · have hb38 := cond_t hc67 hb38
              refine gk_seq (by kernel_rfl) ?_
              refine gk_draw 11 [(0, true), (1, true), (2, true), (3, true), (4, true), (5, true), (6, true), (7, true), (8, true), (9, true), (10, true)] [(g58, .cells #[.string x49.f0, .int .i64 x49.f1] 63)] (List.forall_mem_cons.2 ⟨List.mem_cons_self, (fun p hp => by cases hp)⟩) (by kernel_rfl) (by kernel_rfl) (by kernel_rfl) ?_ (by kernel_rfl)
              refine gd_pure 6 [0, 4, 6, 8, 9, 10, 46, 47, 48, 51] (K' := [(0, .string a0), (4, .int .i64 s7.1), (6, .int .i64 s7.2.2), (8, .int .i64 (IntKind.wrap .i64 (y18 + y21))), (9, .int .i64 s36), (10, .pointer (some ⟨g58, 0, none⟩)), (46, .int .i64 s7.2.2), (47, .string a0), (48, .int .i64 s7.1), (51, .int .i64 (IntKind.wrap .i64 (s7.1 + y18)))]) (s' := [(6, true), (7, true), (8, true), (9, true), (10, true)]) (CC.refl (List.forall_mem_cons.2 ⟨List.mem_cons_self, (fun p hp => by cases hp)⟩)) (by kernel_rfl) ?_
              obtain ⟨s69, hx68, hb38⟩ := bind_some hb38
              refine gd_q (v := .string s69) (by kernel_rfl) (by kernel_rfl) (CC.refl (List.forall_mem_cons.2 ⟨List.mem_cons_self, (fun p hp => by cases hp)⟩)) (fun I' L' T hC kk => gl_slice' (T' := 9) (xs := (.tmp 47)) (lo := (some (.tmp 48))) (hi := (some (.tmp 51))) hx68 (by kernel_rfl) (by kernel_rfl) (by kernel_rfl) (by kernel_rfl) (by kernel_rfl) (by kernel_rfl) kk) ?_
              refine gd_pure 1 [0, 4, 6, 8, 9, 46, 52, 53] (K' := [(0, .string a0), (4, .int .i64 s7.1), (6, .int .i64 s7.2.2), (8, .int .i64 (IntKind.wrap .i64 (y18 + y21))), (9, .int .i64 s36), (46, .int .i64 s7.2.2), (52, .string s69), (53, .pointer (some ⟨g58, 1, none⟩))]) (s' := [(8, true), (9, true), (10, true)]) (CC.refl (List.forall_mem_cons.2 ⟨List.mem_cons_self, (fun p hp => by cases hp)⟩)) (by kernel_rfl) ?_
              refine gd_q (v := .int .i64 x49.f1) (by kernel_rfl) (by kernel_rfl) (CC.refl (List.forall_mem_cons.2 ⟨List.mem_cons_self, (fun p hp => by cases hp)⟩)) (fun I' L' T hC kk => gl_loadB (T' := 2) (xp := (.tmp 53)) (v := .int .i64 x49.f1) (g := g58) (off := 1) (cs := #[.string x49.f0, .int .i64 x49.f1]) (e := 63) (fz := (0, 0)) (by kernel_rfl) (by kernel_rfl) (by kernel_rfl) (hC.sub _ List.mem_cons_self) (by kernel_rfl) kk) ?_
              obtain ⟨y70, hx71, hb38⟩ := bind_some hb38
              refine gd_q (v := .int .i64 y70) (by kernel_rfl) (by kernel_rfl) (CC.refl (List.forall_mem_cons.2 ⟨List.mem_cons_self, (fun p hp => by cases hp)⟩)) (fun I' L' T hC kk => gl_callQ (by kernel_rfl) (lex_times_walk (r := y70)  hx71 _) kk) ?_
              refine gd_pure 1 [0, 4, 6, 8, 9, 56] (K' := [(0, .string a0), (4, .int .i64 s7.1), (6, .int .i64 s7.2.2), (8, .int .i64 (IntKind.wrap .i64 (y18 + y21))), (9, .int .i64 s36), (56, .int .i64 (IntKind.wrap .i64 (s7.2.2 + y70)))]) (s' := []) (CC.refl (List.forall_mem_cons.2 ⟨List.mem_cons_self, (fun p hp => by cases hp)⟩)) (by kernel_rfl) ?_
              refine gd_done ?_
              refine gl_pure 2 [0, 4, 6, 8, 9] (K' := [(0, .string a0), (4, .int .i64 s7.1), (6, .int .i64 (if 1099511627777 < (IntKind.wrap .i64 (s7.2.2 + y70)) then 1099511627777 else (IntKind.wrap .i64 (s7.2.2 + y70)))), (8, .int .i64 (IntKind.wrap .i64 (y18 + y21))), (9, .int .i64 s36)]) (by kernel_rfl) ?_
              refine gl_atE (by kernel_rfl) ?_
              refine ge_seq ?_
              refine gk_seq (by kernel_rfl) ?_
              refine gk_region (by kernel_rfl) ?_
              refine gl_pure 7 [0, 4, 5, 6] (K' := [(0, .string a0), (4, .int .i64 (IntKind.wrap .i64 (s7.1 + (IntKind.wrap .i64 (y18 + y21))))), (5, .int .i64 (IntKind.wrap .i64 (s36 + 1))), (6, .int .i64 (if 1099511627777 < (IntKind.wrap .i64 (s7.2.2 + y70)) then 1099511627777 else (IntKind.wrap .i64 (s7.2.2 + y70))))]) (by kernel_rfl) ?_
              refine gl_atE (by kernel_rfl) ?_
              refine ge_seq ?_
              refine gk_reord (D := L) (Reord.skip (Reord.skipC (Reord.refl _))) ?_
              refine gk_exit (by kernel_rfl) ?_
              refine ge_block_miss (by kernel_rfl) ?_
              refine ge_seq_exit ?_
              obtain rfl := some_inj hb38
              refine ge_round_out (fun hrr => ?_) (by intro h; cases h)
              obtain rfl := hrr
              refine ge_block_miss (by kernel_rfl) ?_
              refine ge_seq_exit ?_
              refine ge_seq_exit ?_
              refine ge_block_hit (by kernel_rfl) ?_
              obtain rfl := some_inj hb9
              exact ge_round fun t ht => ⟨(Imm.trans (Imm.trans (Imm.trans hI10 hI25) hI39) hI61), rfl, ht.pick (l := [0, 4, 5, 6]) (by kernel_rfl)⟩
            · have hb38 := cond_f hc67 hb38
              refine gk_skip (by kernel_rfl) ?_
              refine ge_block_normal ?_
              refine ge_seq ?_
              refine gk_region (by kernel_rfl) ?_
              refine gl_pure 2 [0, 4, 5, 6, 7, 8, 23, 24, 25] (K' := [(0, .string a0), (4, .int .i64 s7.1), (5, .int .i64 s7.2.1), (6, .int .i64 s7.2.2), (7, .int .i64 y18), (8, .int .i64 (IntKind.wrap .i64 (y18 + y21))), (23, .slice A26 lex_units.length c27), (24, .int .i64 (lex_units.length : Int)), (25, .int .i64 (IntKind.wrap .i64 (s36 + 1)))]) (by kernel_rfl) ?_
              refine gl_reord (D := C28 ++ L) (Reord.step (Upd.one _ (Upd.rmC _ _)) (Reord.skip (Reord.refl _))) ?_
              refine gl_atE (by kernel_rfl) ?_
              obtain rfl := some_inj hb38
              exact ge_round fun t ht => ⟨(Imm.trans hI39 hI61), rfl, ht.pick (l := [0, 4, 5, 6, 7, 8, 23, 24, 25]) (by kernel_rfl)⟩
        · have hb38 := cond_f hc48 hb38
          refine gk_reord (D := L) (Reord.skipC (Reord.refl _)) ?_
          refine gk_exit (by kernel_rfl) ?_
          refine ge_seq_exit ?_
          obtain rfl := some_inj hb38
          refine ge_round_out (fun hrr => ?_) (by intro h; cases h)
          obtain rfl := hrr
          refine ge_block_hit (by kernel_rfl) ?_
          exact ge_mid fun t ht => ⟨_, rfl, hI39, rfl, ht.pick (l := [4, 6]) (by kernel_rfl)⟩
      · rintro t I45 L' ⟨r42, rfl, hI43, rfl, hK44⟩
        refine ge_at hK44 ?_
        refine ge_seq ?_
        refine gk_exit (by kernel_rfl) ?_
        refine ge_block_miss (by kernel_rfl) ?_
        obtain rfl := some_inj hb9
        refine ge_round_out (fun hrr => ?_) (by intro h; cases h)
        obtain rfl := hrr
        refine ge_block_hit (by kernel_rfl) ?_
        exact ge_mid fun t ht => ⟨(Imm.trans (Imm.trans hI10 hI25) hI43), rfl, ht.pick (l := [4, 6]) (by kernel_rfl)⟩
  · rintro t I15 L' ⟨hI13, rfl, hK14⟩
    refine ge_at hK14 ?_
    refine ge_seq ?_
    refine gk_seq (by kernel_rfl) ?_
    refine gk_region (by kernel_rfl) ?_
    refine gl_pure 4 [2, 3] (K' := [(2, .int .i64 r5.1), (3, .int .i64 r5.2)]) (by kernel_rfl) ?_
    refine gl_atE (by kernel_rfl) ?_
    refine ge_seq ?_
    refine gk_ret (by kernel_rfl) ?_
    refine ge_scope_ret ?_
    obtain rfl := some_inj hr
    exact ge_result trivial (ResOk.tmp (by kernel_rfl) (ResOk.tmp (by kernel_rfl) ResOk.nil)) hI13 ⟨rfl, rfl⟩
theorem gl_tabs {I : Imm} {L : Own} {W : World} (hG : Gl I) (hW : Holds I L W) : Go.Lib.Utf8Tabs 0 1 W := by
  refine ⟨fun c hc => ?_, fun i hi => ?_⟩
  · obtain ⟨a, cs, ha, hR, hr⟩ := hG.g0.at_ c (Go.Lib.firstT c : Int) (by simp [tab0, List.getElem?_range hc])
    cases ha
    obtain rfl : cs = [.int .u8 (Go.Lib.firstT c : Int)] := hR
    have := hW.cell (hr 0 _ rfl)
    rw [addr_add, show c * (Kd.int .u8).n + 0 = c from by show c * 1 + 0 = c; omega] at this
    exact this
  · obtain ⟨a, cs, ha, hR, hr⟩ := hG.g1.at_ i ⟨(Go.Lib.accLo i : Int), (Go.Lib.accHi i : Int)⟩ (by simp [tab1, List.getElem?_range hi])
    cases ha
    obtain rfl := kS79_open hR
    have h0 := hW.cell (hr 0 _ rfl)
    have h1 := hW.cell (hr 1 _ rfl)
    rw [addr_add] at h0 h1
    rw [show i * kS79.n + 0 = 2 * i from by show i * 2 + 0 = 2 * i; omega] at h0
    rw [show i * kS79.n + 1 = 2 * i + 1 from by show i * 2 + 1 = 2 * i + 1; omega] at h1
    exact ⟨h0, h1⟩

def lays197_ren : Go.Shelf.Ren := ⟨fun x => if x = 197 then 55 else if x = 260 then 70 else x, fun x => if x = 105 then 84 else if x = 119 then 78 else if x = 46 then 82 else if x = 139 then 81 else if x = 138 then 80 else x, fun x => if x = 3 then 0 else if x = 4 then 1 else x⟩
theorem lays197 : Go.Proofs.Lays.n197 Tryd.prog lays197_ren := {
  mixed := by kernel_rfl,
  f197 := Tryd.func55.trans (congrArg some (by kernel_rfl)),
  f260 := Tryd.func70.trans (congrArg some (by kernel_rfl)),
  t0 := Tryd.underlying0,
  a0 := Tryd.isAgg0,
  z0 := Tryd.sizeOf0,
  v0 := Tryd.zeroValue0,
  t3 := Tryd.underlying3,
  a3 := Tryd.isAgg3,
  z3 := Tryd.sizeOf3,
  v3 := Tryd.zeroValue3,
  t4 := Tryd.underlying4,
  a4 := Tryd.isAgg4,
  z4 := Tryd.sizeOf4,
  v4 := Tryd.zeroValue4,
  t5 := Tryd.underlying5,
  a5 := Tryd.isAgg5,
  z5 := Tryd.sizeOf5,
  v5 := Tryd.zeroValue5,
  t9 := Tryd.underlying9,
  a9 := Tryd.isAgg9,
  z9 := Tryd.sizeOf9,
  v9 := Tryd.zeroValue9,
  t21 := Tryd.underlying21,
  a21 := Tryd.isAgg21,
  z21 := Tryd.sizeOf21,
  v21 := Tryd.zeroValue21,
  t46 := Tryd.underlying82,
  a46 := Tryd.isAgg82,
  z46 := Tryd.sizeOf82,
  v46 := Tryd.zeroValue82,
  t105 := Tryd.underlying84,
  a105 := Tryd.isAgg84,
  z105 := Tryd.sizeOf84,
  v105 := Tryd.zeroValue84,
  t119 := Tryd.underlying78,
  a119 := Tryd.isAgg78,
  z119 := Tryd.sizeOf78,
  t138 := Tryd.underlying80,
  a138 := Tryd.isAgg80,
  z138 := Tryd.sizeOf80,
  v138 := Tryd.zeroValue80,
  t139 := Tryd.underlying81,
  a139 := Tryd.isAgg81,
  z139 := Tryd.sizeOf81,
  v139 := Tryd.zeroValue81,
  g3 := by kernel_rfl,
  g4 := by kernel_rfl }

def utf8_DecodeRuneInString (a0 : ByteArray) : Option (Int × Int) := some (((Go.Lib.decodeGo a0).1 : Int), ((Go.Lib.decodeGo a0).2 : Int))
theorem utf8_DecodeRuneInString_walk {a0 : ByteArray} {I : Imm} {r : Int × Int} (hG : Gl I) (hr : utf8_DecodeRuneInString a0 = some r) (L : Own) :
    CallsTo Tryd.prog 55 #[.string a0] I L (fun v I' L' => v = .tuple #[.int .i32 r.1, .int .i64 r.2] ∧ L = L') := by
  unfold utf8_DecodeRuneInString at hr
  cases hr
  exact callsTo_below hG.dr (fun W hW => Go.Proofs.Any.utf8_DecodeRuneInString lays197 a0 W (gl_tabs hG hW))

structure S50 where
  f1 : List Int
def strings_Builder_copyCheck (a0 : S50) : S50 := a0
theorem strings_Builder_copyCheck_walk {a0 : S50} {g0 : Nat} {q0_0 : Option Addr} {A0_1 : Option Addr} {c0_1 : Nat} {C0_1 : Own} {I : Imm} {r : S50} (hq0_0 : q0_0 = none ∨ q0_0 = some (⟨g0, 0, none⟩ : Addr)) (hO0_1 : OwnS (Kd.int .u8) 5 I A0_1 c0_1 a0.f1 C0_1) (hr : strings_Builder_copyCheck a0 = r) (L : Own) :
    CallsTo Tryd.prog 49 #[.pointer (some ⟨g0, 0, none⟩)] I ((g0, .cells #[.pointer q0_0, .slice A0_1 a0.f1.length c0_1] 51) :: (C0_1 ++ L)) (fun v I' L' => ∃ q0_0 A0_1 c0_1 C0_1, (q0_0 = none ∨ q0_0 = some (⟨g0, 0, none⟩ : Addr)) ∧ OwnS (Kd.int .u8) 5 I' A0_1 c0_1 r.f1 C0_1 ∧ v = .tuple #[] ∧ (g0, .cells #[.pointer q0_0, .slice A0_1 r.f1.length c0_1] 51) :: (C0_1 ++ L) = L') := by
  subst hr
  exact (bld_copyCheck hq0_0 (C0_1 ++ L)).mono fun v I' L' hI ⟨h1, h2⟩ => ⟨_, A0_1, c0_1, C0_1, .inr rfl, hO0_1.mono hI, h1, h2⟩
noncomputable def strings_Builder_String (a0 : S50) : Option ByteArray := strO a0.f1
theorem strings_Builder_String_walk {a0 : S50} {g0 : Nat} {q0_0 : Option Addr} {A0_1 : Option Addr} {c0_1 : Nat} {C0_1 : Own} {I : Imm} {r : ByteArray} (hq0_0 : q0_0 = none ∨ q0_0 = some (⟨g0, 0, none⟩ : Addr)) (hO0_1 : OwnS (Kd.int .u8) 5 I A0_1 c0_1 a0.f1 C0_1) (hr : strings_Builder_String a0 = some r) (L : Own) :
    CallsTo Tryd.prog 28 #[.pointer (some ⟨g0, 0, none⟩)] I ((g0, .cells #[.pointer q0_0, .slice A0_1 a0.f1.length c0_1] 51) :: (C0_1 ++ L)) (fun v I' L' => v = .string r ∧ L = L') := bld_String hO0_1 hr L

/-! 80 strconv_lower  -/
noncomputable def strconv_lower (a0 : Int) : Int :=
  (bitOr .u8 a0 32)
theorem strconv_lower_walk {a0 : Int} {I : Imm} {r : Int}  (hr : strconv_lower a0 = r) (L : Own) :
    CallsTo Tryd.prog 80 #[.int .u8 a0] I L (fun v I' L' => v = .int .u8 r ∧ L = L') := by
  replace hr : some (strconv_lower a0) = some r := congrArg some hr
  unfold strconv_lower at hr
  refine callsTo_body (N := 5) Tryd.func80 (by kernel_rfl) (by kernel_rfl) (by kernel_rfl) ?_
  refine gk_pick [0] (K' := [(0, .int .u8 a0)]) (by kernel_rfl) ?_
  refine gk_seq (by kernel_rfl) ?_
  refine gk_region (by kernel_rfl) ?_
  refine gl_pure 1 [0] (K' := [(0, .int .u8 a0)]) (by kernel_rfl) ?_
  refine gl_atE (by kernel_rfl) ?_
  refine ge_seq ?_
  refine gk_seq (by kernel_rfl) ?_
  refine gk_region (by kernel_rfl) ?_
  refine gl_pure 3 [2] (K' := [(2, .int .u8 (bitOr .u8 a0 32))]) (by kernel_rfl) ?_
  refine gl_atE (by kernel_rfl) ?_
  refine ge_seq ?_
  refine gk_ret (by kernel_rfl) ?_
  obtain rfl := some_inj hr
  exact ge_result trivial (ResOk.tmp (by kernel_rfl) ResOk.nil) (Imm.refl _) ⟨rfl, rfl⟩
/-! 81 strconv_underscoreOK  -/
noncomputable def strconv_underscoreOK_l61 (j12 : ByteArray) (j37 : Int × Int × Bool) : (Int × Int) → Option ((Int × Int) ⊕ ((Int) ⊕ (Bool))) := fun s51 =>
  bif (decide (s51.2 < (j12.size : Int))) then
  (Option.bind ((Option.bind (Option.bind (bx j12 s51.2) fun (c75 : Int) =>
        bif (decide (48 ≤ c75)) then
        (Option.bind (bx j12 s51.2) fun (c78 : Int) =>
          bif (decide (c78 ≤ 57)) then
          (some true)
          else
          (bif j37.2.2 then
            (Option.bind (bx j12 s51.2) fun (c82 : Int) =>
              bif (decide (97 ≤ (strconv_lower c82))) then
              (Option.bind (bx j12 s51.2) fun (c85 : Int) =>
                some (decide ((strconv_lower c85) ≤ 102)))
              else
              (some false))
            else
            (some false)))
        else
        (bif j37.2.2 then
          (Option.bind (bx j12 s51.2) fun (c88 : Int) =>
            bif (decide (97 ≤ (strconv_lower c88))) then
            (Option.bind (bx j12 s51.2) fun (c91 : Int) =>
              some (decide ((strconv_lower c91) ≤ 102)))
            else
            (some false))
          else
          (some false))) fun (j70 : Bool) =>
      bif j70 then
      (some (Sum.inl 48))
      else
      (Option.bind (bx j12 s51.2) fun (c94 : Int) =>
        bif (c94 == 95) then
        (bif (s51.1 != 48) then
          (some (Sum.inr (Sum.inr (Sum.inr false))))
          else
          (some (Sum.inl 95)))
        else
        (bif (s51.1 == 95) then
          (some (Sum.inr (Sum.inr (Sum.inr false))))
          else
          (some (Sum.inl 33)))) : Option ((Int) ⊕ ((Int × Int) ⊕ ((Int) ⊕ (Bool)))))) fun (j64 : (Int) ⊕ ((Int × Int) ⊕ ((Int) ⊕ (Bool)))) =>
    match j64 with
    | Sum.inl j66 => some (Sum.inl (j66, (IntKind.wrap .i64 (s51.2 + 1))))
    | Sum.inr v99 => some v99)
  else
  (some (Sum.inr (Sum.inl s51.1)))
noncomputable def strconv_underscoreOK (a0 : ByteArray) : Option Bool :=
  Option.bind (bif (decide ((a0.size : Int) ≥ 1)) then
    (Option.bind (bx a0 0) fun (c7 : Int) =>
      bif (c7 == 45) then
      (some true)
      else
      (Option.bind (bx a0 0) fun (c10 : Int) =>
        some (c10 == 43)))
    else
    (some false)) fun (j1 : Bool) =>
  Option.bind (bif j1 then
    (Option.bind (sx a0 1 (a0.size : Int)) fun (s19 : ByteArray) =>
      some s19)
    else
    (some a0)) fun (j12 : ByteArray) =>
  Option.bind (bif (decide ((j12.size : Int) ≥ 2)) then
    (Option.bind (bx j12 0) fun (c26 : Int) =>
      bif (c26 == 48) then
      (Option.bind (bx j12 1) fun (c29 : Int) =>
        bif ((strconv_lower c29) == 98) then
        (some true)
        else
        (Option.bind (bx j12 1) fun (c32 : Int) =>
          bif ((strconv_lower c32) == 111) then
          (some true)
          else
          (Option.bind (bx j12 1) fun (c35 : Int) =>
            some ((strconv_lower c35) == 120))))
      else
      (some false))
    else
    (some false)) fun (j20 : Bool) =>
  Option.bind (bif j20 then
    (Option.bind (bx j12 1) fun (c43 : Int) =>
      some (48, 2, ((strconv_lower c43) == 120)))
    else
    (some (94, 0, false))) fun (j37 : Int × Int × Bool) =>
  Option.bind (loopO (strconv_underscoreOK_l61 j12 j37) (j37.1, j37.2.1)) fun (r49 : (Int) ⊕ (Bool)) =>
  match r49 with
  | Sum.inl r57 => some (r57 != 95)
  | Sum.inr v100 => some v100
theorem strconv_underscoreOK_walk {a0 : ByteArray} {I : Imm} {r : Bool}  (hr : strconv_underscoreOK a0 = some r) (L : Own) :
    CallsTo Tryd.prog 81 #[.string a0] I L (fun v I' L' => v = .bool r ∧ L = L') := by
  unfold strconv_underscoreOK at hr
  refine callsTo_body (N := 94) Tryd.func81 (by kernel_rfl) (by kernel_rfl) (by kernel_rfl) ?_
  refine gk_pick [0] (K' := [(0, .string a0)]) (by kernel_rfl) ?_
  refine gk_seq (by kernel_rfl) ?_
  refine gk_region (by kernel_rfl) ?_
  refine gl_pure 1 [0] (K' := [(0, .string a0)]) (by kernel_rfl) ?_
  refine gl_atE (by kernel_rfl) ?_
  refine ge_seq ?_
  refine gk_seq (by kernel_rfl) ?_
  refine gk_region (by kernel_rfl) ?_
  refine gl_pure 1 [0, 3] (K' := [(0, .string a0), (3, .int .i32 94)]) (by kernel_rfl) ?_
  refine gl_atE (by kernel_rfl) ?_
  refine ge_seq ?_
  refine gk_seq (by kernel_rfl) ?_
  refine gk_region (by kernel_rfl) ?_
  refine gl_pure 1 [0, 3, 4] (K' := [(0, .string a0), (3, .int .i32 94), (4, .int .i64 0)]) (by kernel_rfl) ?_
  refine gl_atE (by kernel_rfl) ?_
  refine ge_seq ?_
  refine gk_seq (by kernel_rfl) ?_
  refine gk_seq (by kernel_rfl) ?_
  obtain ⟨j1, hj2, hr⟩ := bind_some hr
  refine gk_join (fun t I' L' => I ≤ I' ∧ L = L' ∧ Knows 94 [(0, .string a0), (3, .int .i32 94), (4, .int .i64 0), (18, .bool j1)] t) ?_ ?_
  · refine gk_region (by kernel_rfl) ?_
    refine gl_pure 4 [0, 3, 4, 9] (K' := [(0, .string a0), (3, .int .i32 94), (4, .int .i64 0), (9, .bool (decide ((a0.size : Int) ≥ 1)))]) (by kernel_rfl) ?_
    refine gl_case 9 (b := (decide ((a0.size : Int) ≥ 1))) (by kernel_rfl) (fun hc6 => ?_) (fun hc6 => ?_)
    · have hj2 := cond_t hc6 hj2
      refine gl_pure 1 [0, 3, 4, 9, 10] (K' := [(0, .string a0), (3, .int .i32 94), (4, .int .i64 0), (9, .bool true), (10, .string a0)]) (by kernel_rfl) ?_
      obtain ⟨c7, hx8, hj2⟩ := bind_some hj2
      refine gl_index' (T' := 9) (xs := (.tmp 10)) (xi := (.const (.int .i64 0))) (kd := .i64) hx8 (by kernel_rfl) (by kernel_rfl) (by kernel_rfl) (by kernel_rfl) (by kernel_rfl) ?_
      refine gl_pure 2 [0, 3, 4, 9, 13] (K' := [(0, .string a0), (3, .int .i32 94), (4, .int .i64 0), (9, .bool true), (13, .bool (c7 == 45))]) (by kernel_rfl) ?_
      refine gl_case 13 (b := (c7 == 45)) (by kernel_rfl) (fun hc9 => ?_) (fun hc9 => ?_)
      · have hj2 := cond_t hc9 hj2
        refine gl_pure 5 [0, 3, 4, 18] (K' := [(0, .string a0), (3, .int .i32 94), (4, .int .i64 0), (18, .bool true)]) (by kernel_rfl) ?_
        refine gl_atE (by kernel_rfl) ?_
        obtain rfl := some_inj hj2
        exact ge_mid fun t ht => ⟨(Imm.refl _), rfl, ht.pick (l := [0, 3, 4, 18]) (by kernel_rfl)⟩
      · have hj2 := cond_f hc9 hj2
        refine gl_pure 1 [0, 3, 4, 9, 13, 14] (K' := [(0, .string a0), (3, .int .i32 94), (4, .int .i64 0), (9, .bool true), (13, .bool false), (14, .string a0)]) (by kernel_rfl) ?_
        obtain ⟨c10, hx11, hj2⟩ := bind_some hj2
        refine gl_index' (T' := 9) (xs := (.tmp 14)) (xi := (.const (.int .i64 0))) (kd := .i64) hx11 (by kernel_rfl) (by kernel_rfl) (by kernel_rfl) (by kernel_rfl) (by kernel_rfl) ?_
        refine gl_pure 3 [0, 3, 4, 18] (K' := [(0, .string a0), (3, .int .i32 94), (4, .int .i64 0), (18, .bool (c10 == 43))]) (by kernel_rfl) ?_
        refine gl_atE (by kernel_rfl) ?_
        obtain rfl := some_inj hj2
        exact ge_mid fun t ht => ⟨(Imm.refl _), rfl, ht.pick (l := [0, 3, 4, 18]) (by kernel_rfl)⟩
    · have hj2 := cond_f hc6 hj2
      refine gl_pure 9 [0, 3, 4, 18] (K' := [(0, .string a0), (3, .int .i32 94), (4, .int .i64 0), (18, .bool false)]) (by kernel_rfl) ?_
      refine gl_atE (by kernel_rfl) ?_
      obtain rfl := some_inj hj2
      exact ge_mid fun t ht => ⟨(Imm.refl _), rfl, ht.pick (l := [0, 3, 4, 18]) (by kernel_rfl)⟩
  · rintro t I5 L' ⟨hI3, rfl, hK4⟩
    refine ge_at hK4 ?_
    refine ge_seq ?_
    obtain ⟨j12, hj13, hr⟩ := bind_some hr
    refine gk_join (fun t I' L' => I5 ≤ I' ∧ L = L' ∧ Knows 94 [(0, .string j12), (3, .int .i32 94), (4, .int .i64 0)] t) ?_ ?_
    · refine gk_cond (b := j1) (by kernel_rfl) (by kernel_rfl) (fun hc17 => ?_) (fun hc17 => ?_)
      · have hj13 := cond_t hc17 hj13
        refine gk_region (by kernel_rfl) ?_
        refine gl_pure 1 [3, 4, 19] (K' := [(3, .int .i32 94), (4, .int .i64 0), (19, .string a0)]) (by kernel_rfl) ?_
        obtain ⟨s19, hx18, hj13⟩ := bind_some hj13
        refine gl_slice' (T' := 9) (xs := (.tmp 19)) (lo := (some (.const (.int .i64 1)))) (hi := none) hx18 (by kernel_rfl) (by kernel_rfl) (by kernel_rfl) (by kernel_rfl) (by kernel_rfl) (by kernel_rfl) ?_
        refine gl_pure 1 [0, 3, 4] (K' := [(0, .string s19), (3, .int .i32 94), (4, .int .i64 0)]) (by kernel_rfl) ?_
        refine gl_atE (by kernel_rfl) ?_
        obtain rfl := some_inj hj13
        exact ge_mid fun t ht => ⟨(Imm.refl _), rfl, ht.pick (l := [0, 3, 4]) (by kernel_rfl)⟩
      · have hj13 := cond_f hc17 hj13
        refine gk_skip (by kernel_rfl) ?_
        obtain rfl := some_inj hj13
        exact ge_mid fun t ht => ⟨(Imm.refl _), rfl, ht.pick (l := [0, 3, 4]) (by kernel_rfl)⟩
    · rintro t I16 L' ⟨hI14, rfl, hK15⟩
      refine ge_at hK15 ?_
      refine ge_seq ?_
      refine gk_seq (by kernel_rfl) ?_
      refine gk_region (by kernel_rfl) ?_
      refine gl_pure 1 [0, 3, 4, 5] (K' := [(0, .string j12), (3, .int .i32 94), (4, .int .i64 0), (5, .bool false)]) (by kernel_rfl) ?_
      refine gl_atE (by kernel_rfl) ?_
      refine ge_seq ?_
      refine gk_seq (by kernel_rfl) ?_
      refine gk_seq (by kernel_rfl) ?_
      obtain ⟨j20, hj21, hr⟩ := bind_some hr
      refine gk_join (fun t I' L' => I16 ≤ I' ∧ L = L' ∧ Knows 94 [(0, .string j12), (3, .int .i32 94), (4, .int .i64 0), (5, .bool false), (46, .bool j20)] t) ?_ ?_
      · refine gk_region (by kernel_rfl) ?_
        refine gl_pure 4 [0, 3, 4, 5, 24] (K' := [(0, .string j12), (3, .int .i32 94), (4, .int .i64 0), (5, .bool false), (24, .bool (decide ((j12.size : Int) ≥ 2)))]) (by kernel_rfl) ?_
        refine gl_case 24 (b := (decide ((j12.size : Int) ≥ 2))) (by kernel_rfl) (fun hc25 => ?_) (fun hc25 => ?_)
        · have hj21 := cond_t hc25 hj21
          refine gl_pure 1 [0, 3, 4, 5, 24, 25] (K' := [(0, .string j12), (3, .int .i32 94), (4, .int .i64 0), (5, .bool false), (24, .bool true), (25, .string j12)]) (by kernel_rfl) ?_
          obtain ⟨c26, hx27, hj21⟩ := bind_some hj21
          refine gl_index' (T' := 9) (xs := (.tmp 25)) (xi := (.const (.int .i64 0))) (kd := .i64) hx27 (by kernel_rfl) (by kernel_rfl) (by kernel_rfl) (by kernel_rfl) (by kernel_rfl) ?_
          refine gl_pure 3 [0, 3, 4, 5, 29] (K' := [(0, .string j12), (3, .int .i32 94), (4, .int .i64 0), (5, .bool false), (29, .bool (c26 == 48))]) (by kernel_rfl) ?_
          refine gl_case 29 (b := (c26 == 48)) (by kernel_rfl) (fun hc28 => ?_) (fun hc28 => ?_)
          · have hj21 := cond_t hc28 hj21
            refine gl_pure 1 [0, 3, 4, 5, 29, 30] (K' := [(0, .string j12), (3, .int .i32 94), (4, .int .i64 0), (5, .bool false), (29, .bool true), (30, .string j12)]) (by kernel_rfl) ?_
            obtain ⟨c29, hx30, hj21⟩ := bind_some hj21
            refine gl_index' (T' := 9) (xs := (.tmp 30)) (xi := (.const (.int .i64 1))) (kd := .i64) hx30 (by kernel_rfl) (by kernel_rfl) (by kernel_rfl) (by kernel_rfl) (by kernel_rfl) ?_
            refine gl_callQ (by kernel_rfl) (strconv_lower_walk (r := (strconv_lower c29))  rfl _) ?_
            refine gl_pure 2 [0, 3, 4, 5, 29, 34] (K' := [(0, .string j12), (3, .int .i32 94), (4, .int .i64 0), (5, .bool false), (29, .bool true), (34, .bool ((strconv_lower c29) == 98))]) (by kernel_rfl) ?_
            refine gl_case 34 (b := ((strconv_lower c29) == 98)) (by kernel_rfl) (fun hc31 => ?_) (fun hc31 => ?_)
            · have hj21 := cond_t hc31 hj21
              refine gl_pure 12 [0, 3, 4, 5, 46] (K' := [(0, .string j12), (3, .int .i32 94), (4, .int .i64 0), (5, .bool false), (46, .bool true)]) (by kernel_rfl) ?_
              refine gl_atE (by kernel_rfl) ?_
              obtain rfl := some_inj hj21
              exact ge_mid fun t ht => ⟨(Imm.refl _), rfl, ht.pick (l := [0, 3, 4, 5, 46]) (by kernel_rfl)⟩
            · have hj21 := cond_f hc31 hj21
              refine gl_pure 1 [0, 3, 4, 5, 29, 34, 35] (K' := [(0, .string j12), (3, .int .i32 94), (4, .int .i64 0), (5, .bool false), (29, .bool true), (34, .bool false), (35, .string j12)]) (by kernel_rfl) ?_
              obtain ⟨c32, hx33, hj21⟩ := bind_some hj21
              refine gl_index' (T' := 9) (xs := (.tmp 35)) (xi := (.const (.int .i64 1))) (kd := .i64) hx33 (by kernel_rfl) (by kernel_rfl) (by kernel_rfl) (by kernel_rfl) (by kernel_rfl) ?_
              refine gl_callQ (by kernel_rfl) (strconv_lower_walk (r := (strconv_lower c32))  rfl _) ?_
              refine gl_pure 3 [0, 3, 4, 5, 29, 40] (K' := [(0, .string j12), (3, .int .i32 94), (4, .int .i64 0), (5, .bool false), (29, .bool true), (40, .bool ((strconv_lower c32) == 111))]) (by kernel_rfl) ?_
              refine gl_case 40 (b := ((strconv_lower c32) == 111)) (by kernel_rfl) (fun hc34 => ?_) (fun hc34 => ?_)
              · have hj21 := cond_t hc34 hj21
                refine gl_pure 6 [0, 3, 4, 5, 46] (K' := [(0, .string j12), (3, .int .i32 94), (4, .int .i64 0), (5, .bool false), (46, .bool true)]) (by kernel_rfl) ?_
                refine gl_atE (by kernel_rfl) ?_
                obtain rfl := some_inj hj21
                exact ge_mid fun t ht => ⟨(Imm.refl _), rfl, ht.pick (l := [0, 3, 4, 5, 46]) (by kernel_rfl)⟩
              · have hj21 := cond_f hc34 hj21
                refine gl_pure 1 [0, 3, 4, 5, 29, 40, 41] (K' := [(0, .string j12), (3, .int .i32 94), (4, .int .i64 0), (5, .bool false), (29, .bool true), (40, .bool false), (41, .string j12)]) (by kernel_rfl) ?_
                obtain ⟨c35, hx36, hj21⟩ := bind_some hj21
                refine gl_index' (T' := 9) (xs := (.tmp 41)) (xi := (.const (.int .i64 1))) (kd := .i64) hx36 (by kernel_rfl) (by kernel_rfl) (by kernel_rfl) (by kernel_rfl) (by kernel_rfl) ?_
                refine gl_callQ (by kernel_rfl) (strconv_lower_walk (r := (strconv_lower c35))  rfl _) ?_
                refine gl_pure 3 [0, 3, 4, 5, 46] (K' := [(0, .string j12), (3, .int .i32 94), (4, .int .i64 0), (5, .bool false), (46, .bool ((strconv_lower c35) == 120))]) (by kernel_rfl) ?_
                refine gl_atE (by kernel_rfl) ?_
                obtain rfl := some_inj hj21
                exact ge_mid fun t ht => ⟨(Imm.refl _), rfl, ht.pick (l := [0, 3, 4, 5, 46]) (by kernel_rfl)⟩
          · have hj21 := cond_f hc28 hj21
            refine gl_pure 17 [0, 3, 4, 5, 46] (K' := [(0, .string j12), (3, .int .i32 94), (4, .int .i64 0), (5, .bool false), (46, .bool false)]) (by kernel_rfl) ?_
            refine gl_atE (by kernel_rfl) ?_
            obtain rfl := some_inj hj21
            exact ge_mid fun t ht => ⟨(Imm.refl _), rfl, ht.pick (l := [0, 3, 4, 5, 46]) (by kernel_rfl)⟩
        · have hj21 := cond_f hc25 hj21
          refine gl_pure 22 [0, 3, 4, 5, 46] (K' := [(0, .string j12), (3, .int .i32 94), (4, .int .i64 0), (5, .bool false), (46, .bool false)]) (by kernel_rfl) ?_
          refine gl_atE (by kernel_rfl) ?_
          obtain rfl := some_inj hj21
          exact ge_mid fun t ht => ⟨(Imm.refl _), rfl, ht.pick (l := [0, 3, 4, 5, 46]) (by kernel_rfl)⟩
      · rintro t I24 L' ⟨hI22, rfl, hK23⟩
        refine ge_at hK23 ?_
        refine ge_seq ?_
        obtain ⟨j37, hj38, hr⟩ := bind_some hr
        refine gk_join (fun t I' L' => I24 ≤ I' ∧ L = L' ∧ Knows 94 [(0, .string j12), (3, .int .i32 j37.1), (4, .int .i64 j37.2.1), (5, .bool j37.2.2)] t) ?_ ?_
        · refine gk_cond (b := j20) (by kernel_rfl) (by kernel_rfl) (fun hc42 => ?_) (fun hc42 => ?_)
          · have hj38 := cond_t hc42 hj38
            refine gk_seq (by kernel_rfl) ?_
            refine gk_region (by kernel_rfl) ?_
            refine gl_pure 1 [0, 4] (K' := [(0, .string j12), (4, .int .i64 2)]) (by kernel_rfl) ?_
            refine gl_atE (by kernel_rfl) ?_
            refine ge_seq ?_
            refine gk_seq (by kernel_rfl) ?_
            refine gk_region (by kernel_rfl) ?_
            refine gl_pure 1 [0, 3, 4] (K' := [(0, .string j12), (3, .int .i32 48), (4, .int .i64 2)]) (by kernel_rfl) ?_
            refine gl_atE (by kernel_rfl) ?_
            refine ge_seq ?_
            refine gk_region (by kernel_rfl) ?_
            refine gl_pure 1 [0, 3, 4, 47] (K' := [(0, .string j12), (3, .int .i32 48), (4, .int .i64 2), (47, .string j12)]) (by kernel_rfl) ?_
            obtain ⟨c43, hx44, hj38⟩ := bind_some hj38
            refine gl_index' (T' := 9) (xs := (.tmp 47)) (xi := (.const (.int .i64 1))) (kd := .i64) hx44 (by kernel_rfl) (by kernel_rfl) (by kernel_rfl) (by kernel_rfl) (by kernel_rfl) ?_
            refine gl_callQ (by kernel_rfl) (strconv_lower_walk (r := (strconv_lower c43))  rfl _) ?_
            refine gl_pure 2 [0, 3, 4, 5] (K' := [(0, .string j12), (3, .int .i32 48), (4, .int .i64 2), (5, .bool ((strconv_lower c43) == 120))]) (by kernel_rfl) ?_
            refine gl_atE (by kernel_rfl) ?_
            obtain rfl := some_inj hj38
            exact ge_mid fun t ht => ⟨(Imm.refl _), rfl, ht.pick (l := [0, 3, 4, 5]) (by kernel_rfl)⟩
          · have hj38 := cond_f hc42 hj38
            refine gk_skip (by kernel_rfl) ?_
            obtain rfl := some_inj hj38
            exact ge_mid fun t ht => ⟨(Imm.refl _), rfl, ht.pick (l := [0, 3, 4, 5]) (by kernel_rfl)⟩
        · rintro t I41 L' ⟨hI39, rfl, hK40⟩
          refine ge_at hK40 ?_
          refine ge_seq ?_
          refine gk_seq (by kernel_rfl) ?_
          obtain ⟨r49, hl50, hr⟩ := bind_some hr
          refine gk_join (fun t I' L' => ∃ r57, r49 = Sum.inl r57 ∧ I41 ≤ I' ∧ L = L' ∧ Knows 94 [(3, .int .i32 r57)] t) ?_ ?_
          · refine gk_block (by kernel_rfl) ?_
            refine gk_pick [0, 3, 4, 5] (K' := [(0, .string j12), (3, .int .i32 j37.1), (4, .int .i64 j37.2.1), (5, .bool j37.2.2)]) (by kernel_rfl) ?_
            intro t hK
            refine gc_loop (strconv_underscoreOK_l61 j12 j37) (fun s51 t I' L' => I41 ≤ I' ∧ L = L' ∧ Knows 94 [(0, .string j12), (3, .int .i32 s51.1), (4, .int .i64 s51.2), (5, .bool j37.2.2)] t) (by kernel_rfl) ?_ hl50 ⟨(Imm.refl _), rfl, hK⟩
            rintro s51 o52 t I56 L' hb53 ⟨hI54, rfl, hK55⟩
            unfold strconv_underscoreOK_l61 at hb53
            refine gk_at hK55 ?_
            refine gk_seq (by kernel_rfl) ?_
            refine gk_seq (by kernel_rfl) ?_
            refine gk_region (by kernel_rfl) ?_
            refine gl_pure 4 [0, 3, 4, 5, 54] (K' := [(0, .string j12), (3, .int .i32 s51.1), (4, .int .i64 s51.2), (5, .bool j37.2.2), (54, .bool (decide (s51.2 < (j12.size : Int))))]) (by kernel_rfl) ?_
            refine gl_atE (by kernel_rfl) ?_
            refine ge_seq ?_
            refine gk_cond (b := (decide (s51.2 < (j12.size : Int)))) (by kernel_rfl) (by kernel_rfl) (fun hc63 => ?_) (fun hc63 => ?_)
            · have hb53 := cond_t hc63 hb53
              refine gk_skip (by kernel_rfl) ?_
              refine ge_seq ?_
              refine gk_seq (by kernel_rfl) ?_
              obtain ⟨j64, hj65, hb53⟩ := bind_some hb53
              refine gk_join (fun t I' L' => ∃ j66, j64 = Sum.inl j66 ∧ I56 ≤ I' ∧ L = L' ∧ Knows 94 [(0, .string j12), (3, .int .i32 j66), (4, .int .i64 s51.2), (5, .bool j37.2.2)] t) ?_ ?_
              · refine gk_block (by kernel_rfl) ?_
                refine gk_seq (by kernel_rfl) ?_
                refine gk_seq (by kernel_rfl) ?_
                obtain ⟨j70, hj71, hj65⟩ := bind_some hj65
                refine gk_join (fun t I' L' => I56 ≤ I' ∧ L = L' ∧ Knows 94 [(0, .string j12), (3, .int .i32 s51.1), (4, .int .i64 s51.2), (5, .bool j37.2.2), (83, .bool j70)] t) ?_ ?_
                · refine gk_region (by kernel_rfl) ?_
                  refine gl_pure 2 [0, 3, 4, 5, 57, 58] (K' := [(0, .string j12), (3, .int .i32 s51.1), (4, .int .i64 s51.2), (5, .bool j37.2.2), (57, .string j12), (58, .int .i64 s51.2)]) (by kernel_rfl) ?_
                  obtain ⟨c75, hx76, hj71⟩ := bind_some hj71
                  refine gl_index' (T' := 9) (xs := (.tmp 57)) (xi := (.tmp 58)) (kd := .i64) hx76 (by kernel_rfl) (by kernel_rfl) (by kernel_rfl) (by kernel_rfl) (by kernel_rfl) ?_
                  refine gl_pure 2 [0, 3, 4, 5, 61] (K' := [(0, .string j12), (3, .int .i32 s51.1), (4, .int .i64 s51.2), (5, .bool j37.2.2), (61, .bool (decide (48 ≤ c75)))]) (by kernel_rfl) ?_
                  refine gl_case 61 (b := (decide (48 ≤ c75))) (by kernel_rfl) (fun hc77 => ?_) (fun hc77 => ?_)
                  · have hj71 := cond_t hc77 hj71
                    refine gl_pure 2 [0, 3, 4, 5, 61, 62, 63] (K' := [(0, .string j12), (3, .int .i32 s51.1), (4, .int .i64 s51.2), (5, .bool j37.2.2), (61, .bool true), (62, .string j12), (63, .int .i64 s51.2)]) (by kernel_rfl) ?_
                    obtain ⟨c78, hx79, hj71⟩ := bind_some hj71
                    refine gl_index' (T' := 9) (xs := (.tmp 62)) (xi := (.tmp 63)) (kd := .i64) hx79 (by kernel_rfl) (by kernel_rfl) (by kernel_rfl) (by kernel_rfl) (by kernel_rfl) ?_
                    refine gl_pure 3 [0, 3, 4, 5, 67] (K' := [(0, .string j12), (3, .int .i32 s51.1), (4, .int .i64 s51.2), (5, .bool j37.2.2), (67, .bool (decide (c78 ≤ 57)))]) (by kernel_rfl) ?_
                    refine gl_case 67 (b := (decide (c78 ≤ 57))) (by kernel_rfl) (fun hc80 => ?_) (fun hc80 => ?_)
                    · have hj71 := cond_t hc80 hj71
                      refine gl_pure 16 [0, 3, 4, 5, 83] (K' := [(0, .string j12), (3, .int .i32 s51.1), (4, .int .i64 s51.2), (5, .bool j37.2.2), (83, .bool true)]) (by kernel_rfl) ?_
                      refine gl_atE (by kernel_rfl) ?_
                      obtain rfl := some_inj hj71
                      exact ge_mid fun t ht => ⟨(Imm.refl _), rfl, ht.pick (l := [0, 3, 4, 5, 83]) (by kernel_rfl)⟩
                    · have hj71 := cond_f hc80 hj71
                      refine gl_pure 2 [0, 3, 4, 5, 67, 69] (K' := [(0, .string j12), (3, .int .i32 s51.1), (4, .int .i64 s51.2), (5, .bool j37.2.2), (67, .bool false), (69, .bool j37.2.2)]) (by kernel_rfl) ?_
                      refine gl_case 69 (b := j37.2.2) (by kernel_rfl) (fun hc81 => ?_) (fun hc81 => ?_)
                      · have hj71 := cond_t hc81 hj71
                        refine gl_pure 2 [0, 3, 4, 5, 67, 69, 70, 71] (K' := [(0, .string j12), (3, .int .i32 s51.1), (4, .int .i64 s51.2), (5, .bool j37.2.2), (67, .bool false), (69, .bool true), (70, .string j12), (71, .int .i64 s51.2)]) (by kernel_rfl) ?_
                        obtain ⟨c82, hx83, hj71⟩ := bind_some hj71
                        refine gl_index' (T' := 9) (xs := (.tmp 70)) (xi := (.tmp 71)) (kd := .i64) hx83 (by kernel_rfl) (by kernel_rfl) (by kernel_rfl) (by kernel_rfl) (by kernel_rfl) ?_
                        refine gl_callQ (by kernel_rfl) (strconv_lower_walk (r := (strconv_lower c82))  rfl _) ?_
                        refine gl_pure 3 [0, 3, 4, 5, 67, 76] (K' := [(0, .string j12), (3, .int .i32 s51.1), (4, .int .i64 s51.2), (5, .bool j37.2.2), (67, .bool false), (76, .bool (decide (97 ≤ (strconv_lower c82))))]) (by kernel_rfl) ?_
                        refine gl_case 76 (b := (decide (97 ≤ (strconv_lower c82)))) (by kernel_rfl) (fun hc84 => ?_) (fun hc84 => ?_)
                        · have hj71 := cond_t hc84 hj71
                          refine gl_pure 2 [0, 3, 4, 5, 67, 76, 77, 78] (K' := [(0, .string j12), (3, .int .i32 s51.1), (4, .int .i64 s51.2), (5, .bool j37.2.2), (67, .bool false), (76, .bool true), (77, .string j12), (78, .int .i64 s51.2)]) (by kernel_rfl) ?_
                          obtain ⟨c85, hx86, hj71⟩ := bind_some hj71
                          refine gl_index' (T' := 9) (xs := (.tmp 77)) (xi := (.tmp 78)) (kd := .i64) hx86 (by kernel_rfl) (by kernel_rfl) (by kernel_rfl) (by kernel_rfl) (by kernel_rfl) ?_
                          refine gl_callQ (by kernel_rfl) (strconv_lower_walk (r := (strconv_lower c85))  rfl _) ?_
                          refine gl_pure 3 [0, 3, 4, 5, 83] (K' := [(0, .string j12), (3, .int .i32 s51.1), (4, .int .i64 s51.2), (5, .bool j37.2.2), (83, .bool (decide ((strconv_lower c85) ≤ 102)))]) (by kernel_rfl) ?_
                          refine gl_atE (by kernel_rfl) ?_
                          obtain rfl := some_inj hj71
                          exact ge_mid fun t ht => ⟨(Imm.refl _), rfl, ht.pick (l := [0, 3, 4, 5, 83]) (by kernel_rfl)⟩
                        · have hj71 := cond_f hc84 hj71
                          refine gl_pure 7 [0, 3, 4, 5, 83] (K' := [(0, .string j12), (3, .int .i32 s51.1), (4, .int .i64 s51.2), (5, .bool j37.2.2), (83, .bool false)]) (by kernel_rfl) ?_
                          refine gl_atE (by kernel_rfl) ?_
                          obtain rfl := some_inj hj71
                          exact ge_mid fun t ht => ⟨(Imm.refl _), rfl, ht.pick (l := [0, 3, 4, 5, 83]) (by kernel_rfl)⟩
                      · have hj71 := cond_f hc81 hj71
                        refine gl_pure 14 [0, 3, 4, 5, 83] (K' := [(0, .string j12), (3, .int .i32 s51.1), (4, .int .i64 s51.2), (5, .bool j37.2.2), (83, .bool false)]) (by kernel_rfl) ?_
                        refine gl_atE (by kernel_rfl) ?_
                        obtain rfl := some_inj hj71
                        exact ge_mid fun t ht => ⟨(Imm.refl _), rfl, ht.pick (l := [0, 3, 4, 5, 83]) (by kernel_rfl)⟩
                  · have hj71 := cond_f hc77 hj71
                    refine gl_pure 8 [0, 3, 4, 5, 67, 69] (K' := [(0, .string j12), (3, .int .i32 s51.1), (4, .int .i64 s51.2), (5, .bool j37.2.2), (67, .bool false), (69, .bool j37.2.2)]) (by kernel_rfl) ?_
                    refine gl_case 69 (b := j37.2.2) (by kernel_rfl) (fun hc87 => ?_) (fun hc87 => ?_)
                    · have hj71 := cond_t hc87 hj71
                      refine gl_pure 2 [0, 3, 4, 5, 67, 69, 70, 71] (K' := [(0, .string j12), (3, .int .i32 s51.1), (4, .int .i64 s51.2), (5, .bool j37.2.2), (67, .bool false), (69, .bool true), (70, .string j12), (71, .int .i64 s51.2)]) (by kernel_rfl) ?_
                      obtain ⟨c88, hx89, hj71⟩ := bind_some hj71
                      refine gl_index' (T' := 9) (xs := (.tmp 70)) (xi := (.tmp 71)) (kd := .i64) hx89 (by kernel_rfl) (by kernel_rfl) (by kernel_rfl) (by kernel_rfl) (by kernel_rfl) ?_
                      refine gl_callQ (by kernel_rfl) (strconv_lower_walk (r := (strconv_lower c88))  rfl _) ?_
                      refine gl_pure 3 [0, 3, 4, 5, 67, 76] (K' := [(0, .string j12), (3, .int .i32 s51.1), (4, .int .i64 s51.2), (5, .bool j37.2.2), (67, .bool false), (76, .bool (decide (97 ≤ (strconv_lower c88))))]) (by kernel_rfl) ?_
                      refine gl_case 76 (b := (decide (97 ≤ (strconv_lower c88)))) (by kernel_rfl) (fun hc90 => ?_) (fun hc90 => ?_)
                      · have hj71 := cond_t hc90 hj71
                        refine gl_pure 2 [0, 3, 4, 5, 67, 76, 77, 78] (K' := [(0, .string j12), (3, .int .i32 s51.1), (4, .int .i64 s51.2), (5, .bool j37.2.2), (67, .bool false), (76, .bool true), (77, .string j12), (78, .int .i64 s51.2)]) (by kernel_rfl) ?_
                        obtain ⟨c91, hx92, hj71⟩ := bind_some hj71
                        refine gl_index' (T' := 9) (xs := (.tmp 77)) (xi := (.tmp 78)) (kd := .i64) hx92 (by kernel_rfl) (by kernel_rfl) (by kernel_rfl) (by kernel_rfl) (by kernel_rfl) ?_
                        refine gl_callQ (by kernel_rfl) (strconv_lower_walk (r := (strconv_lower c91))  rfl _) ?_
                        refine gl_pure 3 [0, 3, 4, 5, 83] (K' := [(0, .string j12), (3, .int .i32 s51.1), (4, .int .i64 s51.2), (5, .bool j37.2.2), (83, .bool (decide ((strconv_lower c91) ≤ 102)))]) (by kernel_rfl) ?_
                        refine gl_atE (by kernel_rfl) ?_
                        obtain rfl := some_inj hj71
                        exact ge_mid fun t ht => ⟨(Imm.refl _), rfl, ht.pick (l := [0, 3, 4, 5, 83]) (by kernel_rfl)⟩
                      · have hj71 := cond_f hc90 hj71
                        refine gl_pure 7 [0, 3, 4, 5, 83] (K' := [(0, .string j12), (3, .int .i32 s51.1), (4, .int .i64 s51.2), (5, .bool j37.2.2), (83, .bool false)]) (by kernel_rfl) ?_
                        refine gl_atE (by kernel_rfl) ?_
                        obtain rfl := some_inj hj71
                        exact ge_mid fun t ht => ⟨(Imm.refl _), rfl, ht.pick (l := [0, 3, 4, 5, 83]) (by kernel_rfl)⟩
                    · have hj71 := cond_f hc87 hj71
                      refine gl_pure 14 [0, 3, 4, 5, 83] (K' := [(0, .string j12), (3, .int .i32 s51.1), (4, .int .i64 s51.2), (5, .bool j37.2.2), (83, .bool false)]) (by kernel_rfl) ?_
                      refine gl_atE (by kernel_rfl) ?_
                      obtain rfl := some_inj hj71
                      exact ge_mid fun t ht => ⟨(Imm.refl _), rfl, ht.pick (l := [0, 3, 4, 5, 83]) (by kernel_rfl)⟩
                · rintro t I74 L' ⟨hI72, rfl, hK73⟩
                  refine ge_at hK73 ?_
                  refine ge_seq ?_
                  refine gk_cond (b := j70) (by kernel_rfl) (by kernel_rfl) (fun hc93 => ?_) (fun hc93 => ?_)
                  · have hj65 := cond_t hc93 hj65
                    refine gk_seq (by kernel_rfl) ?_
                    refine gk_region (by kernel_rfl) ?_
                    refine gl_pure 1 [0, 3, 4, 5] (K' := [(0, .string j12), (3, .int .i32 48), (4, .int .i64 s51.2), (5, .bool j37.2.2)]) (by kernel_rfl) ?_
                    refine gl_atE (by kernel_rfl) ?_
                    refine ge_seq ?_
                    refine gk_exit (by kernel_rfl) ?_
                    refine ge_seq_exit ?_
                    refine ge_block_hit (by kernel_rfl) ?_
                    obtain rfl := some_inj hj65
                    exact ge_mid fun t ht => ⟨_, rfl, hI72, rfl, ht.pick (l := [0, 3, 4, 5]) (by kernel_rfl)⟩
                  · have hj65 := cond_f hc93 hj65
                    refine gk_skip (by kernel_rfl) ?_
                    refine ge_seq ?_
                    refine gk_seq (by kernel_rfl) ?_
                    refine gk_seq (by kernel_rfl) ?_
                    refine gk_region (by kernel_rfl) ?_
                    refine gl_pure 2 [0, 3, 4, 5, 84, 85] (K' := [(0, .string j12), (3, .int .i32 s51.1), (4, .int .i64 s51.2), (5, .bool j37.2.2), (84, .string j12), (85, .int .i64 s51.2)]) (by kernel_rfl) ?_
                    obtain ⟨c94, hx95, hj65⟩ := bind_some hj65
                    refine gl_index' (T' := 9) (xs := (.tmp 84)) (xi := (.tmp 85)) (kd := .i64) hx95 (by kernel_rfl) (by kernel_rfl) (by kernel_rfl) (by kernel_rfl) (by kernel_rfl) ?_
                    refine gl_pure 1 [0, 3, 4, 5, 87] (K' := [(0, .string j12), (3, .int .i32 s51.1), (4, .int .i64 s51.2), (5, .bool j37.2.2), (87, .bool (c94 == 95))]) (by kernel_rfl) ?_
                    refine gl_atE (by kernel_rfl) ?_
                    refine ge_seq ?_
                    refine gk_cond (b := (c94 == 95)) (by kernel_rfl) (by kernel_rfl) (fun hc96 => ?_) (fun hc96 => ?_)
                    · have hj65 := cond_t hc96 hj65
                      refine gk_seq (by kernel_rfl) ?_
                      refine gk_seq (by kernel_rfl) ?_
                      refine gk_region (by kernel_rfl) ?_
                      refine gl_pure 2 [0, 4, 5, 89] (K' := [(0, .string j12), (4, .int .i64 s51.2), (5, .bool j37.2.2), (89, .bool (s51.1 != 48))]) (by kernel_rfl) ?_
                      refine gl_atE (by kernel_rfl) ?_
                      refine ge_seq ?_
                      refine gk_cond (b := (s51.1 != 48)) (by kernel_rfl) (by kernel_rfl) (fun hc97 => ?_) (fun hc97 => ?_)
                      · have hj65 := cond_t hc97 hj65
                        refine gk_seq (by kernel_rfl) ?_
                        refine gk_region (by kernel_rfl) ?_
                        refine gl_pure 1 [2] (K' := [(2, .bool false)]) (by kernel_rfl) ?_
                        refine gl_atE (by kernel_rfl) ?_
                        refine ge_seq ?_
                        refine gk_ret (by kernel_rfl) ?_
                        refine ge_seq_ret ?_
                        refine ge_seq_ret ?_
                        refine ge_block_ret ?_
                        refine ge_seq_ret ?_
                        obtain rfl := some_inj hj65
                        refine ge_seq_ret ?_
                        obtain rfl := some_inj hb53
                        refine ge_round_out (fun hrr => ?_) (by intro h; cases h)
                        obtain rfl := hrr
                        refine ge_block_ret ?_
                        refine ge_seq_ret ?_
                        refine ge_seq_ret ?_
                        obtain rfl := some_inj hr
                        exact ge_result trivial (ResOk.tmp (by kernel_rfl) ResOk.nil) (Imm.trans (Imm.trans (Imm.trans (Imm.trans (Imm.trans hI3 hI14) hI22) hI39) hI54) hI72) ⟨rfl, rfl⟩
                      · have hj65 := cond_f hc97 hj65
                        refine gk_skip (by kernel_rfl) ?_
                        refine ge_seq ?_
                        refine gk_seq (by kernel_rfl) ?_
                        refine gk_region (by kernel_rfl) ?_
                        refine gl_pure 1 [0, 3, 4, 5] (K' := [(0, .string j12), (3, .int .i32 95), (4, .int .i64 s51.2), (5, .bool j37.2.2)]) (by kernel_rfl) ?_
                        refine gl_atE (by kernel_rfl) ?_
                        refine ge_seq ?_
                        refine gk_exit (by kernel_rfl) ?_
                        refine ge_seq_exit ?_
                        refine ge_block_hit (by kernel_rfl) ?_
                        obtain rfl := some_inj hj65
                        exact ge_mid fun t ht => ⟨_, rfl, hI72, rfl, ht.pick (l := [0, 3, 4, 5]) (by kernel_rfl)⟩
                    · have hj65 := cond_f hc96 hj65
                      refine gk_skip (by kernel_rfl) ?_
                      refine ge_seq ?_
                      refine gk_seq (by kernel_rfl) ?_
                      refine gk_seq (by kernel_rfl) ?_
                      refine gk_region (by kernel_rfl) ?_
                      refine gl_pure 2 [0, 4, 5, 91] (K' := [(0, .string j12), (4, .int .i64 s51.2), (5, .bool j37.2.2), (91, .bool (s51.1 == 95))]) (by kernel_rfl) ?_
                      refine gl_atE (by kernel_rfl) ?_
                      refine ge_seq ?_
                      refine gk_cond (b := (s51.1 == 95)) (by kernel_rfl) (by kernel_rfl) (fun hc98 => ?_) (fun hc98 => ?_)
                      · have hj65 := cond_t hc98 hj65
                        refine gk_seq (by kernel_rfl) ?_
                        refine gk_region (by kernel_rfl) ?_
                        refine gl_pure 1 [2] (K' := [(2, .bool false)]) (by kernel_rfl) ?_
                        refine gl_atE (by kernel_rfl) ?_
                        refine ge_seq ?_
                        refine gk_ret (by kernel_rfl) ?_
                        refine ge_seq_ret ?_
                        refine ge_block_ret ?_
                        refine ge_seq_ret ?_
                        obtain rfl := some_inj hj65
                        refine ge_seq_ret ?_
                        obtain rfl := some_inj hb53
                        refine ge_round_out (fun hrr => ?_) (by intro h; cases h)
                        obtain rfl := hrr
                        refine ge_block_ret ?_
                        refine ge_seq_ret ?_
                        refine ge_seq_ret ?_
                        obtain rfl := some_inj hr
                        exact ge_result trivial (ResOk.tmp (by kernel_rfl) ResOk.nil) (Imm.trans (Imm.trans (Imm.trans (Imm.trans (Imm.trans hI3 hI14) hI22) hI39) hI54) hI72) ⟨rfl, rfl⟩
                      · have hj65 := cond_f hc98 hj65
                        refine gk_skip (by kernel_rfl) ?_
                        refine ge_seq ?_
                        refine gk_region (by kernel_rfl) ?_
                        refine gl_pure 1 [0, 3, 4, 5] (K' := [(0, .string j12), (3, .int .i32 33), (4, .int .i64 s51.2), (5, .bool j37.2.2)]) (by kernel_rfl) ?_
                        refine gl_atE (by kernel_rfl) ?_
                        refine ge_block_normal ?_
                        obtain rfl := some_inj hj65
                        exact ge_mid fun t ht => ⟨_, rfl, hI72, rfl, ht.pick (l := [0, 3, 4, 5]) (by kernel_rfl)⟩
              · rintro t I69 L' ⟨j66, rfl, hI67, rfl, hK68⟩
                refine ge_at hK68 ?_
                refine ge_seq ?_
                refine gk_region (by kernel_rfl) ?_
                refine gl_pure 3 [0, 3, 4, 5] (K' := [(0, .string j12), (3, .int .i32 j66), (4, .int .i64 (IntKind.wrap .i64 (s51.2 + 1))), (5, .bool j37.2.2)]) (by kernel_rfl) ?_
                refine gl_atE (by kernel_rfl) ?_
                obtain rfl := some_inj hb53
                exact ge_round fun t ht => ⟨(Imm.trans hI54 hI67), rfl, ht.pick (l := [0, 3, 4, 5]) (by kernel_rfl)⟩
            · have hb53 := cond_f hc63 hb53
              refine gk_exit (by kernel_rfl) ?_
              refine ge_seq_exit ?_
              obtain rfl := some_inj hb53
              refine ge_round_out (fun hrr => ?_) (by intro h; cases h)
              obtain rfl := hrr
              refine ge_block_hit (by kernel_rfl) ?_
              exact ge_mid fun t ht => ⟨_, rfl, hI54, rfl, ht.pick (l := [3]) (by kernel_rfl)⟩
          · rintro t I60 L' ⟨r57, rfl, hI58, rfl, hK59⟩
            refine ge_at hK59 ?_
            refine ge_seq ?_
            refine gk_seq (by kernel_rfl) ?_
            refine gk_region (by kernel_rfl) ?_
            refine gl_pure 3 [2] (K' := [(2, .bool (r57 != 95))]) (by kernel_rfl) ?_
            refine gl_atE (by kernel_rfl) ?_
            refine ge_seq ?_
            refine gk_ret (by kernel_rfl) ?_
            obtain rfl := some_inj hr
            exact ge_result trivial (ResOk.tmp (by kernel_rfl) ResOk.nil) (Imm.trans (Imm.trans (Imm.trans (Imm.trans hI3 hI14) hI22) hI39) hI58) ⟨rfl, rfl⟩
/-! 72 strconv_ParseUint_f72  -/
noncomputable def strconv_ParseUint_f72_l123 (a1 : Int) (j8 : ByteArray × Int) (j86 : Int) (q100 : Int) (l102 : List Int) : (Bool × Int × Int) → Option ((Bool × Int × Int) ⊕ (Bool × Int)) := fun s114 =>
  bif (decide (s114.2.2 < (l102.length : Int))) then
  (Option.bind (Option.bind (ix l102 s114.2.2) fun (x131 : Int) =>
      bif ((x131 == 95) && (a1 == 0)) then
      (some (true, s114.2.1))
      else
      (Option.bind (bif ((decide (48 ≤ x131)) && (decide (x131 ≤ 57))) then
          (some (IntKind.wrap .u8 (x131 - 48)))
          else
          (bif ((decide (97 ≤ (strconv_lower x131))) && (decide ((strconv_lower x131) ≤ 122))) then
            (some (IntKind.wrap .u8 ((IntKind.wrap .u8 ((strconv_lower x131) - 97)) + 10)))
            else
            (none))) fun (j151 : Int) =>
        bif (decide (j151 ≥ (IntKind.wrap .u8 j8.2))) then
        (none)
        else
        (bif (decide (s114.2.1 ≥ j86)) then
          (none)
          else
          (bif ((decide ((IntKind.wrap .u64 ((IntKind.wrap .u64 (s114.2.1 * (IntKind.wrap .u64 j8.2))) + (IntKind.wrap .u64 j151))) < (IntKind.wrap .u64 (s114.2.1 * (IntKind.wrap .u64 j8.2))))) || (decide ((IntKind.wrap .u64 ((IntKind.wrap .u64 (s114.2.1 * (IntKind.wrap .u64 j8.2))) + (IntKind.wrap .u64 j151))) > (IntKind.wrap .u64 (q100 - 1))))) then
            (none)
            else
            (some (s114.1, (IntKind.wrap .u64 ((IntKind.wrap .u64 (s114.2.1 * (IntKind.wrap .u64 j8.2))) + (IntKind.wrap .u64 j151))))))))) fun (j126 : Bool × Int) =>
    some (Sum.inl (j126.1, j126.2, (IntKind.wrap .i64 (s114.2.2 + 1)))))
  else
  (some (Sum.inr (s114.1, s114.2.1)))
noncomputable def strconv_ParseUint_f72 (a0 : ByteArray) (a1 : Int) (a2 : Int) : Option (Int × Unit) :=
  bif (a0.toList == (⟨#[]⟩ : ByteArray).toList) then
  (none)
  else
  (Option.bind (bif ((decide (2 ≤ a1)) && (decide (a1 ≤ 36))) then
      (some (a0, a1))
      else
      (bif (a1 == 0) then
        (Option.bind (bx a0 0) fun (c15 : Int) =>
          Option.bind (bif (c15 == 48) then
            (Option.bind (bif (decide ((a0.size : Int) ≥ 3)) then
                (Option.bind (bx a0 1) fun (c29 : Int) =>
                  some ((strconv_lower c29) == 98))
                else
                (some false)) fun (j23 : Bool) =>
              Option.bind (bif j23 then
                (Option.bind (sx a0 2 (a0.size : Int)) fun (s38 : ByteArray) =>
                  some (s38, 2))
                else
                (Option.bind (bif (decide ((a0.size : Int) ≥ 3)) then
                    (Option.bind (bx a0 1) fun (c45 : Int) =>
                      some ((strconv_lower c45) == 111))
                    else
                    (some false)) fun (j39 : Bool) =>
                  Option.bind (bif j39 then
                    (Option.bind (sx a0 2 (a0.size : Int)) fun (s54 : ByteArray) =>
                      some (s54, 8))
                    else
                    (Option.bind (bif (decide ((a0.size : Int) ≥ 3)) then
                        (Option.bind (bx a0 1) fun (c61 : Int) =>
                          some ((strconv_lower c61) == 120))
                        else
                        (some false)) fun (j55 : Bool) =>
                      Option.bind (bif j55 then
                        (Option.bind (sx a0 2 (a0.size : Int)) fun (s70 : ByteArray) =>
                          some (s70, 16))
                        else
                        (Option.bind (sx a0 1 (a0.size : Int)) fun (s72 : ByteArray) =>
                          some (s72, 8))) fun (j63 : ByteArray × Int) =>
                      some (j63.1, j63.2))) fun (j47 : ByteArray × Int) =>
                  some (j47.1, j47.2))) fun (j31 : ByteArray × Int) =>
              some (j31.1, j31.2))
            else
            (some (a0, 10))) fun (j17 : ByteArray × Int) =>
          some (j17.1, j17.2))
        else
        (none))) fun (j8 : ByteArray × Int) =>
    Option.bind (bif (a2 == 0) then
      (some 64)
      else
      (bif ((decide (a2 < 0)) || (decide (a2 > 64))) then
        (none)
        else
        (some a2))) fun (j73 : Int) =>
    Option.bind (bif (j8.2 == 10) then
      (some 1844674407370955162)
      else
      (Option.bind (bif (j8.2 == 16) then
          (some 1152921504606846976)
          else
          (Option.bind (quox .u64 18446744073709551615 (IntKind.wrap .u64 j8.2)) fun (q98 : Int) =>
            some (IntKind.wrap .u64 (q98 + 1)))) fun (j92 : Int) =>
        some j92)) fun (j86 : Int) =>
    Option.bind (shlx .u64 1 (IntKind.wrap .u64 j73)) fun (q100 : Int) =>
    Option.bind (sb j8.1) fun (l102 : List Int) =>
    Option.bind (loopO (strconv_ParseUint_f72_l123 a1 j8 j86 q100 l102) (false, 0, 0)) fun (r112 : Bool × Int) =>
    Option.bind (bif r112.1 then
      (Option.bind (strconv_underscoreOK a0) fun (y179 : Bool) =>
        some (!y179))
      else
      (some false)) fun (j173 : Bool) =>
    bif j173 then
    (none)
    else
    (some (r112.2, ())))
theorem strconv_ParseUint_f72_walk {a0 : ByteArray} {a1 : Int} {a2 : Int} {I : Imm} {r : Int × Unit}  (hr : strconv_ParseUint_f72 a0 a1 a2 = some r) (L : Own) :
    CallsTo Tryd.prog 72 #[.string a0, .int .i64 a1, .int .i64 a2] I L (fun v I' L' => v = .tuple #[.int .u64 r.1, .nilIface] ∧ L = L') := by
  unfold strconv_ParseUint_f72 at hr
  refine callsTo_body (N := 172) Tryd.func72 (by kernel_rfl) (by kernel_rfl) (by kernel_rfl) ?_
  refine gk_pick [0, 1, 2] (K' := [(0, .string a0), (1, .int .i64 a1), (2, .int .i64 a2)]) (by kernel_rfl) ?_
  refine gk_seq (by kernel_rfl) ?_
  refine gk_region (by kernel_rfl) ?_
  refine gl_pure 2 [0, 1, 2] (K' := [(0, .string a0), (1, .int .i64 a1), (2, .int .i64 a2)]) (by kernel_rfl) ?_
  refine gl_atE (by kernel_rfl) ?_
  refine ge_seq ?_
  refine gk_seq (by kernel_rfl) ?_
  refine gk_seq (by kernel_rfl) ?_
  refine gk_region (by kernel_rfl) ?_
  refine gl_pure 2 [0, 1, 2, 19] (K' := [(0, .string a0), (1, .int .i64 a1), (2, .int .i64 a2), (19, .bool (a0.toList == (⟨#[]⟩ : ByteArray).toList))]) (by kernel_rfl) ?_
  refine gl_atE (by kernel_rfl) ?_
  refine ge_seq ?_
  refine gk_cond (b := (a0.toList == (⟨#[]⟩ : ByteArray).toList)) (by kernel_rfl) (by kernel_rfl) (fun hc1 => ?_) (fun hc1 => ?_)
  · have hr := cond_t hc1 hr
    cases hr
  · have hr := cond_f hc1 hr
    refine gk_skip (by kernel_rfl) ?_
    refine ge_seq ?_
    refine gk_seq (by kernel_rfl) ?_
    refine gk_region (by kernel_rfl) ?_
    refine gl_pure 3 [0, 1, 2, 8] (K' := [(0, .string a0), (1, .int .i64 a1), (2, .int .i64 a2), (8, .bool (a1 == 0))]) (by kernel_rfl) ?_
    refine gl_atE (by kernel_rfl) ?_
    refine ge_seq ?_
    refine gk_seq (by kernel_rfl) ?_
    refine gk_region (by kernel_rfl) ?_
    refine gl_pure 2 [0, 1, 2, 8, 9] (K' := [(0, .string a0), (1, .int .i64 a1), (2, .int .i64 a2), (8, .bool (a1 == 0)), (9, .string a0)]) (by kernel_rfl) ?_
    refine gl_atE (by kernel_rfl) ?_
    refine ge_seq ?_
    refine gk_seq (by kernel_rfl) ?_
    refine gk_block (by kernel_rfl) ?_
    refine gk_seq (by kernel_rfl) ?_
    obtain ⟨b4, hb5⟩ : ∃ z, z = ((decide (2 ≤ a1)) && (decide (a1 ≤ 36))) := ⟨_, rfl⟩
    refine gk_join (fun t I' L' => I ≤ I' ∧ L = L' ∧ Knows 172 [(0, .string a0), (1, .int .i64 a1), (2, .int .i64 a2), (8, .bool (a1 == 0)), (9, .string a0), (25, .bool b4)] t) ?_ ?_
    · refine gk_region (by kernel_rfl) ?_
      refine gl_pure 3 [0, 1, 2, 8, 9, 28] (K' := [(0, .string a0), (1, .int .i64 a1), (2, .int .i64 a2), (8, .bool (a1 == 0)), (9, .string a0), (28, .bool (decide (2 ≤ a1)))]) (by kernel_rfl) ?_
      refine gl_case 28 (b := (decide (2 ≤ a1))) (by kernel_rfl) (fun hc7 => ?_) (fun hc7 => ?_)
      · refine gl_pure 4 [0, 1, 2, 8, 9, 25] (K' := [(0, .string a0), (1, .int .i64 a1), (2, .int .i64 a2), (8, .bool (a1 == 0)), (9, .string a0), (25, .bool (decide (a1 ≤ 36)))]) (by kernel_rfl) ?_
        refine gl_atE (by kernel_rfl) ?_
        exact ge_mid fun t ht => ⟨(Imm.refl _), rfl, by rw [(show b4 = (decide (a1 ≤ 36)) from hb5.trans (by rw [hc7]; try rfl))]; exact ht.pick (l := [0, 1, 2, 8, 9, 25]) (by kernel_rfl)⟩
      · refine gl_pure 4 [0, 1, 2, 8, 9, 25] (K' := [(0, .string a0), (1, .int .i64 a1), (2, .int .i64 a2), (8, .bool (a1 == 0)), (9, .string a0), (25, .bool false)]) (by kernel_rfl) ?_
        refine gl_atE (by kernel_rfl) ?_
        exact ge_mid fun t ht => ⟨(Imm.refl _), rfl, by rw [(show b4 = false from hb5.trans (by rw [hc7]; try rfl))]; exact ht.pick (l := [0, 1, 2, 8, 9, 25]) (by kernel_rfl)⟩
    · rintro t I6 L' ⟨hI2, rfl, hK3⟩
      subst hb5
      refine ge_at hK3 ?_
      refine ge_seq ?_
      obtain ⟨j8, hj9, hr⟩ := bind_some hr
      refine gk_join (fun t I' L' => I6 ≤ I' ∧ L = L' ∧ Knows 172 [(0, .string j8.1), (1, .int .i64 j8.2), (2, .int .i64 a2), (8, .bool (a1 == 0)), (9, .string a0)] t) ?_ ?_
      · refine gk_cond (b := ((decide (2 ≤ a1)) && (decide (a1 ≤ 36)))) (by kernel_rfl) (by kernel_rfl) (fun hc13 => ?_) (fun hc13 => ?_)
        · have hj9 := cond_t hc13 hj9
          refine gk_skip (by kernel_rfl) ?_
          obtain rfl := some_inj hj9
          exact ge_mid fun t ht => ⟨(Imm.refl _), rfl, ht.pick (l := [0, 1, 2, 8, 9]) (by kernel_rfl)⟩
        · have hj9 := cond_f hc13 hj9
          refine gk_seq (by kernel_rfl) ?_
          refine gk_region (by kernel_rfl) ?_
          refine gl_pure 3 [0, 2, 8, 9, 32] (K' := [(0, .string a0), (2, .int .i64 a2), (8, .bool (a1 == 0)), (9, .string a0), (32, .bool (a1 == 0))]) (by kernel_rfl) ?_
          refine gl_atE (by kernel_rfl) ?_
          refine ge_seq ?_
          refine gk_cond (b := (a1 == 0)) (by kernel_rfl) (by kernel_rfl) (fun hc14 => ?_) (fun hc14 => ?_)
          · have hj9 := cond_t hc14 hj9
            refine gk_seq (by kernel_rfl) ?_
            refine gk_region (by kernel_rfl) ?_
            refine gl_pure 1 [0, 1, 2, 8, 9] (K' := [(0, .string a0), (1, .int .i64 10), (2, .int .i64 a2), (8, .bool (a1 == 0)), (9, .string a0)]) (by kernel_rfl) ?_
            refine gl_atE (by kernel_rfl) ?_
            refine ge_seq ?_
            refine gk_seq (by kernel_rfl) ?_
            refine gk_region (by kernel_rfl) ?_
            refine gl_pure 1 [0, 1, 2, 8, 9, 35] (K' := [(0, .string a0), (1, .int .i64 10), (2, .int .i64 a2), (8, .bool (a1 == 0)), (9, .string a0), (35, .string a0)]) (by kernel_rfl) ?_
            obtain ⟨c15, hx16, hj9⟩ := bind_some hj9
            refine gl_index' (T' := 9) (xs := (.tmp 35)) (xi := (.const (.int .i64 0))) (kd := .i64) hx16 (by kernel_rfl) (by kernel_rfl) (by kernel_rfl) (by kernel_rfl) (by kernel_rfl) ?_
            refine gl_pure 1 [0, 1, 2, 8, 9, 37] (K' := [(0, .string a0), (1, .int .i64 10), (2, .int .i64 a2), (8, .bool (a1 == 0)), (9, .string a0), (37, .bool (c15 == 48))]) (by kernel_rfl) ?_
            refine gl_atE (by kernel_rfl) ?_
            refine ge_seq ?_
            obtain ⟨j17, hj18, hj9⟩ := bind_some hj9
            refine gk_join (fun t I' L' => I6 ≤ I' ∧ L = L' ∧ Knows 172 [(0, .string j17.1), (1, .int .i64 j17.2), (2, .int .i64 a2), (8, .bool (a1 == 0)), (9, .string a0)] t) ?_ ?_
            · refine gk_cond (b := (c15 == 48)) (by kernel_rfl) (by kernel_rfl) (fun hc22 => ?_) (fun hc22 => ?_)
              · have hj18 := cond_t hc22 hj18
                refine gk_block (by kernel_rfl) ?_
                refine gk_seq (by kernel_rfl) ?_
                obtain ⟨j23, hj24, hj18⟩ := bind_some hj18
                refine gk_join (fun t I' L' => I6 ≤ I' ∧ L = L' ∧ Knows 172 [(0, .string a0), (2, .int .i64 a2), (8, .bool (a1 == 0)), (9, .string a0), (40, .bool j23)] t) ?_ ?_
                · refine gk_region (by kernel_rfl) ?_
                  refine gl_pure 4 [0, 2, 8, 9, 44] (K' := [(0, .string a0), (2, .int .i64 a2), (8, .bool (a1 == 0)), (9, .string a0), (44, .bool (decide ((a0.size : Int) ≥ 3)))]) (by kernel_rfl) ?_
                  refine gl_case 44 (b := (decide ((a0.size : Int) ≥ 3))) (by kernel_rfl) (fun hc28 => ?_) (fun hc28 => ?_)
                  · have hj24 := cond_t hc28 hj24
                    refine gl_pure 1 [0, 2, 8, 9, 44, 45] (K' := [(0, .string a0), (2, .int .i64 a2), (8, .bool (a1 == 0)), (9, .string a0), (44, .bool true), (45, .string a0)]) (by kernel_rfl) ?_
                    obtain ⟨c29, hx30, hj24⟩ := bind_some hj24
                    refine gl_index' (T' := 9) (xs := (.tmp 45)) (xi := (.const (.int .i64 1))) (kd := .i64) hx30 (by kernel_rfl) (by kernel_rfl) (by kernel_rfl) (by kernel_rfl) (by kernel_rfl) ?_
                    refine gl_callQ (by kernel_rfl) (strconv_lower_walk (r := (strconv_lower c29))  rfl _) ?_
                    refine gl_pure 3 [0, 2, 8, 9, 40] (K' := [(0, .string a0), (2, .int .i64 a2), (8, .bool (a1 == 0)), (9, .string a0), (40, .bool ((strconv_lower c29) == 98))]) (by kernel_rfl) ?_
                    refine gl_atE (by kernel_rfl) ?_
                    obtain rfl := some_inj hj24
                    exact ge_mid fun t ht => ⟨(Imm.refl _), rfl, ht.pick (l := [0, 2, 8, 9, 40]) (by kernel_rfl)⟩
                  · have hj24 := cond_f hc28 hj24
                    refine gl_pure 6 [0, 2, 8, 9, 40] (K' := [(0, .string a0), (2, .int .i64 a2), (8, .bool (a1 == 0)), (9, .string a0), (40, .bool false)]) (by kernel_rfl) ?_
                    refine gl_atE (by kernel_rfl) ?_
                    obtain rfl := some_inj hj24
                    exact ge_mid fun t ht => ⟨(Imm.refl _), rfl, ht.pick (l := [0, 2, 8, 9, 40]) (by kernel_rfl)⟩
                · rintro t I27 L' ⟨hI25, rfl, hK26⟩
                  refine ge_at hK26 ?_
                  refine ge_seq ?_
                  obtain ⟨j31, hj32, hj18⟩ := bind_some hj18
                  refine gk_join (fun t I' L' => I27 ≤ I' ∧ L = L' ∧ Knows 172 [(0, .string j31.1), (1, .int .i64 j31.2), (2, .int .i64 a2), (8, .bool (a1 == 0)), (9, .string a0)] t) ?_ ?_
                  · refine gk_cond (b := j23) (by kernel_rfl) (by kernel_rfl) (fun hc36 => ?_) (fun hc36 => ?_)
                    · have hj32 := cond_t hc36 hj32
                      refine gk_seq (by kernel_rfl) ?_
                      refine gk_region (by kernel_rfl) ?_
                      refine gl_pure 1 [0, 1, 2, 8, 9] (K' := [(0, .string a0), (1, .int .i64 2), (2, .int .i64 a2), (8, .bool (a1 == 0)), (9, .string a0)]) (by kernel_rfl) ?_
                      refine gl_atE (by kernel_rfl) ?_
                      refine ge_seq ?_
                      refine gk_region (by kernel_rfl) ?_
                      refine gl_pure 1 [1, 2, 8, 9, 50] (K' := [(1, .int .i64 2), (2, .int .i64 a2), (8, .bool (a1 == 0)), (9, .string a0), (50, .string a0)]) (by kernel_rfl) ?_
                      obtain ⟨s38, hx37, hj32⟩ := bind_some hj32
                      refine gl_slice' (T' := 9) (xs := (.tmp 50)) (lo := (some (.const (.int .i64 2)))) (hi := none) hx37 (by kernel_rfl) (by kernel_rfl) (by kernel_rfl) (by kernel_rfl) (by kernel_rfl) (by kernel_rfl) ?_
                      refine gl_pure 1 [0, 1, 2, 8, 9] (K' := [(0, .string s38), (1, .int .i64 2), (2, .int .i64 a2), (8, .bool (a1 == 0)), (9, .string a0)]) (by kernel_rfl) ?_
                      refine gl_atE (by kernel_rfl) ?_
                      obtain rfl := some_inj hj32
                      exact ge_mid fun t ht => ⟨(Imm.refl _), rfl, ht.pick (l := [0, 1, 2, 8, 9]) (by kernel_rfl)⟩
                    · have hj32 := cond_f hc36 hj32
                      refine gk_seq (by kernel_rfl) ?_
                      obtain ⟨j39, hj40, hj32⟩ := bind_some hj32
                      refine gk_join (fun t I' L' => I27 ≤ I' ∧ L = L' ∧ Knows 172 [(0, .string a0), (2, .int .i64 a2), (8, .bool (a1 == 0)), (9, .string a0), (52, .bool j39)] t) ?_ ?_
                      · refine gk_region (by kernel_rfl) ?_
                        refine gl_pure 4 [0, 2, 8, 9, 56] (K' := [(0, .string a0), (2, .int .i64 a2), (8, .bool (a1 == 0)), (9, .string a0), (56, .bool (decide ((a0.size : Int) ≥ 3)))]) (by kernel_rfl) ?_
                        refine gl_case 56 (b := (decide ((a0.size : Int) ≥ 3))) (by kernel_rfl) (fun hc44 => ?_) (fun hc44 => ?_)
                        · have hj40 := cond_t hc44 hj40
                          refine gl_pure 1 [0, 2, 8, 9, 56, 57] (K' := [(0, .string a0), (2, .int .i64 a2), (8, .bool (a1 == 0)), (9, .string a0), (56, .bool true), (57, .string a0)]) (by kernel_rfl) ?_
                          obtain ⟨c45, hx46, hj40⟩ := bind_some hj40
                          refine gl_index' (T' := 9) (xs := (.tmp 57)) (xi := (.const (.int .i64 1))) (kd := .i64) hx46 (by kernel_rfl) (by kernel_rfl) (by kernel_rfl) (by kernel_rfl) (by kernel_rfl) ?_
                          refine gl_callQ (by kernel_rfl) (strconv_lower_walk (r := (strconv_lower c45))  rfl _) ?_
                          refine gl_pure 3 [0, 2, 8, 9, 52] (K' := [(0, .string a0), (2, .int .i64 a2), (8, .bool (a1 == 0)), (9, .string a0), (52, .bool ((strconv_lower c45) == 111))]) (by kernel_rfl) ?_
                          refine gl_atE (by kernel_rfl) ?_
                          obtain rfl := some_inj hj40
                          exact ge_mid fun t ht => ⟨(Imm.refl _), rfl, ht.pick (l := [0, 2, 8, 9, 52]) (by kernel_rfl)⟩
                        · have hj40 := cond_f hc44 hj40
                          refine gl_pure 6 [0, 2, 8, 9, 52] (K' := [(0, .string a0), (2, .int .i64 a2), (8, .bool (a1 == 0)), (9, .string a0), (52, .bool false)]) (by kernel_rfl) ?_
                          refine gl_atE (by kernel_rfl) ?_
                          obtain rfl := some_inj hj40
                          exact ge_mid fun t ht => ⟨(Imm.refl _), rfl, ht.pick (l := [0, 2, 8, 9, 52]) (by kernel_rfl)⟩
                      · rintro t I43 L' ⟨hI41, rfl, hK42⟩
                        refine ge_at hK42 ?_
                        refine ge_seq ?_
                        obtain ⟨j47, hj48, hj32⟩ := bind_some hj32
                        refine gk_join (fun t I' L' => I43 ≤ I' ∧ L = L' ∧ Knows 172 [(0, .string j47.1), (1, .int .i64 j47.2), (2, .int .i64 a2), (8, .bool (a1 == 0)), (9, .string a0)] t) ?_ ?_
                        · refine gk_cond (b := j39) (by kernel_rfl) (by kernel_rfl) (fun hc52 => ?_) (fun hc52 => ?_)
                          · have hj48 := cond_t hc52 hj48
                            refine gk_seq (by kernel_rfl) ?_
                            refine gk_region (by kernel_rfl) ?_
                            refine gl_pure 1 [0, 1, 2, 8, 9] (K' := [(0, .string a0), (1, .int .i64 8), (2, .int .i64 a2), (8, .bool (a1 == 0)), (9, .string a0)]) (by kernel_rfl) ?_
                            refine gl_atE (by kernel_rfl) ?_
                            refine ge_seq ?_
                            refine gk_region (by kernel_rfl) ?_
                            refine gl_pure 1 [1, 2, 8, 9, 62] (K' := [(1, .int .i64 8), (2, .int .i64 a2), (8, .bool (a1 == 0)), (9, .string a0), (62, .string a0)]) (by kernel_rfl) ?_
                            obtain ⟨s54, hx53, hj48⟩ := bind_some hj48
                            refine gl_slice' (T' := 9) (xs := (.tmp 62)) (lo := (some (.const (.int .i64 2)))) (hi := none) hx53 (by kernel_rfl) (by kernel_rfl) (by kernel_rfl) (by kernel_rfl) (by kernel_rfl) (by kernel_rfl) ?_
                            refine gl_pure 1 [0, 1, 2, 8, 9] (K' := [(0, .string s54), (1, .int .i64 8), (2, .int .i64 a2), (8, .bool (a1 == 0)), (9, .string a0)]) (by kernel_rfl) ?_
                            refine gl_atE (by kernel_rfl) ?_
                            obtain rfl := some_inj hj48
                            exact ge_mid fun t ht => ⟨(Imm.refl _), rfl, ht.pick (l := [0, 1, 2, 8, 9]) (by kernel_rfl)⟩
                          · have hj48 := cond_f hc52 hj48
                            refine gk_seq (by kernel_rfl) ?_
                            obtain ⟨j55, hj56, hj48⟩ := bind_some hj48
                            refine gk_join (fun t I' L' => I43 ≤ I' ∧ L = L' ∧ Knows 172 [(0, .string a0), (2, .int .i64 a2), (8, .bool (a1 == 0)), (9, .string a0), (64, .bool j55)] t) ?_ ?_
                            · refine gk_region (by kernel_rfl) ?_
                              refine gl_pure 4 [0, 2, 8, 9, 68] (K' := [(0, .string a0), (2, .int .i64 a2), (8, .bool (a1 == 0)), (9, .string a0), (68, .bool (decide ((a0.size : Int) ≥ 3)))]) (by kernel_rfl) ?_
                              refine gl_case 68 (b := (decide ((a0.size : Int) ≥ 3))) (by kernel_rfl) (fun hc60 => ?_) (fun hc60 => ?_)
                              · have hj56 := cond_t hc60 hj56
                                refine gl_pure 1 [0, 2, 8, 9, 68, 69] (K' := [(0, .string a0), (2, .int .i64 a2), (8, .bool (a1 == 0)), (9, .string a0), (68, .bool true), (69, .string a0)]) (by kernel_rfl) ?_
                                obtain ⟨c61, hx62, hj56⟩ := bind_some hj56
                                refine gl_index' (T' := 9) (xs := (.tmp 69)) (xi := (.const (.int .i64 1))) (kd := .i64) hx62 (by kernel_rfl) (by kernel_rfl) (by kernel_rfl) (by kernel_rfl) (by kernel_rfl) ?_
                                refine gl_callQ (by kernel_rfl) (strconv_lower_walk (r := (strconv_lower c61))  rfl _) ?_
                                refine gl_pure 3 [0, 2, 8, 9, 64] (K' := [(0, .string a0), (2, .int .i64 a2), (8, .bool (a1 == 0)), (9, .string a0), (64, .bool ((strconv_lower c61) == 120))]) (by kernel_rfl) ?_
                                refine gl_atE (by kernel_rfl) ?_
                                obtain rfl := some_inj hj56
                                exact ge_mid fun t ht => ⟨(Imm.refl _), rfl, ht.pick (l := [0, 2, 8, 9, 64]) (by kernel_rfl)⟩
                              · have hj56 := cond_f hc60 hj56
                                refine gl_pure 6 [0, 2, 8, 9, 64] (K' := [(0, .string a0), (2, .int .i64 a2), (8, .bool (a1 == 0)), (9, .string a0), (64, .bool false)]) (by kernel_rfl) ?_
                                refine gl_atE (by kernel_rfl) ?_
                                obtain rfl := some_inj hj56
                                exact ge_mid fun t ht => ⟨(Imm.refl _), rfl, ht.pick (l := [0, 2, 8, 9, 64]) (by kernel_rfl)⟩
                            · rintro t I59 L' ⟨hI57, rfl, hK58⟩
                              refine ge_at hK58 ?_
                              refine ge_seq ?_
                              obtain ⟨j63, hj64, hj48⟩ := bind_some hj48
                              refine gk_join (fun t I' L' => I59 ≤ I' ∧ L = L' ∧ Knows 172 [(0, .string j63.1), (1, .int .i64 j63.2), (2, .int .i64 a2), (8, .bool (a1 == 0)), (9, .string a0)] t) ?_ ?_
                              · refine gk_cond (b := j55) (by kernel_rfl) (by kernel_rfl) (fun hc68 => ?_) (fun hc68 => ?_)
                                · have hj64 := cond_t hc68 hj64
                                  refine gk_seq (by kernel_rfl) ?_
                                  refine gk_region (by kernel_rfl) ?_
                                  refine gl_pure 1 [0, 1, 2, 8, 9] (K' := [(0, .string a0), (1, .int .i64 16), (2, .int .i64 a2), (8, .bool (a1 == 0)), (9, .string a0)]) (by kernel_rfl) ?_
                                  refine gl_atE (by kernel_rfl) ?_
                                  refine ge_seq ?_
                                  refine gk_region (by kernel_rfl) ?_
                                  refine gl_pure 1 [1, 2, 8, 9, 74] (K' := [(1, .int .i64 16), (2, .int .i64 a2), (8, .bool (a1 == 0)), (9, .string a0), (74, .string a0)]) (by kernel_rfl) ?_
                                  obtain ⟨s70, hx69, hj64⟩ := bind_some hj64
                                  refine gl_slice' (T' := 9) (xs := (.tmp 74)) (lo := (some (.const (.int .i64 2)))) (hi := none) hx69 (by kernel_rfl) (by kernel_rfl) (by kernel_rfl) (by kernel_rfl) (by kernel_rfl) (by kernel_rfl) ?_
                                  refine gl_pure 1 [0, 1, 2, 8, 9] (K' := [(0, .string s70), (1, .int .i64 16), (2, .int .i64 a2), (8, .bool (a1 == 0)), (9, .string a0)]) (by kernel_rfl) ?_
                                  refine gl_atE (by kernel_rfl) ?_
                                  obtain rfl := some_inj hj64
                                  exact ge_mid fun t ht => ⟨(Imm.refl _), rfl, ht.pick (l := [0, 1, 2, 8, 9]) (by kernel_rfl)⟩
                                · have hj64 := cond_f hc68 hj64
                                  refine gk_seq (by kernel_rfl) ?_
                                  refine gk_region (by kernel_rfl) ?_
                                  refine gl_pure 1 [0, 1, 2, 8, 9] (K' := [(0, .string a0), (1, .int .i64 8), (2, .int .i64 a2), (8, .bool (a1 == 0)), (9, .string a0)]) (by kernel_rfl) ?_
                                  refine gl_atE (by kernel_rfl) ?_
                                  refine ge_seq ?_
                                  refine gk_region (by kernel_rfl) ?_
                                  refine gl_pure 1 [1, 2, 8, 9, 38] (K' := [(1, .int .i64 8), (2, .int .i64 a2), (8, .bool (a1 == 0)), (9, .string a0), (38, .string a0)]) (by kernel_rfl) ?_
                                  obtain ⟨s72, hx71, hj64⟩ := bind_some hj64
                                  refine gl_slice' (T' := 9) (xs := (.tmp 38)) (lo := (some (.const (.int .i64 1)))) (hi := none) hx71 (by kernel_rfl) (by kernel_rfl) (by kernel_rfl) (by kernel_rfl) (by kernel_rfl) (by kernel_rfl) ?_
                                  refine gl_pure 1 [0, 1, 2, 8, 9] (K' := [(0, .string s72), (1, .int .i64 8), (2, .int .i64 a2), (8, .bool (a1 == 0)), (9, .string a0)]) (by kernel_rfl) ?_
                                  refine gl_atE (by kernel_rfl) ?_
                                  obtain rfl := some_inj hj64
                                  exact ge_mid fun t ht => ⟨(Imm.refl _), rfl, ht.pick (l := [0, 1, 2, 8, 9]) (by kernel_rfl)⟩
                              · rintro t I67 L' ⟨hI65, rfl, hK66⟩
                                refine ge_at hK66 ?_
                                obtain rfl := some_inj hj48
                                exact ge_mid fun t ht => ⟨(Imm.trans hI57 hI65), rfl, ht.pick (l := [0, 1, 2, 8, 9]) (by kernel_rfl)⟩
                        · rintro t I51 L' ⟨hI49, rfl, hK50⟩
                          refine ge_at hK50 ?_
                          obtain rfl := some_inj hj32
                          exact ge_mid fun t ht => ⟨(Imm.trans hI41 hI49), rfl, ht.pick (l := [0, 1, 2, 8, 9]) (by kernel_rfl)⟩
                  · rintro t I35 L' ⟨hI33, rfl, hK34⟩
                    refine ge_at hK34 ?_
                    refine ge_block_normal ?_
                    obtain rfl := some_inj hj18
                    exact ge_mid fun t ht => ⟨(Imm.trans hI25 hI33), rfl, ht.pick (l := [0, 1, 2, 8, 9]) (by kernel_rfl)⟩
              · have hj18 := cond_f hc22 hj18
                refine gk_skip (by kernel_rfl) ?_
                obtain rfl := some_inj hj18
                exact ge_mid fun t ht => ⟨(Imm.refl _), rfl, ht.pick (l := [0, 1, 2, 8, 9]) (by kernel_rfl)⟩
            · rintro t I21 L' ⟨hI19, rfl, hK20⟩
              refine ge_at hK20 ?_
              obtain rfl := some_inj hj9
              exact ge_mid fun t ht => ⟨hI19, rfl, ht.pick (l := [0, 1, 2, 8, 9]) (by kernel_rfl)⟩
          · have hj9 := cond_f hc14 hj9
            cases hj9
      · rintro t I12 L' ⟨hI10, rfl, hK11⟩
        refine ge_at hK11 ?_
        refine ge_block_normal ?_
        refine ge_seq ?_
        refine gk_seq (by kernel_rfl) ?_
        refine gk_seq (by kernel_rfl) ?_
        refine gk_region (by kernel_rfl) ?_
        refine gl_pure 2 [0, 1, 2, 8, 9, 77] (K' := [(0, .string j8.1), (1, .int .i64 j8.2), (2, .int .i64 a2), (8, .bool (a1 == 0)), (9, .string a0), (77, .bool (a2 == 0))]) (by kernel_rfl) ?_
        refine gl_atE (by kernel_rfl) ?_
        refine ge_seq ?_
        obtain ⟨j73, hj74, hr⟩ := bind_some hr
        refine gk_join (fun t I' L' => I12 ≤ I' ∧ L = L' ∧ Knows 172 [(0, .string j8.1), (1, .int .i64 j8.2), (2, .int .i64 j73), (8, .bool (a1 == 0)), (9, .string a0)] t) ?_ ?_
        · refine gk_cond (b := (a2 == 0)) (by kernel_rfl) (by kernel_rfl) (fun hc78 => ?_) (fun hc78 => ?_)
          · have hj74 := cond_t hc78 hj74
            refine gk_region (by kernel_rfl) ?_
            refine gl_pure 1 [0, 1, 2, 8, 9] (K' := [(0, .string j8.1), (1, .int .i64 j8.2), (2, .int .i64 64), (8, .bool (a1 == 0)), (9, .string a0)]) (by kernel_rfl) ?_
            refine gl_atE (by kernel_rfl) ?_
            obtain rfl := some_inj hj74
            exact ge_mid fun t ht => ⟨(Imm.refl _), rfl, ht.pick (l := [0, 1, 2, 8, 9]) (by kernel_rfl)⟩
          · have hj74 := cond_f hc78 hj74
            refine gk_seq (by kernel_rfl) ?_
            obtain ⟨b81, hb82⟩ : ∃ z, z = ((decide (a2 < 0)) || (decide (a2 > 64))) := ⟨_, rfl⟩
            refine gk_join (fun t I' L' => I12 ≤ I' ∧ L = L' ∧ Knows 172 [(0, .string j8.1), (1, .int .i64 j8.2), (2, .int .i64 a2), (8, .bool (a1 == 0)), (9, .string a0), (83, .bool b81)] t) ?_ ?_
            · refine gk_region (by kernel_rfl) ?_
              refine gl_pure 3 [0, 1, 2, 8, 9, 80] (K' := [(0, .string j8.1), (1, .int .i64 j8.2), (2, .int .i64 a2), (8, .bool (a1 == 0)), (9, .string a0), (80, .bool (decide (a2 < 0)))]) (by kernel_rfl) ?_
              refine gl_case 80 (b := (decide (a2 < 0))) (by kernel_rfl) (fun hc84 => ?_) (fun hc84 => ?_)
              · refine gl_pure 3 [0, 1, 2, 8, 9, 83] (K' := [(0, .string j8.1), (1, .int .i64 j8.2), (2, .int .i64 a2), (8, .bool (a1 == 0)), (9, .string a0), (83, .bool true)]) (by kernel_rfl) ?_
                refine gl_atE (by kernel_rfl) ?_
                exact ge_mid fun t ht => ⟨(Imm.refl _), rfl, by rw [(show b81 = true from hb82.trans (by rw [hc84]; try rfl))]; exact ht.pick (l := [0, 1, 2, 8, 9, 83]) (by kernel_rfl)⟩
              · refine gl_pure 3 [0, 1, 2, 8, 9, 83] (K' := [(0, .string j8.1), (1, .int .i64 j8.2), (2, .int .i64 a2), (8, .bool (a1 == 0)), (9, .string a0), (83, .bool (decide (a2 > 64)))]) (by kernel_rfl) ?_
                refine gl_atE (by kernel_rfl) ?_
                exact ge_mid fun t ht => ⟨(Imm.refl _), rfl, by rw [(show b81 = (decide (a2 > 64)) from hb82.trans (by rw [hc84]; try rfl))]; exact ht.pick (l := [0, 1, 2, 8, 9, 83]) (by kernel_rfl)⟩
            · rintro t I83 L' ⟨hI79, rfl, hK80⟩
              subst hb82
              refine ge_at hK80 ?_
              refine ge_seq ?_
              refine gk_cond (b := ((decide (a2 < 0)) || (decide (a2 > 64)))) (by kernel_rfl) (by kernel_rfl) (fun hc85 => ?_) (fun hc85 => ?_)
              · have hj74 := cond_t hc85 hj74
                cases hj74
              · have hj74 := cond_f hc85 hj74
                refine gk_skip (by kernel_rfl) ?_
                obtain rfl := some_inj hj74
                exact ge_mid fun t ht => ⟨hI79, rfl, ht.pick (l := [0, 1, 2, 8, 9]) (by kernel_rfl)⟩
        · rintro t I77 L' ⟨hI75, rfl, hK76⟩
          refine ge_at hK76 ?_
          refine ge_seq ?_
          refine gk_seq (by kernel_rfl) ?_
          refine gk_region (by kernel_rfl) ?_
          refine gl_pure 1 [0, 1, 2, 8, 9] (K' := [(0, .string j8.1), (1, .int .i64 j8.2), (2, .int .i64 j73), (8, .bool (a1 == 0)), (9, .string a0)]) (by kernel_rfl) ?_
          refine gl_atE (by kernel_rfl) ?_
          refine ge_seq ?_
          refine gk_seq (by kernel_rfl) ?_
          refine gk_seq (by kernel_rfl) ?_
          refine gk_region (by kernel_rfl) ?_
          refine gl_pure 1 [0, 1, 2, 8, 9, 85] (K' := [(0, .string j8.1), (1, .int .i64 j8.2), (2, .int .i64 j73), (8, .bool (a1 == 0)), (9, .string a0), (85, .int .i64 j8.2)]) (by kernel_rfl) ?_
          refine gl_atE (by kernel_rfl) ?_
          refine ge_seq ?_
          refine gk_block (by kernel_rfl) ?_
          refine gk_seq (by kernel_rfl) ?_
          refine gk_region (by kernel_rfl) ?_
          refine gl_pure 2 [0, 1, 2, 8, 9, 85, 90] (K' := [(0, .string j8.1), (1, .int .i64 j8.2), (2, .int .i64 j73), (8, .bool (a1 == 0)), (9, .string a0), (85, .int .i64 j8.2), (90, .bool (j8.2 == 10))]) (by kernel_rfl) ?_
          refine gl_atE (by kernel_rfl) ?_
          refine ge_seq ?_
          obtain ⟨j86, hj87, hr⟩ := bind_some hr
          refine gk_join (fun t I' L' => I77 ≤ I' ∧ L = L' ∧ Knows 172 [(0, .string j8.1), (1, .int .i64 j8.2), (2, .int .i64 j73), (8, .bool (a1 == 0)), (9, .string a0), (10, .int .u64 j86)] t) ?_ ?_
          · refine gk_cond (b := (j8.2 == 10)) (by kernel_rfl) (by kernel_rfl) (fun hc91 => ?_) (fun hc91 => ?_)
            · have hj87 := cond_t hc91 hj87
              refine gk_region (by kernel_rfl) ?_
              refine gl_pure 1 [0, 1, 2, 8, 9, 10] (K' := [(0, .string j8.1), (1, .int .i64 j8.2), (2, .int .i64 j73), (8, .bool (a1 == 0)), (9, .string a0), (10, .int .u64 1844674407370955162)]) (by kernel_rfl) ?_
              refine gl_atE (by kernel_rfl) ?_
              obtain rfl := some_inj hj87
              exact ge_mid fun t ht => ⟨(Imm.refl _), rfl, ht.pick (l := [0, 1, 2, 8, 9, 10]) (by kernel_rfl)⟩
            · have hj87 := cond_f hc91 hj87
              refine gk_seq (by kernel_rfl) ?_
              refine gk_region (by kernel_rfl) ?_
              refine gl_pure 2 [0, 1, 2, 8, 9, 92] (K' := [(0, .string j8.1), (1, .int .i64 j8.2), (2, .int .i64 j73), (8, .bool (a1 == 0)), (9, .string a0), (92, .bool (j8.2 == 16))]) (by kernel_rfl) ?_
              refine gl_atE (by kernel_rfl) ?_
              refine ge_seq ?_
              obtain ⟨j92, hj93, hj87⟩ := bind_some hj87
              refine gk_join (fun t I' L' => I77 ≤ I' ∧ L = L' ∧ Knows 172 [(0, .string j8.1), (1, .int .i64 j8.2), (2, .int .i64 j73), (8, .bool (a1 == 0)), (9, .string a0), (10, .int .u64 j92)] t) ?_ ?_
              · refine gk_cond (b := (j8.2 == 16)) (by kernel_rfl) (by kernel_rfl) (fun hc97 => ?_) (fun hc97 => ?_)
                · have hj93 := cond_t hc97 hj93
                  refine gk_region (by kernel_rfl) ?_
                  refine gl_pure 1 [0, 1, 2, 8, 9, 10] (K' := [(0, .string j8.1), (1, .int .i64 j8.2), (2, .int .i64 j73), (8, .bool (a1 == 0)), (9, .string a0), (10, .int .u64 1152921504606846976)]) (by kernel_rfl) ?_
                  refine gl_atE (by kernel_rfl) ?_
                  obtain rfl := some_inj hj93
                  exact ge_mid fun t ht => ⟨(Imm.refl _), rfl, ht.pick (l := [0, 1, 2, 8, 9, 10]) (by kernel_rfl)⟩
                · have hj93 := cond_f hc97 hj93
                  refine gk_region (by kernel_rfl) ?_
                  refine gl_pure 2 [0, 1, 2, 8, 9, 87] (K' := [(0, .string j8.1), (1, .int .i64 j8.2), (2, .int .i64 j73), (8, .bool (a1 == 0)), (9, .string a0), (87, .int .u64 (IntKind.wrap .u64 j8.2))]) (by kernel_rfl) ?_
                  obtain ⟨q98, hx99, hj93⟩ := bind_some hj93
                  refine gl_quo (t := 89) (t' := 89) (x := (.const (.int .u64 18446744073709551615))) (y := (.tmp 87)) (kx := .u64) hx99 (by kernel_rfl) (by kernel_rfl) (by kernel_rfl) (by kernel_rfl) ?_
                  refine gl_pure 2 [0, 1, 2, 8, 9, 10] (K' := [(0, .string j8.1), (1, .int .i64 j8.2), (2, .int .i64 j73), (8, .bool (a1 == 0)), (9, .string a0), (10, .int .u64 (IntKind.wrap .u64 (q98 + 1)))]) (by kernel_rfl) ?_
                  refine gl_atE (by kernel_rfl) ?_
                  obtain rfl := some_inj hj93
                  exact ge_mid fun t ht => ⟨(Imm.refl _), rfl, ht.pick (l := [0, 1, 2, 8, 9, 10]) (by kernel_rfl)⟩
              · rintro t I96 L' ⟨hI94, rfl, hK95⟩
                refine ge_at hK95 ?_
                obtain rfl := some_inj hj87
                exact ge_mid fun t ht => ⟨hI94, rfl, ht.pick (l := [0, 1, 2, 8, 9, 10]) (by kernel_rfl)⟩
          · rintro t I90 L' ⟨hI88, rfl, hK89⟩
            refine ge_at hK89 ?_
            refine ge_block_normal ?_
            refine ge_seq ?_
            refine gk_seq (by kernel_rfl) ?_
            refine gk_region (by kernel_rfl) ?_
            refine gl_pure 2 [0, 1, 8, 9, 10, 95] (K' := [(0, .string j8.1), (1, .int .i64 j8.2), (8, .bool (a1 == 0)), (9, .string a0), (10, .int .u64 j86), (95, .int .u64 (IntKind.wrap .u64 j73))]) (by kernel_rfl) ?_
            obtain ⟨q100, hx101, hr⟩ := bind_some hr
            refine gl_shl (t := 89) (t' := 82) (x := (.const (.int .u64 1))) (y := (.tmp 95)) (kx := .u64) (ky := .u64) hx101 (by kernel_rfl) (by kernel_rfl) (by kernel_rfl) (by kernel_rfl) ?_
            refine gl_pure 2 [0, 1, 8, 9, 10, 11] (K' := [(0, .string j8.1), (1, .int .i64 j8.2), (8, .bool (a1 == 0)), (9, .string a0), (10, .int .u64 j86), (11, .int .u64 (IntKind.wrap .u64 (q100 - 1)))]) (by kernel_rfl) ?_
            refine gl_atE (by kernel_rfl) ?_
            refine ge_seq ?_
            refine gk_seq (by kernel_rfl) ?_
            refine gk_region (by kernel_rfl) ?_
            refine gl_pure 1 [0, 1, 8, 9, 10, 11, 12] (K' := [(0, .string j8.1), (1, .int .i64 j8.2), (8, .bool (a1 == 0)), (9, .string a0), (10, .int .u64 j86), (11, .int .u64 (IntKind.wrap .u64 (q100 - 1))), (12, .bool false)]) (by kernel_rfl) ?_
            refine gl_atE (by kernel_rfl) ?_
            refine ge_seq ?_
            refine gk_seq (by kernel_rfl) ?_
            refine gk_region (by kernel_rfl) ?_
            refine gl_pure 1 [0, 1, 8, 9, 10, 11, 12, 13] (K' := [(0, .string j8.1), (1, .int .i64 j8.2), (8, .bool (a1 == 0)), (9, .string a0), (10, .int .u64 j86), (11, .int .u64 (IntKind.wrap .u64 (q100 - 1))), (12, .bool false), (13, .int .u64 0)]) (by kernel_rfl) ?_
            refine gl_atE (by kernel_rfl) ?_
            refine ge_seq ?_
            refine gk_seq (by kernel_rfl) ?_
            refine gk_seq (by kernel_rfl) ?_
            refine gk_region (by kernel_rfl) ?_
            refine gl_pure 1 [1, 8, 9, 10, 11, 12, 13, 98] (K' := [(1, .int .i64 j8.2), (8, .bool (a1 == 0)), (9, .string a0), (10, .int .u64 j86), (11, .int .u64 (IntKind.wrap .u64 (q100 - 1))), (12, .bool false), (13, .int .u64 0), (98, .string j8.1)]) (by kernel_rfl) ?_
            obtain ⟨l102, hx103, hr⟩ := bind_some hr
            refine gl_strBytes (src := 9) (dst := 41) (e := 5) (n := 1) (x := (.tmp 98)) hx103 (by kernel_rfl) (by kernel_rfl) (by kernel_rfl) (by kernel_rfl) (by kernel_rfl) (by kernel_rfl) (fun A104 n105 C106 hO107 => ?_)
            refine gl_pure 2 [1, 8, 9, 10, 11, 12, 13, 99, 100, 101] (K' := [(1, .int .i64 j8.2), (8, .bool (a1 == 0)), (9, .string a0), (10, .int .u64 j86), (11, .int .u64 (IntKind.wrap .u64 (q100 - 1))), (12, .bool false), (13, .int .u64 0), (99, .slice A104 l102.length n105), (100, .int .i64 (l102.length : Int)), (101, .int .i64 0)]) (by kernel_rfl) ?_
            refine gl_atE (by kernel_rfl) ?_
            refine ge_seq ?_
            obtain ⟨r112, hl113, hr⟩ := bind_some hr
            refine gk_join (fun t I' L' => I90 ≤ I' ∧ L = L' ∧ Knows 172 [(9, .string a0), (12, .bool r112.1), (13, .int .u64 r112.2)] t) ?_ ?_
            · refine gk_block (by kernel_rfl) ?_
              refine gk_pick [1, 8, 9, 10, 11, 12, 13, 99, 100, 101] (K' := [(1, .int .i64 j8.2), (8, .bool (a1 == 0)), (9, .string a0), (10, .int .u64 j86), (11, .int .u64 (IntKind.wrap .u64 (q100 - 1))), (12, .bool false), (13, .int .u64 0), (99, .slice A104 l102.length n105), (100, .int .i64 (l102.length : Int)), (101, .int .i64 0)]) (by kernel_rfl) ?_
              intro t hK
              refine gc_loop (strconv_ParseUint_f72_l123 a1 j8 j86 q100 l102) (fun s114 t I' L' => I90 ≤ I' ∧ C106 ++ L = L' ∧ Knows 172 [(1, .int .i64 j8.2), (8, .bool (a1 == 0)), (9, .string a0), (10, .int .u64 j86), (11, .int .u64 (IntKind.wrap .u64 (q100 - 1))), (12, .bool s114.1), (13, .int .u64 s114.2.1), (99, .slice A104 l102.length n105), (100, .int .i64 (l102.length : Int)), (101, .int .i64 s114.2.2)] t) (by kernel_rfl) ?_ hl113 ⟨(Imm.refl _), rfl, hK⟩
              rintro s114 o115 t I119 L' hb116 ⟨hI117, rfl, hK118⟩
              unfold strconv_ParseUint_f72_l123 at hb116
              refine gk_at hK118 ?_
              refine gk_seq (by kernel_rfl) ?_
              refine gk_region (by kernel_rfl) ?_
              refine gl_pure 1 [1, 8, 9, 10, 11, 12, 13, 99, 100, 101, 102] (K' := [(1, .int .i64 j8.2), (8, .bool (a1 == 0)), (9, .string a0), (10, .int .u64 j86), (11, .int .u64 (IntKind.wrap .u64 (q100 - 1))), (12, .bool s114.1), (13, .int .u64 s114.2.1), (99, .slice A104 l102.length n105), (100, .int .i64 (l102.length : Int)), (101, .int .i64 s114.2.2), (102, .bool (decide (s114.2.2 < (l102.length : Int))))]) (by kernel_rfl) ?_
              refine gl_atE (by kernel_rfl) ?_
              refine ge_seq ?_
              refine gk_seq (by kernel_rfl) ?_
              refine gk_cond (b := (decide (s114.2.2 < (l102.length : Int)))) (by kernel_rfl) (by kernel_rfl) (fun hc125 => ?_) (fun hc125 => ?_)
              · have hb116 := cond_t hc125 hb116
                refine gk_skip (by kernel_rfl) ?_
                refine ge_seq ?_
                refine gk_seq (by kernel_rfl) ?_
                obtain ⟨j126, hj127, hb116⟩ := bind_some hb116
                refine gk_join (fun t I' L' => I119 ≤ I' ∧ C106 ++ L = L' ∧ Knows 172 [(1, .int .i64 j8.2), (8, .bool (a1 == 0)), (9, .string a0), (10, .int .u64 j86), (11, .int .u64 (IntKind.wrap .u64 (q100 - 1))), (12, .bool j126.1), (13, .int .u64 j126.2), (99, .slice A104 l102.length n105), (100, .int .i64 (l102.length : Int)), (101, .int .i64 s114.2.2)] t) ?_ ?_
                · refine gk_block (by kernel_rfl) ?_
                  refine gk_seq (by kernel_rfl) ?_
                  refine gk_region (by kernel_rfl) ?_
                  obtain ⟨x131, hx132, hj127⟩ := bind_some hj127
                  refine gl_indexAddrW (d := (Kd.int .u8)) (c := n105) (T' := 41) (e := 5) (xs := (.tmp 99)) (xi := (.tmp 101)) (kd := .i64) hx132 (hO107.mono hI117) (Upd.selfC _ _) (by kernel_rfl) (by kernel_rfl) (by kernel_rfl) (by kernel_rfl) (by kernel_rfl) (fun p133 cs134 hR135 hA136 hp139 => ?_)
                  obtain rfl := hR135
                  refine gl_loadO (T' := 5) (xp := (.tmp 103)) (p := p133) (c := .int .u8 x131) (n := 1) (by kernel_rfl) (by kernel_rfl) (by kernel_rfl) (by kernel_rfl) hA136 ?_
                  refine gl_pure 1 [1, 8, 9, 10, 11, 12, 13, 15, 99, 100, 101] (K' := [(1, .int .i64 j8.2), (8, .bool (a1 == 0)), (9, .string a0), (10, .int .u64 j86), (11, .int .u64 (IntKind.wrap .u64 (q100 - 1))), (12, .bool s114.1), (13, .int .u64 s114.2.1), (15, .int .u8 x131), (99, .slice A104 l102.length n105), (100, .int .i64 (l102.length : Int)), (101, .int .i64 s114.2.2)]) (by kernel_rfl) ?_
                  refine gl_atE (by kernel_rfl) ?_
                  refine ge_seq ?_
                  refine gk_seq (by kernel_rfl) ?_
                  refine gk_region (by kernel_rfl) ?_
                  refine gl_pure 1 [1, 8, 9, 10, 11, 12, 13, 15, 99, 100, 101] (K' := [(1, .int .i64 j8.2), (8, .bool (a1 == 0)), (9, .string a0), (10, .int .u64 j86), (11, .int .u64 (IntKind.wrap .u64 (q100 - 1))), (12, .bool s114.1), (13, .int .u64 s114.2.1), (15, .int .u8 x131), (99, .slice A104 l102.length n105), (100, .int .i64 (l102.length : Int)), (101, .int .i64 s114.2.2)]) (by kernel_rfl) ?_
                  refine gl_atE (by kernel_rfl) ?_
                  refine ge_seq ?_
                  refine gk_seq (by kernel_rfl) ?_
                  refine gk_block (by kernel_rfl) ?_
                  refine gk_seq (by kernel_rfl) ?_
                  refine gk_join (fun t I' L' => I119 ≤ I' ∧ C106 ++ L = L' ∧ Knows 172 [(1, .int .i64 j8.2), (8, .bool (a1 == 0)), (9, .string a0), (10, .int .u64 j86), (11, .int .u64 (IntKind.wrap .u64 (q100 - 1))), (12, .bool s114.1), (13, .int .u64 s114.2.1), (15, .int .u8 x131), (99, .slice A104 l102.length n105), (100, .int .i64 (l102.length : Int)), (101, .int .i64 s114.2.2), (106, .bool ((x131 == 95) && (a1 == 0)))] t) ?_ ?_
                  · refine gk_region (by kernel_rfl) ?_
                    refine gl_pure 3 [1, 8, 9, 10, 11, 12, 13, 15, 99, 100, 101, 109] (K' := [(1, .int .i64 j8.2), (8, .bool (a1 == 0)), (9, .string a0), (10, .int .u64 j86), (11, .int .u64 (IntKind.wrap .u64 (q100 - 1))), (12, .bool s114.1), (13, .int .u64 s114.2.1), (15, .int .u8 x131), (99, .slice A104 l102.length n105), (100, .int .i64 (l102.length : Int)), (101, .int .i64 s114.2.2), (109, .bool (x131 == 95))]) (by kernel_rfl) ?_
                    refine gl_case 109 (b := (x131 == 95)) (by kernel_rfl) (fun hc143 => ?_) (fun hc143 => ?_)
                    · refine gl_pure 3 [1, 8, 9, 10, 11, 12, 13, 15, 99, 100, 101, 106] (K' := [(1, .int .i64 j8.2), (8, .bool (a1 == 0)), (9, .string a0), (10, .int .u64 j86), (11, .int .u64 (IntKind.wrap .u64 (q100 - 1))), (12, .bool s114.1), (13, .int .u64 s114.2.1), (15, .int .u8 x131), (99, .slice A104 l102.length n105), (100, .int .i64 (l102.length : Int)), (101, .int .i64 s114.2.2), (106, .bool (a1 == 0))]) (by kernel_rfl) ?_
                      refine gl_atE (by kernel_rfl) ?_
                      exact ge_mid fun t ht => ⟨(Imm.refl _), rfl, by rw [(show ((x131 == 95) && (a1 == 0)) = (a1 == 0) from by rw [hc143]; try rfl)]; exact ht.pick (l := [1, 8, 9, 10, 11, 12, 13, 15, 99, 100, 101, 106]) (by kernel_rfl)⟩
                    · refine gl_pure 3 [1, 8, 9, 10, 11, 12, 13, 15, 99, 100, 101, 106] (K' := [(1, .int .i64 j8.2), (8, .bool (a1 == 0)), (9, .string a0), (10, .int .u64 j86), (11, .int .u64 (IntKind.wrap .u64 (q100 - 1))), (12, .bool s114.1), (13, .int .u64 s114.2.1), (15, .int .u8 x131), (99, .slice A104 l102.length n105), (100, .int .i64 (l102.length : Int)), (101, .int .i64 s114.2.2), (106, .bool false)]) (by kernel_rfl) ?_
                      refine gl_atE (by kernel_rfl) ?_
                      exact ge_mid fun t ht => ⟨(Imm.refl _), rfl, by rw [(show ((x131 == 95) && (a1 == 0)) = false from by rw [hc143]; try rfl)]; exact ht.pick (l := [1, 8, 9, 10, 11, 12, 13, 15, 99, 100, 101, 106]) (by kernel_rfl)⟩
                  · rintro t I142 L' ⟨hI140, rfl, hK141⟩
                    refine ge_at hK141 ?_
                    refine ge_seq ?_
                    refine gk_cond (b := ((x131 == 95) && (a1 == 0))) (by kernel_rfl) (by kernel_rfl) (fun hc144 => ?_) (fun hc144 => ?_)
                    · have hj127 := cond_t hc144 hj127
                      refine gk_seq (by kernel_rfl) ?_
                      refine gk_region (by kernel_rfl) ?_
                      refine gl_pure 1 [1, 8, 9, 10, 11, 12, 13, 99, 100, 101] (K' := [(1, .int .i64 j8.2), (8, .bool (a1 == 0)), (9, .string a0), (10, .int .u64 j86), (11, .int .u64 (IntKind.wrap .u64 (q100 - 1))), (12, .bool true), (13, .int .u64 s114.2.1), (99, .slice A104 l102.length n105), (100, .int .i64 (l102.length : Int)), (101, .int .i64 s114.2.2)]) (by kernel_rfl) ?_
                      refine gl_atE (by kernel_rfl) ?_
                      refine ge_seq ?_
                      refine gk_exit (by kernel_rfl) ?_
                      refine ge_block_miss (by kernel_rfl) ?_
                      refine ge_seq_exit ?_
                      refine ge_block_hit (by kernel_rfl) ?_
                      obtain rfl := some_inj hj127
                      exact ge_mid fun t ht => ⟨hI140, rfl, ht.pick (l := [1, 8, 9, 10, 11, 12, 13, 99, 100, 101]) (by kernel_rfl)⟩
                    · have hj127 := cond_f hc144 hj127
                      refine gk_seq (by kernel_rfl) ?_
                      obtain ⟨b147, hb148⟩ : ∃ z, z = ((decide (48 ≤ x131)) && (decide (x131 ≤ 57))) := ⟨_, rfl⟩
                      refine gk_join (fun t I' L' => I142 ≤ I' ∧ C106 ++ L = L' ∧ Knows 172 [(1, .int .i64 j8.2), (8, .bool (a1 == 0)), (9, .string a0), (10, .int .u64 j86), (11, .int .u64 (IntKind.wrap .u64 (q100 - 1))), (12, .bool s114.1), (13, .int .u64 s114.2.1), (15, .int .u8 x131), (99, .slice A104 l102.length n105), (100, .int .i64 (l102.length : Int)), (101, .int .i64 s114.2.2), (112, .bool b147)] t) ?_ ?_
                      · refine gk_region (by kernel_rfl) ?_
                        refine gl_pure 3 [1, 8, 9, 10, 11, 12, 13, 15, 99, 100, 101, 115] (K' := [(1, .int .i64 j8.2), (8, .bool (a1 == 0)), (9, .string a0), (10, .int .u64 j86), (11, .int .u64 (IntKind.wrap .u64 (q100 - 1))), (12, .bool s114.1), (13, .int .u64 s114.2.1), (15, .int .u8 x131), (99, .slice A104 l102.length n105), (100, .int .i64 (l102.length : Int)), (101, .int .i64 s114.2.2), (115, .bool (decide (48 ≤ x131)))]) (by kernel_rfl) ?_
                        refine gl_case 115 (b := (decide (48 ≤ x131))) (by kernel_rfl) (fun hc150 => ?_) (fun hc150 => ?_)
                        · refine gl_pure 4 [1, 8, 9, 10, 11, 12, 13, 15, 99, 100, 101, 112] (K' := [(1, .int .i64 j8.2), (8, .bool (a1 == 0)), (9, .string a0), (10, .int .u64 j86), (11, .int .u64 (IntKind.wrap .u64 (q100 - 1))), (12, .bool s114.1), (13, .int .u64 s114.2.1), (15, .int .u8 x131), (99, .slice A104 l102.length n105), (100, .int .i64 (l102.length : Int)), (101, .int .i64 s114.2.2), (112, .bool (decide (x131 ≤ 57)))]) (by kernel_rfl) ?_
                          refine gl_atE (by kernel_rfl) ?_
                          exact ge_mid fun t ht => ⟨(Imm.refl _), rfl, by rw [(show b147 = (decide (x131 ≤ 57)) from hb148.trans (by rw [hc150]; try rfl))]; exact ht.pick (l := [1, 8, 9, 10, 11, 12, 13, 15, 99, 100, 101, 112]) (by kernel_rfl)⟩
                        · refine gl_pure 4 [1, 8, 9, 10, 11, 12, 13, 15, 99, 100, 101, 112] (K' := [(1, .int .i64 j8.2), (8, .bool (a1 == 0)), (9, .string a0), (10, .int .u64 j86), (11, .int .u64 (IntKind.wrap .u64 (q100 - 1))), (12, .bool s114.1), (13, .int .u64 s114.2.1), (15, .int .u8 x131), (99, .slice A104 l102.length n105), (100, .int .i64 (l102.length : Int)), (101, .int .i64 s114.2.2), (112, .bool false)]) (by kernel_rfl) ?_
                          refine gl_atE (by kernel_rfl) ?_
                          exact ge_mid fun t ht => ⟨(Imm.refl _), rfl, by rw [(show b147 = false from hb148.trans (by rw [hc150]; try rfl))]; exact ht.pick (l := [1, 8, 9, 10, 11, 12, 13, 15, 99, 100, 101, 112]) (by kernel_rfl)⟩
                      · rintro t I149 L' ⟨hI145, rfl, hK146⟩
                        subst hb148
                        refine ge_at hK146 ?_
                        refine ge_seq ?_
                        obtain ⟨j151, hj152, hj127⟩ := bind_some hj127
                        refine gk_join (fun t I' L' => I149 ≤ I' ∧ C106 ++ L = L' ∧ Knows 172 [(1, .int .i64 j8.2), (8, .bool (a1 == 0)), (9, .string a0), (10, .int .u64 j86), (11, .int .u64 (IntKind.wrap .u64 (q100 - 1))), (12, .bool s114.1), (13, .int .u64 s114.2.1), (16, .int .u8 j151), (99, .slice A104 l102.length n105), (100, .int .i64 (l102.length : Int)), (101, .int .i64 s114.2.2)] t) ?_ ?_
                        · refine gk_cond (b := ((decide (48 ≤ x131)) && (decide (x131 ≤ 57)))) (by kernel_rfl) (by kernel_rfl) (fun hc156 => ?_) (fun hc156 => ?_)
                          · have hj152 := cond_t hc156 hj152
                            refine gk_region (by kernel_rfl) ?_
                            refine gl_pure 3 [1, 8, 9, 10, 11, 12, 13, 16, 99, 100, 101] (K' := [(1, .int .i64 j8.2), (8, .bool (a1 == 0)), (9, .string a0), (10, .int .u64 j86), (11, .int .u64 (IntKind.wrap .u64 (q100 - 1))), (12, .bool s114.1), (13, .int .u64 s114.2.1), (16, .int .u8 (IntKind.wrap .u8 (x131 - 48))), (99, .slice A104 l102.length n105), (100, .int .i64 (l102.length : Int)), (101, .int .i64 s114.2.2)]) (by kernel_rfl) ?_
                            refine gl_atE (by kernel_rfl) ?_
                            obtain rfl := some_inj hj152
                            exact ge_mid fun t ht => ⟨(Imm.refl _), rfl, ht.pick (l := [1, 8, 9, 10, 11, 12, 13, 16, 99, 100, 101]) (by kernel_rfl)⟩
                          · have hj152 := cond_f hc156 hj152
                            refine gk_seq (by kernel_rfl) ?_
                            obtain ⟨b159, hb160⟩ : ∃ z, z = ((decide (97 ≤ (strconv_lower x131))) && (decide ((strconv_lower x131) ≤ 122))) := ⟨_, rfl⟩
                            refine gk_join (fun t I' L' => I149 ≤ I' ∧ C106 ++ L = L' ∧ Knows 172 [(1, .int .i64 j8.2), (8, .bool (a1 == 0)), (9, .string a0), (10, .int .u64 j86), (11, .int .u64 (IntKind.wrap .u64 (q100 - 1))), (12, .bool s114.1), (13, .int .u64 s114.2.1), (15, .int .u8 x131), (99, .slice A104 l102.length n105), (100, .int .i64 (l102.length : Int)), (101, .int .i64 s114.2.2), (121, .bool b159)] t) ?_ ?_
                            · refine gk_region (by kernel_rfl) ?_
                              refine gl_pure 1 [1, 8, 9, 10, 11, 12, 13, 15, 99, 100, 101, 122] (K' := [(1, .int .i64 j8.2), (8, .bool (a1 == 0)), (9, .string a0), (10, .int .u64 j86), (11, .int .u64 (IntKind.wrap .u64 (q100 - 1))), (12, .bool s114.1), (13, .int .u64 s114.2.1), (15, .int .u8 x131), (99, .slice A104 l102.length n105), (100, .int .i64 (l102.length : Int)), (101, .int .i64 s114.2.2), (122, .int .u8 x131)]) (by kernel_rfl) ?_
                              refine gl_callQ (by kernel_rfl) (strconv_lower_walk (r := (strconv_lower x131))  rfl _) ?_
                              refine gl_pure 2 [1, 8, 9, 10, 11, 12, 13, 15, 99, 100, 101, 125] (K' := [(1, .int .i64 j8.2), (8, .bool (a1 == 0)), (9, .string a0), (10, .int .u64 j86), (11, .int .u64 (IntKind.wrap .u64 (q100 - 1))), (12, .bool s114.1), (13, .int .u64 s114.2.1), (15, .int .u8 x131), (99, .slice A104 l102.length n105), (100, .int .i64 (l102.length : Int)), (101, .int .i64 s114.2.2), (125, .bool (decide (97 ≤ (strconv_lower x131))))]) (by kernel_rfl) ?_
                              refine gl_case 125 (b := (decide (97 ≤ (strconv_lower x131)))) (by kernel_rfl) (fun hc162 => ?_) (fun hc162 => ?_)
                              · refine gl_pure 1 [1, 8, 9, 10, 11, 12, 13, 15, 99, 100, 101, 125, 126] (K' := [(1, .int .i64 j8.2), (8, .bool (a1 == 0)), (9, .string a0), (10, .int .u64 j86), (11, .int .u64 (IntKind.wrap .u64 (q100 - 1))), (12, .bool s114.1), (13, .int .u64 s114.2.1), (15, .int .u8 x131), (99, .slice A104 l102.length n105), (100, .int .i64 (l102.length : Int)), (101, .int .i64 s114.2.2), (125, .bool true), (126, .int .u8 x131)]) (by kernel_rfl) ?_
                                refine gl_callQ (by kernel_rfl) (strconv_lower_walk (r := (strconv_lower x131))  rfl _) ?_
                                refine gl_pure 3 [1, 8, 9, 10, 11, 12, 13, 15, 99, 100, 101, 121] (K' := [(1, .int .i64 j8.2), (8, .bool (a1 == 0)), (9, .string a0), (10, .int .u64 j86), (11, .int .u64 (IntKind.wrap .u64 (q100 - 1))), (12, .bool s114.1), (13, .int .u64 s114.2.1), (15, .int .u8 x131), (99, .slice A104 l102.length n105), (100, .int .i64 (l102.length : Int)), (101, .int .i64 s114.2.2), (121, .bool (decide ((strconv_lower x131) ≤ 122)))]) (by kernel_rfl) ?_
                                refine gl_atE (by kernel_rfl) ?_
                                exact ge_mid fun t ht => ⟨(Imm.refl _), rfl, by rw [(show b159 = (decide ((strconv_lower x131) ≤ 122)) from hb160.trans (by rw [hc162]; try rfl))]; exact ht.pick (l := [1, 8, 9, 10, 11, 12, 13, 15, 99, 100, 101, 121]) (by kernel_rfl)⟩
                              · refine gl_pure 5 [1, 8, 9, 10, 11, 12, 13, 15, 99, 100, 101, 121] (K' := [(1, .int .i64 j8.2), (8, .bool (a1 == 0)), (9, .string a0), (10, .int .u64 j86), (11, .int .u64 (IntKind.wrap .u64 (q100 - 1))), (12, .bool s114.1), (13, .int .u64 s114.2.1), (15, .int .u8 x131), (99, .slice A104 l102.length n105), (100, .int .i64 (l102.length : Int)), (101, .int .i64 s114.2.2), (121, .bool false)]) (by kernel_rfl) ?_
                                refine gl_atE (by kernel_rfl) ?_
                                exact ge_mid fun t ht => ⟨(Imm.refl _), rfl, by rw [(show b159 = false from hb160.trans (by rw [hc162]; try rfl))]; exact ht.pick (l := [1, 8, 9, 10, 11, 12, 13, 15, 99, 100, 101, 121]) (by kernel_rfl)⟩
                            · rintro t I161 L' ⟨hI157, rfl, hK158⟩
                              subst hb160
                              refine ge_at hK158 ?_
                              refine ge_seq ?_
                              refine gk_cond (b := ((decide (97 ≤ (strconv_lower x131))) && (decide ((strconv_lower x131) ≤ 122)))) (by kernel_rfl) (by kernel_rfl) (fun hc163 => ?_) (fun hc163 => ?_)
                              · have hj152 := cond_t hc163 hj152
                                refine gk_region (by kernel_rfl) ?_
                                refine gl_pure 1 [1, 8, 9, 10, 11, 12, 13, 99, 100, 101, 130] (K' := [(1, .int .i64 j8.2), (8, .bool (a1 == 0)), (9, .string a0), (10, .int .u64 j86), (11, .int .u64 (IntKind.wrap .u64 (q100 - 1))), (12, .bool s114.1), (13, .int .u64 s114.2.1), (99, .slice A104 l102.length n105), (100, .int .i64 (l102.length : Int)), (101, .int .i64 s114.2.2), (130, .int .u8 x131)]) (by kernel_rfl) ?_
                                refine gl_callQ (by kernel_rfl) (strconv_lower_walk (r := (strconv_lower x131))  rfl _) ?_
                                refine gl_pure 3 [1, 8, 9, 10, 11, 12, 13, 16, 99, 100, 101] (K' := [(1, .int .i64 j8.2), (8, .bool (a1 == 0)), (9, .string a0), (10, .int .u64 j86), (11, .int .u64 (IntKind.wrap .u64 (q100 - 1))), (12, .bool s114.1), (13, .int .u64 s114.2.1), (16, .int .u8 (IntKind.wrap .u8 ((IntKind.wrap .u8 ((strconv_lower x131) - 97)) + 10))), (99, .slice A104 l102.length n105), (100, .int .i64 (l102.length : Int)), (101, .int .i64 s114.2.2)]) (by kernel_rfl) ?_
                                refine gl_atE (by kernel_rfl) ?_
                                obtain rfl := some_inj hj152
                                exact ge_mid fun t ht => ⟨hI157, rfl, ht.pick (l := [1, 8, 9, 10, 11, 12, 13, 16, 99, 100, 101]) (by kernel_rfl)⟩
                              · have hj152 := cond_f hc163 hj152
                                cases hj152
                        · rintro t I155 L' ⟨hI153, rfl, hK154⟩
                          refine ge_at hK154 ?_
                          refine ge_block_normal ?_
                          refine ge_seq ?_
                          refine gk_seq (by kernel_rfl) ?_
                          refine gk_seq (by kernel_rfl) ?_
                          refine gk_region (by kernel_rfl) ?_
                          refine gl_pure 4 [1, 8, 9, 10, 11, 12, 13, 16, 99, 100, 101, 137] (K' := [(1, .int .i64 j8.2), (8, .bool (a1 == 0)), (9, .string a0), (10, .int .u64 j86), (11, .int .u64 (IntKind.wrap .u64 (q100 - 1))), (12, .bool s114.1), (13, .int .u64 s114.2.1), (16, .int .u8 j151), (99, .slice A104 l102.length n105), (100, .int .i64 (l102.length : Int)), (101, .int .i64 s114.2.2), (137, .bool (decide (j151 ≥ (IntKind.wrap .u8 j8.2))))]) (by kernel_rfl) ?_
                          refine gl_atE (by kernel_rfl) ?_
                          refine ge_seq ?_
                          refine gk_cond (b := (decide (j151 ≥ (IntKind.wrap .u8 j8.2)))) (by kernel_rfl) (by kernel_rfl) (fun hc164 => ?_) (fun hc164 => ?_)
                          · have hj127 := cond_t hc164 hj127
                            cases hj127
                          · have hj127 := cond_f hc164 hj127
                            refine gk_skip (by kernel_rfl) ?_
                            refine ge_seq ?_
                            refine gk_seq (by kernel_rfl) ?_
                            refine gk_seq (by kernel_rfl) ?_
                            refine gk_region (by kernel_rfl) ?_
                            refine gl_pure 3 [1, 8, 9, 10, 11, 12, 13, 16, 99, 100, 101, 141] (K' := [(1, .int .i64 j8.2), (8, .bool (a1 == 0)), (9, .string a0), (10, .int .u64 j86), (11, .int .u64 (IntKind.wrap .u64 (q100 - 1))), (12, .bool s114.1), (13, .int .u64 s114.2.1), (16, .int .u8 j151), (99, .slice A104 l102.length n105), (100, .int .i64 (l102.length : Int)), (101, .int .i64 s114.2.2), (141, .bool (decide (s114.2.1 ≥ j86)))]) (by kernel_rfl) ?_
                            refine gl_atE (by kernel_rfl) ?_
                            refine ge_seq ?_
                            refine gk_cond (b := (decide (s114.2.1 ≥ j86))) (by kernel_rfl) (by kernel_rfl) (fun hc165 => ?_) (fun hc165 => ?_)
                            · have hj127 := cond_t hc165 hj127
                              cases hj127
                            · have hj127 := cond_f hc165 hj127
                              refine gk_skip (by kernel_rfl) ?_
                              refine ge_seq ?_
                              refine gk_seq (by kernel_rfl) ?_
                              refine gk_region (by kernel_rfl) ?_
                              refine gl_pure 5 [1, 8, 9, 10, 11, 12, 13, 16, 99, 100, 101] (K' := [(1, .int .i64 j8.2), (8, .bool (a1 == 0)), (9, .string a0), (10, .int .u64 j86), (11, .int .u64 (IntKind.wrap .u64 (q100 - 1))), (12, .bool s114.1), (13, .int .u64 (IntKind.wrap .u64 (s114.2.1 * (IntKind.wrap .u64 j8.2)))), (16, .int .u8 j151), (99, .slice A104 l102.length n105), (100, .int .i64 (l102.length : Int)), (101, .int .i64 s114.2.2)]) (by kernel_rfl) ?_
                              refine gl_atE (by kernel_rfl) ?_
                              refine ge_seq ?_
                              refine gk_seq (by kernel_rfl) ?_
                              refine gk_region (by kernel_rfl) ?_
                              refine gl_pure 5 [1, 8, 9, 10, 11, 12, 13, 17, 99, 100, 101] (K' := [(1, .int .i64 j8.2), (8, .bool (a1 == 0)), (9, .string a0), (10, .int .u64 j86), (11, .int .u64 (IntKind.wrap .u64 (q100 - 1))), (12, .bool s114.1), (13, .int .u64 (IntKind.wrap .u64 (s114.2.1 * (IntKind.wrap .u64 j8.2)))), (17, .int .u64 (IntKind.wrap .u64 ((IntKind.wrap .u64 (s114.2.1 * (IntKind.wrap .u64 j8.2))) + (IntKind.wrap .u64 j151)))), (99, .slice A104 l102.length n105), (100, .int .i64 (l102.length : Int)), (101, .int .i64 s114.2.2)]) (by kernel_rfl) ?_
                              refine gl_atE (by kernel_rfl) ?_
                              refine ge_seq ?_
                              refine gk_seq (by kernel_rfl) ?_
                              refine gk_seq (by kernel_rfl) ?_
                              obtain ⟨b168, hb169⟩ : ∃ z, z = ((decide ((IntKind.wrap .u64 ((IntKind.wrap .u64 (s114.2.1 * (IntKind.wrap .u64 j8.2))) + (IntKind.wrap .u64 j151))) < (IntKind.wrap .u64 (s114.2.1 * (IntKind.wrap .u64 j8.2))))) || (decide ((IntKind.wrap .u64 ((IntKind.wrap .u64 (s114.2.1 * (IntKind.wrap .u64 j8.2))) + (IntKind.wrap .u64 j151))) > (IntKind.wrap .u64 (q100 - 1))))) := ⟨_, rfl⟩
                              refine gk_join (fun t I' L' => I155 ≤ I' ∧ C106 ++ L = L' ∧ Knows 172 [(1, .int .i64 j8.2), (8, .bool (a1 == 0)), (9, .string a0), (10, .int .u64 j86), (11, .int .u64 (IntKind.wrap .u64 (q100 - 1))), (12, .bool s114.1), (17, .int .u64 (IntKind.wrap .u64 ((IntKind.wrap .u64 (s114.2.1 * (IntKind.wrap .u64 j8.2))) + (IntKind.wrap .u64 j151)))), (99, .slice A104 l102.length n105), (100, .int .i64 (l102.length : Int)), (101, .int .i64 s114.2.2), (159, .bool b168)] t) ?_ ?_
                              · refine gk_region (by kernel_rfl) ?_
                                refine gl_pure 4 [1, 8, 9, 10, 11, 12, 17, 99, 100, 101, 155] (K' := [(1, .int .i64 j8.2), (8, .bool (a1 == 0)), (9, .string a0), (10, .int .u64 j86), (11, .int .u64 (IntKind.wrap .u64 (q100 - 1))), (12, .bool s114.1), (17, .int .u64 (IntKind.wrap .u64 ((IntKind.wrap .u64 (s114.2.1 * (IntKind.wrap .u64 j8.2))) + (IntKind.wrap .u64 j151)))), (99, .slice A104 l102.length n105), (100, .int .i64 (l102.length : Int)), (101, .int .i64 s114.2.2), (155, .bool (decide ((IntKind.wrap .u64 ((IntKind.wrap .u64 (s114.2.1 * (IntKind.wrap .u64 j8.2))) + (IntKind.wrap .u64 j151))) < (IntKind.wrap .u64 (s114.2.1 * (IntKind.wrap .u64 j8.2))))))]) (by kernel_rfl) ?_
                                refine gl_case 155 (b := (decide ((IntKind.wrap .u64 ((IntKind.wrap .u64 (s114.2.1 * (IntKind.wrap .u64 j8.2))) + (IntKind.wrap .u64 j151))) < (IntKind.wrap .u64 (s114.2.1 * (IntKind.wrap .u64 j8.2)))))) (by kernel_rfl) (fun hc171 => ?_) (fun hc171 => ?_)
                                · refine gl_pure 4 [1, 8, 9, 10, 11, 12, 17, 99, 100, 101, 159] (K' := [(1, .int .i64 j8.2), (8, .bool (a1 == 0)), (9, .string a0), (10, .int .u64 j86), (11, .int .u64 (IntKind.wrap .u64 (q100 - 1))), (12, .bool s114.1), (17, .int .u64 (IntKind.wrap .u64 ((IntKind.wrap .u64 (s114.2.1 * (IntKind.wrap .u64 j8.2))) + (IntKind.wrap .u64 j151)))), (99, .slice A104 l102.length n105), (100, .int .i64 (l102.length : Int)), (101, .int .i64 s114.2.2), (159, .bool true)]) (by kernel_rfl) ?_
                                  refine gl_atE (by kernel_rfl) ?_
                                  exact ge_mid fun t ht => ⟨(Imm.refl _), rfl, by rw [(show b168 = true from hb169.trans (by rw [hc171]; try rfl))]; exact ht.pick (l := [1, 8, 9, 10, 11, 12, 17, 99, 100, 101, 159]) (by kernel_rfl)⟩
                                · refine gl_pure 4 [1, 8, 9, 10, 11, 12, 17, 99, 100, 101, 159] (K' := [(1, .int .i64 j8.2), (8, .bool (a1 == 0)), (9, .string a0), (10, .int .u64 j86), (11, .int .u64 (IntKind.wrap .u64 (q100 - 1))), (12, .bool s114.1), (17, .int .u64 (IntKind.wrap .u64 ((IntKind.wrap .u64 (s114.2.1 * (IntKind.wrap .u64 j8.2))) + (IntKind.wrap .u64 j151)))), (99, .slice A104 l102.length n105), (100, .int .i64 (l102.length : Int)), (101, .int .i64 s114.2.2), (159, .bool (decide ((IntKind.wrap .u64 ((IntKind.wrap .u64 (s114.2.1 * (IntKind.wrap .u64 j8.2))) + (IntKind.wrap .u64 j151))) > (IntKind.wrap .u64 (q100 - 1)))))]) (by kernel_rfl) ?_
                                  refine gl_atE (by kernel_rfl) ?_
                                  exact ge_mid fun t ht => ⟨(Imm.refl _), rfl, by rw [(show b168 = (decide ((IntKind.wrap .u64 ((IntKind.wrap .u64 (s114.2.1 * (IntKind.wrap .u64 j8.2))) + (IntKind.wrap .u64 j151))) > (IntKind.wrap .u64 (q100 - 1)))) from hb169.trans (by rw [hc171]; try rfl))]; exact ht.pick (l := [1, 8, 9, 10, 11, 12, 17, 99, 100, 101, 159]) (by kernel_rfl)⟩
                              · rintro t I170 L' ⟨hI166, rfl, hK167⟩
                                subst hb169
                                refine ge_at hK167 ?_
                                refine ge_seq ?_
                                refine gk_cond (b := ((decide ((IntKind.wrap .u64 ((IntKind.wrap .u64 (s114.2.1 * (IntKind.wrap .u64 j8.2))) + (IntKind.wrap .u64 j151))) < (IntKind.wrap .u64 (s114.2.1 * (IntKind.wrap .u64 j8.2))))) || (decide ((IntKind.wrap .u64 ((IntKind.wrap .u64 (s114.2.1 * (IntKind.wrap .u64 j8.2))) + (IntKind.wrap .u64 j151))) > (IntKind.wrap .u64 (q100 - 1)))))) (by kernel_rfl) (by kernel_rfl) (fun hc172 => ?_) (fun hc172 => ?_)
                                · have hj127 := cond_t hc172 hj127
                                  cases hj127
                                · have hj127 := cond_f hc172 hj127
                                  refine gk_skip (by kernel_rfl) ?_
                                  refine ge_seq ?_
                                  refine gk_region (by kernel_rfl) ?_
                                  refine gl_pure 2 [1, 8, 9, 10, 11, 12, 13, 99, 100, 101] (K' := [(1, .int .i64 j8.2), (8, .bool (a1 == 0)), (9, .string a0), (10, .int .u64 j86), (11, .int .u64 (IntKind.wrap .u64 (q100 - 1))), (12, .bool s114.1), (13, .int .u64 (IntKind.wrap .u64 ((IntKind.wrap .u64 (s114.2.1 * (IntKind.wrap .u64 j8.2))) + (IntKind.wrap .u64 j151)))), (99, .slice A104 l102.length n105), (100, .int .i64 (l102.length : Int)), (101, .int .i64 s114.2.2)]) (by kernel_rfl) ?_
                                  refine gl_atE (by kernel_rfl) ?_
                                  refine ge_block_normal ?_
                                  obtain rfl := some_inj hj127
                                  exact ge_mid fun t ht => ⟨(Imm.trans (Imm.trans (Imm.trans hI140 hI145) hI153) hI166), rfl, ht.pick (l := [1, 8, 9, 10, 11, 12, 13, 99, 100, 101]) (by kernel_rfl)⟩
                · rintro t I130 L' ⟨hI128, rfl, hK129⟩
                  refine ge_at hK129 ?_
                  refine ge_seq ?_
                  refine gk_region (by kernel_rfl) ?_
                  refine gl_pure 2 [1, 8, 9, 10, 11, 12, 13, 99, 100, 101] (K' := [(1, .int .i64 j8.2), (8, .bool (a1 == 0)), (9, .string a0), (10, .int .u64 j86), (11, .int .u64 (IntKind.wrap .u64 (q100 - 1))), (12, .bool j126.1), (13, .int .u64 j126.2), (99, .slice A104 l102.length n105), (100, .int .i64 (l102.length : Int)), (101, .int .i64 (IntKind.wrap .i64 (s114.2.2 + 1)))]) (by kernel_rfl) ?_
                  refine gl_atE (by kernel_rfl) ?_
                  obtain rfl := some_inj hb116
                  exact ge_round fun t ht => ⟨(Imm.trans hI117 hI128), rfl, ht.pick (l := [1, 8, 9, 10, 11, 12, 13, 99, 100, 101]) (by kernel_rfl)⟩
              · have hb116 := cond_f hc125 hb116
                refine gk_reord (D := L) (Reord.skipC (Reord.refl _)) ?_
                refine gk_exit (by kernel_rfl) ?_
                refine ge_seq_exit ?_
                obtain rfl := some_inj hb116
                refine ge_round_out (fun hrr => ?_) (by intro h; cases h)
                obtain rfl := hrr
                refine ge_block_hit (by kernel_rfl) ?_
                exact ge_mid fun t ht => ⟨hI117, rfl, ht.pick (l := [9, 12, 13]) (by kernel_rfl)⟩
            · rintro t I122 L' ⟨hI120, rfl, hK121⟩
              refine ge_at hK121 ?_
              refine ge_seq ?_
              refine gk_seq (by kernel_rfl) ?_
              refine gk_seq (by kernel_rfl) ?_
              obtain ⟨j173, hj174, hr⟩ := bind_some hr
              refine gk_join (fun t I' L' => I122 ≤ I' ∧ L = L' ∧ Knows 172 [(13, .int .u64 r112.2), (169, .bool j173)] t) ?_ ?_
              · refine gk_region (by kernel_rfl) ?_
                refine gl_pure 2 [9, 13, 165] (K' := [(9, .string a0), (13, .int .u64 r112.2), (165, .bool r112.1)]) (by kernel_rfl) ?_
                refine gl_case 165 (b := r112.1) (by kernel_rfl) (fun hc178 => ?_) (fun hc178 => ?_)
                · have hj174 := cond_t hc178 hj174
                  refine gl_pure 1 [13, 165, 166] (K' := [(13, .int .u64 r112.2), (165, .bool true), (166, .string a0)]) (by kernel_rfl) ?_
                  obtain ⟨y179, hx180, hj174⟩ := bind_some hj174
                  refine gl_callQ (by kernel_rfl) (strconv_underscoreOK_walk (r := y179)  hx180 _) ?_
                  refine gl_pure 2 [13, 169] (K' := [(13, .int .u64 r112.2), (169, .bool (!y179))]) (by kernel_rfl) ?_
                  refine gl_atE (by kernel_rfl) ?_
                  obtain rfl := some_inj hj174
                  exact ge_mid fun t ht => ⟨(Imm.refl _), rfl, ht.pick (l := [13, 169]) (by kernel_rfl)⟩
                · have hj174 := cond_f hc178 hj174
                  refine gl_pure 4 [13, 169] (K' := [(13, .int .u64 r112.2), (169, .bool false)]) (by kernel_rfl) ?_
                  refine gl_atE (by kernel_rfl) ?_
                  obtain rfl := some_inj hj174
                  exact ge_mid fun t ht => ⟨(Imm.refl _), rfl, ht.pick (l := [13, 169]) (by kernel_rfl)⟩
              · rintro t I177 L' ⟨hI175, rfl, hK176⟩
                refine ge_at hK176 ?_
                refine ge_seq ?_
                refine gk_cond (b := j173) (by kernel_rfl) (by kernel_rfl) (fun hc181 => ?_) (fun hc181 => ?_)
                · have hr := cond_t hc181 hr
                  cases hr
                · have hr := cond_f hc181 hr
                  refine gk_skip (by kernel_rfl) ?_
                  refine ge_seq ?_
                  refine gk_seq (by kernel_rfl) ?_
                  refine gk_region (by kernel_rfl) ?_
                  refine gl_pure 3 [6, 7] (K' := [(6, .int .u64 r112.2), (7, .nilIface)]) (by kernel_rfl) ?_
                  refine gl_atE (by kernel_rfl) ?_
                  refine ge_seq ?_
                  refine gk_ret (by kernel_rfl) ?_
                  obtain rfl := some_inj hr
                  exact ge_result trivial (ResOk.tmp (by kernel_rfl) (ResOk.tmp (by kernel_rfl) ResOk.nil)) (Imm.trans (Imm.trans (Imm.trans (Imm.trans (Imm.trans hI2 hI10) hI75) hI88) hI120) hI175) ⟨rfl, rfl⟩
/-! 60 strconv_ParseUint  -/
noncomputable def strconv_ParseUint (a0 : ByteArray) (a1 : Int) (a2 : Int) : Option (Int × Unit) :=
  Option.bind (strconv_ParseUint_f72 a0 a1 a2) fun (y1 : Int × Unit) =>
  some (y1.1, ())
theorem strconv_ParseUint_walk {a0 : ByteArray} {a1 : Int} {a2 : Int} {I : Imm} {r : Int × Unit}  (hr : strconv_ParseUint a0 a1 a2 = some r) (L : Own) :
    CallsTo Tryd.prog 60 #[.string a0, .int .i64 a1, .int .i64 a2] I L (fun v I' L' => v = .tuple #[.int .u64 r.1, .nilIface] ∧ L = L') := by
  unfold strconv_ParseUint at hr
  refine callsTo_body (N := 26) Tryd.func60 (by kernel_rfl) (by kernel_rfl) (by kernel_rfl) ?_
  refine gk_pick [0, 1, 2] (K' := [(0, .string a0), (1, .int .i64 a1), (2, .int .i64 a2)]) (by kernel_rfl) ?_
  refine gk_seq (by kernel_rfl) ?_
  refine gk_region (by kernel_rfl) ?_
  refine gl_pure 2 [0, 1, 2] (K' := [(0, .string a0), (1, .int .i64 a1), (2, .int .i64 a2)]) (by kernel_rfl) ?_
  refine gl_atE (by kernel_rfl) ?_
  refine ge_seq ?_
  refine gk_seq (by kernel_rfl) ?_
  refine gk_region (by kernel_rfl) ?_
  refine gl_pure 3 [0, 1, 2, 11, 12, 13] (K' := [(0, .string a0), (1, .int .i64 a1), (2, .int .i64 a2), (11, .string a0), (12, .int .i64 a1), (13, .int .i64 a2)]) (by kernel_rfl) ?_
  obtain ⟨y1, hx2, hr⟩ := bind_some hr
  refine gl_callQ (by kernel_rfl) (strconv_ParseUint_f72_walk (r := y1)  hx2 _) ?_
  refine gl_pure 5 [0, 1, 2, 8, 9] (K' := [(0, .string a0), (1, .int .i64 a1), (2, .int .i64 a2), (8, .int .u64 y1.1), (9, .nilIface)]) (by kernel_rfl) ?_
  refine gl_atE (by kernel_rfl) ?_
  refine ge_seq ?_
  refine gk_seq (by kernel_rfl) ?_
  refine gk_seq (by kernel_rfl) ?_
  refine gk_region (by kernel_rfl) ?_
  refine gl_pure 1 [0, 1, 2, 8, 9, 17] (K' := [(0, .string a0), (1, .int .i64 a1), (2, .int .i64 a2), (8, .int .u64 y1.1), (9, .nilIface), (17, .nilIface)]) (by kernel_rfl) ?_
  refine gl_eqNilI (t := 55) (t' := 55) (x := (.tmp 17)) (neg := true) (by kernel_rfl) (by kernel_rfl) (by kernel_rfl) (by kernel_rfl) ?_
  refine gl_atE (by kernel_rfl) ?_
  refine ge_seq ?_
  refine gk_cond (b := false) (by kernel_rfl) (by kernel_rfl) (fun h => by cases h) (fun _ => ?_)
  refine gk_skip (by kernel_rfl) ?_
  refine ge_seq ?_
  refine gk_seq (by kernel_rfl) ?_
  refine gk_region (by kernel_rfl) ?_
  refine gl_pure 3 [6, 7] (K' := [(6, .int .u64 y1.1), (7, .nilIface)]) (by kernel_rfl) ?_
  refine gl_atE (by kernel_rfl) ?_
  refine ge_seq ?_
  refine gk_ret (by kernel_rfl) ?_
  obtain rfl := some_inj hr
  exact ge_result trivial (ResOk.tmp (by kernel_rfl) (ResOk.tmp (by kernel_rfl) ResOk.nil)) (Imm.refl _) ⟨rfl, rfl⟩
end Go.Proofs.YtlhpclfkoblnkaaDoor
