/- Parts: RP. -/
import Derived.Test.YtnlkfajnaelnnaaGreatDoorProg
import Derived.Test.YtnlkfajnaelnnaaGreatDoorChecked
import Derived.Test.YtnlkfajnaelnnaaGreatDoorGB30k
import Derived.Test.YtnlkfajnaelnnaaGreatDoorT4k
import Derived.Lib.LaidU8T
import Derived.Shelf.Unicode.ValidAny
import Derived.Shelf.Strings.OnBuilder
import Derived.Shelf.Strings.Count
set_option linter.unusedVariables false
set_option linter.unusedSimpArgs false
set_option maxRecDepth 100000
namespace Go.Proofs.YtnlkfajnaelnnaaGreatDoor.RP
open Go.GB
structure S145 where
  f0 : Int
  f1 : Int
def kS145 : Kd S145 := Kd.iso (Kd.pair (Kd.int .u8) (Kd.int .u8)) (fun x => (x.f0, x.f1))
theorem kS145_open {I : Imm} {x : S145} {cs : List Value} (h : kS145.R I x cs) : cs = [.int .u8 x.f0, .int .u8 x.f1] := by
  obtain ⟨_, _, rfl, h_0, h_1⟩ := h
  obtain rfl := h_0
  obtain rfl := h_1
  exact rfl
theorem kS145_mk {I : Imm} {x : S145}   : kS145.R I x [.int .u8 x.f0, .int .u8 x.f1] :=
  ⟨[.int .u8 x.f0], [.int .u8 x.f1], rfl, rfl, rfl⟩
def tab0 : List Int := (List.range 256).map fun c => (Go.Lib.firstT c : Int)
def tab1 : List S145 := (List.range 16).map fun i => ⟨(Go.Lib.accLo i : Int), (Go.Lib.accHi i : Int)⟩
structure Gl (I : Imm) : Prop where
  dr : I.dr = 0
  g0 : RepS (Kd.int .u8) I (some ⟨0, 0, none⟩) 256 tab0
  g1 : RepS kS145 I (some ⟨1, 0, none⟩) 16 tab1
theorem Gl.mono {I J : Imm} (h : Gl I) (hI : I ≤ J) : Gl J := ⟨hI.dr.trans h.dr, h.g0.mono hI, h.g1.mono hI⟩
def lays138_ren : Go.Shelf.Ren := ⟨fun x => if x = 138 then 221 else if x = 195 then 222 else if x = 218 then 223 else if x = 143 then 224 else if x = 219 then 225 else if x = 217 then 226 else if x = 225 then 227 else if x = 224 then 228 else if x = 267 then 229 else if x = 266 then 230 else if x = 314 then 231 else x, fun x => if x = 46 then 136 else if x = 146 then 267 else if x = 51 then 152 else x, fun x => if x = 1 then 2 else x⟩
theorem lays138 : Go.Proofs.Lays.n138 Tryz.prog lays138_ren := {
  mixed := by kernel_rfl,
  f138 := Tryz.func221.trans (congrArg some (by kernel_rfl)),
  f143 := Tryz.func224.trans (congrArg some (by kernel_rfl)),
  f195 := Tryz.func222.trans (congrArg some (by kernel_rfl)),
  f217 := Tryz.func226.trans (congrArg some (by kernel_rfl)),
  f218 := Tryz.func223.trans (congrArg some (by kernel_rfl)),
  f219 := Tryz.func225.trans (congrArg some (by kernel_rfl)),
  f224 := Tryz.func228.trans (congrArg some (by kernel_rfl)),
  f225 := Tryz.func227.trans (congrArg some (by kernel_rfl)),
  f266 := Tryz.func230.trans (congrArg some (by kernel_rfl)),
  f267 := Tryz.func229.trans (congrArg some (by kernel_rfl)),
  f314 := Tryz.func231.trans (congrArg some (by kernel_rfl)),
  t0 := Tryz.underlying0,
  a0 := Tryz.isAgg0,
  z0 := Tryz.sizeOf0,
  v0 := Tryz.zeroValue0,
  t3 := Tryz.underlying3,
  a3 := Tryz.isAgg3,
  z3 := Tryz.sizeOf3,
  v3 := Tryz.zeroValue3,
  t4 := Tryz.underlying4,
  a4 := Tryz.isAgg4,
  z4 := Tryz.sizeOf4,
  v4 := Tryz.zeroValue4,
  t5 := Tryz.underlying5,
  a5 := Tryz.isAgg5,
  z5 := Tryz.sizeOf5,
  v5 := Tryz.zeroValue5,
  t9 := Tryz.underlying9,
  a9 := Tryz.isAgg9,
  z9 := Tryz.sizeOf9,
  v9 := Tryz.zeroValue9,
  t46 := Tryz.underlying136,
  a46 := Tryz.isAgg136,
  z46 := Tryz.sizeOf136,
  v46 := Tryz.zeroValue136,
  t51 := Tryz.underlying152,
  a51 := Tryz.isAgg152,
  z51 := Tryz.sizeOf152,
  v51 := Tryz.zeroValue152,
  t146 := Tryz.underlying267,
  a146 := Tryz.isAgg267,
  z146 := Tryz.sizeOf267,
  v146 := Tryz.zeroValue267,
  g1 := by kernel_rfl }

/-- The kit's contract of strings.Count, at one byte (elsewhere nothing is said). -/
def strings_Count (a0 a1 : ByteArray) : Option Int := match a1 with | ⟨⟨[c]⟩⟩ => some (Go.Lib.countByte a0.data.toList c : Int) | _ => none
theorem strings_Count_walk {a0 a1 : ByteArray} {I : Imm} {r : Int} (hr : strings_Count a0 a1 = some r) (L : Own) :
    CallsTo Tryz.prog 221 #[.string a0, .string a1] I L (fun v I' L' => v = .int .i64 r ∧ L = L') := by
  unfold strings_Count at hr
  split at hr
  · cases hr
    exact fun W hW => (Go.Proofs.Any.strings_Count_one lays138 a0 _ W).mono fun e w' ⟨he, hw⟩ => ⟨_, I, L, he, Imm.refl I, hw ▸ hW, rfl, rfl⟩
  · cases hr

/-! 219 strings_byteStringReplacer_Replace ('rep', 'imm') -/
noncomputable def strings_byteStringReplacer_Replace_l22 (a0 : List (List Int) × List ByteArray) (a1 : ByteArray) : (Int × Bool × Int) → Option ((Int × Bool × Int) ⊕ (Int × Bool)) := fun s13 =>
  bif (decide (s13.2.2 < (a0.2.length : Int))) then
  (Option.bind (ix a0.2 s13.2.2) fun (x25 : ByteArray) =>
    Option.bind (strings_Count a1 x25) fun (y33 : Int) =>
    Option.bind (bif (y33 != 0) then
      (Option.bind (bx x25 0) fun (c41 : Int) =>
        Option.bind (ix a0.1 c41) fun (x43 : List Int) =>
        some ((IntKind.wrap .i64 (s13.1 + (IntKind.wrap .i64 (y33 * (IntKind.wrap .i64 ((x43.length : Int) - 1)))))), true))
      else
      (some (s13.1, s13.2.1))) fun (j35 : Int × Bool) =>
    some (Sum.inl (j35.1, j35.2, (IntKind.wrap .i64 (s13.2.2 + 1)))))
  else
  (some (Sum.inr (s13.1, s13.2.1)))
noncomputable def strings_byteStringReplacer_Replace_l69 (a0 : List (List Int) × List ByteArray) (a1 : ByteArray) : (Int × Bool × Int) → Option ((Int × Bool × Int) ⊕ (Int × Bool)) := fun s60 =>
  bif (decide (s60.2.2 < (a1.size : Int))) then
  (Option.bind (bx a1 s60.2.2) fun (c72 : Int) =>
    Option.bind (ix a0.1 c72) fun (x74 : List Int) =>
    Option.bind (bif (!x74.isEmpty) then
      (Option.bind (ix a0.1 c72) fun (x91 : List Int) =>
        some ((IntKind.wrap .i64 (s60.1 + (IntKind.wrap .i64 ((x91.length : Int) - 1)))), true))
      else
      (some (s60.1, s60.2.1))) fun (j85 : Int × Bool) =>
    some (Sum.inl (j85.1, j85.2, (IntKind.wrap .i64 (s60.2.2 + 1)))))
  else
  (some (Sum.inr (s60.1, s60.2.1)))
noncomputable def strings_byteStringReplacer_Replace_l132 (a0 : List (List Int) × List ByteArray) (a1 : ByteArray) : ((List Int) × Int × Int) → Option (((List Int) × Int × Int) ⊕ ((List Int))) := fun s117 =>
  bif (decide (s117.2.2 < (a1.size : Int))) then
  (Option.bind (bx a1 s117.2.2) fun (c135 : Int) =>
    Option.bind (ix a0.1 c135) fun (x137 : List Int) =>
    Option.bind (bif (!x137.isEmpty) then
      (Option.bind (lx s117.1 s117.2.1 (s117.1.length : Int)) fun (l158 : List Int) =>
        Option.bind (ix a0.1 c135) fun (x161 : List Int) =>
        Option.bind (cpyv s117.1 s117.2.1 l158.length x161) fun (zs172 : List Int) =>
        some (zs172, (IntKind.wrap .i64 (s117.2.1 + ((min x161.length l158.length : Nat) : Int)))))
      else
      (Option.bind (ix s117.1 s117.2.1) fun (x177 : Int) =>
        some ((lset s117.1 s117.2.1 c135), (IntKind.wrap .i64 (s117.2.1 + 1))))) fun (j148 : (List Int) × Int) =>
    some (Sum.inl (j148.1, j148.2, (IntKind.wrap .i64 (s117.2.2 + 1)))))
  else
  (some (Sum.inr s117.1))
noncomputable def strings_byteStringReplacer_Replace (a0 : List (List Int) × List ByteArray) (a1 : ByteArray) : Option ByteArray :=
  Option.bind (bif (decide ((IntKind.wrap .i64 ((a0.2.length : Int) * 8)) ≤ (a1.size : Int))) then
    (Option.bind (loopO (strings_byteStringReplacer_Replace_l22 a0 a1) ((a1.size : Int), false, 0)) fun (r11 : Int × Bool) =>
      some (r11.1, r11.2))
    else
    (Option.bind (loopO (strings_byteStringReplacer_Replace_l69 a0 a1) ((a1.size : Int), false, 0)) fun (r58 : Int × Bool) =>
      some (r58.1, r58.2))) fun (j1 : Int × Bool) =>
  bif (!j1.2) then
  (some a1)
  else
  (Option.bind (mkrow (0 : Int) j1.1 j1.1) fun (xs103 : List Int) =>
    Option.bind (loopO (strings_byteStringReplacer_Replace_l132 a0 a1) (xs103, 0, 0)) fun (r115 : (List Int)) =>
    some (ofBytes r115))
theorem strings_byteStringReplacer_Replace_walk {a0 : List (List Int) × List ByteArray} {g0 : Nat} {A0_0 : Option Addr} {n0_0 : Nat} {a1 : ByteArray} {I : Imm} {r : ByteArray} (hT0 : RepT I g0 a0.1 a0.2) (hw0 : RunAt I ⟨g0, 256, none⟩ [.slice A0_0 a0.2.length n0_0]) (hf0 : RepS Kd.str I A0_0 n0_0 a0.2) (hr : strings_byteStringReplacer_Replace a0 a1 = some r) (L : Own) :
    CallsTo Tryz.prog 219 #[.pointer (some ⟨g0, 0, none⟩), .string a1] I L (fun v I' L' => v = .string r ∧ L = L') := by
  unfold strings_byteStringReplacer_Replace at hr
  refine callsTo_body (N := 122) Tryz.func219 (by kernel_rfl) (by kernel_rfl) (by kernel_rfl) ?_
  refine gk_pick [0, 1] (K' := [(0, .pointer (some ⟨g0, 0, none⟩)), (1, .string a1)]) (by kernel_rfl) ?_
  refine gk_seq (by kernel_rfl) ?_
  refine gk_region (by kernel_rfl) ?_
  refine gl_pure 1 [0, 1] (K' := [(0, .pointer (some ⟨g0, 0, none⟩)), (1, .string a1)]) (by kernel_rfl) ?_
  refine gl_atE (by kernel_rfl) ?_
  refine ge_seq ?_
  refine gk_seq (by kernel_rfl) ?_
  refine gk_region (by kernel_rfl) ?_
  refine gl_pure 3 [0, 1, 5] (K' := [(0, .pointer (some ⟨g0, 0, none⟩)), (1, .string a1), (5, .int .i64 (a1.size : Int))]) (by kernel_rfl) ?_
  refine gl_atE (by kernel_rfl) ?_
  refine ge_seq ?_
  refine gk_seq (by kernel_rfl) ?_
  refine gk_region (by kernel_rfl) ?_
  refine gl_pure 1 [0, 1, 5, 6] (K' := [(0, .pointer (some ⟨g0, 0, none⟩)), (1, .string a1), (5, .int .i64 (a1.size : Int)), (6, .bool false)]) (by kernel_rfl) ?_
  refine gl_atE (by kernel_rfl) ?_
  refine ge_seq ?_
  refine gk_seq (by kernel_rfl) ?_
  refine gk_seq (by kernel_rfl) ?_
  refine gk_region (by kernel_rfl) ?_
  refine gl_pure 3 [0, 1, 5, 6, 20] (K' := [(0, .pointer (some ⟨g0, 0, none⟩)), (1, .string a1), (5, .int .i64 (a1.size : Int)), (6, .bool false), (20, .pointer (some ⟨g0, 256, none⟩))]) (by kernel_rfl) ?_
  refine gl_load (T' := 44) (xp := (.tmp 20)) (p := ⟨g0, 256, none⟩) (c := .slice A0_0 a0.2.length n0_0) (n := 1) (by kernel_rfl) (by kernel_rfl) (by kernel_rfl) (by kernel_rfl) hw0 ?_
  refine gl_pure 5 [0, 1, 5, 6, 26] (K' := [(0, .pointer (some ⟨g0, 0, none⟩)), (1, .string a1), (5, .int .i64 (a1.size : Int)), (6, .bool false), (26, .bool (decide ((IntKind.wrap .i64 ((a0.2.length : Int) * 8)) ≤ (a1.size : Int))))]) (by kernel_rfl) ?_
  refine gl_atE (by kernel_rfl) ?_
  refine ge_seq ?_
  obtain ⟨j1, hj2, hr⟩ := bind_some hr
  refine gk_join (fun t I' L' => I ≤ I' ∧ L = L' ∧ Knows 122 [(0, .pointer (some ⟨g0, 0, none⟩)), (1, .string a1), (5, .int .i64 j1.1), (6, .bool j1.2)] t) ?_ ?_
  · refine gk_cond (b := (decide ((IntKind.wrap .i64 ((a0.2.length : Int) * 8)) ≤ (a1.size : Int)))) (by kernel_rfl) (by kernel_rfl) (fun hc6 => ?_) (fun hc6 => ?_)
    · have hj2 := cond_t hc6 hj2
      refine gk_seq (by kernel_rfl) ?_
      refine gk_region (by kernel_rfl) ?_
      refine gl_pure 3 [0, 1, 5, 6, 29] (K' := [(0, .pointer (some ⟨g0, 0, none⟩)), (1, .string a1), (5, .int .i64 (a1.size : Int)), (6, .bool false), (29, .pointer (some ⟨g0, 256, none⟩))]) (by kernel_rfl) ?_
      refine gl_load (T' := 44) (xp := (.tmp 29)) (p := ⟨g0, 256, none⟩) (c := .slice A0_0 a0.2.length n0_0) (n := 1) (by kernel_rfl) (by kernel_rfl) (by kernel_rfl) (by kernel_rfl) hw0 ?_
      refine gl_pure 2 [0, 1, 5, 6, 30, 31, 32] (K' := [(0, .pointer (some ⟨g0, 0, none⟩)), (1, .string a1), (5, .int .i64 (a1.size : Int)), (6, .bool false), (30, .slice A0_0 a0.2.length n0_0), (31, .int .i64 (a0.2.length : Int)), (32, .int .i64 0)]) (by kernel_rfl) ?_
      refine gl_atE (by kernel_rfl) ?_
      refine ge_seq ?_
      obtain ⟨r11, hl12, hj2⟩ := bind_some hj2
      refine gk_join (fun t I' L' => I ≤ I' ∧ L = L' ∧ Knows 122 [(0, .pointer (some ⟨g0, 0, none⟩)), (1, .string a1), (5, .int .i64 r11.1), (6, .bool r11.2)] t) ?_ ?_
      · refine gk_block (by kernel_rfl) ?_
        refine gk_pick [0, 1, 5, 6, 30, 31, 32] (K' := [(0, .pointer (some ⟨g0, 0, none⟩)), (1, .string a1), (5, .int .i64 (a1.size : Int)), (6, .bool false), (30, .slice A0_0 a0.2.length n0_0), (31, .int .i64 (a0.2.length : Int)), (32, .int .i64 0)]) (by kernel_rfl) ?_
        intro t hK
        refine gc_loop (strings_byteStringReplacer_Replace_l22 a0 a1) (fun s13 t I' L' => I ≤ I' ∧ L = L' ∧ Knows 122 [(0, .pointer (some ⟨g0, 0, none⟩)), (1, .string a1), (5, .int .i64 s13.1), (6, .bool s13.2.1), (30, .slice A0_0 a0.2.length n0_0), (31, .int .i64 (a0.2.length : Int)), (32, .int .i64 s13.2.2)] t) (by kernel_rfl) ?_ hl12 ⟨(Imm.refl _), rfl, hK⟩
        rintro s13 o14 t I18 L' hb15 ⟨hI16, rfl, hK17⟩
        unfold strings_byteStringReplacer_Replace_l22 at hb15
        refine gk_at hK17 ?_
        refine gk_seq (by kernel_rfl) ?_
        refine gk_region (by kernel_rfl) ?_
        refine gl_pure 1 [0, 1, 5, 6, 30, 31, 32, 33] (K' := [(0, .pointer (some ⟨g0, 0, none⟩)), (1, .string a1), (5, .int .i64 s13.1), (6, .bool s13.2.1), (30, .slice A0_0 a0.2.length n0_0), (31, .int .i64 (a0.2.length : Int)), (32, .int .i64 s13.2.2), (33, .bool (decide (s13.2.2 < (a0.2.length : Int))))]) (by kernel_rfl) ?_
        refine gl_atE (by kernel_rfl) ?_
        refine ge_seq ?_
        refine gk_seq (by kernel_rfl) ?_
        refine gk_cond (b := (decide (s13.2.2 < (a0.2.length : Int)))) (by kernel_rfl) (by kernel_rfl) (fun hc24 => ?_) (fun hc24 => ?_)
        · have hb15 := cond_t hc24 hb15
          refine gk_skip (by kernel_rfl) ?_
          refine ge_seq ?_
          refine gk_seq (by kernel_rfl) ?_
          refine gk_block (by kernel_rfl) ?_
          refine gk_seq (by kernel_rfl) ?_
          refine gk_region (by kernel_rfl) ?_
          obtain ⟨x25, hx26, hb15⟩ := bind_some hb15
          obtain ⟨p27, cs28, hR29, hA30, ha31⟩ := RepS.ixAt hx26 (hf0.mono hI16)
          have hi32 := ix_some hx26
          obtain rfl := hR29
          refine gl_indexAddrF (c := n0_0) (T' := 44) (e := 9) (xs := (.tmp 30)) (xi := (.tmp 32)) (kd := .i64) ha31 hi32.1 hi32.2.1 (by kernel_rfl) (by kernel_rfl) (by kernel_rfl) (by kernel_rfl) (by kernel_rfl) ?_
          refine gl_load (T' := 9) (xp := (.tmp 34)) (p := p27) (c := .string x25) (n := 1) (by kernel_rfl) (by kernel_rfl) (by kernel_rfl) (by kernel_rfl) hA30 ?_
          refine gl_pure 1 [0, 1, 5, 6, 8, 30, 31, 32] (K' := [(0, .pointer (some ⟨g0, 0, none⟩)), (1, .string a1), (5, .int .i64 s13.1), (6, .bool s13.2.1), (8, .string x25), (30, .slice A0_0 a0.2.length n0_0), (31, .int .i64 (a0.2.length : Int)), (32, .int .i64 s13.2.2)]) (by kernel_rfl) ?_
          refine gl_atE (by kernel_rfl) ?_
          refine ge_seq ?_
          refine gk_seq (by kernel_rfl) ?_
          refine gk_region (by kernel_rfl) ?_
          refine gl_pure 2 [0, 1, 5, 6, 8, 30, 31, 32, 36, 37] (K' := [(0, .pointer (some ⟨g0, 0, none⟩)), (1, .string a1), (5, .int .i64 s13.1), (6, .bool s13.2.1), (8, .string x25), (30, .slice A0_0 a0.2.length n0_0), (31, .int .i64 (a0.2.length : Int)), (32, .int .i64 s13.2.2), (36, .string a1), (37, .string x25)]) (by kernel_rfl) ?_
          obtain ⟨y33, hx34, hb15⟩ := bind_some hb15
          refine gl_callQ (by kernel_rfl) (strings_Count_walk (r := y33)  hx34 _) ?_
          refine gl_pure 1 [0, 1, 5, 6, 8, 9, 30, 31, 32] (K' := [(0, .pointer (some ⟨g0, 0, none⟩)), (1, .string a1), (5, .int .i64 s13.1), (6, .bool s13.2.1), (8, .string x25), (9, .int .i64 y33), (30, .slice A0_0 a0.2.length n0_0), (31, .int .i64 (a0.2.length : Int)), (32, .int .i64 s13.2.2)]) (by kernel_rfl) ?_
          refine gl_atE (by kernel_rfl) ?_
          refine ge_seq ?_
          refine gk_seq (by kernel_rfl) ?_
          refine gk_region (by kernel_rfl) ?_
          refine gl_pure 2 [0, 1, 5, 6, 8, 9, 30, 31, 32, 40] (K' := [(0, .pointer (some ⟨g0, 0, none⟩)), (1, .string a1), (5, .int .i64 s13.1), (6, .bool s13.2.1), (8, .string x25), (9, .int .i64 y33), (30, .slice A0_0 a0.2.length n0_0), (31, .int .i64 (a0.2.length : Int)), (32, .int .i64 s13.2.2), (40, .bool (y33 != 0))]) (by kernel_rfl) ?_
          refine gl_atE (by kernel_rfl) ?_
          refine ge_seq ?_
          obtain ⟨j35, hj36, hb15⟩ := bind_some hb15
          refine gk_join (fun t I' L' => I18 ≤ I' ∧ L = L' ∧ Knows 122 [(0, .pointer (some ⟨g0, 0, none⟩)), (1, .string a1), (5, .int .i64 j35.1), (6, .bool j35.2), (30, .slice A0_0 a0.2.length n0_0), (31, .int .i64 (a0.2.length : Int)), (32, .int .i64 s13.2.2)] t) ?_ ?_
          · refine gk_cond (b := (y33 != 0)) (by kernel_rfl) (by kernel_rfl) (fun hc40 => ?_) (fun hc40 => ?_)
            · have hj36 := cond_t hc40 hj36
              refine gk_seq (by kernel_rfl) ?_
              refine gk_draw 14 [(0, true), (1, true), (2, true), (3, true), (4, true), (5, true), (6, true), (7, true), (8, true), (9, true), (10, true), (11, true), (12, true), (13, true)] [] (fun p hp => by cases hp) (by kernel_rfl) (by kernel_rfl) (by kernel_rfl) ?_ (by kernel_rfl)
              refine gd_pure 4 [0, 1, 5, 30, 31, 32, 41, 42, 43, 44] (K' := [(0, .pointer (some ⟨g0, 0, none⟩)), (1, .string a1), (5, .int .i64 s13.1), (30, .slice A0_0 a0.2.length n0_0), (31, .int .i64 (a0.2.length : Int)), (32, .int .i64 s13.2.2), (41, .int .i64 s13.1), (42, .int .i64 y33), (43, .pointer (some ⟨g0, 0, none⟩)), (44, .string x25)]) (s' := [(4, true), (5, true), (6, true), (7, true), (8, true), (9, true), (10, true), (11, true), (12, true), (13, true)]) (CC.refl (fun p hp => by cases hp)) (by kernel_rfl) ?_
              obtain ⟨c41, hx42, hj36⟩ := bind_some hj36
              refine gd_q (v := .int .u8 c41) (by kernel_rfl) (by kernel_rfl) (CC.refl (fun p hp => by cases hp)) (fun I' L' T hC kk => gl_index' (T' := 9) (xs := (.tmp 44)) (xi := (.const (.int .i64 0))) (kd := .i64) hx42 (by kernel_rfl) (by kernel_rfl) (by kernel_rfl) (by kernel_rfl) (by kernel_rfl) kk) ?_
              refine gd_pure 2 [0, 1, 5, 30, 31, 32, 41, 42, 45, 47] (K' := [(0, .pointer (some ⟨g0, 0, none⟩)), (1, .string a1), (5, .int .i64 s13.1), (30, .slice A0_0 a0.2.length n0_0), (31, .int .i64 (a0.2.length : Int)), (32, .int .i64 s13.2.2), (41, .int .i64 s13.1), (42, .int .i64 y33), (45, .int .u8 c41), (47, .pointer (some ⟨g0, 0, none⟩))]) (s' := [(7, true), (8, true), (9, true), (10, true), (11, true), (12, true), (13, true)]) (CC.refl (fun p hp => by cases hp)) (by kernel_rfl) ?_
              obtain ⟨x43, hx44, hj36⟩ := bind_some hj36
              obtain ⟨A45, n46, p47, ha48, h049, h150, hR51, hf52, hn53⟩ := RepT.ix hx44 (hT0.mono hI16)
              refine gd_q (v := .pointer (some p47)) (by kernel_rfl) (by kernel_rfl) (CC.refl (fun p hp => by cases hp)) (fun I' L' T hC kk => gl_indexAddrT (len := 256) (T' := 197) (e := 51) (xs := (.tmp 47)) (xi := (.tmp 45)) (kd := .u8) ha48 h049 h150 (by kernel_rfl) (by kernel_rfl) (by kernel_rfl) (by kernel_rfl) (by kernel_rfl) kk) ?_
              refine gd_q (v := .slice A45 x43.length n46) (by kernel_rfl) (by kernel_rfl) (CC.refl (fun p hp => by cases hp)) (fun I' L' T hC kk => gl_load (T' := 51) (xp := (.tmp 48)) (p := p47) (c := .slice A45 x43.length n46) (n := 1) (by kernel_rfl) (by kernel_rfl) (by kernel_rfl) (by kernel_rfl) (hR51.mono hC.le) kk) ?_
              refine gd_pure 5 [0, 1, 5, 30, 31, 32] (K' := [(0, .pointer (some ⟨g0, 0, none⟩)), (1, .string a1), (5, .int .i64 (IntKind.wrap .i64 (s13.1 + (IntKind.wrap .i64 (y33 * (IntKind.wrap .i64 ((x43.length : Int) - 1))))))), (30, .slice A0_0 a0.2.length n0_0), (31, .int .i64 (a0.2.length : Int)), (32, .int .i64 s13.2.2)]) (s' := []) (CC.refl (fun p hp => by cases hp)) (by kernel_rfl) ?_
              refine gd_done ?_
              refine gl_atE (by kernel_rfl) ?_
              refine ge_seq ?_
              refine gk_region (by kernel_rfl) ?_
              refine gl_pure 1 [0, 1, 5, 6, 30, 31, 32] (K' := [(0, .pointer (some ⟨g0, 0, none⟩)), (1, .string a1), (5, .int .i64 (IntKind.wrap .i64 (s13.1 + (IntKind.wrap .i64 (y33 * (IntKind.wrap .i64 ((x43.length : Int) - 1))))))), (6, .bool true), (30, .slice A0_0 a0.2.length n0_0), (31, .int .i64 (a0.2.length : Int)), (32, .int .i64 s13.2.2)]) (by kernel_rfl) ?_
              refine gl_atE (by kernel_rfl) ?_
              obtain rfl := some_inj hj36
              exact ge_mid fun t ht => ⟨(Imm.refl _), rfl, ht.pick (l := [0, 1, 5, 6, 30, 31, 32]) (by kernel_rfl)⟩
            · have hj36 := cond_f hc40 hj36
              refine gk_skip (by kernel_rfl) ?_
              obtain rfl := some_inj hj36
              exact ge_mid fun t ht => ⟨(Imm.refl _), rfl, ht.pick (l := [0, 1, 5, 6, 30, 31, 32]) (by kernel_rfl)⟩
          · rintro t I39 L' ⟨hI37, rfl, hK38⟩
            refine ge_at hK38 ?_
            refine ge_block_normal ?_
            refine ge_seq ?_
            refine gk_region (by kernel_rfl) ?_
            refine gl_pure 2 [0, 1, 5, 6, 30, 31, 32] (K' := [(0, .pointer (some ⟨g0, 0, none⟩)), (1, .string a1), (5, .int .i64 j35.1), (6, .bool j35.2), (30, .slice A0_0 a0.2.length n0_0), (31, .int .i64 (a0.2.length : Int)), (32, .int .i64 (IntKind.wrap .i64 (s13.2.2 + 1)))]) (by kernel_rfl) ?_
            refine gl_atE (by kernel_rfl) ?_
            obtain rfl := some_inj hb15
            exact ge_round fun t ht => ⟨(Imm.trans hI16 hI37), rfl, ht.pick (l := [0, 1, 5, 6, 30, 31, 32]) (by kernel_rfl)⟩
        · have hb15 := cond_f hc24 hb15
          refine gk_exit (by kernel_rfl) ?_
          refine ge_seq_exit ?_
          obtain rfl := some_inj hb15
          refine ge_round_out (fun hrr => ?_) (by intro h; cases h)
          obtain rfl := hrr
          refine ge_block_hit (by kernel_rfl) ?_
          exact ge_mid fun t ht => ⟨hI16, rfl, ht.pick (l := [0, 1, 5, 6]) (by kernel_rfl)⟩
      · rintro t I21 L' ⟨hI19, rfl, hK20⟩
        refine ge_at hK20 ?_
        obtain rfl := some_inj hj2
        exact ge_mid fun t ht => ⟨hI19, rfl, ht.pick (l := [0, 1, 5, 6]) (by kernel_rfl)⟩
    · have hj2 := cond_f hc6 hj2
      refine gk_seq (by kernel_rfl) ?_
      refine gk_region (by kernel_rfl) ?_
      refine gl_pure 1 [0, 1, 5, 6, 10] (K' := [(0, .pointer (some ⟨g0, 0, none⟩)), (1, .string a1), (5, .int .i64 (a1.size : Int)), (6, .bool false), (10, .int .i64 0)]) (by kernel_rfl) ?_
      refine gl_atE (by kernel_rfl) ?_
      refine ge_seq ?_
      obtain ⟨r58, hl59, hj2⟩ := bind_some hj2
      refine gk_join (fun t I' L' => I ≤ I' ∧ L = L' ∧ Knows 122 [(0, .pointer (some ⟨g0, 0, none⟩)), (1, .string a1), (5, .int .i64 r58.1), (6, .bool r58.2)] t) ?_ ?_
      · refine gk_block (by kernel_rfl) ?_
        refine gk_pick [0, 1, 5, 6, 10] (K' := [(0, .pointer (some ⟨g0, 0, none⟩)), (1, .string a1), (5, .int .i64 (a1.size : Int)), (6, .bool false), (10, .int .i64 0)]) (by kernel_rfl) ?_
        intro t hK
        refine gc_loop (strings_byteStringReplacer_Replace_l69 a0 a1) (fun s60 t I' L' => I ≤ I' ∧ L = L' ∧ Knows 122 [(0, .pointer (some ⟨g0, 0, none⟩)), (1, .string a1), (5, .int .i64 s60.1), (6, .bool s60.2.1), (10, .int .i64 s60.2.2)] t) (by kernel_rfl) ?_ hl59 ⟨(Imm.refl _), rfl, hK⟩
        rintro s60 o61 t I65 L' hb62 ⟨hI63, rfl, hK64⟩
        unfold strings_byteStringReplacer_Replace_l69 at hb62
        refine gk_at hK64 ?_
        refine gk_seq (by kernel_rfl) ?_
        refine gk_seq (by kernel_rfl) ?_
        refine gk_region (by kernel_rfl) ?_
        refine gl_pure 4 [0, 1, 5, 6, 10, 58] (K' := [(0, .pointer (some ⟨g0, 0, none⟩)), (1, .string a1), (5, .int .i64 s60.1), (6, .bool s60.2.1), (10, .int .i64 s60.2.2), (58, .bool (decide (s60.2.2 < (a1.size : Int))))]) (by kernel_rfl) ?_
        refine gl_atE (by kernel_rfl) ?_
        refine ge_seq ?_
        refine gk_cond (b := (decide (s60.2.2 < (a1.size : Int)))) (by kernel_rfl) (by kernel_rfl) (fun hc71 => ?_) (fun hc71 => ?_)
        · have hb62 := cond_t hc71 hb62
          refine gk_skip (by kernel_rfl) ?_
          refine ge_seq ?_
          refine gk_seq (by kernel_rfl) ?_
          refine gk_block (by kernel_rfl) ?_
          refine gk_seq (by kernel_rfl) ?_
          refine gk_region (by kernel_rfl) ?_
          refine gl_pure 2 [0, 1, 5, 6, 10, 61, 62] (K' := [(0, .pointer (some ⟨g0, 0, none⟩)), (1, .string a1), (5, .int .i64 s60.1), (6, .bool s60.2.1), (10, .int .i64 s60.2.2), (61, .string a1), (62, .int .i64 s60.2.2)]) (by kernel_rfl) ?_
          obtain ⟨c72, hx73, hb62⟩ := bind_some hb62
          refine gl_index' (T' := 9) (xs := (.tmp 61)) (xi := (.tmp 62)) (kd := .i64) hx73 (by kernel_rfl) (by kernel_rfl) (by kernel_rfl) (by kernel_rfl) (by kernel_rfl) ?_
          refine gl_pure 1 [0, 1, 5, 6, 10, 11] (K' := [(0, .pointer (some ⟨g0, 0, none⟩)), (1, .string a1), (5, .int .i64 s60.1), (6, .bool s60.2.1), (10, .int .i64 s60.2.2), (11, .int .u8 c72)]) (by kernel_rfl) ?_
          refine gl_atE (by kernel_rfl) ?_
          refine ge_seq ?_
          refine gk_seq (by kernel_rfl) ?_
          refine gk_region (by kernel_rfl) ?_
          refine gl_pure 4 [0, 1, 5, 6, 10, 11, 65, 67] (K' := [(0, .pointer (some ⟨g0, 0, none⟩)), (1, .string a1), (5, .int .i64 s60.1), (6, .bool s60.2.1), (10, .int .i64 s60.2.2), (11, .int .u8 c72), (65, .int .u8 c72), (67, .pointer (some ⟨g0, 0, none⟩))]) (by kernel_rfl) ?_
          obtain ⟨x74, hx75, hb62⟩ := bind_some hb62
          obtain ⟨A76, n77, p78, ha79, h080, h181, hR82, hf83, hn84⟩ := RepT.ix hx75 (hT0.mono hI63)
          refine gl_indexAddrT (len := 256) (T' := 197) (e := 51) (xs := (.tmp 67)) (xi := (.tmp 65)) (kd := .u8) ha79 h080 h181 (by kernel_rfl) (by kernel_rfl) (by kernel_rfl) (by kernel_rfl) (by kernel_rfl) ?_
          refine gl_load (T' := 51) (xp := (.tmp 68)) (p := p78) (c := .slice A76 x74.length n77) (n := 1) (by kernel_rfl) (by kernel_rfl) (by kernel_rfl) (by kernel_rfl) hR82 ?_
          refine gl_neqNilT (A := A76) (len := x74.length) (c := n77) (a := 0) (b := 0) (t := 51) (t' := 51) (x := (.tmp 69)) (y := (.const (.slice none 0 0))) hn84 (by kernel_rfl) (by kernel_rfl) (by kernel_rfl) (by kernel_rfl) (by kernel_rfl) ?_
          refine gl_atE (by kernel_rfl) ?_
          refine ge_seq ?_
          obtain ⟨j85, hj86, hb62⟩ := bind_some hb62
          refine gk_join (fun t I' L' => I65 ≤ I' ∧ L = L' ∧ Knows 122 [(0, .pointer (some ⟨g0, 0, none⟩)), (1, .string a1), (5, .int .i64 j85.1), (6, .bool j85.2), (10, .int .i64 s60.2.2)] t) ?_ ?_
          · refine gk_cond (b := (!x74.isEmpty)) (by kernel_rfl) (by kernel_rfl) (fun hc90 => ?_) (fun hc90 => ?_)
            · have hj86 := cond_t hc90 hj86
              refine gk_seq (by kernel_rfl) ?_
              refine gk_region (by kernel_rfl) ?_
              refine gl_pure 5 [0, 1, 10, 71, 73, 75] (K' := [(0, .pointer (some ⟨g0, 0, none⟩)), (1, .string a1), (10, .int .i64 s60.2.2), (71, .int .i64 s60.1), (73, .int .u8 c72), (75, .pointer (some ⟨g0, 0, none⟩))]) (by kernel_rfl) ?_
              obtain ⟨x91, hx92, hj86⟩ := bind_some hj86
              obtain ⟨A93, n94, p95, ha96, h097, h198, hR99, hf100, hn101⟩ := RepT.ix hx92 (hT0.mono hI63)
              refine gl_indexAddrT (len := 256) (T' := 197) (e := 51) (xs := (.tmp 75)) (xi := (.tmp 73)) (kd := .u8) ha96 h097 h198 (by kernel_rfl) (by kernel_rfl) (by kernel_rfl) (by kernel_rfl) (by kernel_rfl) ?_
              refine gl_load (T' := 51) (xp := (.tmp 76)) (p := p95) (c := .slice A93 x91.length n94) (n := 1) (by kernel_rfl) (by kernel_rfl) (by kernel_rfl) (by kernel_rfl) hR99 ?_
              refine gl_pure 4 [0, 1, 5, 10] (K' := [(0, .pointer (some ⟨g0, 0, none⟩)), (1, .string a1), (5, .int .i64 (IntKind.wrap .i64 (s60.1 + (IntKind.wrap .i64 ((x91.length : Int) - 1))))), (10, .int .i64 s60.2.2)]) (by kernel_rfl) ?_
              refine gl_atE (by kernel_rfl) ?_
              refine ge_seq ?_
              refine gk_region (by kernel_rfl) ?_
              refine gl_pure 1 [0, 1, 5, 6, 10] (K' := [(0, .pointer (some ⟨g0, 0, none⟩)), (1, .string a1), (5, .int .i64 (IntKind.wrap .i64 (s60.1 + (IntKind.wrap .i64 ((x91.length : Int) - 1))))), (6, .bool true), (10, .int .i64 s60.2.2)]) (by kernel_rfl) ?_
              refine gl_atE (by kernel_rfl) ?_
              obtain rfl := some_inj hj86
              exact ge_mid fun t ht => ⟨(Imm.refl _), rfl, ht.pick (l := [0, 1, 5, 6, 10]) (by kernel_rfl)⟩
            · have hj86 := cond_f hc90 hj86
              refine gk_skip (by kernel_rfl) ?_
              obtain rfl := some_inj hj86
              exact ge_mid fun t ht => ⟨(Imm.refl _), rfl, ht.pick (l := [0, 1, 5, 6, 10]) (by kernel_rfl)⟩
          · rintro t I89 L' ⟨hI87, rfl, hK88⟩
            refine ge_at hK88 ?_
            refine ge_block_normal ?_
            refine ge_seq ?_
            refine gk_region (by kernel_rfl) ?_
            refine gl_pure 3 [0, 1, 5, 6, 10] (K' := [(0, .pointer (some ⟨g0, 0, none⟩)), (1, .string a1), (5, .int .i64 j85.1), (6, .bool j85.2), (10, .int .i64 (IntKind.wrap .i64 (s60.2.2 + 1)))]) (by kernel_rfl) ?_
            refine gl_atE (by kernel_rfl) ?_
            obtain rfl := some_inj hb62
            exact ge_round fun t ht => ⟨(Imm.trans hI63 hI87), rfl, ht.pick (l := [0, 1, 5, 6, 10]) (by kernel_rfl)⟩
        · have hb62 := cond_f hc71 hb62
          refine gk_exit (by kernel_rfl) ?_
          refine ge_seq_exit ?_
          obtain rfl := some_inj hb62
          refine ge_round_out (fun hrr => ?_) (by intro h; cases h)
          obtain rfl := hrr
          refine ge_block_hit (by kernel_rfl) ?_
          exact ge_mid fun t ht => ⟨hI63, rfl, ht.pick (l := [0, 1, 5, 6]) (by kernel_rfl)⟩
      · rintro t I68 L' ⟨hI66, rfl, hK67⟩
        refine ge_at hK67 ?_
        obtain rfl := some_inj hj2
        exact ge_mid fun t ht => ⟨hI66, rfl, ht.pick (l := [0, 1, 5, 6]) (by kernel_rfl)⟩
  · rintro t I5 L' ⟨hI3, rfl, hK4⟩
    refine ge_at hK4 ?_
    refine ge_seq ?_
    refine gk_seq (by kernel_rfl) ?_
    refine gk_seq (by kernel_rfl) ?_
    refine gk_region (by kernel_rfl) ?_
    refine gl_pure 2 [0, 1, 5, 82] (K' := [(0, .pointer (some ⟨g0, 0, none⟩)), (1, .string a1), (5, .int .i64 j1.1), (82, .bool (!j1.2))]) (by kernel_rfl) ?_
    refine gl_atE (by kernel_rfl) ?_
    refine ge_seq ?_
    refine gk_cond (b := (!j1.2)) (by kernel_rfl) (by kernel_rfl) (fun hc102 => ?_) (fun hc102 => ?_)
    · have hr := cond_t hc102 hr
      refine gk_seq (by kernel_rfl) ?_
      refine gk_region (by kernel_rfl) ?_
      refine gl_pure 2 [4] (K' := [(4, .string a1)]) (by kernel_rfl) ?_
      refine gl_atE (by kernel_rfl) ?_
      refine ge_seq ?_
      refine gk_ret (by kernel_rfl) ?_
      refine ge_seq_ret ?_
      obtain rfl := some_inj hr
      exact ge_result trivial (ResOk.tmp (by kernel_rfl) ResOk.nil) hI3 ⟨rfl, rfl⟩
    · have hr := cond_f hc102 hr
      refine gk_skip (by kernel_rfl) ?_
      refine ge_seq ?_
      refine gk_seq (by kernel_rfl) ?_
      refine gk_region (by kernel_rfl) ?_
      refine gl_pure 1 [0, 1, 84] (K' := [(0, .pointer (some ⟨g0, 0, none⟩)), (1, .string a1), (84, .int .i64 j1.1)]) (by kernel_rfl) ?_
      obtain ⟨xs103, hx104, hr⟩ := bind_some hr
      refine gl_makeSlice (d := (Kd.int .u8)) (T' := 51) (e := 5) (lx := (.tmp 84)) (cx := (.tmp 84)) (kl := .i64) (kc := .i64) (zc := #[.int .u8 0]) hx104 (by kernel_rfl) (by kernel_rfl) (by kernel_rfl) (by kernel_rfl) (by kernel_rfl) (by kernel_rfl) (by kernel_rfl) rfl (fun A105 C106 hO107 => ?_)
      refine gl_pure 1 [0, 1, 12] (K' := [(0, .pointer (some ⟨g0, 0, none⟩)), (1, .string a1), (12, .slice A105 xs103.length (j1.1.toNat))]) (by kernel_rfl) ?_
      refine gl_atE (by kernel_rfl) ?_
      refine ge_seq ?_
      refine gk_seq (by kernel_rfl) ?_
      refine gk_region (by kernel_rfl) ?_
      refine gl_pure 1 [0, 1, 12, 13] (K' := [(0, .pointer (some ⟨g0, 0, none⟩)), (1, .string a1), (12, .slice A105 xs103.length (j1.1.toNat)), (13, .int .i64 0)]) (by kernel_rfl) ?_
      refine gl_atE (by kernel_rfl) ?_
      refine ge_seq ?_
      refine gk_seq (by kernel_rfl) ?_
      refine gk_seq (by kernel_rfl) ?_
      refine gk_region (by kernel_rfl) ?_
      refine gl_pure 1 [0, 1, 12, 13, 14] (K' := [(0, .pointer (some ⟨g0, 0, none⟩)), (1, .string a1), (12, .slice A105 xs103.length (j1.1.toNat)), (13, .int .i64 0), (14, .int .i64 0)]) (by kernel_rfl) ?_
      refine gl_atE (by kernel_rfl) ?_
      refine ge_seq ?_
      obtain ⟨r115, hl116, hr⟩ := bind_some hr
      refine gk_join (fun t I' L' => ∃ C127, OwnS (Kd.int .u8) 5 I' A105 (j1.1.toNat) r115 C127 ∧ I5 ≤ I' ∧ C127 ++ L = L' ∧ Knows 122 [(12, .slice A105 r115.length (j1.1.toNat))] t) ?_ ?_
      · refine gk_block (by kernel_rfl) ?_
        refine gk_pick [0, 1, 12, 13, 14] (K' := [(0, .pointer (some ⟨g0, 0, none⟩)), (1, .string a1), (12, .slice A105 xs103.length (j1.1.toNat)), (13, .int .i64 0), (14, .int .i64 0)]) (by kernel_rfl) ?_
        intro t hK
        refine gc_loop (strings_byteStringReplacer_Replace_l132 a0 a1) (fun s117 t I' L' => ∃ C121, OwnS (Kd.int .u8) 5 I' A105 (j1.1.toNat) s117.1 C121 ∧ I5 ≤ I' ∧ C121 ++ L = L' ∧ Knows 122 [(0, .pointer (some ⟨g0, 0, none⟩)), (1, .string a1), (12, .slice A105 s117.1.length (j1.1.toNat)), (13, .int .i64 s117.2.1), (14, .int .i64 s117.2.2)] t) (by kernel_rfl) ?_ hl116 ⟨C106, hO107, (Imm.refl _), rfl, hK⟩
        rintro s117 o118 t I125 L' hb119 ⟨C121, hO122, hI120, rfl, hK124⟩
        unfold strings_byteStringReplacer_Replace_l132 at hb119
        refine gk_at hK124 ?_
        refine gk_seq (by kernel_rfl) ?_
        refine gk_seq (by kernel_rfl) ?_
        refine gk_region (by kernel_rfl) ?_
        refine gl_pure 4 [0, 1, 12, 13, 14, 89] (K' := [(0, .pointer (some ⟨g0, 0, none⟩)), (1, .string a1), (12, .slice A105 s117.1.length (j1.1.toNat)), (13, .int .i64 s117.2.1), (14, .int .i64 s117.2.2), (89, .bool (decide (s117.2.2 < (a1.size : Int))))]) (by kernel_rfl) ?_
        refine gl_atE (by kernel_rfl) ?_
        refine ge_seq ?_
        refine gk_cond (b := (decide (s117.2.2 < (a1.size : Int)))) (by kernel_rfl) (by kernel_rfl) (fun hc134 => ?_) (fun hc134 => ?_)
        · have hb119 := cond_t hc134 hb119
          refine gk_skip (by kernel_rfl) ?_
          refine ge_seq ?_
          refine gk_seq (by kernel_rfl) ?_
          refine gk_block (by kernel_rfl) ?_
          refine gk_seq (by kernel_rfl) ?_
          refine gk_region (by kernel_rfl) ?_
          refine gl_pure 2 [0, 1, 12, 13, 14, 92, 93] (K' := [(0, .pointer (some ⟨g0, 0, none⟩)), (1, .string a1), (12, .slice A105 s117.1.length (j1.1.toNat)), (13, .int .i64 s117.2.1), (14, .int .i64 s117.2.2), (92, .string a1), (93, .int .i64 s117.2.2)]) (by kernel_rfl) ?_
          obtain ⟨c135, hx136, hb119⟩ := bind_some hb119
          refine gl_index' (T' := 9) (xs := (.tmp 92)) (xi := (.tmp 93)) (kd := .i64) hx136 (by kernel_rfl) (by kernel_rfl) (by kernel_rfl) (by kernel_rfl) (by kernel_rfl) ?_
          refine gl_pure 1 [0, 1, 12, 13, 14, 15] (K' := [(0, .pointer (some ⟨g0, 0, none⟩)), (1, .string a1), (12, .slice A105 s117.1.length (j1.1.toNat)), (13, .int .i64 s117.2.1), (14, .int .i64 s117.2.2), (15, .int .u8 c135)]) (by kernel_rfl) ?_
          refine gl_atE (by kernel_rfl) ?_
          refine ge_seq ?_
          refine gk_seq (by kernel_rfl) ?_
          refine gk_region (by kernel_rfl) ?_
          refine gl_pure 4 [0, 1, 12, 13, 14, 15, 96, 98] (K' := [(0, .pointer (some ⟨g0, 0, none⟩)), (1, .string a1), (12, .slice A105 s117.1.length (j1.1.toNat)), (13, .int .i64 s117.2.1), (14, .int .i64 s117.2.2), (15, .int .u8 c135), (96, .int .u8 c135), (98, .pointer (some ⟨g0, 0, none⟩))]) (by kernel_rfl) ?_
          obtain ⟨x137, hx138, hb119⟩ := bind_some hb119
          obtain ⟨A139, n140, p141, ha142, h0143, h1144, hR145, hf146, hn147⟩ := RepT.ix hx138 (hT0.mono (Imm.trans hI3 hI120))
          refine gl_indexAddrT (len := 256) (T' := 197) (e := 51) (xs := (.tmp 98)) (xi := (.tmp 96)) (kd := .u8) ha142 h0143 h1144 (by kernel_rfl) (by kernel_rfl) (by kernel_rfl) (by kernel_rfl) (by kernel_rfl) ?_
          refine gl_load (T' := 51) (xp := (.tmp 99)) (p := p141) (c := .slice A139 x137.length n140) (n := 1) (by kernel_rfl) (by kernel_rfl) (by kernel_rfl) (by kernel_rfl) hR145 ?_
          refine gl_neqNilT (A := A139) (len := x137.length) (c := n140) (a := 0) (b := 0) (t := 51) (t' := 51) (x := (.tmp 100)) (y := (.const (.slice none 0 0))) hn147 (by kernel_rfl) (by kernel_rfl) (by kernel_rfl) (by kernel_rfl) (by kernel_rfl) ?_
          refine gl_atE (by kernel_rfl) ?_
          refine ge_seq ?_
          obtain ⟨j148, hj149, hb119⟩ := bind_some hb119
          refine gk_join (fun t I' L' => ∃ C151, OwnS (Kd.int .u8) 5 I' A105 (j1.1.toNat) j148.1 C151 ∧ I125 ≤ I' ∧ C151 ++ L = L' ∧ Knows 122 [(0, .pointer (some ⟨g0, 0, none⟩)), (1, .string a1), (12, .slice A105 j148.1.length (j1.1.toNat)), (13, .int .i64 j148.2), (14, .int .i64 s117.2.2)] t) ?_ ?_
          · refine gk_cond (b := (!x137.isEmpty)) (by kernel_rfl) (by kernel_rfl) (fun hc156 => ?_) (fun hc156 => ?_)
            · have hj149 := cond_t hc156 hj149
              refine gk_draw 13 [(0, true), (1, true), (2, true), (3, true), (4, true), (5, true), (6, true), (7, true), (8, true), (9, true), (10, false), (11, true), (12, true)] [] (fun p hp => by cases hp) (by kernel_rfl) (by kernel_rfl) (by kernel_rfl) ?_ (by kernel_rfl)
              refine gd_pure 3 [0, 1, 12, 13, 14, 15, 102, 103, 104] (K' := [(0, .pointer (some ⟨g0, 0, none⟩)), (1, .string a1), (12, .slice A105 s117.1.length (j1.1.toNat)), (13, .int .i64 s117.2.1), (14, .int .i64 s117.2.2), (15, .int .u8 c135), (102, .int .i64 s117.2.1), (103, .slice A105 s117.1.length (j1.1.toNat)), (104, .int .i64 s117.2.1)]) (s' := [(3, true), (4, true), (5, true), (6, true), (7, true), (8, true), (9, true), (10, false), (11, true), (12, true)]) (CC.refl (fun p hp => by cases hp)) (by kernel_rfl) ?_
              obtain ⟨l158, hx157, hj149⟩ := bind_some hj149
              have hlc159 := OwnS.lenc hO122
              have hV160 := OwnS.view hx157 hO122
              refine gd_q (v := .slice (viewA A105 s117.2.1 1 (j1.1.toNat)) l158.length ((j1.1.toNat) - (s117.2.1).toNat)) (by kernel_rfl) (by kernel_rfl) (CC.refl (fun p hp => by cases hp)) (fun I' L' T hC kk => gl_sliceT (A := A105) (c := (j1.1.toNat)) (n := 1) (T' := 51) (e := 5) (xs := (.tmp 103)) (lo := (some (.tmp 104))) hx157 hlc159 (by kernel_rfl) (by kernel_rfl) (by kernel_rfl) (by kernel_rfl) (by kernel_rfl) kk) ?_
              refine gd_pure 4 [0, 1, 12, 13, 14, 102, 105, 107, 109] (K' := [(0, .pointer (some ⟨g0, 0, none⟩)), (1, .string a1), (12, .slice A105 s117.1.length (j1.1.toNat)), (13, .int .i64 s117.2.1), (14, .int .i64 s117.2.2), (102, .int .i64 s117.2.1), (105, .slice (viewA A105 s117.2.1 1 (j1.1.toNat)) l158.length ((j1.1.toNat) - (s117.2.1).toNat)), (107, .int .u8 c135), (109, .pointer (some ⟨g0, 0, none⟩))]) (s' := [(8, true), (9, true), (10, false), (11, true), (12, true)]) (CC.refl (fun p hp => by cases hp)) (by kernel_rfl) ?_
              obtain ⟨x161, hx162, hj149⟩ := bind_some hj149
              obtain ⟨A163, n164, p165, ha166, h0167, h1168, hR169, hf170, hn171⟩ := RepT.ix hx162 (hT0.mono (Imm.trans hI3 hI120))
              refine gd_q (v := .pointer (some p165)) (by kernel_rfl) (by kernel_rfl) (CC.refl (fun p hp => by cases hp)) (fun I' L' T hC kk => gl_indexAddrT (len := 256) (T' := 197) (e := 51) (xs := (.tmp 109)) (xi := (.tmp 107)) (kd := .u8) ha166 h0167 h1168 (by kernel_rfl) (by kernel_rfl) (by kernel_rfl) (by kernel_rfl) (by kernel_rfl) kk) ?_
              refine gd_q (v := .slice A163 x161.length n164) (by kernel_rfl) (by kernel_rfl) (CC.refl (fun p hp => by cases hp)) (fun I' L' T hC kk => gl_load (T' := 51) (xp := (.tmp 110)) (p := p165) (c := .slice A163 x161.length n164) (n := 1) (by kernel_rfl) (by kernel_rfl) (by kernel_rfl) (by kernel_rfl) (hR169.mono hC.le) kk) ?_
              refine gd_one (by kernel_rfl) ?_
              obtain ⟨zs172, hz173, hj149⟩ := bind_some hj149
              have hl176 : s117.1.length = zs172.length := (cpyv_length hz173).symm
              refine gl_copyV (d := (Kd.int .u8)) (c' := ((j1.1.toNat) - (s117.2.1).toNat)) (c2 := n164) (tD := 51) (tS := 51) (e := 5) (dx := (.tmp 105)) (sx := (.tmp 111)) (fun X => X ++ L) hz173 hV160 hO122 (fun X => (Upd.head _ X _)) (RepS.rd hf170 _) (by kernel_rfl) (by kernel_rfl) (by kernel_rfl) (by kernel_rfl) (by kernel_rfl) (fun C174 hO175 => ?_)
              try rw [hl176]
              refine gl_toD (by kernel_rfl) ⟨(Imm.refl _), (fun p hp => by cases hp)⟩ ?_
              refine gd_pure 2 [0, 1, 12, 13, 14] (K' := [(0, .pointer (some ⟨g0, 0, none⟩)), (1, .string a1), (12, .slice A105 zs172.length (j1.1.toNat)), (13, .int .i64 (IntKind.wrap .i64 (s117.2.1 + ((min x161.length l158.length : Nat) : Int)))), (14, .int .i64 s117.2.2)]) (s' := []) (CC.refl (fun p hp => by cases hp)) (by kernel_rfl) ?_
              refine gd_done ?_
              refine gl_atE (by kernel_rfl) ?_
              obtain rfl := some_inj hj149
              exact ge_mid fun t ht => ⟨C174, hO175, (Imm.refl _), rfl, ht.pick (l := [0, 1, 12, 13, 14]) (by kernel_rfl)⟩
            · have hj149 := cond_f hc156 hj149
              refine gk_seq (by kernel_rfl) ?_
              refine gk_region (by kernel_rfl) ?_
              refine gl_pure 3 [0, 1, 12, 13, 14, 114, 115, 116] (K' := [(0, .pointer (some ⟨g0, 0, none⟩)), (1, .string a1), (12, .slice A105 s117.1.length (j1.1.toNat)), (13, .int .i64 s117.2.1), (14, .int .i64 s117.2.2), (114, .slice A105 s117.1.length (j1.1.toNat)), (115, .int .i64 s117.2.1), (116, .int .u8 c135)]) (by kernel_rfl) ?_
              obtain ⟨x177, hx178, hj149⟩ := bind_some hj149
              refine gl_indexAddrW (d := (Kd.int .u8)) (c := (j1.1.toNat)) (T' := 51) (e := 5) (xs := (.tmp 114)) (xi := (.tmp 115)) (kd := .i64) hx178 hO122 (Upd.selfC _ _) (by kernel_rfl) (by kernel_rfl) (by kernel_rfl) (by kernel_rfl) (by kernel_rfl) (fun p179 cs180 hR181 hA182 hp185 => ?_)
              obtain rfl := hR181
              have hl188 : s117.1.length = (lset s117.1 s117.2.1 c135).length := by simp [lset]
              refine gl_storeE (d := (Kd.int .u8)) (T' := 5) (xp := (.tmp 117)) (xv := (.tmp 116)) (v := .int .u8 c135) (off := 0) (y := c135) (fun X => X ++ L) hx178 hO122 (fun X => (Upd.head _ X _)) hp185 (by kernel_rfl) (by kernel_rfl) (by kernel_rfl) (by kernel_rfl) (by kernel_rfl) (by kernel_rfl) (fun cs h => by obtain rfl := h; rfl) (by kernel_rfl) (fun C186 hO187 => ?_)
              try rw [hl188]
              refine gl_atE (by kernel_rfl) ?_
              refine ge_seq ?_
              refine gk_region (by kernel_rfl) ?_
              refine gl_pure 3 [0, 1, 12, 13, 14] (K' := [(0, .pointer (some ⟨g0, 0, none⟩)), (1, .string a1), (12, .slice A105 (lset s117.1 s117.2.1 c135).length (j1.1.toNat)), (13, .int .i64 (IntKind.wrap .i64 (s117.2.1 + 1))), (14, .int .i64 s117.2.2)]) (by kernel_rfl) ?_
              refine gl_atE (by kernel_rfl) ?_
              obtain rfl := some_inj hj149
              exact ge_mid fun t ht => ⟨C186, hO187, (Imm.refl _), rfl, ht.pick (l := [0, 1, 12, 13, 14]) (by kernel_rfl)⟩
          · rintro t I155 L' ⟨C151, hO152, hI150, rfl, hK154⟩
            refine ge_at hK154 ?_
            refine ge_block_normal ?_
            refine ge_seq ?_
            refine gk_region (by kernel_rfl) ?_
            refine gl_pure 3 [0, 1, 12, 13, 14] (K' := [(0, .pointer (some ⟨g0, 0, none⟩)), (1, .string a1), (12, .slice A105 j148.1.length (j1.1.toNat)), (13, .int .i64 j148.2), (14, .int .i64 (IntKind.wrap .i64 (s117.2.2 + 1)))]) (by kernel_rfl) ?_
            refine gl_atE (by kernel_rfl) ?_
            obtain rfl := some_inj hb119
            exact ge_round fun t ht => ⟨C151, hO152, (Imm.trans hI120 hI150), rfl, ht.pick (l := [0, 1, 12, 13, 14]) (by kernel_rfl)⟩
        · have hb119 := cond_f hc134 hb119
          refine gk_exit (by kernel_rfl) ?_
          refine ge_seq_exit ?_
          obtain rfl := some_inj hb119
          refine ge_round_out (fun hrr => ?_) (by intro h; cases h)
          obtain rfl := hrr
          refine ge_block_hit (by kernel_rfl) ?_
          exact ge_mid fun t ht => ⟨C121, hO122, hI120, rfl, ht.pick (l := [12]) (by kernel_rfl)⟩
      · rintro t I131 L' ⟨C127, hO128, hI126, rfl, hK130⟩
        refine ge_at hK130 ?_
        refine ge_seq ?_
        refine gk_seq (by kernel_rfl) ?_
        refine gk_region (by kernel_rfl) ?_
        refine gl_pure 1 [120] (K' := [(120, .slice A105 r115.length (j1.1.toNat))]) (by kernel_rfl) ?_
        refine gl_bytesStr (c := (j1.1.toNat)) (src := 51) (dst := 9) (e := 5) (n := 1) (x := (.tmp 120)) (by kernel_rfl) (by kernel_rfl) (by kernel_rfl) (by kernel_rfl) (by kernel_rfl) (by kernel_rfl) (OwnS.rd hO128 (Upd.selfC _ _)) ?_
        refine gl_pure 1 [4] (K' := [(4, .string (ofBytes r115))]) (by kernel_rfl) ?_
        refine gl_atE (by kernel_rfl) ?_
        refine ge_seq ?_
        refine gk_reord (D := L) (Reord.skipC (Reord.refl _)) ?_
        refine gk_ret (by kernel_rfl) ?_
        obtain rfl := some_inj hr
        exact ge_result trivial (ResOk.tmp (by kernel_rfl) ResOk.nil) (Imm.trans hI3 hI126) ⟨rfl, rfl⟩
end Go.Proofs.YtnlkfajnaelnnaaGreatDoor.RP
