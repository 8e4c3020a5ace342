/- Parts: L55a. -/
import Derived.Test.YtlhpclfkoblnkaaDoorProg
import Derived.Test.YtlhpclfkoblnkaaDoorChecked
import Derived.Test.YtlhpclfkoblnkaaDoorM1s
import Derived.Lib.LaidU8T
import Derived.Shelf.Unicode.ValidAny
import Derived.Shelf.Unicode.DecodeAny
set_option linter.unusedVariables false
set_option linter.unusedSimpArgs false
set_option maxRecDepth 100000
namespace Go.Proofs.YtlhpclfkoblnkaaDoor
open Go.GB
structure S79 where
  f0 : Int
  f1 : Int
def kS79 : Kd S79 := Kd.iso (Kd.pair (Kd.int .u8) (Kd.int .u8)) (fun x => (x.f0, x.f1))
theorem kS79_open {I : Imm} {x : S79} {cs : List Value} (h : kS79.R I x cs) : cs = [.int .u8 x.f0, .int .u8 x.f1] := by
  obtain ⟨_, _, rfl, h_0, h_1⟩ := h
  obtain rfl := h_0
  obtain rfl := h_1
  exact rfl
theorem kS79_mk {I : Imm} {x : S79}   : kS79.R I x [.int .u8 x.f0, .int .u8 x.f1] :=
  ⟨[.int .u8 x.f0], [.int .u8 x.f1], rfl, rfl, rfl⟩
def tab0 : List Int := (List.range 256).map fun c => (Go.Lib.firstT c : Int)
def tab1 : List S79 := (List.range 16).map fun i => ⟨(Go.Lib.accLo i : Int), (Go.Lib.accHi i : Int)⟩
def tab2 : List Int := (List.range 20).map fun i => ((10 ^ i : Nat) : Int)
structure Gl (I : Imm) : Prop where
  dr : I.dr = 0
  g0 : RepS (Kd.int .u8) I (some ⟨0, 0, none⟩) 256 tab0
  g1 : RepS kS79 I (some ⟨1, 0, none⟩) 16 tab1
  g2 : RepS (Kd.int .u64) I (some ⟨2, 0, none⟩) 20 tab2
  b2 : ∃ t fz, I.h 2 = some (.cells (tab2.map fun z => Value.int .u64 z).toArray t fz)
theorem Gl.mono {I J : Imm} (h : Gl I) (hI : I ≤ J) : Gl J := ⟨hI.dr.trans h.dr, h.g0.mono hI, h.g1.mono hI, h.g2.mono hI, (let ⟨t, fz, hb⟩ := h.b2; ⟨t, fz, hI.h _ _ hb⟩)⟩
structure S27 where
  f0 : Int
  f1 : ByteArray
  f2 : Int
def kS27 : Kd S27 := Kd.iso (Kd.pair (Kd.int .i64) (Kd.pair Kd.str (Kd.int .i64))) (fun x => (x.f0, x.f1, x.f2))
def wS27 (x : S27) (n : Nat) : Prop := ∃ n0 n1 n2, n0 + n1 + n2 + 1 ≤ n ∧ (wInt .i64) x.f0 n0 ∧ wStr x.f1 n1 ∧ (wInt .i64) x.f2 n2
theorem kS27_open {I : Imm} {x : S27} {cs : List Value} (h : kS27.R I x cs) : cs = [.int .i64 x.f0, .string x.f1, .int .i64 x.f2] := by
  obtain ⟨_, _, rfl, h_0, ⟨_, _, rfl, h_1, h_2⟩⟩ := h
  obtain rfl := h_0
  obtain rfl := h_1
  obtain rfl := h_2
  exact rfl
theorem kS27_mk {I : Imm} {x : S27}   : kS27.R I x [.int .i64 x.f0, .string x.f1, .int .i64 x.f2] :=
  ⟨[.int .i64 x.f0], [.string x.f1, .int .i64 x.f2], rfl, rfl, ⟨[.string x.f1], [.int .i64 x.f2], rfl, rfl, rfl⟩⟩
theorem gl_tabs {I : Imm} {L : Own} {W : World} (hG : Gl I) (hW : Holds I L W) : Go.Lib.Utf8Tabs 0 1 W := by
  refine ⟨fun c hc => ?_, fun i hi => ?_⟩
  · obtain ⟨a, cs, ha, hR, hr⟩ := hG.g0.at_ c (Go.Lib.firstT c : Int) (by simp [tab0, List.getElem?_range hc])
    cases ha
    obtain rfl : cs = [.int .u8 (Go.Lib.firstT c : Int)] := hR
    have := hW.cell (hr 0 _ rfl)
    rw [addr_add, show c * (Kd.int .u8).n + 0 = c from by show c * 1 + 0 = c; omega] at this
    exact this
  · obtain ⟨a, cs, ha, hR, hr⟩ := hG.g1.at_ i ⟨(Go.Lib.accLo i : Int), (Go.Lib.accHi i : Int)⟩ (by simp [tab1, List.getElem?_range hi])
    cases ha
    obtain rfl := kS79_open hR
    have h0 := hW.cell (hr 0 _ rfl)
    have h1 := hW.cell (hr 1 _ rfl)
    rw [addr_add] at h0 h1
    rw [show i * kS79.n + 0 = 2 * i from by show i * 2 + 0 = 2 * i; omega] at h0
    rw [show i * kS79.n + 1 = 2 * i + 1 from by show i * 2 + 1 = 2 * i + 1; omega] at h1
    exact ⟨h0, h1⟩

def lays196_ren : Go.Shelf.Ren := ⟨fun x => if x = 196 then 30 else if x = 259 then 50 else x, fun x => if x = 119 then 78 else if x = 46 then 82 else if x = 139 then 81 else if x = 138 then 80 else if x = 53 then 89 else x, fun x => if x = 3 then 0 else if x = 4 then 1 else x⟩
theorem lays196 : Go.Proofs.Lays.n196 Tryd.prog lays196_ren := {
  mixed := by kernel_rfl,
  f196 := Tryd.func30.trans (congrArg some (by kernel_rfl)),
  f259 := Tryd.func50.trans (congrArg some (by kernel_rfl)),
  t0 := Tryd.underlying0,
  a0 := Tryd.isAgg0,
  z0 := Tryd.sizeOf0,
  v0 := Tryd.zeroValue0,
  t3 := Tryd.underlying3,
  a3 := Tryd.isAgg3,
  z3 := Tryd.sizeOf3,
  v3 := Tryd.zeroValue3,
  t4 := Tryd.underlying4,
  a4 := Tryd.isAgg4,
  z4 := Tryd.sizeOf4,
  v4 := Tryd.zeroValue4,
  t5 := Tryd.underlying5,
  a5 := Tryd.isAgg5,
  z5 := Tryd.sizeOf5,
  v5 := Tryd.zeroValue5,
  t9 := Tryd.underlying9,
  a9 := Tryd.isAgg9,
  z9 := Tryd.sizeOf9,
  v9 := Tryd.zeroValue9,
  t12 := Tryd.underlying12,
  a12 := Tryd.isAgg12,
  z12 := Tryd.sizeOf12,
  v12 := Tryd.zeroValue12,
  t46 := Tryd.underlying82,
  a46 := Tryd.isAgg82,
  z46 := Tryd.sizeOf82,
  v46 := Tryd.zeroValue82,
  t53 := Tryd.underlying89,
  a53 := Tryd.isAgg89,
  z53 := Tryd.sizeOf89,
  v53 := Tryd.zeroValue89,
  t119 := Tryd.underlying78,
  a119 := Tryd.isAgg78,
  z119 := Tryd.sizeOf78,
  t138 := Tryd.underlying80,
  a138 := Tryd.isAgg80,
  z138 := Tryd.sizeOf80,
  v138 := Tryd.zeroValue80,
  t139 := Tryd.underlying81,
  a139 := Tryd.isAgg81,
  z139 := Tryd.sizeOf81,
  v139 := Tryd.zeroValue81,
  g3 := by kernel_rfl,
  g4 := by kernel_rfl }

def utf8_ValidString (a0 : ByteArray) : Option Bool := if a0.size ≤ 9223372036854775807 then some (Go.Lib.validD a0.data.toList) else none
theorem utf8_ValidString_walk {a0 : ByteArray} {I : Imm} {r : Bool} (hG : Gl I) (hr : utf8_ValidString a0 = some r) (L : Own) :
    CallsTo Tryd.prog 30 #[.string a0] I L (fun v I' L' => v = .bool r ∧ L = L') := by
  unfold utf8_ValidString at hr
  split at hr <;> cases hr
  rename_i hs
  exact callsTo_below hG.dr (fun W hW => Go.Proofs.Any.utf8_ValidString lays196 a0 W hs (gl_tabs hG hW))

/-! 15 lex_Quote  -/
noncomputable def lex_Quote_l41 (l8 : List Int) : ((List Int) × Int) → Option (((List Int) × Int) ⊕ ((List Int))) := fun s24 =>
  bif (decide (s24.2 < (l8.length : Int))) then
  (Option.bind (ix l8 s24.2) fun (x44 : Int) =>
    Option.bind (bif ((x44 == 92) || (x44 == 34)) then
      (Option.bind (app s24.1 [92, x44]) fun (zs71 : List Int) =>
        some zs71)
      else
      (Option.bind (bif (x44 == 10) then
          (Option.bind (app s24.1 (bytesOf (⟨#[92, 110]⟩ : ByteArray))) fun (zs87 : List Int) =>
            some zs87)
          else
          (Option.bind (bif (x44 == 9) then
              (Option.bind (app s24.1 (bytesOf (⟨#[92, 116]⟩ : ByteArray))) fun (zs103 : List Int) =>
                some zs103)
              else
              (Option.bind (bif (x44 == 13) then
                  (Option.bind (app s24.1 (bytesOf (⟨#[92, 114]⟩ : ByteArray))) fun (zs119 : List Int) =>
                    some zs119)
                  else
                  (Option.bind (bif ((decide (x44 < 32)) || (x44 == 127)) then
                      (Option.bind (bx (⟨#[48, 49, 50, 51, 52, 53, 54, 55, 56, 57, 97, 98, 99, 100, 101, 102]⟩ : ByteArray) (IntKind.wrap .u8 (Int.tdiv x44 16))) fun (c141 : Int) =>
                        Option.bind (bx (⟨#[48, 49, 50, 51, 52, 53, 54, 55, 56, 57, 97, 98, 99, 100, 101, 102]⟩ : ByteArray) (Int.tmod x44 16)) fun (c143 : Int) =>
                        Option.bind (app s24.1 [92, 120, c141, c143]) fun (zs149 : List Int) =>
                        some zs149)
                      else
                      (Option.bind (app s24.1 [x44]) fun (zs159 : List Int) =>
                        some zs159)) fun (j131 : (List Int)) =>
                    some j131)) fun (j109 : (List Int)) =>
                some j109)) fun (j93 : (List Int)) =>
            some j93)) fun (j77 : (List Int)) =>
        some j77)) fun (j57 : (List Int)) =>
    some (Sum.inl (j57, (IntKind.wrap .i64 (s24.2 + 1)))))
  else
  (some (Sum.inr s24.1))
noncomputable def lex_Quote (a0 : ByteArray) : Option (ByteArray × Int) :=
  Option.bind (utf8_ValidString a0) fun (y1 : Bool) =>
  bif (!y1) then
  (some ((⟨#[]⟩ : ByteArray), 12))
  else
  (Option.bind (sb a0) fun (l8 : List Int) =>
    Option.bind (loopO (lex_Quote_l41 l8) ([34], 0)) fun (r22 : (List Int)) =>
    Option.bind (app r22 [34]) fun (zs169 : List Int) =>
    some ((ofBytes zs169), 0))
theorem lex_Quote_walk {a0 : ByteArray} {I : Imm} {r : ByteArray × Int} (hG : Gl I) (hr : lex_Quote a0 = some r) (L : Own) :
    CallsTo Tryd.prog 15 #[.string a0] I L (fun v I' L' => v = .tuple #[.string r.1, .int .i64 r.2] ∧ L = L') := by
  unfold lex_Quote at hr
  refine callsTo_body (N := 69) Tryd.func15 (by kernel_rfl) (by kernel_rfl) (by kernel_rfl) ?_
  refine gk_pick [0] (K' := [(0, .string a0)]) (by kernel_rfl) ?_
  refine gk_seq (by kernel_rfl) ?_
  refine gk_region (by kernel_rfl) ?_
  refine gl_pure 2 [0] (K' := [(0, .string a0)]) (by kernel_rfl) ?_
  refine gl_atE (by kernel_rfl) ?_
  refine ge_seq ?_
  refine gk_seq (by kernel_rfl) ?_
  refine gk_seq (by kernel_rfl) ?_
  refine gk_region (by kernel_rfl) ?_
  refine gl_pure 1 [0, 7] (K' := [(0, .string a0), (7, .string a0)]) (by kernel_rfl) ?_
  obtain ⟨y1, hx2, hr⟩ := bind_some hr
  refine gl_callQ (by kernel_rfl) (utf8_ValidString_walk (r := y1) hG hx2 _) ?_
  refine gl_pure 1 [0, 9] (K' := [(0, .string a0), (9, .bool (!y1))]) (by kernel_rfl) ?_
  refine gl_atE (by kernel_rfl) ?_
  refine ge_seq ?_
  refine gk_cond (b := (!y1)) (by kernel_rfl) (by kernel_rfl) (fun hc3 => ?_) (fun hc3 => ?_)
  · have hr := cond_t hc3 hr
    refine gk_seq (by kernel_rfl) ?_
    refine gk_region (by kernel_rfl) ?_
    refine gl_pure 2 [2, 3] (K' := [(2, .string (⟨#[]⟩ : ByteArray)), (3, .int .i64 12)]) (by kernel_rfl) ?_
    refine gl_atE (by kernel_rfl) ?_
    refine ge_seq ?_
    refine gk_ret (by kernel_rfl) ?_
    refine ge_seq_ret ?_
    obtain rfl := some_inj hr
    exact ge_result trivial (ResOk.tmp (by kernel_rfl) (ResOk.tmp (by kernel_rfl) ResOk.nil)) (Imm.refl _) ⟨rfl, rfl⟩
  · have hr := cond_f hc3 hr
    refine gk_skip (by kernel_rfl) ?_
    refine ge_seq ?_
    refine gk_seq (by kernel_rfl) ?_
    refine gk_region (by kernel_rfl) ?_
    refine gl_buildSlice (T' := 41) (e := 5) (n := 1) (len := 1) (parts := #[(0, (.const (.int .u8 34)))]) (l := [(0, .int .u8 34)]) (cs := #[.int .u8 34]) (by kernel_rfl) (by kernel_rfl) (by kernel_rfl) (by kernel_rfl) (by kernel_rfl) (fun g4 => ?_)
    have hO5 : OwnS (Kd.int .u8) 5 I (some ⟨g4, 0, none⟩) 1 [34] [(g4, .cells #[.int .u8 34] 5)] := OwnS.lit (row_cons (l := [.int .u8 34]) rfl (row_nil _ _)) rfl rfl rfl
    refine gl_reord (D := [(g4, .cells #[.int .u8 34] 5)] ++ L) (Reord.refl _) ?_
    refine gl_pure 1 [0, 4] (K' := [(0, .string a0), (4, .slice (some ⟨g4, 0, none⟩) [34].length 1)]) (by kernel_rfl) ?_
    refine gl_atE (by kernel_rfl) ?_
    refine ge_seq ?_
    refine gk_seq (by kernel_rfl) ?_
    refine gk_seq (by kernel_rfl) ?_
    refine gk_region (by kernel_rfl) ?_
    refine gl_pure 1 [4, 11] (K' := [(4, .slice (some ⟨g4, 0, none⟩) [34].length 1), (11, .string a0)]) (by kernel_rfl) ?_
    obtain ⟨l8, hx9, hr⟩ := bind_some hr
    refine gl_strBytes (src := 9) (dst := 41) (e := 5) (n := 1) (x := (.tmp 11)) hx9 (by kernel_rfl) (by kernel_rfl) (by kernel_rfl) (by kernel_rfl) (by kernel_rfl) (by kernel_rfl) (fun A10 n11 C12 hO13 => ?_)
    refine gl_pure 2 [4, 12, 13, 14] (K' := [(4, .slice (some ⟨g4, 0, none⟩) [34].length 1), (12, .slice A10 l8.length n11), (13, .int .i64 (l8.length : Int)), (14, .int .i64 0)]) (by kernel_rfl) ?_
    refine gl_atE (by kernel_rfl) ?_
    refine ge_seq ?_
    obtain ⟨r22, hl23, hr⟩ := bind_some hr
    refine gk_reord (D := [(g4, .cells #[.int .u8 34] 5)] ++ (C12 ++ L)) (Reord.step (Upd.app _ (Upd.rmC _ _)) (Reord.step (Upd.rmC _ _) (Reord.refl _))) ?_
    refine gk_join (fun t I' L' => ∃ A35 n36 C37, OwnS (Kd.int .u8) 5 I' A35 n36 r22 C37 ∧ I ≤ I' ∧ C37 ++ L = L' ∧ Knows 69 [(4, .slice A35 r22.length n36)] t) ?_ ?_
    · refine gk_block (by kernel_rfl) ?_
      refine gk_pick [4, 12, 13, 14] (K' := [(4, .slice (some ⟨g4, 0, none⟩) [34].length 1), (12, .slice A10 l8.length n11), (13, .int .i64 (l8.length : Int)), (14, .int .i64 0)]) (by kernel_rfl) ?_
      intro t hK
      refine gc_loop (lex_Quote_l41 l8) (fun s24 t I' L' => ∃ A28 n29 C30, OwnS (Kd.int .u8) 5 I' A28 n29 s24.1 C30 ∧ I ≤ I' ∧ C30 ++ (C12 ++ L) = L' ∧ Knows 69 [(4, .slice A28 s24.1.length n29), (12, .slice A10 l8.length n11), (13, .int .i64 (l8.length : Int)), (14, .int .i64 s24.2)] t) (by kernel_rfl) ?_ hl23 ⟨(some ⟨g4, 0, none⟩), 1, [(g4, .cells #[.int .u8 34] 5)], hO5, (Imm.refl _), rfl, hK⟩
      rintro s24 o25 t I33 L' hb26 ⟨A28, n29, C30, hO31, hI27, rfl, hK32⟩
      unfold lex_Quote_l41 at hb26
      refine gk_at hK32 ?_
      refine gk_seq (by kernel_rfl) ?_
      refine gk_region (by kernel_rfl) ?_
      refine gl_pure 1 [4, 12, 13, 14, 15] (K' := [(4, .slice A28 s24.1.length n29), (12, .slice A10 l8.length n11), (13, .int .i64 (l8.length : Int)), (14, .int .i64 s24.2), (15, .bool (decide (s24.2 < (l8.length : Int))))]) (by kernel_rfl) ?_
      refine gl_atE (by kernel_rfl) ?_
      refine ge_seq ?_
      refine gk_seq (by kernel_rfl) ?_
      refine gk_cond (b := (decide (s24.2 < (l8.length : Int)))) (by kernel_rfl) (by kernel_rfl) (fun hc43 => ?_) (fun hc43 => ?_)
      · have hb26 := cond_t hc43 hb26
        refine gk_skip (by kernel_rfl) ?_
        refine ge_seq ?_
        refine gk_seq (by kernel_rfl) ?_
        refine gk_block (by kernel_rfl) ?_
        refine gk_seq (by kernel_rfl) ?_
        refine gk_region (by kernel_rfl) ?_
        obtain ⟨x44, hx45, hb26⟩ := bind_some hb26
        refine gl_indexAddrW (d := (Kd.int .u8)) (c := n11) (T' := 41) (e := 5) (xs := (.tmp 12)) (xi := (.tmp 14)) (kd := .i64) hx45 (hO13.mono hI27) (Upd.app _ (Upd.selfC _ _)) (by kernel_rfl) (by kernel_rfl) (by kernel_rfl) (by kernel_rfl) (by kernel_rfl) (fun p46 cs47 hR48 hA49 hp52 => ?_)
        obtain rfl := hR48
        refine gl_loadO (T' := 5) (xp := (.tmp 16)) (p := p46) (c := .int .u8 x44) (n := 1) (by kernel_rfl) (by kernel_rfl) (by kernel_rfl) (by kernel_rfl) hA49 ?_
        refine gl_pure 1 [4, 6, 12, 13, 14] (K' := [(4, .slice A28 s24.1.length n29), (6, .int .u8 x44), (12, .slice A10 l8.length n11), (13, .int .i64 (l8.length : Int)), (14, .int .i64 s24.2)]) (by kernel_rfl) ?_
        refine gl_atE (by kernel_rfl) ?_
        refine ge_seq ?_
        refine gk_block (by kernel_rfl) ?_
        refine gk_seq (by kernel_rfl) ?_
        refine gk_join (fun t I' L' => I33 ≤ I' ∧ C30 ++ (C12 ++ L) = L' ∧ Knows 69 [(4, .slice A28 s24.1.length n29), (6, .int .u8 x44), (12, .slice A10 l8.length n11), (13, .int .i64 (l8.length : Int)), (14, .int .i64 s24.2), (22, .bool ((x44 == 92) || (x44 == 34)))] t) ?_ ?_
        · refine gk_region (by kernel_rfl) ?_
          refine gl_pure 3 [4, 6, 12, 13, 14, 25] (K' := [(4, .slice A28 s24.1.length n29), (6, .int .u8 x44), (12, .slice A10 l8.length n11), (13, .int .i64 (l8.length : Int)), (14, .int .i64 s24.2), (25, .bool (x44 == 92))]) (by kernel_rfl) ?_
          refine gl_case 25 (b := (x44 == 92)) (by kernel_rfl) (fun hc56 => ?_) (fun hc56 => ?_)
          · refine gl_pure 4 [4, 6, 12, 13, 14, 22] (K' := [(4, .slice A28 s24.1.length n29), (6, .int .u8 x44), (12, .slice A10 l8.length n11), (13, .int .i64 (l8.length : Int)), (14, .int .i64 s24.2), (22, .bool true)]) (by kernel_rfl) ?_
            refine gl_atE (by kernel_rfl) ?_
            exact ge_mid fun t ht => ⟨(Imm.refl _), rfl, by rw [(show ((x44 == 92) || (x44 == 34)) = true from by rw [hc56]; try rfl)]; exact ht.pick (l := [4, 6, 12, 13, 14, 22]) (by kernel_rfl)⟩
          · refine gl_pure 4 [4, 6, 12, 13, 14, 22] (K' := [(4, .slice A28 s24.1.length n29), (6, .int .u8 x44), (12, .slice A10 l8.length n11), (13, .int .i64 (l8.length : Int)), (14, .int .i64 s24.2), (22, .bool (x44 == 34))]) (by kernel_rfl) ?_
            refine gl_atE (by kernel_rfl) ?_
            exact ge_mid fun t ht => ⟨(Imm.refl _), rfl, by rw [(show ((x44 == 92) || (x44 == 34)) = (x44 == 34) from by rw [hc56]; try rfl)]; exact ht.pick (l := [4, 6, 12, 13, 14, 22]) (by kernel_rfl)⟩
        · rintro t I55 L' ⟨hI53, rfl, hK54⟩
          refine ge_at hK54 ?_
          refine ge_seq ?_
          obtain ⟨j57, hj58, hb26⟩ := bind_some hb26
          refine gk_join (fun t I' L' => ∃ A60 n61 C62, OwnS (Kd.int .u8) 5 I' A60 n61 j57 C62 ∧ I55 ≤ I' ∧ C62 ++ (C12 ++ L) = L' ∧ Knows 69 [(4, .slice A60 j57.length n61), (12, .slice A10 l8.length n11), (13, .int .i64 (l8.length : Int)), (14, .int .i64 s24.2)] t) ?_ ?_
          · refine gk_cond (b := ((x44 == 92) || (x44 == 34))) (by kernel_rfl) (by kernel_rfl) (fun hc66 => ?_) (fun hc66 => ?_)
            · have hj58 := cond_t hc66 hj58
              refine gk_region (by kernel_rfl) ?_
              refine gl_pure 2 [12, 13, 14, 29, 30] (K' := [(12, .slice A10 l8.length n11), (13, .int .i64 (l8.length : Int)), (14, .int .i64 s24.2), (29, .slice A28 s24.1.length n29), (30, .int .u8 x44)]) (by kernel_rfl) ?_
              refine gl_buildSlice (T' := 41) (e := 5) (n := 1) (len := 2) (parts := #[(0, (.const (.int .u8 92))), (1, (.tmp 30))]) (l := [(0, .int .u8 92), (1, .int .u8 x44)]) (cs := #[.int .u8 92, .int .u8 x44]) (by kernel_rfl) (by kernel_rfl) (by kernel_rfl) (by kernel_rfl) (by kernel_rfl) (fun g67 => ?_)
              have hO68 : OwnS (Kd.int .u8) 5 I55 (some ⟨g67, 0, none⟩) 2 [92, x44] [(g67, .cells #[.int .u8 92, .int .u8 x44] 5)] := OwnS.lit (row_cons (l := [.int .u8 92]) rfl (row_cons (l := [.int .u8 x44]) rfl (row_nil _ _))) rfl rfl rfl
              refine gl_reord (D := [(g67, .cells #[.int .u8 92, .int .u8 x44] 5)] ++ (C30 ++ (C12 ++ L))) (Reord.refl _) ?_
              obtain ⟨zs71, hz72, hj58⟩ := bind_some hj58
              refine gl_append (xv := .slice (some ⟨g67, 0, none⟩) [92, x44].length 2) (d := (Kd.int .u8)) (t := 41) (tx := 41) (e := 5) (s := (.tmp 29)) (x := (.tmp 31)) (xs := s24.1) (fun X => [(g67, .cells #[.int .u8 92, .int .u8 x44] 5)] ++ (X ++ (C12 ++ L))) hz72 (by kernel_rfl) (by kernel_rfl) (by kernel_rfl) (by kernel_rfl) (by kernel_rfl) (by kernel_rfl) (fun X => (Upd.app _ (Upd.head _ X _))) (hO31.mono hI53) (SrcOk.slice (c := 2) (e := 5) (n := 1) (OwnS.rd hO68 (Upd.selfC _ _)) (by kernel_rfl)) (fun A73 n74 C75 hO76 => ?_)
              refine gl_pure 1 [4, 12, 13, 14] (K' := [(4, .slice A73 zs71.length n74), (12, .slice A10 l8.length n11), (13, .int .i64 (l8.length : Int)), (14, .int .i64 s24.2)]) (by kernel_rfl) ?_
              refine gl_reord (D := C75 ++ (C12 ++ L)) (Reord.step (Upd.app _ (Upd.rmC _ _)) (Reord.step (Upd.app _ (Upd.rmC _ _)) (Reord.skipC (Reord.refl _)))) ?_
              refine gl_atE (by kernel_rfl) ?_
              obtain rfl := some_inj hj58
              exact ge_mid fun t ht => ⟨A73, n74, C75, hO76, (Imm.refl _), rfl, ht.pick (l := [4, 12, 13, 14]) (by kernel_rfl)⟩
            · have hj58 := cond_f hc66 hj58
              refine gk_seq (by kernel_rfl) ?_
              refine gk_region (by kernel_rfl) ?_
              refine gl_pure 3 [4, 6, 12, 13, 14, 33] (K' := [(4, .slice A28 s24.1.length n29), (6, .int .u8 x44), (12, .slice A10 l8.length n11), (13, .int .i64 (l8.length : Int)), (14, .int .i64 s24.2), (33, .bool (x44 == 10))]) (by kernel_rfl) ?_
              refine gl_atE (by kernel_rfl) ?_
              refine ge_seq ?_
              obtain ⟨j77, hj78, hj58⟩ := bind_some hj58
              refine gk_join (fun t I' L' => ∃ A80 n81 C82, OwnS (Kd.int .u8) 5 I' A80 n81 j77 C82 ∧ I55 ≤ I' ∧ C82 ++ (C12 ++ L) = L' ∧ Knows 69 [(4, .slice A80 j77.length n81), (12, .slice A10 l8.length n11), (13, .int .i64 (l8.length : Int)), (14, .int .i64 s24.2)] t) ?_ ?_
              · refine gk_cond (b := (x44 == 10)) (by kernel_rfl) (by kernel_rfl) (fun hc86 => ?_) (fun hc86 => ?_)
                · have hj78 := cond_t hc86 hj78
                  refine gk_region (by kernel_rfl) ?_
                  refine gl_pure 1 [12, 13, 14, 36] (K' := [(12, .slice A10 l8.length n11), (13, .int .i64 (l8.length : Int)), (14, .int .i64 s24.2), (36, .slice A28 s24.1.length n29)]) (by kernel_rfl) ?_
                  obtain ⟨zs87, hz88, hj78⟩ := bind_some hj78
                  refine gl_append (xv := .string (⟨#[92, 110]⟩ : ByteArray)) (d := (Kd.int .u8)) (t := 41) (tx := 9) (e := 5) (s := (.tmp 36)) (x := (.const (.string (⟨#[92, 110]⟩ : ByteArray)))) (xs := s24.1) (fun X => X ++ (C12 ++ L)) hz88 (by kernel_rfl) (by kernel_rfl) (by kernel_rfl) (by kernel_rfl) (by kernel_rfl) (by kernel_rfl) (fun X => (Upd.head _ X _)) (hO31.mono hI53) (SrcOk.str (by kernel_rfl)) (fun A89 n90 C91 hO92 => ?_)
                  refine gl_pure 1 [4, 12, 13, 14] (K' := [(4, .slice A89 zs87.length n90), (12, .slice A10 l8.length n11), (13, .int .i64 (l8.length : Int)), (14, .int .i64 s24.2)]) (by kernel_rfl) ?_
                  refine gl_atE (by kernel_rfl) ?_
                  obtain rfl := some_inj hj78
                  exact ge_mid fun t ht => ⟨A89, n90, C91, hO92, (Imm.refl _), rfl, ht.pick (l := [4, 12, 13, 14]) (by kernel_rfl)⟩
                · have hj78 := cond_f hc86 hj78
                  refine gk_seq (by kernel_rfl) ?_
                  refine gk_region (by kernel_rfl) ?_
                  refine gl_pure 3 [4, 6, 12, 13, 14, 38] (K' := [(4, .slice A28 s24.1.length n29), (6, .int .u8 x44), (12, .slice A10 l8.length n11), (13, .int .i64 (l8.length : Int)), (14, .int .i64 s24.2), (38, .bool (x44 == 9))]) (by kernel_rfl) ?_
                  refine gl_atE (by kernel_rfl) ?_
                  refine ge_seq ?_
                  obtain ⟨j93, hj94, hj78⟩ := bind_some hj78
                  refine gk_join (fun t I' L' => ∃ A96 n97 C98, OwnS (Kd.int .u8) 5 I' A96 n97 j93 C98 ∧ I55 ≤ I' ∧ C98 ++ (C12 ++ L) = L' ∧ Knows 69 [(4, .slice A96 j93.length n97), (12, .slice A10 l8.length n11), (13, .int .i64 (l8.length : Int)), (14, .int .i64 s24.2)] t) ?_ ?_
                  · refine gk_cond (b := (x44 == 9)) (by kernel_rfl) (by kernel_rfl) (fun hc102 => ?_) (fun hc102 => ?_)
                    · have hj94 := cond_t hc102 hj94
                      refine gk_region (by kernel_rfl) ?_
                      refine gl_pure 1 [12, 13, 14, 41] (K' := [(12, .slice A10 l8.length n11), (13, .int .i64 (l8.length : Int)), (14, .int .i64 s24.2), (41, .slice A28 s24.1.length n29)]) (by kernel_rfl) ?_
                      obtain ⟨zs103, hz104, hj94⟩ := bind_some hj94
                      refine gl_append (xv := .string (⟨#[92, 116]⟩ : ByteArray)) (d := (Kd.int .u8)) (t := 41) (tx := 9) (e := 5) (s := (.tmp 41)) (x := (.const (.string (⟨#[92, 116]⟩ : ByteArray)))) (xs := s24.1) (fun X => X ++ (C12 ++ L)) hz104 (by kernel_rfl) (by kernel_rfl) (by kernel_rfl) (by kernel_rfl) (by kernel_rfl) (by kernel_rfl) (fun X => (Upd.head _ X _)) (hO31.mono hI53) (SrcOk.str (by kernel_rfl)) (fun A105 n106 C107 hO108 => ?_)
                      refine gl_pure 1 [4, 12, 13, 14] (K' := [(4, .slice A105 zs103.length n106), (12, .slice A10 l8.length n11), (13, .int .i64 (l8.length : Int)), (14, .int .i64 s24.2)]) (by kernel_rfl) ?_
                      refine gl_atE (by kernel_rfl) ?_
                      obtain rfl := some_inj hj94
                      exact ge_mid fun t ht => ⟨A105, n106, C107, hO108, (Imm.refl _), rfl, ht.pick (l := [4, 12, 13, 14]) (by kernel_rfl)⟩
                    · have hj94 := cond_f hc102 hj94
                      refine gk_seq (by kernel_rfl) ?_
                      refine gk_region (by kernel_rfl) ?_
                      refine gl_pure 3 [4, 6, 12, 13, 14, 43] (K' := [(4, .slice A28 s24.1.length n29), (6, .int .u8 x44), (12, .slice A10 l8.length n11), (13, .int .i64 (l8.length : Int)), (14, .int .i64 s24.2), (43, .bool (x44 == 13))]) (by kernel_rfl) ?_
                      refine gl_atE (by kernel_rfl) ?_
                      refine ge_seq ?_
                      obtain ⟨j109, hj110, hj94⟩ := bind_some hj94
                      refine gk_join (fun t I' L' => ∃ A112 n113 C114, OwnS (Kd.int .u8) 5 I' A112 n113 j109 C114 ∧ I55 ≤ I' ∧ C114 ++ (C12 ++ L) = L' ∧ Knows 69 [(4, .slice A112 j109.length n113), (12, .slice A10 l8.length n11), (13, .int .i64 (l8.length : Int)), (14, .int .i64 s24.2)] t) ?_ ?_
                      · refine gk_cond (b := (x44 == 13)) (by kernel_rfl) (by kernel_rfl) (fun hc118 => ?_) (fun hc118 => ?_)
                        · have hj110 := cond_t hc118 hj110
                          refine gk_region (by kernel_rfl) ?_
                          refine gl_pure 1 [12, 13, 14, 46] (K' := [(12, .slice A10 l8.length n11), (13, .int .i64 (l8.length : Int)), (14, .int .i64 s24.2), (46, .slice A28 s24.1.length n29)]) (by kernel_rfl) ?_
                          obtain ⟨zs119, hz120, hj110⟩ := bind_some hj110
                          refine gl_append (xv := .string (⟨#[92, 114]⟩ : ByteArray)) (d := (Kd.int .u8)) (t := 41) (tx := 9) (e := 5) (s := (.tmp 46)) (x := (.const (.string (⟨#[92, 114]⟩ : ByteArray)))) (xs := s24.1) (fun X => X ++ (C12 ++ L)) hz120 (by kernel_rfl) (by kernel_rfl) (by kernel_rfl) (by kernel_rfl) (by kernel_rfl) (by kernel_rfl) (fun X => (Upd.head _ X _)) (hO31.mono hI53) (SrcOk.str (by kernel_rfl)) (fun A121 n122 C123 hO124 => ?_)
                          refine gl_pure 1 [4, 12, 13, 14] (K' := [(4, .slice A121 zs119.length n122), (12, .slice A10 l8.length n11), (13, .int .i64 (l8.length : Int)), (14, .int .i64 s24.2)]) (by kernel_rfl) ?_
                          refine gl_atE (by kernel_rfl) ?_
                          obtain rfl := some_inj hj110
                          exact ge_mid fun t ht => ⟨A121, n122, C123, hO124, (Imm.refl _), rfl, ht.pick (l := [4, 12, 13, 14]) (by kernel_rfl)⟩
                        · have hj110 := cond_f hc118 hj110
                          refine gk_seq (by kernel_rfl) ?_
                          obtain ⟨b127, hb128⟩ : ∃ z, z = ((decide (x44 < 32)) || (x44 == 127)) := ⟨_, rfl⟩
                          refine gk_join (fun t I' L' => I55 ≤ I' ∧ C30 ++ (C12 ++ L) = L' ∧ Knows 69 [(4, .slice A28 s24.1.length n29), (6, .int .u8 x44), (12, .slice A10 l8.length n11), (13, .int .i64 (l8.length : Int)), (14, .int .i64 s24.2), (48, .bool b127)] t) ?_ ?_
                          · refine gk_region (by kernel_rfl) ?_
                            refine gl_pure 3 [4, 6, 12, 13, 14, 51] (K' := [(4, .slice A28 s24.1.length n29), (6, .int .u8 x44), (12, .slice A10 l8.length n11), (13, .int .i64 (l8.length : Int)), (14, .int .i64 s24.2), (51, .bool (decide (x44 < 32)))]) (by kernel_rfl) ?_
                            refine gl_case 51 (b := (decide (x44 < 32))) (by kernel_rfl) (fun hc130 => ?_) (fun hc130 => ?_)
                            · refine gl_pure 4 [4, 6, 12, 13, 14, 48] (K' := [(4, .slice A28 s24.1.length n29), (6, .int .u8 x44), (12, .slice A10 l8.length n11), (13, .int .i64 (l8.length : Int)), (14, .int .i64 s24.2), (48, .bool true)]) (by kernel_rfl) ?_
                              refine gl_atE (by kernel_rfl) ?_
                              exact ge_mid fun t ht => ⟨(Imm.refl _), rfl, by rw [(show b127 = true from hb128.trans (by rw [hc130]; try rfl))]; exact ht.pick (l := [4, 6, 12, 13, 14, 48]) (by kernel_rfl)⟩
                            · refine gl_pure 4 [4, 6, 12, 13, 14, 48] (K' := [(4, .slice A28 s24.1.length n29), (6, .int .u8 x44), (12, .slice A10 l8.length n11), (13, .int .i64 (l8.length : Int)), (14, .int .i64 s24.2), (48, .bool (x44 == 127))]) (by kernel_rfl) ?_
                              refine gl_atE (by kernel_rfl) ?_
                              exact ge_mid fun t ht => ⟨(Imm.refl _), rfl, by rw [(show b127 = (x44 == 127) from hb128.trans (by rw [hc130]; try rfl))]; exact ht.pick (l := [4, 6, 12, 13, 14, 48]) (by kernel_rfl)⟩
                          · rintro t I129 L' ⟨hI125, rfl, hK126⟩
                            subst hb128
                            refine ge_at hK126 ?_
                            refine ge_seq ?_
                            obtain ⟨j131, hj132, hj110⟩ := bind_some hj110
                            refine gk_join (fun t I' L' => ∃ A134 n135 C136, OwnS (Kd.int .u8) 5 I' A134 n135 j131 C136 ∧ I129 ≤ I' ∧ C136 ++ (C12 ++ L) = L' ∧ Knows 69 [(4, .slice A134 j131.length n135), (12, .slice A10 l8.length n11), (13, .int .i64 (l8.length : Int)), (14, .int .i64 s24.2)] t) ?_ ?_
                            · refine gk_cond (b := ((decide (x44 < 32)) || (x44 == 127))) (by kernel_rfl) (by kernel_rfl) (fun hc140 => ?_) (fun hc140 => ?_)
                              · have hj132 := cond_t hc140 hj132
                                refine gk_draw 8 [(0, true), (1, true), (2, true), (3, true), (4, true), (5, true), (6, true), (7, false)] [] (fun p hp => by cases hp) (by kernel_rfl) (by kernel_rfl) (by kernel_rfl) ?_ (by kernel_rfl)
                                refine gd_pure 3 [4, 6, 12, 13, 14, 55, 57] (K' := [(4, .slice A28 s24.1.length n29), (6, .int .u8 x44), (12, .slice A10 l8.length n11), (13, .int .i64 (l8.length : Int)), (14, .int .i64 s24.2), (55, .slice A28 s24.1.length n29), (57, .int .u8 (IntKind.wrap .u8 (Int.tdiv x44 16)))]) (s' := [(3, true), (4, true), (5, true), (6, true), (7, false)]) (CC.refl (fun p hp => by cases hp)) (by kernel_rfl) ?_
                                obtain ⟨c141, hx142, hj132⟩ := bind_some hj132
                                refine gd_q (v := .int .u8 c141) (by kernel_rfl) (by kernel_rfl) (CC.refl (fun p hp => by cases hp)) (fun I' L' T hC kk => gl_index' (T' := 9) (xs := (.const (.string (⟨#[48, 49, 50, 51, 52, 53, 54, 55, 56, 57, 97, 98, 99, 100, 101, 102]⟩ : ByteArray)))) (xi := (.tmp 57)) (kd := .u8) hx142 (by kernel_rfl) (by kernel_rfl) (by kernel_rfl) (by kernel_rfl) (by kernel_rfl) kk) ?_
                                refine gd_pure 2 [4, 12, 13, 14, 55, 58, 60] (K' := [(4, .slice A28 s24.1.length n29), (12, .slice A10 l8.length n11), (13, .int .i64 (l8.length : Int)), (14, .int .i64 s24.2), (55, .slice A28 s24.1.length n29), (58, .int .u8 c141), (60, .int .u8 (Int.tmod x44 16))]) (s' := [(6, true), (7, false)]) (CC.refl (fun p hp => by cases hp)) (by kernel_rfl) ?_
                                obtain ⟨c143, hx144, hj132⟩ := bind_some hj132
                                refine gd_q (v := .int .u8 c143) (by kernel_rfl) (by kernel_rfl) (CC.refl (fun p hp => by cases hp)) (fun I' L' T hC kk => gl_index' (T' := 9) (xs := (.const (.string (⟨#[48, 49, 50, 51, 52, 53, 54, 55, 56, 57, 97, 98, 99, 100, 101, 102]⟩ : ByteArray)))) (xi := (.tmp 60)) (kd := .u8) hx144 (by kernel_rfl) (by kernel_rfl) (by kernel_rfl) (by kernel_rfl) (by kernel_rfl) kk) ?_
                                refine gd_one (by kernel_rfl) ?_
                                refine gl_buildSlice (T' := 41) (e := 5) (n := 1) (len := 4) (parts := #[(0, (.const (.int .u8 92))), (1, (.const (.int .u8 120))), (2, (.tmp 58)), (3, (.tmp 61))]) (l := [(0, .int .u8 92), (1, .int .u8 120), (2, .int .u8 c141), (3, .int .u8 c143)]) (cs := #[.int .u8 92, .int .u8 120, .int .u8 c141, .int .u8 c143]) (by kernel_rfl) (by kernel_rfl) (by kernel_rfl) (by kernel_rfl) (by kernel_rfl) (fun g145 => ?_)
                                have hO146 : OwnS (Kd.int .u8) 5 I129 (some ⟨g145, 0, none⟩) 4 [92, 120, c141, c143] [(g145, .cells #[.int .u8 92, .int .u8 120, .int .u8 c141, .int .u8 c143] 5)] := OwnS.lit (row_cons (l := [.int .u8 92]) rfl (row_cons (l := [.int .u8 120]) rfl (row_cons (l := [.int .u8 c141]) rfl (row_cons (l := [.int .u8 c143]) rfl (row_nil _ _))))) rfl rfl rfl
                                refine gl_reord (D := [(g145, .cells #[.int .u8 92, .int .u8 120, .int .u8 c141, .int .u8 c143] 5)] ++ (C30 ++ (C12 ++ L))) (Reord.refl _) ?_
                                refine gl_toD (by kernel_rfl) ⟨(Imm.refl _), (fun p hp => by cases hp)⟩ ?_
                                refine gd_done ?_
                                obtain ⟨zs149, hz150, hj132⟩ := bind_some hj132
                                refine gl_append (xv := .slice (some ⟨g145, 0, none⟩) [92, 120, c141, c143].length 4) (d := (Kd.int .u8)) (t := 41) (tx := 41) (e := 5) (s := (.tmp 55)) (x := (.tmp 62)) (xs := s24.1) (fun X => [(g145, .cells #[.int .u8 92, .int .u8 120, .int .u8 c141, .int .u8 c143] 5)] ++ (X ++ (C12 ++ L))) hz150 (by kernel_rfl) (by kernel_rfl) (by kernel_rfl) (by kernel_rfl) (by kernel_rfl) (by kernel_rfl) (fun X => (Upd.app _ (Upd.head _ X _))) (hO31.mono (Imm.trans hI53 hI125)) (SrcOk.slice (c := 4) (e := 5) (n := 1) (OwnS.rd hO146 (Upd.selfC _ _)) (by kernel_rfl)) (fun A151 n152 C153 hO154 => ?_)
                                refine gl_pure 1 [4, 12, 13, 14] (K' := [(4, .slice A151 zs149.length n152), (12, .slice A10 l8.length n11), (13, .int .i64 (l8.length : Int)), (14, .int .i64 s24.2)]) (by kernel_rfl) ?_
                                refine gl_reord (D := C153 ++ (C12 ++ L)) (Reord.step (Upd.app _ (Upd.rmC _ _)) (Reord.step (Upd.app _ (Upd.rmC _ _)) (Reord.skipC (Reord.refl _)))) ?_
                                refine gl_atE (by kernel_rfl) ?_
                                obtain rfl := some_inj hj132
                                exact ge_mid fun t ht => ⟨A151, n152, C153, hO154, (Imm.refl _), rfl, ht.pick (l := [4, 12, 13, 14]) (by kernel_rfl)⟩
                              · have hj132 := cond_f hc140 hj132
                                refine gk_region (by kernel_rfl) ?_
                                refine gl_pure 2 [12, 13, 14, 18, 19] (K' := [(12, .slice A10 l8.length n11), (13, .int .i64 (l8.length : Int)), (14, .int .i64 s24.2), (18, .slice A28 s24.1.length n29), (19, .int .u8 x44)]) (by kernel_rfl) ?_
                                refine gl_buildSlice (T' := 41) (e := 5) (n := 1) (len := 1) (parts := #[(0, (.tmp 19))]) (l := [(0, .int .u8 x44)]) (cs := #[.int .u8 x44]) (by kernel_rfl) (by kernel_rfl) (by kernel_rfl) (by kernel_rfl) (by kernel_rfl) (fun g155 => ?_)
                                have hO156 : OwnS (Kd.int .u8) 5 I129 (some ⟨g155, 0, none⟩) 1 [x44] [(g155, .cells #[.int .u8 x44] 5)] := OwnS.lit (row_cons (l := [.int .u8 x44]) rfl (row_nil _ _)) rfl rfl rfl
                                refine gl_reord (D := [(g155, .cells #[.int .u8 x44] 5)] ++ (C30 ++ (C12 ++ L))) (Reord.refl _) ?_
                                obtain ⟨zs159, hz160, hj132⟩ := bind_some hj132
                                refine gl_append (xv := .slice (some ⟨g155, 0, none⟩) [x44].length 1) (d := (Kd.int .u8)) (t := 41) (tx := 41) (e := 5) (s := (.tmp 18)) (x := (.tmp 20)) (xs := s24.1) (fun X => [(g155, .cells #[.int .u8 x44] 5)] ++ (X ++ (C12 ++ L))) hz160 (by kernel_rfl) (by kernel_rfl) (by kernel_rfl) (by kernel_rfl) (by kernel_rfl) (by kernel_rfl) (fun X => (Upd.app _ (Upd.head _ X _))) (hO31.mono (Imm.trans hI53 hI125)) (SrcOk.slice (c := 1) (e := 5) (n := 1) (OwnS.rd hO156 (Upd.selfC _ _)) (by kernel_rfl)) (fun A161 n162 C163 hO164 => ?_)
                                refine gl_pure 1 [4, 12, 13, 14] (K' := [(4, .slice A161 zs159.length n162), (12, .slice A10 l8.length n11), (13, .int .i64 (l8.length : Int)), (14, .int .i64 s24.2)]) (by kernel_rfl) ?_
                                refine gl_reord (D := C163 ++ (C12 ++ L)) (Reord.step (Upd.app _ (Upd.rmC _ _)) (Reord.step (Upd.app _ (Upd.rmC _ _)) (Reord.skipC (Reord.refl _)))) ?_
                                refine gl_atE (by kernel_rfl) ?_
                                obtain rfl := some_inj hj132
                                exact ge_mid fun t ht => ⟨A161, n162, C163, hO164, (Imm.refl _), rfl, ht.pick (l := [4, 12, 13, 14]) (by kernel_rfl)⟩
                            · rintro t I139 L' ⟨A134, n135, C136, hO137, hI133, rfl, hK138⟩
                              refine ge_at hK138 ?_
                              obtain rfl := some_inj hj110
                              exact ge_mid fun t ht => ⟨A134, n135, C136, hO137, (Imm.trans hI125 hI133), rfl, ht.pick (l := [4, 12, 13, 14]) (by kernel_rfl)⟩
                      · rintro t I117 L' ⟨A112, n113, C114, hO115, hI111, rfl, hK116⟩
                        refine ge_at hK116 ?_
                        obtain rfl := some_inj hj94
                        exact ge_mid fun t ht => ⟨A112, n113, C114, hO115, hI111, rfl, ht.pick (l := [4, 12, 13, 14]) (by kernel_rfl)⟩
                  · rintro t I101 L' ⟨A96, n97, C98, hO99, hI95, rfl, hK100⟩
                    refine ge_at hK100 ?_
                    obtain rfl := some_inj hj78
                    exact ge_mid fun t ht => ⟨A96, n97, C98, hO99, hI95, rfl, ht.pick (l := [4, 12, 13, 14]) (by kernel_rfl)⟩
              · rintro t I85 L' ⟨A80, n81, C82, hO83, hI79, rfl, hK84⟩
                refine ge_at hK84 ?_
                obtain rfl := some_inj hj58
                exact ge_mid fun t ht => ⟨A80, n81, C82, hO83, hI79, rfl, ht.pick (l := [4, 12, 13, 14]) (by kernel_rfl)⟩
          · rintro t I65 L' ⟨A60, n61, C62, hO63, hI59, rfl, hK64⟩
            refine ge_at hK64 ?_
            refine ge_block_normal ?_
            refine ge_block_normal ?_
            refine ge_seq ?_
            refine gk_region (by kernel_rfl) ?_
            refine gl_pure 2 [4, 12, 13, 14] (K' := [(4, .slice A60 j57.length n61), (12, .slice A10 l8.length n11), (13, .int .i64 (l8.length : Int)), (14, .int .i64 (IntKind.wrap .i64 (s24.2 + 1)))]) (by kernel_rfl) ?_
            refine gl_atE (by kernel_rfl) ?_
            obtain rfl := some_inj hb26
            exact ge_round fun t ht => ⟨A60, n61, C62, hO63, (Imm.trans (Imm.trans hI27 hI53) hI59), rfl, ht.pick (l := [4, 12, 13, 14]) (by kernel_rfl)⟩
      · have hb26 := cond_f hc43 hb26
        refine gk_reord (D := C30 ++ L) (Reord.step (Upd.rmC _ _) (Reord.skipC (Reord.refl _))) ?_
        refine gk_exit (by kernel_rfl) ?_
        refine ge_seq_exit ?_
        obtain rfl := some_inj hb26
        refine ge_round_out (fun hrr => ?_) (by intro h; cases h)
        obtain rfl := hrr
        refine ge_block_hit (by kernel_rfl) ?_
        exact ge_mid fun t ht => ⟨A28, n29, C30, hO31, hI27, rfl, ht.pick (l := [4]) (by kernel_rfl)⟩
    · rintro t I40 L' ⟨A35, n36, C37, hO38, hI34, rfl, hK39⟩
      refine ge_at hK39 ?_
      refine ge_seq ?_
      refine gk_seq (by kernel_rfl) ?_
      refine gk_region (by kernel_rfl) ?_
      refine gl_pure 1 [65] (K' := [(65, .slice A35 r22.length n36)]) (by kernel_rfl) ?_
      refine gl_buildSlice (T' := 41) (e := 5) (n := 1) (len := 1) (parts := #[(0, (.const (.int .u8 34)))]) (l := [(0, .int .u8 34)]) (cs := #[.int .u8 34]) (by kernel_rfl) (by kernel_rfl) (by kernel_rfl) (by kernel_rfl) (by kernel_rfl) (fun g165 => ?_)
      have hO166 : OwnS (Kd.int .u8) 5 I40 (some ⟨g165, 0, none⟩) 1 [34] [(g165, .cells #[.int .u8 34] 5)] := OwnS.lit (row_cons (l := [.int .u8 34]) rfl (row_nil _ _)) rfl rfl rfl
      refine gl_reord (D := [(g165, .cells #[.int .u8 34] 5)] ++ (C37 ++ L)) (Reord.refl _) ?_
      obtain ⟨zs169, hz170, hr⟩ := bind_some hr
      refine gl_append (xv := .slice (some ⟨g165, 0, none⟩) [34].length 1) (d := (Kd.int .u8)) (t := 41) (tx := 41) (e := 5) (s := (.tmp 65)) (x := (.tmp 66)) (xs := r22) (fun X => [(g165, .cells #[.int .u8 34] 5)] ++ (X ++ L)) hz170 (by kernel_rfl) (by kernel_rfl) (by kernel_rfl) (by kernel_rfl) (by kernel_rfl) (by kernel_rfl) (fun X => (Upd.app _ (Upd.head _ X _))) hO38 (SrcOk.slice (c := 1) (e := 5) (n := 1) (OwnS.rd hO166 (Upd.selfC _ _)) (by kernel_rfl)) (fun A171 n172 C173 hO174 => ?_)
      refine gl_bytesStr (c := n172) (src := 41) (dst := 9) (e := 5) (n := 1) (x := (.tmp 67)) (by kernel_rfl) (by kernel_rfl) (by kernel_rfl) (by kernel_rfl) (by kernel_rfl) (by kernel_rfl) (OwnS.rd hO174 (Upd.app _ (Upd.selfC _ _))) ?_
      refine gl_pure 2 [2, 3] (K' := [(2, .string (ofBytes zs169)), (3, .int .i64 0)]) (by kernel_rfl) ?_
      refine gl_atE (by kernel_rfl) ?_
      refine ge_seq ?_
      refine gk_reord (D := L) (Reord.skipC (Reord.skipC (Reord.refl _))) ?_
      refine gk_ret (by kernel_rfl) ?_
      obtain rfl := some_inj hr
      exact ge_result trivial (ResOk.tmp (by kernel_rfl) (ResOk.tmp (by kernel_rfl) ResOk.nil)) hI34 ⟨rfl, rfl⟩
/-! 35 lex_letter  -/
noncomputable def lex_letter (a0 : Int) : Bool :=
  (((((decide (a0 ≥ 97)) && (decide (a0 ≤ 122))) || ((decide (a0 ≥ 65)) && (decide (a0 ≤ 90)))) || (a0 == 95)) || (a0 == 58))
theorem lex_letter_walk {a0 : Int} {I : Imm} {r : Bool}  (hr : lex_letter a0 = r) (L : Own) :
    CallsTo Tryd.prog 35 #[.int .u8 a0] I L (fun v I' L' => v = .bool r ∧ L = L') := by
  replace hr : some (lex_letter a0) = some r := congrArg some hr
  unfold lex_letter at hr
  refine callsTo_body (N := 25) Tryd.func35 (by kernel_rfl) (by kernel_rfl) (by kernel_rfl) ?_
  refine gk_pick [0] (K' := [(0, .int .u8 a0)]) (by kernel_rfl) ?_
  refine gk_seq (by kernel_rfl) ?_
  refine gk_region (by kernel_rfl) ?_
  refine gl_pure 1 [0] (K' := [(0, .int .u8 a0)]) (by kernel_rfl) ?_
  refine gl_atE (by kernel_rfl) ?_
  refine ge_seq ?_
  refine gk_seq (by kernel_rfl) ?_
  obtain ⟨b3, hb4⟩ : ∃ z, z = (((((decide (a0 ≥ 97)) && (decide (a0 ≤ 122))) || ((decide (a0 ≥ 65)) && (decide (a0 ≤ 90)))) || (a0 == 95)) || (a0 == 58)) := ⟨_, rfl⟩
  refine gk_join (fun t I' L' => I ≤ I' ∧ L = L' ∧ Knows 25 [(2, .bool b3)] t) ?_ ?_
  · refine gk_region (by kernel_rfl) ?_
    refine gl_pure 3 [0, 5] (K' := [(0, .int .u8 a0), (5, .bool (decide (a0 ≥ 97)))]) (by kernel_rfl) ?_
    refine gl_case 5 (b := (decide (a0 ≥ 97))) (by kernel_rfl) (fun hc6 => ?_) (fun hc6 => ?_)
    · refine gl_pure 4 [0, 9] (K' := [(0, .int .u8 a0), (9, .bool (decide (a0 ≤ 122)))]) (by kernel_rfl) ?_
      refine gl_case 9 (b := (decide (a0 ≤ 122))) (by kernel_rfl) (fun hc7 => ?_) (fun hc7 => ?_)
      · refine gl_pure 16 [2] (K' := [(2, .bool true)]) (by kernel_rfl) ?_
        refine gl_atE (by kernel_rfl) ?_
        exact ge_mid fun t ht => ⟨(Imm.refl _), rfl, by rw [(show b3 = true from hb4.trans (by rw [hc6, hc7]; try rfl))]; exact ht.pick (l := [2]) (by kernel_rfl)⟩
      · refine gl_pure 3 [0, 9, 12] (K' := [(0, .int .u8 a0), (9, .bool false), (12, .bool (decide (a0 ≥ 65)))]) (by kernel_rfl) ?_
        refine gl_case 12 (b := (decide (a0 ≥ 65))) (by kernel_rfl) (fun hc8 => ?_) (fun hc8 => ?_)
        · refine gl_pure 5 [0, 17] (K' := [(0, .int .u8 a0), (17, .bool (decide (a0 ≤ 90)))]) (by kernel_rfl) ?_
          refine gl_case 17 (b := (decide (a0 ≤ 90))) (by kernel_rfl) (fun hc9 => ?_) (fun hc9 => ?_)
          · refine gl_pure 8 [2] (K' := [(2, .bool true)]) (by kernel_rfl) ?_
            refine gl_atE (by kernel_rfl) ?_
            exact ge_mid fun t ht => ⟨(Imm.refl _), rfl, by rw [(show b3 = true from hb4.trans (by rw [hc6, hc7, hc8, hc9]; try rfl))]; exact ht.pick (l := [2]) (by kernel_rfl)⟩
          · refine gl_pure 4 [0, 21] (K' := [(0, .int .u8 a0), (21, .bool (a0 == 95))]) (by kernel_rfl) ?_
            refine gl_case 21 (b := (a0 == 95)) (by kernel_rfl) (fun hc10 => ?_) (fun hc10 => ?_)
            · refine gl_pure 4 [2] (K' := [(2, .bool true)]) (by kernel_rfl) ?_
              refine gl_atE (by kernel_rfl) ?_
              exact ge_mid fun t ht => ⟨(Imm.refl _), rfl, by rw [(show b3 = true from hb4.trans (by rw [hc6, hc7, hc8, hc9, hc10]; try rfl))]; exact ht.pick (l := [2]) (by kernel_rfl)⟩
            · refine gl_pure 4 [2] (K' := [(2, .bool (a0 == 58))]) (by kernel_rfl) ?_
              refine gl_atE (by kernel_rfl) ?_
              exact ge_mid fun t ht => ⟨(Imm.refl _), rfl, by rw [(show b3 = (a0 == 58) from hb4.trans (by rw [hc6, hc7, hc8, hc9, hc10]; try rfl))]; exact ht.pick (l := [2]) (by kernel_rfl)⟩
        · refine gl_pure 9 [0, 21] (K' := [(0, .int .u8 a0), (21, .bool (a0 == 95))]) (by kernel_rfl) ?_
          refine gl_case 21 (b := (a0 == 95)) (by kernel_rfl) (fun hc11 => ?_) (fun hc11 => ?_)
          · refine gl_pure 4 [2] (K' := [(2, .bool true)]) (by kernel_rfl) ?_
            refine gl_atE (by kernel_rfl) ?_
            exact ge_mid fun t ht => ⟨(Imm.refl _), rfl, by rw [(show b3 = true from hb4.trans (by rw [hc6, hc7, hc8, hc11]; try rfl))]; exact ht.pick (l := [2]) (by kernel_rfl)⟩
          · refine gl_pure 4 [2] (K' := [(2, .bool (a0 == 58))]) (by kernel_rfl) ?_
            refine gl_atE (by kernel_rfl) ?_
            exact ge_mid fun t ht => ⟨(Imm.refl _), rfl, by rw [(show b3 = (a0 == 58) from hb4.trans (by rw [hc6, hc7, hc8, hc11]; try rfl))]; exact ht.pick (l := [2]) (by kernel_rfl)⟩
    · refine gl_pure 7 [0, 9, 12] (K' := [(0, .int .u8 a0), (9, .bool false), (12, .bool (decide (a0 ≥ 65)))]) (by kernel_rfl) ?_
      refine gl_case 12 (b := (decide (a0 ≥ 65))) (by kernel_rfl) (fun hc12 => ?_) (fun hc12 => ?_)
      · refine gl_pure 5 [0, 17] (K' := [(0, .int .u8 a0), (17, .bool (decide (a0 ≤ 90)))]) (by kernel_rfl) ?_
        refine gl_case 17 (b := (decide (a0 ≤ 90))) (by kernel_rfl) (fun hc13 => ?_) (fun hc13 => ?_)
        · refine gl_pure 8 [2] (K' := [(2, .bool true)]) (by kernel_rfl) ?_
          refine gl_atE (by kernel_rfl) ?_
          exact ge_mid fun t ht => ⟨(Imm.refl _), rfl, by rw [(show b3 = true from hb4.trans (by rw [hc6, hc12, hc13]; try rfl))]; exact ht.pick (l := [2]) (by kernel_rfl)⟩
        · refine gl_pure 4 [0, 21] (K' := [(0, .int .u8 a0), (21, .bool (a0 == 95))]) (by kernel_rfl) ?_
          refine gl_case 21 (b := (a0 == 95)) (by kernel_rfl) (fun hc14 => ?_) (fun hc14 => ?_)
          · refine gl_pure 4 [2] (K' := [(2, .bool true)]) (by kernel_rfl) ?_
            refine gl_atE (by kernel_rfl) ?_
            exact ge_mid fun t ht => ⟨(Imm.refl _), rfl, by rw [(show b3 = true from hb4.trans (by rw [hc6, hc12, hc13, hc14]; try rfl))]; exact ht.pick (l := [2]) (by kernel_rfl)⟩
          · refine gl_pure 4 [2] (K' := [(2, .bool (a0 == 58))]) (by kernel_rfl) ?_
            refine gl_atE (by kernel_rfl) ?_
            exact ge_mid fun t ht => ⟨(Imm.refl _), rfl, by rw [(show b3 = (a0 == 58) from hb4.trans (by rw [hc6, hc12, hc13, hc14]; try rfl))]; exact ht.pick (l := [2]) (by kernel_rfl)⟩
      · refine gl_pure 9 [0, 21] (K' := [(0, .int .u8 a0), (21, .bool (a0 == 95))]) (by kernel_rfl) ?_
        refine gl_case 21 (b := (a0 == 95)) (by kernel_rfl) (fun hc15 => ?_) (fun hc15 => ?_)
        · refine gl_pure 4 [2] (K' := [(2, .bool true)]) (by kernel_rfl) ?_
          refine gl_atE (by kernel_rfl) ?_
          exact ge_mid fun t ht => ⟨(Imm.refl _), rfl, by rw [(show b3 = true from hb4.trans (by rw [hc6, hc12, hc15]; try rfl))]; exact ht.pick (l := [2]) (by kernel_rfl)⟩
        · refine gl_pure 4 [2] (K' := [(2, .bool (a0 == 58))]) (by kernel_rfl) ?_
          refine gl_atE (by kernel_rfl) ?_
          exact ge_mid fun t ht => ⟨(Imm.refl _), rfl, by rw [(show b3 = (a0 == 58) from hb4.trans (by rw [hc6, hc12, hc15]; try rfl))]; exact ht.pick (l := [2]) (by kernel_rfl)⟩
  · rintro t I5 L' ⟨hI1, rfl, hK2⟩
    subst hb4
    refine ge_at hK2 ?_
    refine ge_seq ?_
    refine gk_ret (by kernel_rfl) ?_
    obtain rfl := some_inj hr
    exact ge_result trivial (ResOk.tmp (by kernel_rfl) ResOk.nil) hI1 ⟨rfl, rfl⟩
structure Fn46 (I : Imm) (fv : Value) (f : Int → Option Bool) : Prop where
  out : ∀ I', I ≤ I' → ∀ (x0 : Int) (r : Bool), f x0 = some r → ∀ L, CallsV Tryd.prog fv [.int .u8 x0] I' L (fun v I' L' => v = .bool r ∧ L = L')
theorem Fn46.mono {I J : Imm} {fv : Value} {f : Int → Option Bool} (h : Fn46 I fv f) (hI : I ≤ J) : Fn46 J fv f := ⟨fun I' hI' => h.out I' (Imm.trans hI hI')⟩
/-! 36 lex_run  -/
noncomputable def lex_run_l16 (a0 : ByteArray) (a1 : Int) (a2 : Int → Option Bool) : Int → Option ((Int) ⊕ (Int)) := fun s7 =>
  Option.bind (bif (decide ((IntKind.wrap .i64 (a1 + s7)) < (a0.size : Int))) then
    (Option.bind (bx a0 (IntKind.wrap .i64 (a1 + s7))) fun (c24 : Int) =>
      Option.bind (a2 c24) fun (y27 : Bool) =>
      some y27)
    else
    (some false)) fun (j18 : Bool) =>
  bif j18 then
  (some (Sum.inl (IntKind.wrap .i64 (s7 + 1))))
  else
  (some (Sum.inr s7))
noncomputable def lex_run (a0 : ByteArray) (a1 : Int) (a2 : Int → Option Bool) : Option Int :=
  Option.bind (loopO (lex_run_l16 a0 a1 a2) 0) fun (r5 : Int) =>
  some r5
theorem lex_run_walk {a0 : ByteArray} {a1 : Int} {a2 : Int → Option Bool} {fv2 : Value} {I : Imm} {r : Int} (hf2 : Fn46 I fv2 a2) (hr : lex_run a0 a1 a2 = some r) (L : Own) :
    CallsTo Tryd.prog 36 #[.string a0, .int .i64 a1, fv2] I L (fun v I' L' => v = .int .i64 r ∧ L = L') := by
  unfold lex_run at hr
  refine callsTo_body (N := 26) Tryd.func36 (by kernel_rfl) (by kernel_rfl) (by kernel_rfl) ?_
  refine gk_pick [0, 1, 2] (K' := [(0, .string a0), (1, .int .i64 a1), (2, fv2)]) (by kernel_rfl) ?_
  refine gk_seq (by kernel_rfl) ?_
  refine gk_region (by kernel_rfl) ?_
  refine gl_pure 1 [0, 1, 2] (K' := [(0, .string a0), (1, .int .i64 a1), (2, fv2)]) (by kernel_rfl) ?_
  refine gl_atE (by kernel_rfl) ?_
  refine ge_seq ?_
  refine gk_seq (by kernel_rfl) ?_
  refine gk_region (by kernel_rfl) ?_
  refine gl_pure 1 [0, 1, 2, 7] (K' := [(0, .string a0), (1, .int .i64 a1), (2, fv2), (7, .int .i64 0)]) (by kernel_rfl) ?_
  refine gl_atE (by kernel_rfl) ?_
  refine ge_seq ?_
  refine gk_seq (by kernel_rfl) ?_
  obtain ⟨r5, hl6, hr⟩ := bind_some hr
  refine gk_join (fun t I' L' => I ≤ I' ∧ L = L' ∧ Knows 26 [(7, .int .i64 r5)] t) ?_ ?_
  · refine gk_block (by kernel_rfl) ?_
    refine gk_pick [0, 1, 2, 7] (K' := [(0, .string a0), (1, .int .i64 a1), (2, fv2), (7, .int .i64 0)]) (by kernel_rfl) ?_
    intro t hK
    refine gc_loop (lex_run_l16 a0 a1 a2) (fun s7 t I' L' => I ≤ I' ∧ L = L' ∧ Knows 26 [(0, .string a0), (1, .int .i64 a1), (2, fv2), (7, .int .i64 s7)] t) (by kernel_rfl) ?_ hl6 ⟨(Imm.refl _), rfl, hK⟩
    rintro s7 o8 t I12 L' hb9 ⟨hI10, rfl, hK11⟩
    unfold lex_run_l16 at hb9
    refine gk_at hK11 ?_
    refine gk_seq (by kernel_rfl) ?_
    refine gk_seq (by kernel_rfl) ?_
    obtain ⟨j18, hj19, hb9⟩ := bind_some hb9
    refine gk_join (fun t I' L' => I12 ≤ I' ∧ L = L' ∧ Knows 26 [(0, .string a0), (1, .int .i64 a1), (2, fv2), (7, .int .i64 s7), (22, .bool j18)] t) ?_ ?_
    · refine gk_region (by kernel_rfl) ?_
      refine gl_pure 7 [0, 1, 2, 7, 14] (K' := [(0, .string a0), (1, .int .i64 a1), (2, fv2), (7, .int .i64 s7), (14, .bool (decide ((IntKind.wrap .i64 (a1 + s7)) < (a0.size : Int))))]) (by kernel_rfl) ?_
      refine gl_case 14 (b := (decide ((IntKind.wrap .i64 (a1 + s7)) < (a0.size : Int)))) (by kernel_rfl) (fun hc23 => ?_) (fun hc23 => ?_)
      · have hj19 := cond_t hc23 hj19
        refine gl_pure 5 [0, 1, 2, 7, 14, 15, 16, 19] (K' := [(0, .string a0), (1, .int .i64 a1), (2, fv2), (7, .int .i64 s7), (14, .bool true), (15, fv2), (16, .string a0), (19, .int .i64 (IntKind.wrap .i64 (a1 + s7)))]) (by kernel_rfl) ?_
        obtain ⟨c24, hx25, hj19⟩ := bind_some hj19
        refine gl_index' (T' := 9) (xs := (.tmp 16)) (xi := (.tmp 19)) (kd := .i64) hx25 (by kernel_rfl) (by kernel_rfl) (by kernel_rfl) (by kernel_rfl) (by kernel_rfl) ?_
        obtain ⟨y27, hx26, hj19⟩ := bind_some hj19
        refine gl_callvQ (by kernel_rfl) ((hf2.mono hI10).out _ (Imm.refl _) _ _ hx26   _) ?_
        refine gl_pure 1 [0, 1, 2, 7, 22] (K' := [(0, .string a0), (1, .int .i64 a1), (2, fv2), (7, .int .i64 s7), (22, .bool y27)]) (by kernel_rfl) ?_
        refine gl_atE (by kernel_rfl) ?_
        obtain rfl := some_inj hj19
        exact ge_mid fun t ht => ⟨(Imm.refl _), rfl, ht.pick (l := [0, 1, 2, 7, 22]) (by kernel_rfl)⟩
      · have hj19 := cond_f hc23 hj19
        refine gl_pure 8 [0, 1, 2, 7, 22] (K' := [(0, .string a0), (1, .int .i64 a1), (2, fv2), (7, .int .i64 s7), (22, .bool false)]) (by kernel_rfl) ?_
        refine gl_atE (by kernel_rfl) ?_
        obtain rfl := some_inj hj19
        exact ge_mid fun t ht => ⟨(Imm.refl _), rfl, ht.pick (l := [0, 1, 2, 7, 22]) (by kernel_rfl)⟩
    · rintro t I22 L' ⟨hI20, rfl, hK21⟩
      refine ge_at hK21 ?_
      refine ge_seq ?_
      refine gk_cond (b := j18) (by kernel_rfl) (by kernel_rfl) (fun hc28 => ?_) (fun hc28 => ?_)
      · have hb9 := cond_t hc28 hb9
        refine gk_skip (by kernel_rfl) ?_
        refine ge_seq ?_
        refine gk_block (by kernel_rfl) ?_
        refine gk_region (by kernel_rfl) ?_
        refine gl_pure 3 [0, 1, 2, 7] (K' := [(0, .string a0), (1, .int .i64 a1), (2, fv2), (7, .int .i64 (IntKind.wrap .i64 (s7 + 1)))]) (by kernel_rfl) ?_
        refine gl_atE (by kernel_rfl) ?_
        refine ge_block_normal ?_
        obtain rfl := some_inj hb9
        exact ge_round fun t ht => ⟨(Imm.trans hI10 hI20), rfl, ht.pick (l := [0, 1, 2, 7]) (by kernel_rfl)⟩
      · have hb9 := cond_f hc28 hb9
        refine gk_exit (by kernel_rfl) ?_
        refine ge_seq_exit ?_
        obtain rfl := some_inj hb9
        refine ge_round_out (fun hrr => ?_) (by intro h; cases h)
        obtain rfl := hrr
        refine ge_block_hit (by kernel_rfl) ?_
        exact ge_mid fun t ht => ⟨(Imm.trans hI10 hI20), rfl, ht.pick (l := [7]) (by kernel_rfl)⟩
  · rintro t I15 L' ⟨hI13, rfl, hK14⟩
    refine ge_at hK14 ?_
    refine ge_seq ?_
    refine gk_seq (by kernel_rfl) ?_
    refine gk_region (by kernel_rfl) ?_
    refine gl_pure 2 [6] (K' := [(6, .int .i64 r5)]) (by kernel_rfl) ?_
    refine gl_atE (by kernel_rfl) ?_
    refine ge_seq ?_
    refine gk_ret (by kernel_rfl) ?_
    obtain rfl := some_inj hr
    exact ge_result trivial (ResOk.tmp (by kernel_rfl) ResOk.nil) hI13 ⟨rfl, rfl⟩
/-! 38 lex_digit  -/
noncomputable def lex_digit (a0 : Int) : Bool :=
  ((decide (a0 ≥ 48)) && (decide (a0 ≤ 57)))
theorem lex_digit_walk {a0 : Int} {I : Imm} {r : Bool}  (hr : lex_digit a0 = r) (L : Own) :
    CallsTo Tryd.prog 38 #[.int .u8 a0] I L (fun v I' L' => v = .bool r ∧ L = L') := by
  replace hr : some (lex_digit a0) = some r := congrArg some hr
  unfold lex_digit at hr
  refine callsTo_body (N := 9) Tryd.func38 (by kernel_rfl) (by kernel_rfl) (by kernel_rfl) ?_
  refine gk_pick [0] (K' := [(0, .int .u8 a0)]) (by kernel_rfl) ?_
  refine gk_seq (by kernel_rfl) ?_
  refine gk_region (by kernel_rfl) ?_
  refine gl_pure 1 [0] (K' := [(0, .int .u8 a0)]) (by kernel_rfl) ?_
  refine gl_atE (by kernel_rfl) ?_
  refine ge_seq ?_
  refine gk_seq (by kernel_rfl) ?_
  obtain ⟨b3, hb4⟩ : ∃ z, z = ((decide (a0 ≥ 48)) && (decide (a0 ≤ 57))) := ⟨_, rfl⟩
  refine gk_join (fun t I' L' => I ≤ I' ∧ L = L' ∧ Knows 9 [(2, .bool b3)] t) ?_ ?_
  · refine gk_region (by kernel_rfl) ?_
    refine gl_pure 3 [0, 5] (K' := [(0, .int .u8 a0), (5, .bool (decide (a0 ≥ 48)))]) (by kernel_rfl) ?_
    refine gl_case 5 (b := (decide (a0 ≥ 48))) (by kernel_rfl) (fun hc6 => ?_) (fun hc6 => ?_)
    · refine gl_pure 4 [2] (K' := [(2, .bool (decide (a0 ≤ 57)))]) (by kernel_rfl) ?_
      refine gl_atE (by kernel_rfl) ?_
      exact ge_mid fun t ht => ⟨(Imm.refl _), rfl, by rw [(show b3 = (decide (a0 ≤ 57)) from hb4.trans (by rw [hc6]; try rfl))]; exact ht.pick (l := [2]) (by kernel_rfl)⟩
    · refine gl_pure 4 [2] (K' := [(2, .bool false)]) (by kernel_rfl) ?_
      refine gl_atE (by kernel_rfl) ?_
      exact ge_mid fun t ht => ⟨(Imm.refl _), rfl, by rw [(show b3 = false from hb4.trans (by rw [hc6]; try rfl))]; exact ht.pick (l := [2]) (by kernel_rfl)⟩
  · rintro t I5 L' ⟨hI1, rfl, hK2⟩
    subst hb4
    refine ge_at hK2 ?_
    refine ge_seq ?_
    refine gk_ret (by kernel_rfl) ?_
    obtain rfl := some_inj hr
    exact ge_result trivial (ResOk.tmp (by kernel_rfl) ResOk.nil) hI1 ⟨rfl, rfl⟩
/-! 37 lex_one_1  -/
noncomputable def lex_one_1 (a0 : Int) : Bool :=
  ((lex_letter a0) || (lex_digit a0))
theorem lex_one_1_walk {a0 : Int} {I : Imm} {r : Bool}  (hr : lex_one_1 a0 = r) (L : Own) :
    CallsTo Tryd.prog 37 #[.int .u8 a0] I L (fun v I' L' => v = .bool r ∧ L = L') := by
  replace hr : some (lex_one_1 a0) = some r := congrArg some hr
  unfold lex_one_1 at hr
  refine callsTo_body (N := 9) Tryd.func37 (by kernel_rfl) (by kernel_rfl) (by kernel_rfl) ?_
  refine gk_pick [0] (K' := [(0, .int .u8 a0)]) (by kernel_rfl) ?_
  refine gk_seq (by kernel_rfl) ?_
  refine gk_region (by kernel_rfl) ?_
  refine gl_pure 1 [0] (K' := [(0, .int .u8 a0)]) (by kernel_rfl) ?_
  refine gl_atE (by kernel_rfl) ?_
  refine ge_seq ?_
  refine gk_seq (by kernel_rfl) ?_
  obtain ⟨b3, hb4⟩ : ∃ z, z = ((lex_letter a0) || (lex_digit a0)) := ⟨_, rfl⟩
  refine gk_join (fun t I' L' => I ≤ I' ∧ L = L' ∧ Knows 9 [(2, .bool b3)] t) ?_ ?_
  · refine gk_region (by kernel_rfl) ?_
    refine gl_pure 1 [0, 3] (K' := [(0, .int .u8 a0), (3, .int .u8 a0)]) (by kernel_rfl) ?_
    refine gl_callQ (by kernel_rfl) (lex_letter_walk (r := (lex_letter a0))  rfl _) ?_
    refine gl_pure 1 [0, 5] (K' := [(0, .int .u8 a0), (5, .bool (lex_letter a0))]) (by kernel_rfl) ?_
    refine gl_case 5 (b := (lex_letter a0)) (by kernel_rfl) (fun hc6 => ?_) (fun hc6 => ?_)
    · refine gl_pure 4 [2] (K' := [(2, .bool true)]) (by kernel_rfl) ?_
      refine gl_atE (by kernel_rfl) ?_
      exact ge_mid fun t ht => ⟨(Imm.refl _), rfl, by rw [(show b3 = true from hb4.trans (by rw [hc6]; try rfl))]; exact ht.pick (l := [2]) (by kernel_rfl)⟩
    · refine gl_pure 1 [5, 6] (K' := [(5, .bool false), (6, .int .u8 a0)]) (by kernel_rfl) ?_
      refine gl_callQ (by kernel_rfl) (lex_digit_walk (r := (lex_digit a0))  rfl _) ?_
      refine gl_pure 2 [2] (K' := [(2, .bool (lex_digit a0))]) (by kernel_rfl) ?_
      refine gl_atE (by kernel_rfl) ?_
      exact ge_mid fun t ht => ⟨(Imm.refl _), rfl, by rw [(show b3 = (lex_digit a0) from hb4.trans (by rw [hc6]; try rfl))]; exact ht.pick (l := [2]) (by kernel_rfl)⟩
  · rintro t I5 L' ⟨hI1, rfl, hK2⟩
    subst hb4
    refine ge_at hK2 ?_
    refine ge_seq ?_
    refine gk_ret (by kernel_rfl) ?_
    obtain rfl := some_inj hr
    exact ge_result trivial (ResOk.tmp (by kernel_rfl) ResOk.nil) hI1 ⟨rfl, rfl⟩
theorem lex_one_1_impl46  {I : Imm}  : Fn46 I (.func (.func 37) #[] #[]) (fun x0 => some (lex_one_1 x0)) := ⟨fun I' hI x0 r hr  L => ⟨37, #[], #[], rfl, ⟨_, Tryd.func37, by kernel_rfl, by kernel_rfl⟩, by
  simp only [List.append_toArray, List.nil_append, List.append_nil, Array.append_empty, Array.empty_append, List.push_append_toArray, List.cons_append]
  exact lex_one_1_walk    (some_inj hr) L⟩⟩
/-! 58 stringslite_HasPrefix  -/
noncomputable def stringslite_HasPrefix (a0 : ByteArray) (a1 : ByteArray) : Option Bool :=
  Option.bind (bif (decide ((a0.size : Int) ≥ (a1.size : Int))) then
    (Option.bind (sx a0 0 (a1.size : Int)) fun (s8 : ByteArray) =>
      some (s8.toList == a1.toList))
    else
    (some false)) fun (j1 : Bool) =>
  some j1
theorem stringslite_HasPrefix_walk {a0 : ByteArray} {a1 : ByteArray} {I : Imm} {r : Bool}  (hr : stringslite_HasPrefix a0 a1 = some r) (L : Own) :
    CallsTo Tryd.prog 58 #[.string a0, .string a1] I L (fun v I' L' => v = .bool r ∧ L = L') := by
  unfold stringslite_HasPrefix at hr
  refine callsTo_body (N := 18) Tryd.func58 (by kernel_rfl) (by kernel_rfl) (by kernel_rfl) ?_
  refine gk_pick [0, 1] (K' := [(0, .string a0), (1, .string a1)]) (by kernel_rfl) ?_
  refine gk_seq (by kernel_rfl) ?_
  refine gk_region (by kernel_rfl) ?_
  refine gl_pure 1 [0, 1] (K' := [(0, .string a0), (1, .string a1)]) (by kernel_rfl) ?_
  refine gl_atE (by kernel_rfl) ?_
  refine ge_seq ?_
  refine gk_seq (by kernel_rfl) ?_
  obtain ⟨j1, hj2, hr⟩ := bind_some hr
  refine gk_join (fun t I' L' => I ≤ I' ∧ L = L' ∧ Knows 18 [(4, .bool j1)] t) ?_ ?_
  · refine gk_region (by kernel_rfl) ?_
    refine gl_pure 6 [0, 1, 10] (K' := [(0, .string a0), (1, .string a1), (10, .bool (decide ((a0.size : Int) ≥ (a1.size : Int))))]) (by kernel_rfl) ?_
    refine gl_case 10 (b := (decide ((a0.size : Int) ≥ (a1.size : Int)))) (by kernel_rfl) (fun hc6 => ?_) (fun hc6 => ?_)
    · have hj2 := cond_t hc6 hj2
      refine gl_pure 3 [1, 10, 11, 13] (K' := [(1, .string a1), (10, .bool true), (11, .string a0), (13, .int .i64 (a1.size : Int))]) (by kernel_rfl) ?_
      obtain ⟨s8, hx7, hj2⟩ := bind_some hj2
      refine gl_slice' (T' := 9) (xs := (.tmp 11)) (lo := none) (hi := (some (.tmp 13))) hx7 (by kernel_rfl) (by kernel_rfl) (by kernel_rfl) (by kernel_rfl) (by kernel_rfl) (by kernel_rfl) ?_
      refine gl_pure 4 [4] (K' := [(4, .bool (s8.toList == a1.toList))]) (by kernel_rfl) ?_
      refine gl_atE (by kernel_rfl) ?_
      obtain rfl := some_inj hj2
      exact ge_mid fun t ht => ⟨(Imm.refl _), rfl, ht.pick (l := [4]) (by kernel_rfl)⟩
    · have hj2 := cond_f hc6 hj2
      refine gl_pure 8 [4] (K' := [(4, .bool false)]) (by kernel_rfl) ?_
      refine gl_atE (by kernel_rfl) ?_
      obtain rfl := some_inj hj2
      exact ge_mid fun t ht => ⟨(Imm.refl _), rfl, ht.pick (l := [4]) (by kernel_rfl)⟩
  · rintro t I5 L' ⟨hI3, rfl, hK4⟩
    refine ge_at hK4 ?_
    refine ge_seq ?_
    refine gk_ret (by kernel_rfl) ?_
    obtain rfl := some_inj hr
    exact ge_result trivial (ResOk.tmp (by kernel_rfl) ResOk.nil) hI3 ⟨rfl, rfl⟩
/-! 42 strings_HasPrefix  -/
noncomputable def strings_HasPrefix (a0 : ByteArray) (a1 : ByteArray) : Option Bool :=
  Option.bind (stringslite_HasPrefix a0 a1) fun (y1 : Bool) =>
  some y1
theorem strings_HasPrefix_walk {a0 : ByteArray} {a1 : ByteArray} {I : Imm} {r : Bool}  (hr : strings_HasPrefix a0 a1 = some r) (L : Own) :
    CallsTo Tryd.prog 42 #[.string a0, .string a1] I L (fun v I' L' => v = .bool r ∧ L = L') := by
  unfold strings_HasPrefix at hr
  refine callsTo_body (N := 8) Tryd.func42 (by kernel_rfl) (by kernel_rfl) (by kernel_rfl) ?_
  refine gk_pick [0, 1] (K' := [(0, .string a0), (1, .string a1)]) (by kernel_rfl) ?_
  refine gk_seq (by kernel_rfl) ?_
  refine gk_region (by kernel_rfl) ?_
  refine gl_pure 1 [0, 1] (K' := [(0, .string a0), (1, .string a1)]) (by kernel_rfl) ?_
  refine gl_atE (by kernel_rfl) ?_
  refine ge_seq ?_
  refine gk_seq (by kernel_rfl) ?_
  refine gk_region (by kernel_rfl) ?_
  refine gl_pure 2 [5, 6] (K' := [(5, .string a0), (6, .string a1)]) (by kernel_rfl) ?_
  obtain ⟨y1, hx2, hr⟩ := bind_some hr
  refine gl_callQ (by kernel_rfl) (stringslite_HasPrefix_walk (r := y1)  hx2 _) ?_
  refine gl_pure 1 [4] (K' := [(4, .bool y1)]) (by kernel_rfl) ?_
  refine gl_atE (by kernel_rfl) ?_
  refine ge_seq ?_
  refine gk_ret (by kernel_rfl) ?_
  obtain rfl := some_inj hr
  exact ge_result trivial (ResOk.tmp (by kernel_rfl) ResOk.nil) (Imm.refl _) ⟨rfl, rfl⟩
/-! 54 lex_hex  -/
noncomputable def lex_hex (a0 : Int) : Bool :=
  (((lex_digit a0) || ((decide (a0 ≥ 97)) && (decide (a0 ≤ 102)))) || ((decide (a0 ≥ 65)) && (decide (a0 ≤ 70))))
theorem lex_hex_walk {a0 : Int} {I : Imm} {r : Bool}  (hr : lex_hex a0 = r) (L : Own) :
    CallsTo Tryd.prog 54 #[.int .u8 a0] I L (fun v I' L' => v = .bool r ∧ L = L') := by
  replace hr : some (lex_hex a0) = some r := congrArg some hr
  unfold lex_hex at hr
  refine callsTo_body (N := 21) Tryd.func54 (by kernel_rfl) (by kernel_rfl) (by kernel_rfl) ?_
  refine gk_pick [0] (K' := [(0, .int .u8 a0)]) (by kernel_rfl) ?_
  refine gk_seq (by kernel_rfl) ?_
  refine gk_region (by kernel_rfl) ?_
  refine gl_pure 1 [0] (K' := [(0, .int .u8 a0)]) (by kernel_rfl) ?_
  refine gl_atE (by kernel_rfl) ?_
  refine ge_seq ?_
  refine gk_seq (by kernel_rfl) ?_
  obtain ⟨b3, hb4⟩ : ∃ z, z = (((lex_digit a0) || ((decide (a0 ≥ 97)) && (decide (a0 ≤ 102)))) || ((decide (a0 ≥ 65)) && (decide (a0 ≤ 70)))) := ⟨_, rfl⟩
  refine gk_join (fun t I' L' => I ≤ I' ∧ L = L' ∧ Knows 21 [(2, .bool b3)] t) ?_ ?_
  · refine gk_region (by kernel_rfl) ?_
    refine gl_pure 1 [0, 3] (K' := [(0, .int .u8 a0), (3, .int .u8 a0)]) (by kernel_rfl) ?_
    refine gl_callQ (by kernel_rfl) (lex_digit_walk (r := (lex_digit a0))  rfl _) ?_
    refine gl_pure 1 [0, 5] (K' := [(0, .int .u8 a0), (5, .bool (lex_digit a0))]) (by kernel_rfl) ?_
    refine gl_case 5 (b := (lex_digit a0)) (by kernel_rfl) (fun hc6 => ?_) (fun hc6 => ?_)
    · refine gl_pure 16 [2] (K' := [(2, .bool true)]) (by kernel_rfl) ?_
      refine gl_atE (by kernel_rfl) ?_
      exact ge_mid fun t ht => ⟨(Imm.refl _), rfl, by rw [(show b3 = true from hb4.trans (by rw [hc6]; try rfl))]; exact ht.pick (l := [2]) (by kernel_rfl)⟩
    · refine gl_pure 3 [0, 5, 8] (K' := [(0, .int .u8 a0), (5, .bool false), (8, .bool (decide (a0 ≥ 97)))]) (by kernel_rfl) ?_
      refine gl_case 8 (b := (decide (a0 ≥ 97))) (by kernel_rfl) (fun hc7 => ?_) (fun hc7 => ?_)
      · refine gl_pure 5 [0, 13] (K' := [(0, .int .u8 a0), (13, .bool (decide (a0 ≤ 102)))]) (by kernel_rfl) ?_
        refine gl_case 13 (b := (decide (a0 ≤ 102))) (by kernel_rfl) (fun hc8 => ?_) (fun hc8 => ?_)
        · refine gl_pure 8 [2] (K' := [(2, .bool true)]) (by kernel_rfl) ?_
          refine gl_atE (by kernel_rfl) ?_
          exact ge_mid fun t ht => ⟨(Imm.refl _), rfl, by rw [(show b3 = true from hb4.trans (by rw [hc6, hc7, hc8]; try rfl))]; exact ht.pick (l := [2]) (by kernel_rfl)⟩
        · refine gl_pure 3 [0, 13, 16] (K' := [(0, .int .u8 a0), (13, .bool false), (16, .bool (decide (a0 ≥ 65)))]) (by kernel_rfl) ?_
          refine gl_case 16 (b := (decide (a0 ≥ 65))) (by kernel_rfl) (fun hc9 => ?_) (fun hc9 => ?_)
          · refine gl_pure 5 [2] (K' := [(2, .bool (decide (a0 ≤ 70)))]) (by kernel_rfl) ?_
            refine gl_atE (by kernel_rfl) ?_
            exact ge_mid fun t ht => ⟨(Imm.refl _), rfl, by rw [(show b3 = (decide (a0 ≤ 70)) from hb4.trans (by rw [hc6, hc7, hc8, hc9]; try rfl))]; exact ht.pick (l := [2]) (by kernel_rfl)⟩
          · refine gl_pure 5 [2] (K' := [(2, .bool false)]) (by kernel_rfl) ?_
            refine gl_atE (by kernel_rfl) ?_
            exact ge_mid fun t ht => ⟨(Imm.refl _), rfl, by rw [(show b3 = false from hb4.trans (by rw [hc6, hc7, hc8, hc9]; try rfl))]; exact ht.pick (l := [2]) (by kernel_rfl)⟩
      · refine gl_pure 8 [0, 13, 16] (K' := [(0, .int .u8 a0), (13, .bool false), (16, .bool (decide (a0 ≥ 65)))]) (by kernel_rfl) ?_
        refine gl_case 16 (b := (decide (a0 ≥ 65))) (by kernel_rfl) (fun hc10 => ?_) (fun hc10 => ?_)
        · refine gl_pure 5 [2] (K' := [(2, .bool (decide (a0 ≤ 70)))]) (by kernel_rfl) ?_
          refine gl_atE (by kernel_rfl) ?_
          exact ge_mid fun t ht => ⟨(Imm.refl _), rfl, by rw [(show b3 = (decide (a0 ≤ 70)) from hb4.trans (by rw [hc6, hc7, hc10]; try rfl))]; exact ht.pick (l := [2]) (by kernel_rfl)⟩
        · refine gl_pure 5 [2] (K' := [(2, .bool false)]) (by kernel_rfl) ?_
          refine gl_atE (by kernel_rfl) ?_
          exact ge_mid fun t ht => ⟨(Imm.refl _), rfl, by rw [(show b3 = false from hb4.trans (by rw [hc6, hc7, hc10]; try rfl))]; exact ht.pick (l := [2]) (by kernel_rfl)⟩
  · rintro t I5 L' ⟨hI1, rfl, hK2⟩
    subst hb4
    refine ge_at hK2 ?_
    refine ge_seq ?_
    refine gk_ret (by kernel_rfl) ?_
    obtain rfl := some_inj hr
    exact ge_result trivial (ResOk.tmp (by kernel_rfl) ResOk.nil) hI1 ⟨rfl, rfl⟩
theorem lex_hex_impl46  {I : Imm}  : Fn46 I (.func (.func 54) #[] #[]) (fun x0 => some (lex_hex x0)) := ⟨fun I' hI x0 r hr  L => ⟨54, #[], #[], rfl, ⟨_, Tryd.func54, by kernel_rfl, by kernel_rfl⟩, by
  simp only [List.append_toArray, List.nil_append, List.append_nil, Array.append_empty, Array.empty_append, List.push_append_toArray, List.cons_append]
  exact lex_hex_walk    (some_inj hr) L⟩⟩
theorem lex_digit_impl46  {I : Imm}  : Fn46 I (.func (.func 38) #[] #[]) (fun x0 => some (lex_digit x0)) := ⟨fun I' hI x0 r hr  L => ⟨38, #[], #[], rfl, ⟨_, Tryd.func38, by kernel_rfl, by kernel_rfl⟩, by
  simp only [List.append_toArray, List.nil_append, List.append_nil, Array.append_empty, Array.empty_append, List.push_append_toArray, List.cons_append]
  exact lex_digit_walk    (some_inj hr) L⟩⟩
/-! 39 lex_number  -/
noncomputable def lex_number (a0 : ByteArray) : Option Int :=
  Option.bind (Option.bind (strings_HasPrefix a0 (⟨#[48, 120]⟩ : ByteArray)) fun (y6 : Bool) =>
    bif y6 then
    (some true)
    else
    (Option.bind (strings_HasPrefix a0 (⟨#[48, 88]⟩ : ByteArray)) fun (y9 : Bool) =>
      some y9)) fun (j1 : Bool) =>
  Option.bind ((bif j1 then
    (Option.bind (lex_run a0 2 (fun x0 => some (lex_hex x0))) fun (y18 : Int) =>
      bif (decide (y18 > 0)) then
      (some (Sum.inr (IntKind.wrap .i64 (2 + y18))))
      else
      (some (Sum.inl ())))
    else
    (some (Sum.inl ())) : Option ((Unit) ⊕ (Int)))) fun (j11 : (Unit) ⊕ (Int)) =>
  match j11 with
  | Sum.inl j13 => Option.bind (lex_run a0 0 (fun x0 => some (lex_digit x0))) fun (y21 : Int) =>
    Option.bind (bif (decide (y21 < (a0.size : Int))) then
      (Option.bind (bx a0 y21) fun (c29 : Int) =>
        some (c29 == 46))
      else
      (some false)) fun (j23 : Bool) =>
    Option.bind ((bif j23 then
      (Option.bind (lex_run a0 (IntKind.wrap .i64 (y21 + 1)) (fun x0 => some (lex_digit x0))) fun (y38 : Int) =>
        bif ((IntKind.wrap .i64 (y21 + y38)) == 0) then
        (some (Sum.inr 0))
        else
        (some (Sum.inl (IntKind.wrap .i64 (y21 + (IntKind.wrap .i64 (1 + y38)))))))
      else
      (some (Sum.inl y21)) : Option ((Int) ⊕ (Int)))) fun (j31 : (Int) ⊕ (Int)) =>
    match j31 with
    | Sum.inl j33 => bif (j33 == 0) then
      (some 0)
      else
      (Option.bind (bif (decide (j33 < (a0.size : Int))) then
          (Option.bind (bx a0 j33) fun (c48 : Int) =>
            bif (c48 == 101) then
            (some true)
            else
            (Option.bind (bx a0 j33) fun (c51 : Int) =>
              some (c51 == 69)))
          else
          (some false)) fun (j42 : Bool) =>
        Option.bind (bif j42 then
          (Option.bind (bif (decide ((IntKind.wrap .i64 (j33 + 1)) < (a0.size : Int))) then
              (Option.bind (bx a0 (IntKind.wrap .i64 (j33 + 1))) fun (c65 : Int) =>
                bif (c65 == 43) then
                (some true)
                else
                (Option.bind (bx a0 (IntKind.wrap .i64 (j33 + 1))) fun (c68 : Int) =>
                  some (c68 == 45)))
              else
              (some false)) fun (j59 : Bool) =>
            Option.bind (bif j59 then
              (some (IntKind.wrap .i64 ((IntKind.wrap .i64 (j33 + 1)) + 1)))
              else
              (some (IntKind.wrap .i64 (j33 + 1)))) fun (j70 : Int) =>
            Option.bind (lex_run a0 j70 (fun x0 => some (lex_digit x0))) fun (y76 : Int) =>
            Option.bind (bif (decide (y76 > 0)) then
              (some (IntKind.wrap .i64 (j70 + y76)))
              else
              (some j33)) fun (j78 : Int) =>
            some j78)
          else
          (some j33)) fun (j53 : Int) =>
        some j53)
    | Sum.inr v84 => some v84
  | Sum.inr v85 => some v85
theorem lex_number_walk {a0 : ByteArray} {I : Imm} {r : Int}  (hr : lex_number a0 = some r) (L : Own) :
    CallsTo Tryd.prog 39 #[.string a0] I L (fun v I' L' => v = .int .i64 r ∧ L = L') := by
  unfold lex_number at hr
  refine callsTo_body (N := 93) Tryd.func39 (by kernel_rfl) (by kernel_rfl) (by kernel_rfl) ?_
  refine gk_pick [0] (K' := [(0, .string a0)]) (by kernel_rfl) ?_
  refine gk_seq (by kernel_rfl) ?_
  refine gk_region (by kernel_rfl) ?_
  refine gl_pure 1 [0] (K' := [(0, .string a0)]) (by kernel_rfl) ?_
  refine gl_atE (by kernel_rfl) ?_
  refine ge_seq ?_
  refine gk_seq (by kernel_rfl) ?_
  refine gk_seq (by kernel_rfl) ?_
  obtain ⟨j1, hj2, hr⟩ := bind_some hr
  refine gk_join (fun t I' L' => I ≤ I' ∧ L = L' ∧ Knows 93 [(0, .string a0), (14, .bool j1)] t) ?_ ?_
  · refine gk_region (by kernel_rfl) ?_
    refine gl_pure 1 [0, 9] (K' := [(0, .string a0), (9, .string a0)]) (by kernel_rfl) ?_
    obtain ⟨y6, hx7, hj2⟩ := bind_some hj2
    refine gl_callQ (by kernel_rfl) (strings_HasPrefix_walk (r := y6)  hx7 _) ?_
    refine gl_pure 1 [0, 11] (K' := [(0, .string a0), (11, .bool y6)]) (by kernel_rfl) ?_
    refine gl_case 11 (b := y6) (by kernel_rfl) (fun hc8 => ?_) (fun hc8 => ?_)
    · have hj2 := cond_t hc8 hj2
      refine gl_pure 3 [0, 14] (K' := [(0, .string a0), (14, .bool true)]) (by kernel_rfl) ?_
      refine gl_atE (by kernel_rfl) ?_
      obtain rfl := some_inj hj2
      exact ge_mid fun t ht => ⟨(Imm.refl _), rfl, ht.pick (l := [0, 14]) (by kernel_rfl)⟩
    · have hj2 := cond_f hc8 hj2
      refine gl_pure 1 [0, 11, 12] (K' := [(0, .string a0), (11, .bool false), (12, .string a0)]) (by kernel_rfl) ?_
      obtain ⟨y9, hx10, hj2⟩ := bind_some hj2
      refine gl_callQ (by kernel_rfl) (strings_HasPrefix_walk (r := y9)  hx10 _) ?_
      refine gl_pure 1 [0, 14] (K' := [(0, .string a0), (14, .bool y9)]) (by kernel_rfl) ?_
      refine gl_atE (by kernel_rfl) ?_
      obtain rfl := some_inj hj2
      exact ge_mid fun t ht => ⟨(Imm.refl _), rfl, ht.pick (l := [0, 14]) (by kernel_rfl)⟩
  · rintro t I5 L' ⟨hI3, rfl, hK4⟩
    refine ge_at hK4 ?_
    refine ge_seq ?_
    obtain ⟨j11, hj12, hr⟩ := bind_some hr
    refine gk_join (fun t I' L' => ∃ j13, j11 = Sum.inl j13 ∧ I5 ≤ I' ∧ L = L' ∧ Knows 93 [(0, .string a0)] t) ?_ ?_
    · refine gk_cond (b := j1) (by kernel_rfl) (by kernel_rfl) (fun hc17 => ?_) (fun hc17 => ?_)
      · have hj12 := cond_t hc17 hj12
        refine gk_seq (by kernel_rfl) ?_
        refine gk_region (by kernel_rfl) ?_
        refine gl_pure 1 [0, 15] (K' := [(0, .string a0), (15, .string a0)]) (by kernel_rfl) ?_
        obtain ⟨y18, hx19, hj12⟩ := bind_some hj12
        refine gl_callQ (by kernel_rfl) (lex_run_walk (r := y18) lex_hex_impl46 hx19 _) ?_
        refine gl_pure 1 [0, 3] (K' := [(0, .string a0), (3, .int .i64 y18)]) (by kernel_rfl) ?_
        refine gl_atE (by kernel_rfl) ?_
        refine ge_seq ?_
        refine gk_seq (by kernel_rfl) ?_
        refine gk_region (by kernel_rfl) ?_
        refine gl_pure 2 [0, 3, 18] (K' := [(0, .string a0), (3, .int .i64 y18), (18, .bool (decide (y18 > 0)))]) (by kernel_rfl) ?_
        refine gl_atE (by kernel_rfl) ?_
        refine ge_seq ?_
        refine gk_cond (b := (decide (y18 > 0))) (by kernel_rfl) (by kernel_rfl) (fun hc20 => ?_) (fun hc20 => ?_)
        · have hj12 := cond_t hc20 hj12
          refine gk_seq (by kernel_rfl) ?_
          refine gk_region (by kernel_rfl) ?_
          refine gl_pure 3 [2] (K' := [(2, .int .i64 (IntKind.wrap .i64 (2 + y18)))]) (by kernel_rfl) ?_
          refine gl_atE (by kernel_rfl) ?_
          refine ge_seq ?_
          refine gk_ret (by kernel_rfl) ?_
          refine ge_seq_ret ?_
          obtain rfl := some_inj hj12
          refine ge_seq_ret ?_
          obtain rfl := some_inj hr
          exact ge_result trivial (ResOk.tmp (by kernel_rfl) ResOk.nil) hI3 ⟨rfl, rfl⟩
        · have hj12 := cond_f hc20 hj12
          refine gk_skip (by kernel_rfl) ?_
          obtain rfl := some_inj hj12
          exact ge_mid fun t ht => ⟨_, rfl, (Imm.refl _), rfl, ht.pick (l := [0]) (by kernel_rfl)⟩
      · have hj12 := cond_f hc17 hj12
        refine gk_skip (by kernel_rfl) ?_
        obtain rfl := some_inj hj12
        exact ge_mid fun t ht => ⟨_, rfl, (Imm.refl _), rfl, ht.pick (l := [0]) (by kernel_rfl)⟩
    · rintro t I16 L' ⟨j13, rfl, hI14, rfl, hK15⟩
      refine ge_at hK15 ?_
      refine ge_seq ?_
      refine gk_seq (by kernel_rfl) ?_
      refine gk_region (by kernel_rfl) ?_
      refine gl_pure 1 [0, 21] (K' := [(0, .string a0), (21, .string a0)]) (by kernel_rfl) ?_
      obtain ⟨y21, hx22, hr⟩ := bind_some hr
      refine gl_callQ (by kernel_rfl) (lex_run_walk (r := y21) lex_digit_impl46 hx22 _) ?_
      refine gl_pure 1 [0, 4] (K' := [(0, .string a0), (4, .int .i64 y21)]) (by kernel_rfl) ?_
      refine gl_atE (by kernel_rfl) ?_
      refine ge_seq ?_
      refine gk_seq (by kernel_rfl) ?_
      refine gk_region (by kernel_rfl) ?_
      refine gl_pure 2 [0, 4, 5] (K' := [(0, .string a0), (4, .int .i64 y21), (5, .int .i64 y21)]) (by kernel_rfl) ?_
      refine gl_atE (by kernel_rfl) ?_
      refine ge_seq ?_
      refine gk_seq (by kernel_rfl) ?_
      refine gk_seq (by kernel_rfl) ?_
      obtain ⟨j23, hj24, hr⟩ := bind_some hr
      refine gk_join (fun t I' L' => I16 ≤ I' ∧ L = L' ∧ Knows 93 [(0, .string a0), (4, .int .i64 y21), (5, .int .i64 y21), (33, .bool j23)] t) ?_ ?_
      · refine gk_region (by kernel_rfl) ?_
        refine gl_pure 5 [0, 4, 5, 28] (K' := [(0, .string a0), (4, .int .i64 y21), (5, .int .i64 y21), (28, .bool (decide (y21 < (a0.size : Int))))]) (by kernel_rfl) ?_
        refine gl_case 28 (b := (decide (y21 < (a0.size : Int)))) (by kernel_rfl) (fun hc28 => ?_) (fun hc28 => ?_)
        · have hj24 := cond_t hc28 hj24
          refine gl_pure 2 [0, 4, 5, 28, 29, 30] (K' := [(0, .string a0), (4, .int .i64 y21), (5, .int .i64 y21), (28, .bool true), (29, .string a0), (30, .int .i64 y21)]) (by kernel_rfl) ?_
          obtain ⟨c29, hx30, hj24⟩ := bind_some hj24
          refine gl_index' (T' := 9) (xs := (.tmp 29)) (xi := (.tmp 30)) (kd := .i64) hx30 (by kernel_rfl) (by kernel_rfl) (by kernel_rfl) (by kernel_rfl) (by kernel_rfl) ?_
          refine gl_pure 2 [0, 4, 5, 33] (K' := [(0, .string a0), (4, .int .i64 y21), (5, .int .i64 y21), (33, .bool (c29 == 46))]) (by kernel_rfl) ?_
          refine gl_atE (by kernel_rfl) ?_
          obtain rfl := some_inj hj24
          exact ge_mid fun t ht => ⟨(Imm.refl _), rfl, ht.pick (l := [0, 4, 5, 33]) (by kernel_rfl)⟩
        · have hj24 := cond_f hc28 hj24
          refine gl_pure 5 [0, 4, 5, 33] (K' := [(0, .string a0), (4, .int .i64 y21), (5, .int .i64 y21), (33, .bool false)]) (by kernel_rfl) ?_
          refine gl_atE (by kernel_rfl) ?_
          obtain rfl := some_inj hj24
          exact ge_mid fun t ht => ⟨(Imm.refl _), rfl, ht.pick (l := [0, 4, 5, 33]) (by kernel_rfl)⟩
      · rintro t I27 L' ⟨hI25, rfl, hK26⟩
        refine ge_at hK26 ?_
        refine ge_seq ?_
        obtain ⟨j31, hj32, hr⟩ := bind_some hr
        refine gk_join (fun t I' L' => ∃ j33, j31 = Sum.inl j33 ∧ I27 ≤ I' ∧ L = L' ∧ Knows 93 [(0, .string a0), (5, .int .i64 j33)] t) ?_ ?_
        · refine gk_cond (b := j23) (by kernel_rfl) (by kernel_rfl) (fun hc37 => ?_) (fun hc37 => ?_)
          · have hj32 := cond_t hc37 hj32
            refine gk_seq (by kernel_rfl) ?_
            refine gk_region (by kernel_rfl) ?_
            refine gl_pure 3 [0, 4, 5, 34, 36] (K' := [(0, .string a0), (4, .int .i64 y21), (5, .int .i64 y21), (34, .string a0), (36, .int .i64 (IntKind.wrap .i64 (y21 + 1)))]) (by kernel_rfl) ?_
            obtain ⟨y38, hx39, hj32⟩ := bind_some hj32
            refine gl_callQ (by kernel_rfl) (lex_run_walk (r := y38) lex_digit_impl46 hx39 _) ?_
            refine gl_pure 1 [0, 4, 5, 6] (K' := [(0, .string a0), (4, .int .i64 y21), (5, .int .i64 y21), (6, .int .i64 y38)]) (by kernel_rfl) ?_
            refine gl_atE (by kernel_rfl) ?_
            refine ge_seq ?_
            refine gk_seq (by kernel_rfl) ?_
            refine gk_seq (by kernel_rfl) ?_
            refine gk_region (by kernel_rfl) ?_
            refine gl_pure 4 [0, 5, 6, 41] (K' := [(0, .string a0), (5, .int .i64 y21), (6, .int .i64 y38), (41, .bool ((IntKind.wrap .i64 (y21 + y38)) == 0))]) (by kernel_rfl) ?_
            refine gl_atE (by kernel_rfl) ?_
            refine ge_seq ?_
            refine gk_cond (b := ((IntKind.wrap .i64 (y21 + y38)) == 0)) (by kernel_rfl) (by kernel_rfl) (fun hc40 => ?_) (fun hc40 => ?_)
            · have hj32 := cond_t hc40 hj32
              refine gk_seq (by kernel_rfl) ?_
              refine gk_region (by kernel_rfl) ?_
              refine gl_pure 1 [2] (K' := [(2, .int .i64 0)]) (by kernel_rfl) ?_
              refine gl_atE (by kernel_rfl) ?_
              refine ge_seq ?_
              refine gk_ret (by kernel_rfl) ?_
              refine ge_seq_ret ?_
              refine ge_seq_ret ?_
              obtain rfl := some_inj hj32
              refine ge_seq_ret ?_
              obtain rfl := some_inj hr
              exact ge_result trivial (ResOk.tmp (by kernel_rfl) ResOk.nil) (Imm.trans (Imm.trans hI3 hI14) hI25) ⟨rfl, rfl⟩
            · have hj32 := cond_f hc40 hj32
              refine gk_skip (by kernel_rfl) ?_
              refine ge_seq ?_
              refine gk_region (by kernel_rfl) ?_
              refine gl_pure 5 [0, 5] (K' := [(0, .string a0), (5, .int .i64 (IntKind.wrap .i64 (y21 + (IntKind.wrap .i64 (1 + y38)))))]) (by kernel_rfl) ?_
              refine gl_atE (by kernel_rfl) ?_
              obtain rfl := some_inj hj32
              exact ge_mid fun t ht => ⟨_, rfl, (Imm.refl _), rfl, ht.pick (l := [0, 5]) (by kernel_rfl)⟩
          · have hj32 := cond_f hc37 hj32
            refine gk_skip (by kernel_rfl) ?_
            obtain rfl := some_inj hj32
            exact ge_mid fun t ht => ⟨_, rfl, (Imm.refl _), rfl, ht.pick (l := [0, 5]) (by kernel_rfl)⟩
        · rintro t I36 L' ⟨j33, rfl, hI34, rfl, hK35⟩
          refine ge_at hK35 ?_
          refine ge_seq ?_
          refine gk_seq (by kernel_rfl) ?_
          refine gk_seq (by kernel_rfl) ?_
          refine gk_region (by kernel_rfl) ?_
          refine gl_pure 2 [0, 5, 47] (K' := [(0, .string a0), (5, .int .i64 j33), (47, .bool (j33 == 0))]) (by kernel_rfl) ?_
          refine gl_atE (by kernel_rfl) ?_
          refine ge_seq ?_
          refine gk_cond (b := (j33 == 0)) (by kernel_rfl) (by kernel_rfl) (fun hc41 => ?_) (fun hc41 => ?_)
          · have hr := cond_t hc41 hr
            refine gk_seq (by kernel_rfl) ?_
            refine gk_region (by kernel_rfl) ?_
            refine gl_pure 1 [2] (K' := [(2, .int .i64 0)]) (by kernel_rfl) ?_
            refine gl_atE (by kernel_rfl) ?_
            refine ge_seq ?_
            refine gk_ret (by kernel_rfl) ?_
            refine ge_seq_ret ?_
            obtain rfl := some_inj hr
            exact ge_result trivial (ResOk.tmp (by kernel_rfl) ResOk.nil) (Imm.trans (Imm.trans (Imm.trans hI3 hI14) hI25) hI34) ⟨rfl, rfl⟩
          · have hr := cond_f hc41 hr
            refine gk_skip (by kernel_rfl) ?_
            refine ge_seq ?_
            refine gk_seq (by kernel_rfl) ?_
            refine gk_seq (by kernel_rfl) ?_
            obtain ⟨j42, hj43, hr⟩ := bind_some hr
            refine gk_join (fun t I' L' => I36 ≤ I' ∧ L = L' ∧ Knows 93 [(0, .string a0), (5, .int .i64 j33), (63, .bool j42)] t) ?_ ?_
            · refine gk_region (by kernel_rfl) ?_
              refine gl_pure 5 [0, 5, 52] (K' := [(0, .string a0), (5, .int .i64 j33), (52, .bool (decide (j33 < (a0.size : Int))))]) (by kernel_rfl) ?_
              refine gl_case 52 (b := (decide (j33 < (a0.size : Int)))) (by kernel_rfl) (fun hc47 => ?_) (fun hc47 => ?_)
              · have hj43 := cond_t hc47 hj43
                refine gl_pure 2 [0, 5, 52, 53, 54] (K' := [(0, .string a0), (5, .int .i64 j33), (52, .bool true), (53, .string a0), (54, .int .i64 j33)]) (by kernel_rfl) ?_
                obtain ⟨c48, hx49, hj43⟩ := bind_some hj43
                refine gl_index' (T' := 9) (xs := (.tmp 53)) (xi := (.tmp 54)) (kd := .i64) hx49 (by kernel_rfl) (by kernel_rfl) (by kernel_rfl) (by kernel_rfl) (by kernel_rfl) ?_
                refine gl_pure 2 [0, 5, 52, 57] (K' := [(0, .string a0), (5, .int .i64 j33), (52, .bool true), (57, .bool (c48 == 101))]) (by kernel_rfl) ?_
                refine gl_case 57 (b := (c48 == 101)) (by kernel_rfl) (fun hc50 => ?_) (fun hc50 => ?_)
                · have hj43 := cond_t hc50 hj43
                  refine gl_pure 6 [0, 5, 63] (K' := [(0, .string a0), (5, .int .i64 j33), (63, .bool true)]) (by kernel_rfl) ?_
                  refine gl_atE (by kernel_rfl) ?_
                  obtain rfl := some_inj hj43
                  exact ge_mid fun t ht => ⟨(Imm.refl _), rfl, ht.pick (l := [0, 5, 63]) (by kernel_rfl)⟩
                · have hj43 := cond_f hc50 hj43
                  refine gl_pure 2 [0, 5, 52, 57, 58, 59] (K' := [(0, .string a0), (5, .int .i64 j33), (52, .bool true), (57, .bool false), (58, .string a0), (59, .int .i64 j33)]) (by kernel_rfl) ?_
                  obtain ⟨c51, hx52, hj43⟩ := bind_some hj43
                  refine gl_index' (T' := 9) (xs := (.tmp 58)) (xi := (.tmp 59)) (kd := .i64) hx52 (by kernel_rfl) (by kernel_rfl) (by kernel_rfl) (by kernel_rfl) (by kernel_rfl) ?_
                  refine gl_pure 3 [0, 5, 63] (K' := [(0, .string a0), (5, .int .i64 j33), (63, .bool (c51 == 69))]) (by kernel_rfl) ?_
                  refine gl_atE (by kernel_rfl) ?_
                  obtain rfl := some_inj hj43
                  exact ge_mid fun t ht => ⟨(Imm.refl _), rfl, ht.pick (l := [0, 5, 63]) (by kernel_rfl)⟩
              · have hj43 := cond_f hc47 hj43
                refine gl_pure 11 [0, 5, 63] (K' := [(0, .string a0), (5, .int .i64 j33), (63, .bool false)]) (by kernel_rfl) ?_
                refine gl_atE (by kernel_rfl) ?_
                obtain rfl := some_inj hj43
                exact ge_mid fun t ht => ⟨(Imm.refl _), rfl, ht.pick (l := [0, 5, 63]) (by kernel_rfl)⟩
            · rintro t I46 L' ⟨hI44, rfl, hK45⟩
              refine ge_at hK45 ?_
              refine ge_seq ?_
              obtain ⟨j53, hj54, hr⟩ := bind_some hr
              refine gk_join (fun t I' L' => I46 ≤ I' ∧ L = L' ∧ Knows 93 [(5, .int .i64 j53)] t) ?_ ?_
              · refine gk_cond (b := j42) (by kernel_rfl) (by kernel_rfl) (fun hc58 => ?_) (fun hc58 => ?_)
                · have hj54 := cond_t hc58 hj54
                  refine gk_seq (by kernel_rfl) ?_
                  refine gk_region (by kernel_rfl) ?_
                  refine gl_pure 3 [0, 5, 7] (K' := [(0, .string a0), (5, .int .i64 j33), (7, .int .i64 (IntKind.wrap .i64 (j33 + 1)))]) (by kernel_rfl) ?_
                  refine gl_atE (by kernel_rfl) ?_
                  refine ge_seq ?_
                  refine gk_seq (by kernel_rfl) ?_
                  refine gk_seq (by kernel_rfl) ?_
                  obtain ⟨j59, hj60, hj54⟩ := bind_some hj54
                  refine gk_join (fun t I' L' => I46 ≤ I' ∧ L = L' ∧ Knows 93 [(0, .string a0), (5, .int .i64 j33), (7, .int .i64 (IntKind.wrap .i64 (j33 + 1))), (81, .bool j59)] t) ?_ ?_
                  · refine gk_region (by kernel_rfl) ?_
                    refine gl_pure 5 [0, 5, 7, 70] (K' := [(0, .string a0), (5, .int .i64 j33), (7, .int .i64 (IntKind.wrap .i64 (j33 + 1))), (70, .bool (decide ((IntKind.wrap .i64 (j33 + 1)) < (a0.size : Int))))]) (by kernel_rfl) ?_
                    refine gl_case 70 (b := (decide ((IntKind.wrap .i64 (j33 + 1)) < (a0.size : Int)))) (by kernel_rfl) (fun hc64 => ?_) (fun hc64 => ?_)
                    · have hj60 := cond_t hc64 hj60
                      refine gl_pure 2 [0, 5, 7, 70, 71, 72] (K' := [(0, .string a0), (5, .int .i64 j33), (7, .int .i64 (IntKind.wrap .i64 (j33 + 1))), (70, .bool true), (71, .string a0), (72, .int .i64 (IntKind.wrap .i64 (j33 + 1)))]) (by kernel_rfl) ?_
                      obtain ⟨c65, hx66, hj60⟩ := bind_some hj60
                      refine gl_index' (T' := 9) (xs := (.tmp 71)) (xi := (.tmp 72)) (kd := .i64) hx66 (by kernel_rfl) (by kernel_rfl) (by kernel_rfl) (by kernel_rfl) (by kernel_rfl) ?_
                      refine gl_pure 2 [0, 5, 7, 70, 75] (K' := [(0, .string a0), (5, .int .i64 j33), (7, .int .i64 (IntKind.wrap .i64 (j33 + 1))), (70, .bool true), (75, .bool (c65 == 43))]) (by kernel_rfl) ?_
                      refine gl_case 75 (b := (c65 == 43)) (by kernel_rfl) (fun hc67 => ?_) (fun hc67 => ?_)
                      · have hj60 := cond_t hc67 hj60
                        refine gl_pure 6 [0, 5, 7, 81] (K' := [(0, .string a0), (5, .int .i64 j33), (7, .int .i64 (IntKind.wrap .i64 (j33 + 1))), (81, .bool true)]) (by kernel_rfl) ?_
                        refine gl_atE (by kernel_rfl) ?_
                        obtain rfl := some_inj hj60
                        exact ge_mid fun t ht => ⟨(Imm.refl _), rfl, ht.pick (l := [0, 5, 7, 81]) (by kernel_rfl)⟩
                      · have hj60 := cond_f hc67 hj60
                        refine gl_pure 2 [0, 5, 7, 70, 75, 76, 77] (K' := [(0, .string a0), (5, .int .i64 j33), (7, .int .i64 (IntKind.wrap .i64 (j33 + 1))), (70, .bool true), (75, .bool false), (76, .string a0), (77, .int .i64 (IntKind.wrap .i64 (j33 + 1)))]) (by kernel_rfl) ?_
                        obtain ⟨c68, hx69, hj60⟩ := bind_some hj60
                        refine gl_index' (T' := 9) (xs := (.tmp 76)) (xi := (.tmp 77)) (kd := .i64) hx69 (by kernel_rfl) (by kernel_rfl) (by kernel_rfl) (by kernel_rfl) (by kernel_rfl) ?_
                        refine gl_pure 3 [0, 5, 7, 81] (K' := [(0, .string a0), (5, .int .i64 j33), (7, .int .i64 (IntKind.wrap .i64 (j33 + 1))), (81, .bool (c68 == 45))]) (by kernel_rfl) ?_
                        refine gl_atE (by kernel_rfl) ?_
                        obtain rfl := some_inj hj60
                        exact ge_mid fun t ht => ⟨(Imm.refl _), rfl, ht.pick (l := [0, 5, 7, 81]) (by kernel_rfl)⟩
                    · have hj60 := cond_f hc64 hj60
                      refine gl_pure 11 [0, 5, 7, 81] (K' := [(0, .string a0), (5, .int .i64 j33), (7, .int .i64 (IntKind.wrap .i64 (j33 + 1))), (81, .bool false)]) (by kernel_rfl) ?_
                      refine gl_atE (by kernel_rfl) ?_
                      obtain rfl := some_inj hj60
                      exact ge_mid fun t ht => ⟨(Imm.refl _), rfl, ht.pick (l := [0, 5, 7, 81]) (by kernel_rfl)⟩
                  · rintro t I63 L' ⟨hI61, rfl, hK62⟩
                    refine ge_at hK62 ?_
                    refine ge_seq ?_
                    obtain ⟨j70, hj71, hj54⟩ := bind_some hj54
                    refine gk_join (fun t I' L' => I63 ≤ I' ∧ L = L' ∧ Knows 93 [(0, .string a0), (5, .int .i64 j33), (7, .int .i64 j70)] t) ?_ ?_
                    · refine gk_cond (b := j59) (by kernel_rfl) (by kernel_rfl) (fun hc75 => ?_) (fun hc75 => ?_)
                      · have hj71 := cond_t hc75 hj71
                        refine gk_region (by kernel_rfl) ?_
                        refine gl_pure 3 [0, 5, 7] (K' := [(0, .string a0), (5, .int .i64 j33), (7, .int .i64 (IntKind.wrap .i64 ((IntKind.wrap .i64 (j33 + 1)) + 1)))]) (by kernel_rfl) ?_
                        refine gl_atE (by kernel_rfl) ?_
                        obtain rfl := some_inj hj71
                        exact ge_mid fun t ht => ⟨(Imm.refl _), rfl, ht.pick (l := [0, 5, 7]) (by kernel_rfl)⟩
                      · have hj71 := cond_f hc75 hj71
                        refine gk_skip (by kernel_rfl) ?_
                        obtain rfl := some_inj hj71
                        exact ge_mid fun t ht => ⟨(Imm.refl _), rfl, ht.pick (l := [0, 5, 7]) (by kernel_rfl)⟩
                    · rintro t I74 L' ⟨hI72, rfl, hK73⟩
                      refine ge_at hK73 ?_
                      refine ge_seq ?_
                      refine gk_seq (by kernel_rfl) ?_
                      refine gk_region (by kernel_rfl) ?_
                      refine gl_pure 2 [5, 7, 84, 85] (K' := [(5, .int .i64 j33), (7, .int .i64 j70), (84, .string a0), (85, .int .i64 j70)]) (by kernel_rfl) ?_
                      obtain ⟨y76, hx77, hj54⟩ := bind_some hj54
                      refine gl_callQ (by kernel_rfl) (lex_run_walk (r := y76) lex_digit_impl46 hx77 _) ?_
                      refine gl_pure 1 [5, 7, 8] (K' := [(5, .int .i64 j33), (7, .int .i64 j70), (8, .int .i64 y76)]) (by kernel_rfl) ?_
                      refine gl_atE (by kernel_rfl) ?_
                      refine ge_seq ?_
                      refine gk_seq (by kernel_rfl) ?_
                      refine gk_region (by kernel_rfl) ?_
                      refine gl_pure 2 [5, 7, 8, 88] (K' := [(5, .int .i64 j33), (7, .int .i64 j70), (8, .int .i64 y76), (88, .bool (decide (y76 > 0)))]) (by kernel_rfl) ?_
                      refine gl_atE (by kernel_rfl) ?_
                      refine ge_seq ?_
                      obtain ⟨j78, hj79, hj54⟩ := bind_some hj54
                      refine gk_join (fun t I' L' => I74 ≤ I' ∧ L = L' ∧ Knows 93 [(5, .int .i64 j78)] t) ?_ ?_
                      · refine gk_cond (b := (decide (y76 > 0))) (by kernel_rfl) (by kernel_rfl) (fun hc83 => ?_) (fun hc83 => ?_)
                        · have hj79 := cond_t hc83 hj79
                          refine gk_region (by kernel_rfl) ?_
                          refine gl_pure 4 [5] (K' := [(5, .int .i64 (IntKind.wrap .i64 (j70 + y76)))]) (by kernel_rfl) ?_
                          refine gl_atE (by kernel_rfl) ?_
                          obtain rfl := some_inj hj79
                          exact ge_mid fun t ht => ⟨(Imm.refl _), rfl, ht.pick (l := [5]) (by kernel_rfl)⟩
                        · have hj79 := cond_f hc83 hj79
                          refine gk_skip (by kernel_rfl) ?_
                          obtain rfl := some_inj hj79
                          exact ge_mid fun t ht => ⟨(Imm.refl _), rfl, ht.pick (l := [5]) (by kernel_rfl)⟩
                      · rintro t I82 L' ⟨hI80, rfl, hK81⟩
                        refine ge_at hK81 ?_
                        obtain rfl := some_inj hj54
                        exact ge_mid fun t ht => ⟨(Imm.trans (Imm.trans hI61 hI72) hI80), rfl, ht.pick (l := [5]) (by kernel_rfl)⟩
                · have hj54 := cond_f hc58 hj54
                  refine gk_skip (by kernel_rfl) ?_
                  obtain rfl := some_inj hj54
                  exact ge_mid fun t ht => ⟨(Imm.refl _), rfl, ht.pick (l := [5]) (by kernel_rfl)⟩
              · rintro t I57 L' ⟨hI55, rfl, hK56⟩
                refine ge_at hK56 ?_
                refine ge_seq ?_
                refine gk_seq (by kernel_rfl) ?_
                refine gk_region (by kernel_rfl) ?_
                refine gl_pure 2 [2] (K' := [(2, .int .i64 j53)]) (by kernel_rfl) ?_
                refine gl_atE (by kernel_rfl) ?_
                refine ge_seq ?_
                refine gk_ret (by kernel_rfl) ?_
                obtain rfl := some_inj hr
                exact ge_result trivial (ResOk.tmp (by kernel_rfl) ResOk.nil) (Imm.trans (Imm.trans (Imm.trans (Imm.trans (Imm.trans hI3 hI14) hI25) hI34) hI44) hI55) ⟨rfl, rfl⟩
/-! 52 lex_span_1  -/
noncomputable def lex_span_1 (a0 : Int) : Bool :=
  ((decide (a0 ≥ 97)) && (decide (a0 ≤ 122)))
theorem lex_span_1_walk {a0 : Int} {I : Imm} {r : Bool}  (hr : lex_span_1 a0 = r) (L : Own) :
    CallsTo Tryd.prog 52 #[.int .u8 a0] I L (fun v I' L' => v = .bool r ∧ L = L') := by
  replace hr : some (lex_span_1 a0) = some r := congrArg some hr
  unfold lex_span_1 at hr
  refine callsTo_body (N := 9) Tryd.func52 (by kernel_rfl) (by kernel_rfl) (by kernel_rfl) ?_
  refine gk_pick [0] (K' := [(0, .int .u8 a0)]) (by kernel_rfl) ?_
  refine gk_seq (by kernel_rfl) ?_
  refine gk_region (by kernel_rfl) ?_
  refine gl_pure 1 [0] (K' := [(0, .int .u8 a0)]) (by kernel_rfl) ?_
  refine gl_atE (by kernel_rfl) ?_
  refine ge_seq ?_
  refine gk_seq (by kernel_rfl) ?_
  obtain ⟨b3, hb4⟩ : ∃ z, z = ((decide (a0 ≥ 97)) && (decide (a0 ≤ 122))) := ⟨_, rfl⟩
  refine gk_join (fun t I' L' => I ≤ I' ∧ L = L' ∧ Knows 9 [(2, .bool b3)] t) ?_ ?_
  · refine gk_region (by kernel_rfl) ?_
    refine gl_pure 3 [0, 5] (K' := [(0, .int .u8 a0), (5, .bool (decide (a0 ≥ 97)))]) (by kernel_rfl) ?_
    refine gl_case 5 (b := (decide (a0 ≥ 97))) (by kernel_rfl) (fun hc6 => ?_) (fun hc6 => ?_)
    · refine gl_pure 4 [2] (K' := [(2, .bool (decide (a0 ≤ 122)))]) (by kernel_rfl) ?_
      refine gl_atE (by kernel_rfl) ?_
      exact ge_mid fun t ht => ⟨(Imm.refl _), rfl, by rw [(show b3 = (decide (a0 ≤ 122)) from hb4.trans (by rw [hc6]; try rfl))]; exact ht.pick (l := [2]) (by kernel_rfl)⟩
    · refine gl_pure 4 [2] (K' := [(2, .bool false)]) (by kernel_rfl) ?_
      refine gl_atE (by kernel_rfl) ?_
      exact ge_mid fun t ht => ⟨(Imm.refl _), rfl, by rw [(show b3 = false from hb4.trans (by rw [hc6]; try rfl))]; exact ht.pick (l := [2]) (by kernel_rfl)⟩
  · rintro t I5 L' ⟨hI1, rfl, hK2⟩
    subst hb4
    refine ge_at hK2 ?_
    refine ge_seq ?_
    refine gk_ret (by kernel_rfl) ?_
    obtain rfl := some_inj hr
    exact ge_result trivial (ResOk.tmp (by kernel_rfl) ResOk.nil) hI1 ⟨rfl, rfl⟩
structure S62 where
  f0 : ByteArray
  f1 : Int
def kS62 : Kd S62 := Kd.iso (Kd.pair Kd.str (Kd.int .i64)) (fun x => (x.f0, x.f1))
theorem kS62_open {I : Imm} {x : S62} {cs : List Value} (h : kS62.R I x cs) : cs = [.string x.f0, .int .i64 x.f1] := by
  obtain ⟨_, _, rfl, h_0, h_1⟩ := h
  obtain rfl := h_0
  obtain rfl := h_1
  exact rfl
theorem kS62_mk {I : Imm} {x : S62}   : kS62.R I x [.string x.f0, .int .i64 x.f1] :=
  ⟨[.string x.f0], [.int .i64 x.f1], rfl, rfl, rfl⟩
/-! 32 lex_units  -/
noncomputable def lex_units : (List S62) :=
  [(⟨(⟨#[121]⟩ : ByteArray), 31536000000⟩ : S62), (⟨(⟨#[119]⟩ : ByteArray), 604800000⟩ : S62), (⟨(⟨#[100]⟩ : ByteArray), 86400000⟩ : S62), (⟨(⟨#[104]⟩ : ByteArray), 3600000⟩ : S62), (⟨(⟨#[109]⟩ : ByteArray), 60000⟩ : S62), (⟨(⟨#[115]⟩ : ByteArray), 1000⟩ : S62), (⟨(⟨#[109, 115]⟩ : ByteArray), 1⟩ : S62)]
theorem lex_units_walk  {I : Imm} {r : (List S62)}  (hr : lex_units = r) (L : Own) :
    CallsTo Tryd.prog 32 #[] I L (fun v I' L' => ∃ A0 c0 C0, OwnS kS62 63 I' A0 c0 r C0 ∧ v = .slice A0 r.length c0 ∧ C0 ++ L = L') := by
  replace hr : some (lex_units) = some r := congrArg some hr
  unfold lex_units at hr
  refine callsTo_body (N := 9) Tryd.func32 (by kernel_rfl) (by kernel_rfl) (by kernel_rfl) ?_
  refine gk_pick [] (K' := []) (by kernel_rfl) ?_
  refine gk_seq (by kernel_rfl) ?_
  refine gk_region (by kernel_rfl) ?_
  refine gl_pure 1 [] (K' := []) (by kernel_rfl) ?_
  refine gl_atE (by kernel_rfl) ?_
  refine ge_seq ?_
  refine gk_seq (by kernel_rfl) ?_
  refine gk_region (by kernel_rfl) ?_
  refine gl_pure 7 [1, 2, 3, 4, 5, 6, 7] (K' := [(1, .agg #[.string (⟨#[121]⟩ : ByteArray), .int .i64 31536000000]), (2, .agg #[.string (⟨#[119]⟩ : ByteArray), .int .i64 604800000]), (3, .agg #[.string (⟨#[100]⟩ : ByteArray), .int .i64 86400000]), (4, .agg #[.string (⟨#[104]⟩ : ByteArray), .int .i64 3600000]), (5, .agg #[.string (⟨#[109]⟩ : ByteArray), .int .i64 60000]), (6, .agg #[.string (⟨#[115]⟩ : ByteArray), .int .i64 1000]), (7, .agg #[.string (⟨#[109, 115]⟩ : ByteArray), .int .i64 1])]) (by kernel_rfl) ?_
  refine gl_buildSlice (T' := 60) (e := 63) (n := 2) (len := 7) (parts := #[(0, (.tmp 1)), (1, (.tmp 2)), (2, (.tmp 3)), (3, (.tmp 4)), (4, (.tmp 5)), (5, (.tmp 6)), (6, (.tmp 7))]) (l := [(0, .agg #[.string (⟨#[121]⟩ : ByteArray), .int .i64 31536000000]), (1, .agg #[.string (⟨#[119]⟩ : ByteArray), .int .i64 604800000]), (2, .agg #[.string (⟨#[100]⟩ : ByteArray), .int .i64 86400000]), (3, .agg #[.string (⟨#[104]⟩ : ByteArray), .int .i64 3600000]), (4, .agg #[.string (⟨#[109]⟩ : ByteArray), .int .i64 60000]), (5, .agg #[.string (⟨#[115]⟩ : ByteArray), .int .i64 1000]), (6, .agg #[.string (⟨#[109, 115]⟩ : ByteArray), .int .i64 1])]) (cs := #[.string (⟨#[121]⟩ : ByteArray), .int .i64 31536000000, .string (⟨#[119]⟩ : ByteArray), .int .i64 604800000, .string (⟨#[100]⟩ : ByteArray), .int .i64 86400000, .string (⟨#[104]⟩ : ByteArray), .int .i64 3600000, .string (⟨#[109]⟩ : ByteArray), .int .i64 60000, .string (⟨#[115]⟩ : ByteArray), .int .i64 1000, .string (⟨#[109, 115]⟩ : ByteArray), .int .i64 1]) (by kernel_rfl) (by kernel_rfl) (by kernel_rfl) (by kernel_rfl) (by kernel_rfl) (fun g1 => ?_)
  have hO2 : OwnS kS62 63 I (some ⟨g1, 0, none⟩) 7 [(⟨(⟨#[121]⟩ : ByteArray), 31536000000⟩ : S62), (⟨(⟨#[119]⟩ : ByteArray), 604800000⟩ : S62), (⟨(⟨#[100]⟩ : ByteArray), 86400000⟩ : S62), (⟨(⟨#[104]⟩ : ByteArray), 3600000⟩ : S62), (⟨(⟨#[109]⟩ : ByteArray), 60000⟩ : S62), (⟨(⟨#[115]⟩ : ByteArray), 1000⟩ : S62), (⟨(⟨#[109, 115]⟩ : ByteArray), 1⟩ : S62)] [(g1, .cells #[.string (⟨#[121]⟩ : ByteArray), .int .i64 31536000000, .string (⟨#[119]⟩ : ByteArray), .int .i64 604800000, .string (⟨#[100]⟩ : ByteArray), .int .i64 86400000, .string (⟨#[104]⟩ : ByteArray), .int .i64 3600000, .string (⟨#[109]⟩ : ByteArray), .int .i64 60000, .string (⟨#[115]⟩ : ByteArray), .int .i64 1000, .string (⟨#[109, 115]⟩ : ByteArray), .int .i64 1] 63)] := OwnS.lit (row_cons (l := [.string (⟨#[121]⟩ : ByteArray), .int .i64 31536000000]) (kS62_mk (x := (⟨(⟨#[121]⟩ : ByteArray), 31536000000⟩ : S62)) ) (row_cons (l := [.string (⟨#[119]⟩ : ByteArray), .int .i64 604800000]) (kS62_mk (x := (⟨(⟨#[119]⟩ : ByteArray), 604800000⟩ : S62)) ) (row_cons (l := [.string (⟨#[100]⟩ : ByteArray), .int .i64 86400000]) (kS62_mk (x := (⟨(⟨#[100]⟩ : ByteArray), 86400000⟩ : S62)) ) (row_cons (l := [.string (⟨#[104]⟩ : ByteArray), .int .i64 3600000]) (kS62_mk (x := (⟨(⟨#[104]⟩ : ByteArray), 3600000⟩ : S62)) ) (row_cons (l := [.string (⟨#[109]⟩ : ByteArray), .int .i64 60000]) (kS62_mk (x := (⟨(⟨#[109]⟩ : ByteArray), 60000⟩ : S62)) ) (row_cons (l := [.string (⟨#[115]⟩ : ByteArray), .int .i64 1000]) (kS62_mk (x := (⟨(⟨#[115]⟩ : ByteArray), 1000⟩ : S62)) ) (row_cons (l := [.string (⟨#[109, 115]⟩ : ByteArray), .int .i64 1]) (kS62_mk (x := (⟨(⟨#[109, 115]⟩ : ByteArray), 1⟩ : S62)) ) (row_nil _ _)))))))) rfl rfl rfl
  refine gl_reord (D := [(g1, .cells #[.string (⟨#[121]⟩ : ByteArray), .int .i64 31536000000, .string (⟨#[119]⟩ : ByteArray), .int .i64 604800000, .string (⟨#[100]⟩ : ByteArray), .int .i64 86400000, .string (⟨#[104]⟩ : ByteArray), .int .i64 3600000, .string (⟨#[109]⟩ : ByteArray), .int .i64 60000, .string (⟨#[115]⟩ : ByteArray), .int .i64 1000, .string (⟨#[109, 115]⟩ : ByteArray), .int .i64 1] 63)] ++ L) (Reord.refl _) ?_
  refine gl_pure 1 [0] (K' := [(0, .slice (some ⟨g1, 0, none⟩) [(⟨(⟨#[121]⟩ : ByteArray), 31536000000⟩ : S62), (⟨(⟨#[119]⟩ : ByteArray), 604800000⟩ : S62), (⟨(⟨#[100]⟩ : ByteArray), 86400000⟩ : S62), (⟨(⟨#[104]⟩ : ByteArray), 3600000⟩ : S62), (⟨(⟨#[109]⟩ : ByteArray), 60000⟩ : S62), (⟨(⟨#[115]⟩ : ByteArray), 1000⟩ : S62), (⟨(⟨#[109, 115]⟩ : ByteArray), 1⟩ : S62)].length 7)]) (by kernel_rfl) ?_
  refine gl_atE (by kernel_rfl) ?_
  refine ge_seq ?_
  refine gk_ret (by kernel_rfl) ?_
  obtain rfl := some_inj hr
  exact ge_result trivial (ResOk.tmp (by kernel_rfl) ResOk.nil) (Imm.refl _) ⟨(some ⟨g1, 0, none⟩), 7, [(g1, .cells #[.string (⟨#[121]⟩ : ByteArray), .int .i64 31536000000, .string (⟨#[119]⟩ : ByteArray), .int .i64 604800000, .string (⟨#[100]⟩ : ByteArray), .int .i64 86400000, .string (⟨#[104]⟩ : ByteArray), .int .i64 3600000, .string (⟨#[109]⟩ : ByteArray), .int .i64 60000, .string (⟨#[115]⟩ : ByteArray), .int .i64 1000, .string (⟨#[109, 115]⟩ : ByteArray), .int .i64 1] 63)], hO2, rfl, rfl⟩
/-! 53 lex_times  -/
noncomputable def lex_times_l16 (a0 : ByteArray) : (Int × Int) → Option ((Int × Int) ⊕ (Int)) := fun s7 =>
  bif (decide (s7.2 < (a0.size : Int))) then
  (Option.bind (bx a0 s7.2) fun (c19 : Int) =>
    some (Sum.inl ((if 1099511627777 < (IntKind.wrap .i64 ((IntKind.wrap .i64 (s7.1 * 10)) + (IntKind.wrap .i64 (IntKind.wrap .u8 (c19 - 48))))) then 1099511627777 else (IntKind.wrap .i64 ((IntKind.wrap .i64 (s7.1 * 10)) + (IntKind.wrap .i64 (IntKind.wrap .u8 (c19 - 48)))))), (IntKind.wrap .i64 (s7.2 + 1)))))
  else
  (some (Sum.inr s7.1))
noncomputable def lex_times (a0 : ByteArray) (a1 : Int) : Option Int :=
  Option.bind (loopO (lex_times_l16 a0) (0, 0)) fun (r5 : Int) =>
  Option.bind (quox .i64 1099511627776 a1) fun (q21 : Int) =>
  bif (decide (r5 > (IntKind.wrap .i64 (q21 + 1)))) then
  (some 1099511627777)
  else
  (some (if 1099511627777 < (IntKind.wrap .i64 (r5 * a1)) then 1099511627777 else (IntKind.wrap .i64 (r5 * a1))))
theorem lex_times_walk {a0 : ByteArray} {a1 : Int} {I : Imm} {r : Int}  (hr : lex_times a0 a1 = some r) (L : Own) :
    CallsTo Tryd.prog 53 #[.string a0, .int .i64 a1] I L (fun v I' L' => v = .int .i64 r ∧ L = L') := by
  unfold lex_times at hr
  refine callsTo_body (N := 31) Tryd.func53 (by kernel_rfl) (by kernel_rfl) (by kernel_rfl) ?_
  refine gk_pick [0, 1] (K' := [(0, .string a0), (1, .int .i64 a1)]) (by kernel_rfl) ?_
  refine gk_seq (by kernel_rfl) ?_
  refine gk_region (by kernel_rfl) ?_
  refine gl_pure 1 [0, 1] (K' := [(0, .string a0), (1, .int .i64 a1)]) (by kernel_rfl) ?_
  refine gl_atE (by kernel_rfl) ?_
  refine ge_seq ?_
  refine gk_seq (by kernel_rfl) ?_
  refine gk_region (by kernel_rfl) ?_
  refine gl_pure 1 [0, 1, 5] (K' := [(0, .string a0), (1, .int .i64 a1), (5, .int .i64 0)]) (by kernel_rfl) ?_
  refine gl_atE (by kernel_rfl) ?_
  refine ge_seq ?_
  refine gk_seq (by kernel_rfl) ?_
  refine gk_seq (by kernel_rfl) ?_
  refine gk_region (by kernel_rfl) ?_
  refine gl_pure 3 [0, 1, 5, 8, 9] (K' := [(0, .string a0), (1, .int .i64 a1), (5, .int .i64 0), (8, .int .i64 (a0.size : Int)), (9, .int .i64 0)]) (by kernel_rfl) ?_
  refine gl_atE (by kernel_rfl) ?_
  refine ge_seq ?_
  obtain ⟨r5, hl6, hr⟩ := bind_some hr
  refine gk_join (fun t I' L' => I ≤ I' ∧ L = L' ∧ Knows 31 [(1, .int .i64 a1), (5, .int .i64 r5)] t) ?_ ?_
  · refine gk_block (by kernel_rfl) ?_
    refine gk_pick [0, 1, 5, 8, 9] (K' := [(0, .string a0), (1, .int .i64 a1), (5, .int .i64 0), (8, .int .i64 (a0.size : Int)), (9, .int .i64 0)]) (by kernel_rfl) ?_
    intro t hK
    refine gc_loop (lex_times_l16 a0) (fun s7 t I' L' => I ≤ I' ∧ L = L' ∧ Knows 31 [(0, .string a0), (1, .int .i64 a1), (5, .int .i64 s7.1), (8, .int .i64 (a0.size : Int)), (9, .int .i64 s7.2)] t) (by kernel_rfl) ?_ hl6 ⟨(Imm.refl _), rfl, hK⟩
    rintro s7 o8 t I12 L' hb9 ⟨hI10, rfl, hK11⟩
    unfold lex_times_l16 at hb9
    refine gk_at hK11 ?_
    refine gk_seq (by kernel_rfl) ?_
    refine gk_region (by kernel_rfl) ?_
    refine gl_pure 1 [0, 1, 5, 8, 9, 10] (K' := [(0, .string a0), (1, .int .i64 a1), (5, .int .i64 s7.1), (8, .int .i64 (a0.size : Int)), (9, .int .i64 s7.2), (10, .bool (decide (s7.2 < (a0.size : Int))))]) (by kernel_rfl) ?_
    refine gl_atE (by kernel_rfl) ?_
    refine ge_seq ?_
    refine gk_seq (by kernel_rfl) ?_
    refine gk_cond (b := (decide (s7.2 < (a0.size : Int)))) (by kernel_rfl) (by kernel_rfl) (fun hc18 => ?_) (fun hc18 => ?_)
    · have hb9 := cond_t hc18 hb9
      refine gk_skip (by kernel_rfl) ?_
      refine ge_seq ?_
      refine gk_seq (by kernel_rfl) ?_
      refine gk_block (by kernel_rfl) ?_
      refine gk_seq (by kernel_rfl) ?_
      refine gk_region (by kernel_rfl) ?_
      refine gl_pure 2 [0, 1, 5, 6, 8, 9] (K' := [(0, .string a0), (1, .int .i64 a1), (5, .int .i64 s7.1), (6, .int .i64 s7.2), (8, .int .i64 (a0.size : Int)), (9, .int .i64 s7.2)]) (by kernel_rfl) ?_
      refine gl_atE (by kernel_rfl) ?_
      refine ge_seq ?_
      refine gk_region (by kernel_rfl) ?_
      refine gl_pure 4 [0, 1, 8, 9, 13, 14, 15] (K' := [(0, .string a0), (1, .int .i64 a1), (8, .int .i64 (a0.size : Int)), (9, .int .i64 s7.2), (13, .int .i64 (IntKind.wrap .i64 (s7.1 * 10))), (14, .string a0), (15, .int .i64 s7.2)]) (by kernel_rfl) ?_
      obtain ⟨c19, hx20, hb9⟩ := bind_some hb9
      refine gl_index' (T' := 9) (xs := (.tmp 14)) (xi := (.tmp 15)) (kd := .i64) hx20 (by kernel_rfl) (by kernel_rfl) (by kernel_rfl) (by kernel_rfl) (by kernel_rfl) ?_
      refine gl_pure 5 [0, 1, 5, 8, 9] (K' := [(0, .string a0), (1, .int .i64 a1), (5, .int .i64 (if 1099511627777 < (IntKind.wrap .i64 ((IntKind.wrap .i64 (s7.1 * 10)) + (IntKind.wrap .i64 (IntKind.wrap .u8 (c19 - 48))))) then 1099511627777 else (IntKind.wrap .i64 ((IntKind.wrap .i64 (s7.1 * 10)) + (IntKind.wrap .i64 (IntKind.wrap .u8 (c19 - 48))))))), (8, .int .i64 (a0.size : Int)), (9, .int .i64 s7.2)]) (by kernel_rfl) ?_
      refine gl_atE (by kernel_rfl) ?_
      refine ge_block_normal ?_
      refine ge_seq ?_
      refine gk_region (by kernel_rfl) ?_
      refine gl_pure 2 [0, 1, 5, 8, 9] (K' := [(0, .string a0), (1, .int .i64 a1), (5, .int .i64 (if 1099511627777 < (IntKind.wrap .i64 ((IntKind.wrap .i64 (s7.1 * 10)) + (IntKind.wrap .i64 (IntKind.wrap .u8 (c19 - 48))))) then 1099511627777 else (IntKind.wrap .i64 ((IntKind.wrap .i64 (s7.1 * 10)) + (IntKind.wrap .i64 (IntKind.wrap .u8 (c19 - 48))))))), (8, .int .i64 (a0.size : Int)), (9, .int .i64 (IntKind.wrap .i64 (s7.2 + 1)))]) (by kernel_rfl) ?_
      refine gl_atE (by kernel_rfl) ?_
      obtain rfl := some_inj hb9
      exact ge_round fun t ht => ⟨hI10, rfl, ht.pick (l := [0, 1, 5, 8, 9]) (by kernel_rfl)⟩
    · have hb9 := cond_f hc18 hb9
      refine gk_exit (by kernel_rfl) ?_
      refine ge_seq_exit ?_
      obtain rfl := some_inj hb9
      refine ge_round_out (fun hrr => ?_) (by intro h; cases h)
      obtain rfl := hrr
      refine ge_block_hit (by kernel_rfl) ?_
      exact ge_mid fun t ht => ⟨hI10, rfl, ht.pick (l := [1, 5]) (by kernel_rfl)⟩
  · rintro t I15 L' ⟨hI13, rfl, hK14⟩
    refine ge_at hK14 ?_
    refine ge_seq ?_
    refine gk_seq (by kernel_rfl) ?_
    refine gk_seq (by kernel_rfl) ?_
    refine gk_region (by kernel_rfl) ?_
    refine gl_pure 2 [1, 5, 22, 23] (K' := [(1, .int .i64 a1), (5, .int .i64 r5), (22, .int .i64 r5), (23, .int .i64 a1)]) (by kernel_rfl) ?_
    obtain ⟨q21, hx22, hr⟩ := bind_some hr
    refine gl_quo (t := 2) (t' := 2) (x := (.const (.int .i64 1099511627776))) (y := (.tmp 23)) (kx := .i64) hx22 (by kernel_rfl) (by kernel_rfl) (by kernel_rfl) (by kernel_rfl) ?_
    refine gl_pure 2 [1, 5, 26] (K' := [(1, .int .i64 a1), (5, .int .i64 r5), (26, .bool (decide (r5 > (IntKind.wrap .i64 (q21 + 1)))))]) (by kernel_rfl) ?_
    refine gl_atE (by kernel_rfl) ?_
    refine ge_seq ?_
    refine gk_cond (b := (decide (r5 > (IntKind.wrap .i64 (q21 + 1))))) (by kernel_rfl) (by kernel_rfl) (fun hc23 => ?_) (fun hc23 => ?_)
    · have hr := cond_t hc23 hr
      refine gk_seq (by kernel_rfl) ?_
      refine gk_region (by kernel_rfl) ?_
      refine gl_pure 1 [4] (K' := [(4, .int .i64 1099511627777)]) (by kernel_rfl) ?_
      refine gl_atE (by kernel_rfl) ?_
      refine ge_seq ?_
      refine gk_ret (by kernel_rfl) ?_
      refine ge_seq_ret ?_
      obtain rfl := some_inj hr
      exact ge_result trivial (ResOk.tmp (by kernel_rfl) ResOk.nil) hI13 ⟨rfl, rfl⟩
    · have hr := cond_f hc23 hr
      refine gk_skip (by kernel_rfl) ?_
      refine ge_seq ?_
      refine gk_seq (by kernel_rfl) ?_
      refine gk_region (by kernel_rfl) ?_
      refine gl_pure 5 [4] (K' := [(4, .int .i64 (if 1099511627777 < (IntKind.wrap .i64 (r5 * a1)) then 1099511627777 else (IntKind.wrap .i64 (r5 * a1))))]) (by kernel_rfl) ?_
      refine gl_atE (by kernel_rfl) ?_
      refine ge_seq ?_
      refine gk_ret (by kernel_rfl) ?_
      obtain rfl := some_inj hr
      exact ge_result trivial (ResOk.tmp (by kernel_rfl) ResOk.nil) hI13 ⟨rfl, rfl⟩
theorem lex_span_1_impl46  {I : Imm}  : Fn46 I (.func (.func 52) #[] #[]) (fun x0 => some (lex_span_1 x0)) := ⟨fun I' hI x0 r hr  L => ⟨52, #[], #[], rfl, ⟨_, Tryd.func52, by kernel_rfl, by kernel_rfl⟩, by
  simp only [List.append_toArray, List.nil_append, List.append_nil, Array.append_empty, Array.empty_append, List.push_append_toArray, List.cons_append]
  exact lex_span_1_walk    (some_inj hr) L⟩⟩
/-! 34 lex_span  -/
noncomputable def lex_span_l46 (a0 : ByteArray) (s7 : Int × Int × Int) (y18 : Int) (y21 : Int) : Int → Option ((Int) ⊕ ((Unit) ⊕ ((Int × Int × Int) ⊕ (Int × Int)))) := fun s36 =>
  bif (decide (s36 < (lex_units.length : Int))) then
  (Option.bind (ix lex_units s36) fun (x49 : S62) =>
    Option.bind (bif (decide (s36 ≥ s7.2.1)) then
      (Option.bind (sx a0 (IntKind.wrap .i64 (s7.1 + y18)) (IntKind.wrap .i64 (s7.1 + (IntKind.wrap .i64 (y18 + y21))))) fun (s66 : ByteArray) =>
        some (s66.toList == x49.f0.toList))
      else
      (some false)) fun (j59 : Bool) =>
    bif j59 then
    (Option.bind (sx a0 s7.1 (IntKind.wrap .i64 (s7.1 + y18))) fun (s69 : ByteArray) =>
      Option.bind (lex_times s69 x49.f1) fun (y70 : Int) =>
      some (Sum.inr (Sum.inr (Sum.inl ((IntKind.wrap .i64 (s7.1 + (IntKind.wrap .i64 (y18 + y21)))), (IntKind.wrap .i64 (s36 + 1)), (if 1099511627777 < (IntKind.wrap .i64 (s7.2.2 + y70)) then 1099511627777 else (IntKind.wrap .i64 (s7.2.2 + y70))))))))
    else
    (some (Sum.inl (IntKind.wrap .i64 (s36 + 1)))))
  else
  (some (Sum.inr (Sum.inl ())))
noncomputable def lex_span_l16 (a0 : ByteArray) : (Int × Int × Int) → Option ((Int × Int × Int) ⊕ (Int × Int)) := fun s7 =>
  Option.bind (lex_run a0 s7.1 (fun x0 => some (lex_digit x0))) fun (y18 : Int) =>
  bif (y18 == 0) then
  (some (Sum.inr (s7.1, s7.2.2)))
  else
  (Option.bind (lex_run a0 (IntKind.wrap .i64 (s7.1 + y18)) (fun x0 => some (lex_span_1 x0))) fun (y21 : Int) =>
    Option.bind (loopO (lex_span_l46 a0 s7 y18 y21) 0) fun (r34 : (Unit) ⊕ ((Int × Int × Int) ⊕ (Int × Int))) =>
    match r34 with
    | Sum.inl r42 => some (Sum.inr (s7.1, s7.2.2))
    | Sum.inr v72 => some v72)
noncomputable def lex_span (a0 : ByteArray) : Option (Int × Int) :=
  Option.bind (loopO (lex_span_l16 a0) (0, 0, 0)) fun (r5 : Int × Int) =>
  some (r5.1, r5.2)
theorem lex_span_walk {a0 : ByteArray} {I : Imm} {r : Int × Int}  (hr : lex_span a0 = some r) (L : Own) :
    CallsTo Tryd.prog 34 #[.string a0] I L (fun v I' L' => v = .tuple #[.int .i64 r.1, .int .i64 r.2] ∧ L = L') := by
  unfold lex_span at hr
  refine callsTo_body (N := 66) Tryd.func34 (by kernel_rfl) (by kernel_rfl) (by kernel_rfl) ?_
  refine gk_pick [0] (K' := [(0, .string a0)]) (by kernel_rfl) ?_
  refine gk_seq (by kernel_rfl) ?_
  refine gk_region (by kernel_rfl) ?_
  refine gl_pure 2 [0] (K' := [(0, .string a0)]) (by kernel_rfl) ?_
  refine gl_atE (by kernel_rfl) ?_
  refine ge_seq ?_
  refine gk_scope (by kernel_rfl) ?_
  refine gk_seq (by kernel_rfl) ?_
  refine gk_region (by kernel_rfl) ?_
  refine gl_pure 3 [0, 4, 5, 6] (K' := [(0, .string a0), (4, .int .i64 0), (5, .int .i64 0), (6, .int .i64 0)]) (by kernel_rfl) ?_
  refine gl_atE (by kernel_rfl) ?_
  refine ge_seq ?_
  refine gk_seq (by kernel_rfl) ?_
  refine gk_label (by kernel_rfl) ?_
  refine ge_seq ?_
  refine gk_seq (by kernel_rfl) ?_
  obtain ⟨r5, hl6, hr⟩ := bind_some hr
  refine gk_join (fun t I' L' => I ≤ I' ∧ L = L' ∧ Knows 66 [(4, .int .i64 r5.1), (6, .int .i64 r5.2)] t) ?_ ?_
  · refine gk_block (by kernel_rfl) ?_
    refine gk_pick [0, 4, 5, 6] (K' := [(0, .string a0), (4, .int .i64 0), (5, .int .i64 0), (6, .int .i64 0)]) (by kernel_rfl) ?_
    intro t hK
    refine gc_loop (lex_span_l16 a0) (fun s7 t I' L' => I ≤ I' ∧ L = L' ∧ Knows 66 [(0, .string a0), (4, .int .i64 s7.1), (5, .int .i64 s7.2.1), (6, .int .i64 s7.2.2)] t) (by kernel_rfl) ?_ hl6 ⟨(Imm.refl _), rfl, hK⟩
    rintro s7 o8 t I12 L' hb9 ⟨hI10, rfl, hK11⟩
    unfold lex_span_l16 at hb9
    refine gk_at hK11 ?_
    refine gk_block (by kernel_rfl) ?_
    refine gk_seq (by kernel_rfl) ?_
    refine gk_region (by kernel_rfl) ?_
    refine gl_pure 2 [0, 4, 5, 6, 11, 12] (K' := [(0, .string a0), (4, .int .i64 s7.1), (5, .int .i64 s7.2.1), (6, .int .i64 s7.2.2), (11, .string a0), (12, .int .i64 s7.1)]) (by kernel_rfl) ?_
    obtain ⟨y18, hx19, hb9⟩ := bind_some hb9
    refine gl_callQ (by kernel_rfl) (lex_run_walk (r := y18) lex_digit_impl46 hx19 _) ?_
    refine gl_pure 1 [0, 4, 5, 6, 7] (K' := [(0, .string a0), (4, .int .i64 s7.1), (5, .int .i64 s7.2.1), (6, .int .i64 s7.2.2), (7, .int .i64 y18)]) (by kernel_rfl) ?_
    refine gl_atE (by kernel_rfl) ?_
    refine ge_seq ?_
    refine gk_seq (by kernel_rfl) ?_
    refine gk_seq (by kernel_rfl) ?_
    refine gk_region (by kernel_rfl) ?_
    refine gl_pure 2 [0, 4, 5, 6, 7, 15] (K' := [(0, .string a0), (4, .int .i64 s7.1), (5, .int .i64 s7.2.1), (6, .int .i64 s7.2.2), (7, .int .i64 y18), (15, .bool (y18 == 0))]) (by kernel_rfl) ?_
    refine gl_atE (by kernel_rfl) ?_
    refine ge_seq ?_
    refine gk_cond (b := (y18 == 0)) (by kernel_rfl) (by kernel_rfl) (fun hc20 => ?_) (fun hc20 => ?_)
    · have hb9 := cond_t hc20 hb9
      refine gk_exit (by kernel_rfl) ?_
      refine ge_seq_exit ?_
      refine ge_block_miss (by kernel_rfl) ?_
      obtain rfl := some_inj hb9
      refine ge_round_out (fun hrr => ?_) (by intro h; cases h)
      obtain rfl := hrr
      refine ge_block_hit (by kernel_rfl) ?_
      exact ge_mid fun t ht => ⟨hI10, rfl, ht.pick (l := [4, 6]) (by kernel_rfl)⟩
    · have hb9 := cond_f hc20 hb9
      refine gk_skip (by kernel_rfl) ?_
      refine ge_seq ?_
      refine gk_seq (by kernel_rfl) ?_
      refine gk_region (by kernel_rfl) ?_
      refine gl_pure 5 [0, 4, 5, 6, 7, 16, 17, 20] (K' := [(0, .string a0), (4, .int .i64 s7.1), (5, .int .i64 s7.2.1), (6, .int .i64 s7.2.2), (7, .int .i64 y18), (16, .int .i64 y18), (17, .string a0), (20, .int .i64 (IntKind.wrap .i64 (s7.1 + y18)))]) (by kernel_rfl) ?_
      obtain ⟨y21, hx22, hb9⟩ := bind_some hb9
      refine gl_callQ (by kernel_rfl) (lex_run_walk (r := y21) lex_span_1_impl46 hx22 _) ?_
      refine gl_pure 2 [0, 4, 5, 6, 7, 8] (K' := [(0, .string a0), (4, .int .i64 s7.1), (5, .int .i64 s7.2.1), (6, .int .i64 s7.2.2), (7, .int .i64 y18), (8, .int .i64 (IntKind.wrap .i64 (y18 + y21)))]) (by kernel_rfl) ?_
      refine gl_atE (by kernel_rfl) ?_
      refine ge_seq ?_
      refine gk_seq (by kernel_rfl) ?_
      refine gk_seq (by kernel_rfl) ?_
      refine gk_region (by kernel_rfl) ?_
      refine gl_call (by kernel_rfl) (lex_units_walk (r := lex_units)  rfl _) ?_
      rintro v I23 L24 hI25 ⟨A26, c27, C28, hO29, rfl, rfl⟩
      refine gl_pure 2 [0, 4, 5, 6, 7, 8, 23, 24, 25] (K' := [(0, .string a0), (4, .int .i64 s7.1), (5, .int .i64 s7.2.1), (6, .int .i64 s7.2.2), (7, .int .i64 y18), (8, .int .i64 (IntKind.wrap .i64 (y18 + y21))), (23, .slice A26 lex_units.length c27), (24, .int .i64 (lex_units.length : Int)), (25, .int .i64 0)]) (by kernel_rfl) ?_
      refine gl_atE (by kernel_rfl) ?_
      refine ge_seq ?_
      obtain ⟨r34, hl35, hb9⟩ := bind_some hb9
      refine gk_join (fun t I' L' => ∃ r42, r34 = Sum.inl r42 ∧ I23 ≤ I' ∧ L = L' ∧ Knows 66 [(4, .int .i64 s7.1), (6, .int .i64 s7.2.2)] t) ?_ ?_
      · refine gk_block (by kernel_rfl) ?_
        refine gk_pick [0, 4, 5, 6, 7, 8, 23, 24, 25] (K' := [(0, .string a0), (4, .int .i64 s7.1), (5, .int .i64 s7.2.1), (6, .int .i64 s7.2.2), (7, .int .i64 y18), (8, .int .i64 (IntKind.wrap .i64 (y18 + y21))), (23, .slice A26 lex_units.length c27), (24, .int .i64 (lex_units.length : Int)), (25, .int .i64 0)]) (by kernel_rfl) ?_
        intro t hK
        refine gc_loop (lex_span_l46 a0 s7 y18 y21) (fun s36 t I' L' => I23 ≤ I' ∧ C28 ++ L = L' ∧ Knows 66 [(0, .string a0), (4, .int .i64 s7.1), (5, .int .i64 s7.2.1), (6, .int .i64 s7.2.2), (7, .int .i64 y18), (8, .int .i64 (IntKind.wrap .i64 (y18 + y21))), (23, .slice A26 lex_units.length c27), (24, .int .i64 (lex_units.length : Int)), (25, .int .i64 s36)] t) (by kernel_rfl) ?_ hl35 ⟨(Imm.refl _), rfl, hK⟩
        rintro s36 o37 t I41 L' hb38 ⟨hI39, rfl, hK40⟩
        unfold lex_span_l46 at hb38
        refine gk_at hK40 ?_
        refine gk_seq (by kernel_rfl) ?_
        refine gk_region (by kernel_rfl) ?_
        refine gl_pure 1 [0, 4, 5, 6, 7, 8, 23, 24, 25, 26] (K' := [(0, .string a0), (4, .int .i64 s7.1), (5, .int .i64 s7.2.1), (6, .int .i64 s7.2.2), (7, .int .i64 y18), (8, .int .i64 (IntKind.wrap .i64 (y18 + y21))), (23, .slice A26 lex_units.length c27), (24, .int .i64 (lex_units.length : Int)), (25, .int .i64 s36), (26, .bool (decide (s36 < (lex_units.length : Int))))]) (by kernel_rfl) ?_
        refine gl_atE (by kernel_rfl) ?_
        refine ge_seq ?_
        refine gk_seq (by kernel_rfl) ?_
        refine gk_cond (b := (decide (s36 < (lex_units.length : Int)))) (by kernel_rfl) (by kernel_rfl) (fun hc48 => ?_) (fun hc48 => ?_)
        · have hb38 := cond_t hc48 hb38
          refine gk_skip (by kernel_rfl) ?_
          refine ge_seq ?_
          refine gk_seq (by kernel_rfl) ?_
          refine gk_block (by kernel_rfl) ?_
          refine gk_seq (by kernel_rfl) ?_
          refine gk_region (by kernel_rfl) ?_
          refine gl_pure 1 [0, 4, 5, 6, 7, 8, 23, 24, 25, 27] (K' := [(0, .string a0), (4, .int .i64 s7.1), (5, .int .i64 s7.2.1), (6, .int .i64 s7.2.2), (7, .int .i64 y18), (8, .int .i64 (IntKind.wrap .i64 (y18 + y21))), (23, .slice A26 lex_units.length c27), (24, .int .i64 (lex_units.length : Int)), (25, .int .i64 s36), (27, .int .i64 s36)]) (by kernel_rfl) ?_
          obtain ⟨x49, hx50, hb38⟩ := bind_some hb38
          refine gl_indexAddrW (d := kS62) (c := c27) (T' := 60) (e := 63) (xs := (.tmp 23)) (xi := (.tmp 25)) (kd := .i64) hx50 (hO29.mono hI39) (Upd.selfC _ _) (by kernel_rfl) (by kernel_rfl) (by kernel_rfl) (by kernel_rfl) (by kernel_rfl) (fun p51 cs52 hR53 hA54 hp57 => ?_)
          obtain rfl := kS62_open hR53
          refine gl_loadOA (T' := 63) (xp := (.tmp 28)) (p := p51) (cs := [.string x49.f0, .int .i64 x49.f1]) (by kernel_rfl) (by kernel_rfl) (by kernel_rfl) (by kernel_rfl) (hA54.take 2) ?_
          refine gl_alloc (T' := 63) (cs := #[.string (⟨#[]⟩ : ByteArray), .int .i64 0]) (by kernel_rfl) (by kernel_rfl) (by kernel_rfl) (fun g58 => ?_)
          refine gl_pure 1 [0, 4, 5, 6, 7, 8, 9, 10, 23, 24, 25, 29] (K' := [(0, .string a0), (4, .int .i64 s7.1), (5, .int .i64 s7.2.1), (6, .int .i64 s7.2.2), (7, .int .i64 y18), (8, .int .i64 (IntKind.wrap .i64 (y18 + y21))), (9, .int .i64 s36), (10, .pointer (some ⟨g58, 0, none⟩)), (23, .slice A26 lex_units.length c27), (24, .int .i64 (lex_units.length : Int)), (25, .int .i64 s36), (29, .agg #[.string x49.f0, .int .i64 x49.f1])]) (by kernel_rfl) ?_
          refine gl_storeB (T' := 63) (xp := (.tmp 10)) (xv := (.tmp 29)) (v := .agg #[.string x49.f0, .int .i64 x49.f1]) (g := g58) (off := 0) (cs := #[.string (⟨#[]⟩ : ByteArray), .int .i64 0]) (cs' := #[.string x49.f0, .int .i64 x49.f1]) (by kernel_rfl) (by kernel_rfl) (by kernel_rfl) (by kernel_rfl) (by kernel_rfl) (Upd.set _ _ _ _) ?_ (by kernel_rfl)
          refine gl_atE (by kernel_rfl) ?_
          refine ge_seq ?_
          refine gk_seq (by kernel_rfl) ?_
          obtain ⟨j59, hj60, hb38⟩ := bind_some hb38
          refine gk_join (fun t I' L' => I41 ≤ I' ∧ (g58, .cells #[.string x49.f0, .int .i64 x49.f1] 63) :: (C28 ++ L) = L' ∧ Knows 66 [(0, .string a0), (4, .int .i64 s7.1), (5, .int .i64 s7.2.1), (6, .int .i64 s7.2.2), (7, .int .i64 y18), (8, .int .i64 (IntKind.wrap .i64 (y18 + y21))), (9, .int .i64 s36), (10, .pointer (some ⟨g58, 0, none⟩)), (23, .slice A26 lex_units.length c27), (24, .int .i64 (lex_units.length : Int)), (25, .int .i64 s36), (45, .bool j59)] t) ?_ ?_
          · refine gk_draw 16 [(0, true), (1, true), (2, true), (3, true), (4, true), (5, true), (6, true), (7, true), (8, true), (9, true), (10, true), (11, true), (12, true), (13, true), (14, true), (15, true)] [(g58, .cells #[.string x49.f0, .int .i64 x49.f1] 63)] (List.forall_mem_cons.2 ⟨List.mem_cons_self, (fun p hp => by cases hp)⟩) (by kernel_rfl) (by kernel_rfl) (by kernel_rfl) ?_ (by kernel_rfl)
            refine gd_pure 4 [0, 4, 5, 6, 7, 8, 9, 10, 23, 24, 25, 33] (K' := [(0, .string a0), (4, .int .i64 s7.1), (5, .int .i64 s7.2.1), (6, .int .i64 s7.2.2), (7, .int .i64 y18), (8, .int .i64 (IntKind.wrap .i64 (y18 + y21))), (9, .int .i64 s36), (10, .pointer (some ⟨g58, 0, none⟩)), (23, .slice A26 lex_units.length c27), (24, .int .i64 (lex_units.length : Int)), (25, .int .i64 s36), (33, .bool (decide (s36 ≥ s7.2.1)))]) (s' := [(4, true), (5, true), (6, true), (7, true), (8, true), (9, true), (10, true), (11, true), (12, true), (13, true), (14, true), (15, true)]) (CC.refl (List.forall_mem_cons.2 ⟨List.mem_cons_self, (fun p hp => by cases hp)⟩)) (by kernel_rfl) ?_
            refine gd_case 33 (b := (decide (s36 ≥ s7.2.1))) (by kernel_rfl) (fun hc64 => ?_) (fun hc64 => ?_)
            · have hj60 := cond_t hc64 hj60
              refine gd_pure 7 [0, 4, 5, 6, 7, 8, 9, 10, 23, 24, 25, 33, 34, 37, 40] (K' := [(0, .string a0), (4, .int .i64 s7.1), (5, .int .i64 s7.2.1), (6, .int .i64 s7.2.2), (7, .int .i64 y18), (8, .int .i64 (IntKind.wrap .i64 (y18 + y21))), (9, .int .i64 s36), (10, .pointer (some ⟨g58, 0, none⟩)), (23, .slice A26 lex_units.length c27), (24, .int .i64 (lex_units.length : Int)), (25, .int .i64 s36), (33, .bool true), (34, .string a0), (37, .int .i64 (IntKind.wrap .i64 (s7.1 + y18))), (40, .int .i64 (IntKind.wrap .i64 (s7.1 + (IntKind.wrap .i64 (y18 + y21)))))]) (s' := [(11, true), (12, true), (13, true), (14, true), (15, true)]) (CC.refl (List.forall_mem_cons.2 ⟨List.mem_cons_self, (fun p hp => by cases hp)⟩)) (by kernel_rfl) ?_
              obtain ⟨s66, hx65, hj60⟩ := bind_some hj60
              refine gd_q (v := .string s66) (by kernel_rfl) (by kernel_rfl) (CC.refl (List.forall_mem_cons.2 ⟨List.mem_cons_self, (fun p hp => by cases hp)⟩)) (fun I' L' T hC kk => gl_slice' (T' := 9) (xs := (.tmp 34)) (lo := (some (.tmp 37))) (hi := (some (.tmp 40))) hx65 (by kernel_rfl) (by kernel_rfl) (by kernel_rfl) (by kernel_rfl) (by kernel_rfl) (by kernel_rfl) kk) ?_
              refine gd_pure 1 [0, 4, 5, 6, 7, 8, 9, 10, 23, 24, 25, 33, 41, 42] (K' := [(0, .string a0), (4, .int .i64 s7.1), (5, .int .i64 s7.2.1), (6, .int .i64 s7.2.2), (7, .int .i64 y18), (8, .int .i64 (IntKind.wrap .i64 (y18 + y21))), (9, .int .i64 s36), (10, .pointer (some ⟨g58, 0, none⟩)), (23, .slice A26 lex_units.length c27), (24, .int .i64 (lex_units.length : Int)), (25, .int .i64 s36), (33, .bool true), (41, .string s66), (42, .pointer (some ⟨g58, 0, none⟩))]) (s' := [(13, true), (14, true), (15, true)]) (CC.refl (List.forall_mem_cons.2 ⟨List.mem_cons_self, (fun p hp => by cases hp)⟩)) (by kernel_rfl) ?_
              refine gd_q (v := .string x49.f0) (by kernel_rfl) (by kernel_rfl) (CC.refl (List.forall_mem_cons.2 ⟨List.mem_cons_self, (fun p hp => by cases hp)⟩)) (fun I' L' T hC kk => gl_loadB (T' := 9) (xp := (.tmp 42)) (v := .string x49.f0) (g := g58) (off := 0) (cs := #[.string x49.f0, .int .i64 x49.f1]) (e := 63) (fz := (0, 0)) (by kernel_rfl) (by kernel_rfl) (by kernel_rfl) (hC.sub _ List.mem_cons_self) (by kernel_rfl) kk) ?_
              refine gd_pure 2 [0, 4, 5, 6, 7, 8, 9, 10, 23, 24, 25, 45] (K' := [(0, .string a0), (4, .int .i64 s7.1), (5, .int .i64 s7.2.1), (6, .int .i64 s7.2.2), (7, .int .i64 y18), (8, .int .i64 (IntKind.wrap .i64 (y18 + y21))), (9, .int .i64 s36), (10, .pointer (some ⟨g58, 0, none⟩)), (23, .slice A26 lex_units.length c27), (24, .int .i64 (lex_units.length : Int)), (25, .int .i64 s36), (45, .bool (s66.toList == x49.f0.toList))]) (s' := []) (CC.refl (List.forall_mem_cons.2 ⟨List.mem_cons_self, (fun p hp => by cases hp)⟩)) (by kernel_rfl) ?_
              refine gd_done ?_
              refine gl_atE (by kernel_rfl) ?_
              obtain rfl := some_inj hj60
              exact ge_mid fun t ht => ⟨(Imm.refl _), rfl, ht.pick (l := [0, 4, 5, 6, 7, 8, 9, 10, 23, 24, 25, 45]) (by kernel_rfl)⟩
            · have hj60 := cond_f hc64 hj60
              refine gd_pure 12 [0, 4, 5, 6, 7, 8, 9, 10, 23, 24, 25, 45] (K' := [(0, .string a0), (4, .int .i64 s7.1), (5, .int .i64 s7.2.1), (6, .int .i64 s7.2.2), (7, .int .i64 y18), (8, .int .i64 (IntKind.wrap .i64 (y18 + y21))), (9, .int .i64 s36), (10, .pointer (some ⟨g58, 0, none⟩)), (23, .slice A26 lex_units.length c27), (24, .int .i64 (lex_units.length : Int)), (25, .int .i64 s36), (45, .bool false)]) (s' := []) (CC.refl (List.forall_mem_cons.2 ⟨List.mem_cons_self, (fun p hp => by cases hp)⟩)) (by kernel_rfl) ?_
              refine gd_done ?_
              refine gl_atE (by kernel_rfl) ?_
              obtain rfl := some_inj hj60
              exact ge_mid fun t ht => ⟨(Imm.refl _), rfl, ht.pick (l := [0, 4, 5, 6, 7, 8, 9, 10, 23, 24, 25, 45]) (by kernel_rfl)⟩
          · rintro t I63 L' ⟨hI61, rfl, hK62⟩
            refine ge_at hK62 ?_
            refine ge_seq ?_
            refine gk_cond (b := j59) (by kernel_rfl) (by kernel_rfl) (fun hc67 => ?_) (fun hc67 => ?_)
            · have hb38 := cond_t hc67 hb38
              refine gk_seq (by kernel_rfl) ?_
              refine gk_draw 11 [(0, true), (1, true), (2, true), (3, true), (4, true), (5, true), (6, true), (7, true), (8, true), (9, true), (10, true)] [(g58, .cells #[.string x49.f0, .int .i64 x49.f1] 63)] (List.forall_mem_cons.2 ⟨List.mem_cons_self, (fun p hp => by cases hp)⟩) (by kernel_rfl) (by kernel_rfl) (by kernel_rfl) ?_ (by kernel_rfl)
              refine gd_pure 6 [0, 4, 6, 8, 9, 10, 46, 47, 48, 51] (K' := [(0, .string a0), (4, .int .i64 s7.1), (6, .int .i64 s7.2.2), (8, .int .i64 (IntKind.wrap .i64 (y18 + y21))), (9, .int .i64 s36), (10, .pointer (some ⟨g58, 0, none⟩)), (46, .int .i64 s7.2.2), (47, .string a0), (48, .int .i64 s7.1), (51, .int .i64 (IntKind.wrap .i64 (s7.1 + y18)))]) (s' := [(6, true), (7, true), (8, true), (9, true), (10, true)]) (CC.refl (List.forall_mem_cons.2 ⟨List.mem_cons_self, (fun p hp => by cases hp)⟩)) (by kernel_rfl) ?_
              obtain ⟨s69, hx68, hb38⟩ := bind_some hb38
              refine gd_q (v := .string s69) (by kernel_rfl) (by kernel_rfl) (CC.refl (List.forall_mem_cons.2 ⟨List.mem_cons_self, (fun p hp => by cases hp)⟩)) (fun I' L' T hC kk => gl_slice' (T' := 9) (xs := (.tmp 47)) (lo := (some (.tmp 48))) (hi := (some (.tmp 51))) hx68 (by kernel_rfl) (by kernel_rfl) (by kernel_rfl) (by kernel_rfl) (by kernel_rfl) (by kernel_rfl) kk) ?_
              refine gd_pure 1 [0, 4, 6, 8, 9, 46, 52, 53] (K' := [(0, .string a0), (4, .int .i64 s7.1), (6, .int .i64 s7.2.2), (8, .int .i64 (IntKind.wrap .i64 (y18 + y21))), (9, .int .i64 s36), (46, .int .i64 s7.2.2), (52, .string s69), (53, .pointer (some ⟨g58, 1, none⟩))]) (s' := [(8, true), (9, true), (10, true)]) (CC.refl (List.forall_mem_cons.2 ⟨List.mem_cons_self, (fun p hp => by cases hp)⟩)) (by kernel_rfl) ?_
              refine gd_q (v := .int .i64 x49.f1) (by kernel_rfl) (by kernel_rfl) (CC.refl (List.forall_mem_cons.2 ⟨List.mem_cons_self, (fun p hp => by cases hp)⟩)) (fun I' L' T hC kk => gl_loadB (T' := 2) (xp := (.tmp 53)) (v := .int .i64 x49.f1) (g := g58) (off := 1) (cs := #[.string x49.f0, .int .i64 x49.f1]) (e := 63) (fz := (0, 0)) (by kernel_rfl) (by kernel_rfl) (by kernel_rfl) (hC.sub _ List.mem_cons_self) (by kernel_rfl) kk) ?_
              obtain ⟨y70, hx71, hb38⟩ := bind_some hb38
              refine gd_q (v := .int .i64 y70) (by kernel_rfl) (by kernel_rfl) (CC.refl (List.forall_mem_cons.2 ⟨List.mem_cons_self, (fun p hp => by cases hp)⟩)) (fun I' L' T hC kk => gl_callQ (by kernel_rfl) (lex_times_walk (r := y70)  hx71 _) kk) ?_
              refine gd_pure 1 [0, 4, 6, 8, 9, 56] (K' := [(0, .string a0), (4, .int .i64 s7.1), (6, .int .i64 s7.2.2), (8, .int .i64 (IntKind.wrap .i64 (y18 + y21))), (9, .int .i64 s36), (56, .int .i64 (IntKind.wrap .i64 (s7.2.2 + y70)))]) (s' := []) (CC.refl (List.forall_mem_cons.2 ⟨List.mem_cons_self, (fun p hp => by cases hp)⟩)) (by kernel_rfl) ?_
              refine gd_done ?_
              refine gl_pure 2 [0, 4, 6, 8, 9] (K' := [(0, .string a0), (4, .int .i64 s7.1), (6, .int .i64 (if 1099511627777 < (IntKind.wrap .i64 (s7.2.2 + y70)) then 1099511627777 else (IntKind.wrap .i64 (s7.2.2 + y70)))), (8, .int .i64 (IntKind.wrap .i64 (y18 + y21))), (9, .int .i64 s36)]) (by kernel_rfl) ?_
              refine gl_atE (by kernel_rfl) ?_
              refine ge_seq ?_
              refine gk_seq (by kernel_rfl) ?_
              refine gk_region (by kernel_rfl) ?_
              refine gl_pure 7 [0, 4, 5, 6] (K' := [(0, .string a0), (4, .int .i64 (IntKind.wrap .i64 (s7.1 + (IntKind.wrap .i64 (y18 + y21))))), (5, .int .i64 (IntKind.wrap .i64 (s36 + 1))), (6, .int .i64 (if 1099511627777 < (IntKind.wrap .i64 (s7.2.2 + y70)) then 1099511627777 else (IntKind.wrap .i64 (s7.2.2 + y70))))]) (by kernel_rfl) ?_
              refine gl_atE (by kernel_rfl) ?_
              refine ge_seq ?_
              refine gk_reord (D := L) (Reord.skip (Reord.skipC (Reord.refl _))) ?_
              refine gk_exit (by kernel_rfl) ?_
              refine ge_block_miss (by kernel_rfl) ?_
              refine ge_seq_exit ?_
              obtain rfl := some_inj hb38
              refine ge_round_out (fun hrr => ?_) (by intro h; cases h)
              obtain rfl := hrr
              refine ge_block_miss (by kernel_rfl) ?_
              refine ge_seq_exit ?_
              refine ge_seq_exit ?_
              refine ge_block_hit (by kernel_rfl) ?_
              obtain rfl := some_inj hb9
              exact ge_round fun t ht => ⟨(Imm.trans (Imm.trans (Imm.trans hI10 hI25) hI39) hI61), rfl, ht.pick (l := [0, 4, 5, 6]) (by kernel_rfl)⟩
            · have hb38 := cond_f hc67 hb38
              refine gk_skip (by kernel_rfl) ?_
              refine ge_block_normal ?_
              refine ge_seq ?_
              refine gk_region (by kernel_rfl) ?_
              refine gl_pure 2 [0, 4, 5, 6, 7, 8, 23, 24, 25] (K' := [(0, .string a0), (4, .int .i64 s7.1), (5, .int .i64 s7.2.1), (6, .int .i64 s7.2.2), (7, .int .i64 y18), (8, .int .i64 (IntKind.wrap .i64 (y18 + y21))), (23, .slice A26 lex_units.length c27), (24, .int .i64 (lex_units.length : Int)), (25, .int .i64 (IntKind.wrap .i64 (s36 + 1)))]) (by kernel_rfl) ?_
              refine gl_reord (D := C28 ++ L) (Reord.step (Upd.one _ (Upd.rmC _ _)) (Reord.skip (Reord.refl _))) ?_
              refine gl_atE (by kernel_rfl) ?_
              obtain rfl := some_inj hb38
              exact ge_round fun t ht => ⟨(Imm.trans hI39 hI61), rfl, ht.pick (l := [0, 4, 5, 6, 7, 8, 23, 24, 25]) (by kernel_rfl)⟩
        · have hb38 := cond_f hc48 hb38
          refine gk_reord (D := L) (Reord.skipC (Reord.refl _)) ?_
          refine gk_exit (by kernel_rfl) ?_
          refine ge_seq_exit ?_
          obtain rfl := some_inj hb38
          refine ge_round_out (fun hrr => ?_) (by intro h; cases h)
          obtain rfl := hrr
          refine ge_block_hit (by kernel_rfl) ?_
          exact ge_mid fun t ht => ⟨_, rfl, hI39, rfl, ht.pick (l := [4, 6]) (by kernel_rfl)⟩
      · rintro t I45 L' ⟨r42, rfl, hI43, rfl, hK44⟩
        refine ge_at hK44 ?_
        refine ge_seq ?_
        refine gk_exit (by kernel_rfl) ?_
        refine ge_block_miss (by kernel_rfl) ?_
        obtain rfl := some_inj hb9
        refine ge_round_out (fun hrr => ?_) (by intro h; cases h)
        obtain rfl := hrr
        refine ge_block_hit (by kernel_rfl) ?_
        exact ge_mid fun t ht => ⟨(Imm.trans (Imm.trans hI10 hI25) hI43), rfl, ht.pick (l := [4, 6]) (by kernel_rfl)⟩
  · rintro t I15 L' ⟨hI13, rfl, hK14⟩
    refine ge_at hK14 ?_
    refine ge_seq ?_
    refine gk_seq (by kernel_rfl) ?_
    refine gk_region (by kernel_rfl) ?_
    refine gl_pure 4 [2, 3] (K' := [(2, .int .i64 r5.1), (3, .int .i64 r5.2)]) (by kernel_rfl) ?_
    refine gl_atE (by kernel_rfl) ?_
    refine ge_seq ?_
    refine gk_ret (by kernel_rfl) ?_
    refine ge_scope_ret ?_
    obtain rfl := some_inj hr
    exact ge_result trivial (ResOk.tmp (by kernel_rfl) (ResOk.tmp (by kernel_rfl) ResOk.nil)) hI13 ⟨rfl, rfl⟩
def lays197_ren : Go.Shelf.Ren := ⟨fun x => if x = 197 then 55 else if x = 260 then 70 else x, fun x => if x = 105 then 84 else if x = 119 then 78 else if x = 46 then 82 else if x = 139 then 81 else if x = 138 then 80 else x, fun x => if x = 3 then 0 else if x = 4 then 1 else x⟩
theorem lays197 : Go.Proofs.Lays.n197 Tryd.prog lays197_ren := {
  mixed := by kernel_rfl,
  f197 := Tryd.func55.trans (congrArg some (by kernel_rfl)),
  f260 := Tryd.func70.trans (congrArg some (by kernel_rfl)),
  t0 := Tryd.underlying0,
  a0 := Tryd.isAgg0,
  z0 := Tryd.sizeOf0,
  v0 := Tryd.zeroValue0,
  t3 := Tryd.underlying3,
  a3 := Tryd.isAgg3,
  z3 := Tryd.sizeOf3,
  v3 := Tryd.zeroValue3,
  t4 := Tryd.underlying4,
  a4 := Tryd.isAgg4,
  z4 := Tryd.sizeOf4,
  v4 := Tryd.zeroValue4,
  t5 := Tryd.underlying5,
  a5 := Tryd.isAgg5,
  z5 := Tryd.sizeOf5,
  v5 := Tryd.zeroValue5,
  t9 := Tryd.underlying9,
  a9 := Tryd.isAgg9,
  z9 := Tryd.sizeOf9,
  v9 := Tryd.zeroValue9,
  t21 := Tryd.underlying21,
  a21 := Tryd.isAgg21,
  z21 := Tryd.sizeOf21,
  v21 := Tryd.zeroValue21,
  t46 := Tryd.underlying82,
  a46 := Tryd.isAgg82,
  z46 := Tryd.sizeOf82,
  v46 := Tryd.zeroValue82,
  t105 := Tryd.underlying84,
  a105 := Tryd.isAgg84,
  z105 := Tryd.sizeOf84,
  v105 := Tryd.zeroValue84,
  t119 := Tryd.underlying78,
  a119 := Tryd.isAgg78,
  z119 := Tryd.sizeOf78,
  t138 := Tryd.underlying80,
  a138 := Tryd.isAgg80,
  z138 := Tryd.sizeOf80,
  v138 := Tryd.zeroValue80,
  t139 := Tryd.underlying81,
  a139 := Tryd.isAgg81,
  z139 := Tryd.sizeOf81,
  v139 := Tryd.zeroValue81,
  g3 := by kernel_rfl,
  g4 := by kernel_rfl }

def utf8_DecodeRuneInString (a0 : ByteArray) : Option (Int × Int) := some (((Go.Lib.decodeGo a0).1 : Int), ((Go.Lib.decodeGo a0).2 : Int))
theorem utf8_DecodeRuneInString_walk {a0 : ByteArray} {I : Imm} {r : Int × Int} (hG : Gl I) (hr : utf8_DecodeRuneInString a0 = some r) (L : Own) :
    CallsTo Tryd.prog 55 #[.string a0] I L (fun v I' L' => v = .tuple #[.int .i32 r.1, .int .i64 r.2] ∧ L = L') := by
  unfold utf8_DecodeRuneInString at hr
  cases hr
  exact callsTo_below hG.dr (fun W hW => Go.Proofs.Any.utf8_DecodeRuneInString lays197 a0 W (gl_tabs hG hW))

structure S50 where
  f1 : List Int
def strings_Builder_copyCheck (a0 : S50) : S50 := a0
theorem strings_Builder_copyCheck_walk {a0 : S50} {g0 : Nat} {q0_0 : Option Addr} {A0_1 : Option Addr} {c0_1 : Nat} {C0_1 : Own} {I : Imm} {r : S50} (hq0_0 : q0_0 = none ∨ q0_0 = some (⟨g0, 0, none⟩ : Addr)) (hO0_1 : OwnS (Kd.int .u8) 5 I A0_1 c0_1 a0.f1 C0_1) (hr : strings_Builder_copyCheck a0 = r) (L : Own) :
    CallsTo Tryd.prog 49 #[.pointer (some ⟨g0, 0, none⟩)] I ((g0, .cells #[.pointer q0_0, .slice A0_1 a0.f1.length c0_1] 51) :: (C0_1 ++ L)) (fun v I' L' => ∃ q0_0 A0_1 c0_1 C0_1, (q0_0 = none ∨ q0_0 = some (⟨g0, 0, none⟩ : Addr)) ∧ OwnS (Kd.int .u8) 5 I' A0_1 c0_1 r.f1 C0_1 ∧ v = .tuple #[] ∧ (g0, .cells #[.pointer q0_0, .slice A0_1 r.f1.length c0_1] 51) :: (C0_1 ++ L) = L') := by
  subst hr
  exact (bld_copyCheck hq0_0 (C0_1 ++ L)).mono fun v I' L' hI ⟨h1, h2⟩ => ⟨_, A0_1, c0_1, C0_1, .inr rfl, hO0_1.mono hI, h1, h2⟩
noncomputable def strings_Builder_String (a0 : S50) : Option ByteArray := strO a0.f1
theorem strings_Builder_String_walk {a0 : S50} {g0 : Nat} {q0_0 : Option Addr} {A0_1 : Option Addr} {c0_1 : Nat} {C0_1 : Own} {I : Imm} {r : ByteArray} (hq0_0 : q0_0 = none ∨ q0_0 = some (⟨g0, 0, none⟩ : Addr)) (hO0_1 : OwnS (Kd.int .u8) 5 I A0_1 c0_1 a0.f1 C0_1) (hr : strings_Builder_String a0 = some r) (L : Own) :
    CallsTo Tryd.prog 28 #[.pointer (some ⟨g0, 0, none⟩)] I ((g0, .cells #[.pointer q0_0, .slice A0_1 a0.f1.length c0_1] 51) :: (C0_1 ++ L)) (fun v I' L' => v = .string r ∧ L = L') := bld_String hO0_1 hr L

/-! 80 strconv_lower  -/
noncomputable def strconv_lower (a0 : Int) : Int :=
  (bitOr .u8 a0 32)
theorem strconv_lower_walk {a0 : Int} {I : Imm} {r : Int}  (hr : strconv_lower a0 = r) (L : Own) :
    CallsTo Tryd.prog 80 #[.int .u8 a0] I L (fun v I' L' => v = .int .u8 r ∧ L = L') := by
  replace hr : some (strconv_lower a0) = some r := congrArg some hr
  unfold strconv_lower at hr
  refine callsTo_body (N := 5) Tryd.func80 (by kernel_rfl) (by kernel_rfl) (by kernel_rfl) ?_
  refine gk_pick [0] (K' := [(0, .int .u8 a0)]) (by kernel_rfl) ?_
  refine gk_seq (by kernel_rfl) ?_
  refine gk_region (by kernel_rfl) ?_
  refine gl_pure 1 [0] (K' := [(0, .int .u8 a0)]) (by kernel_rfl) ?_
  refine gl_atE (by kernel_rfl) ?_
  refine ge_seq ?_
  refine gk_seq (by kernel_rfl) ?_
  refine gk_region (by kernel_rfl) ?_
  refine gl_pure 3 [2] (K' := [(2, .int .u8 (bitOr .u8 a0 32))]) (by kernel_rfl) ?_
  refine gl_atE (by kernel_rfl) ?_
  refine ge_seq ?_
  refine gk_ret (by kernel_rfl) ?_
  obtain rfl := some_inj hr
  exact ge_result trivial (ResOk.tmp (by kernel_rfl) ResOk.nil) (Imm.refl _) ⟨rfl, rfl⟩
/-! 81 strconv_underscoreOK  -/
noncomputable def strconv_underscoreOK_l61 (j12 : ByteArray) (j37 : Int × Int × Bool) : (Int × Int) → Option ((Int × Int) ⊕ ((Int) ⊕ (Bool))) := fun s51 =>
  bif (decide (s51.2 < (j12.size : Int))) then
  (Option.bind ((Option.bind (Option.bind (bx j12 s51.2) fun (c75 : Int) =>
        bif (decide (48 ≤ c75)) then
        (Option.bind (bx j12 s51.2) fun (c78 : Int) =>
          bif (decide (c78 ≤ 57)) then
          (some true)
          else
          (bif j37.2.2 then
            (Option.bind (bx j12 s51.2) fun (c82 : Int) =>
              bif (decide (97 ≤ (strconv_lower c82))) then
              (Option.bind (bx j12 s51.2) fun (c85 : Int) =>
                some (decide ((strconv_lower c85) ≤ 102)))
              else
              (some false))
            else
            (some false)))
        else
        (bif j37.2.2 then
          (Option.bind (bx j12 s51.2) fun (c88 : Int) =>
            bif (decide (97 ≤ (strconv_lower c88))) then
            (Option.bind (bx j12 s51.2) fun (c91 : Int) =>
              some (decide ((strconv_lower c91) ≤ 102)))
            else
            (some false))
          else
          (some false))) fun (j70 : Bool) =>
      bif j70 then
      (some (Sum.inl 48))
      else
      (Option.bind (bx j12 s51.2) fun (c94 : Int) =>
        bif (c94 == 95) then
        (bif (s51.1 != 48) then
          (some (Sum.inr (Sum.inr (Sum.inr false))))
          else
          (some (Sum.inl 95)))
        else
        (bif (s51.1 == 95) then
          (some (Sum.inr (Sum.inr (Sum.inr false))))
          else
          (some (Sum.inl 33)))) : Option ((Int) ⊕ ((Int × Int) ⊕ ((Int) ⊕ (Bool)))))) fun (j64 : (Int) ⊕ ((Int × Int) ⊕ ((Int) ⊕ (Bool)))) =>
    match j64 with
    | Sum.inl j66 => some (Sum.inl (j66, (IntKind.wrap .i64 (s51.2 + 1))))
    | Sum.inr v99 => some v99)
  else
  (some (Sum.inr (Sum.inl s51.1)))
noncomputable def strconv_underscoreOK (a0 : ByteArray) : Option Bool :=
  Option.bind (bif (decide ((a0.size : Int) ≥ 1)) then
    (Option.bind (bx a0 0) fun (c7 : Int) =>
      bif (c7 == 45) then
      (some true)
      else
      (Option.bind (bx a0 0) fun (c10 : Int) =>
        some (c10 == 43)))
    else
    (some false)) fun (j1 : Bool) =>
  Option.bind (bif j1 then
    (Option.bind (sx a0 1 (a0.size : Int)) fun (s19 : ByteArray) =>
      some s19)
    else
    (some a0)) fun (j12 : ByteArray) =>
  Option.bind (bif (decide ((j12.size : Int) ≥ 2)) then
    (Option.bind (bx j12 0) fun (c26 : Int) =>
      bif (c26 == 48) then
      (Option.bind (bx j12 1) fun (c29 : Int) =>
        bif ((strconv_lower c29) == 98) then
        (some true)
        else
        (Option.bind (bx j12 1) fun (c32 : Int) =>
          bif ((strconv_lower c32) == 111) then
          (some true)
          else
          (Option.bind (bx j12 1) fun (c35 : Int) =>
            some ((strconv_lower c35) == 120))))
      else
      (some false))
    else
    (some false)) fun (j20 : Bool) =>
  Option.bind (bif j20 then
    (Option.bind (bx j12 1) fun (c43 : Int) =>
      some (48, 2, ((strconv_lower c43) == 120)))
    else
    (some (94, 0, false))) fun (j37 : Int × Int × Bool) =>
  Option.bind (loopO (strconv_underscoreOK_l61 j12 j37) (j37.1, j37.2.1)) fun (r49 : (Int) ⊕ (Bool)) =>
  match r49 with
  | Sum.inl r57 => some (r57 != 95)
  | Sum.inr v100 => some v100
theorem strconv_underscoreOK_walk {a0 : ByteArray} {I : Imm} {r : Bool}  (hr : strconv_underscoreOK a0 = some r) (L : Own) :
    CallsTo Tryd.prog 81 #[.string a0] I L (fun v I' L' => v = .bool r ∧ L = L') := by
  unfold strconv_underscoreOK at hr
  refine callsTo_body (N := 94) Tryd.func81 (by kernel_rfl) (by kernel_rfl) (by kernel_rfl) ?_
  refine gk_pick [0] (K' := [(0, .string a0)]) (by kernel_rfl) ?_
  refine gk_seq (by kernel_rfl) ?_
  refine gk_region (by kernel_rfl) ?_
  refine gl_pure 1 [0] (K' := [(0, .string a0)]) (by kernel_rfl) ?_
  refine gl_atE (by kernel_rfl) ?_
  refine ge_seq ?_
  refine gk_seq (by kernel_rfl) ?_
  refine gk_region (by kernel_rfl) ?_
  refine gl_pure 1 [0, 3] (K' := [(0, .string a0), (3, .int .i32 94)]) (by kernel_rfl) ?_
  refine gl_atE (by kernel_rfl) ?_
  refine ge_seq ?_
  refine gk_seq (by kernel_rfl) ?_
  refine gk_region (by kernel_rfl) ?_
  refine gl_pure 1 [0, 3, 4] (K' := [(0, .string a0), (3, .int .i32 94), (4, .int .i64 0)]) (by kernel_rfl) ?_
  refine gl_atE (by kernel_rfl) ?_
  refine ge_seq ?_
  refine gk_seq (by kernel_rfl) ?_
  refine gk_seq (by kernel_rfl) ?_
  obtain ⟨j1, hj2, hr⟩ := bind_some hr
  refine gk_join (fun t I' L' => I ≤ I' ∧ L = L' ∧ Knows 94 [(0, .string a0), (3, .int .i32 94), (4, .int .i64 0), (18, .bool j1)] t) ?_ ?_
  · refine gk_region (by kernel_rfl) ?_
    refine gl_pure 4 [0, 3, 4, 9] (K' := [(0, .string a0), (3, .int .i32 94), (4, .int .i64 0), (9, .bool (decide ((a0.size : Int) ≥ 1)))]) (by kernel_rfl) ?_
    refine gl_case 9 (b := (decide ((a0.size : Int) ≥ 1))) (by kernel_rfl) (fun hc6 => ?_) (fun hc6 => ?_)
    · have hj2 := cond_t hc6 hj2
      refine gl_pure 1 [0, 3, 4, 9, 10] (K' := [(0, .string a0), (3, .int .i32 94), (4, .int .i64 0), (9, .bool true), (10, .string a0)]) (by kernel_rfl) ?_
      obtain ⟨c7, hx8, hj2⟩ := bind_some hj2
      refine gl_index' (T' := 9) (xs := (.tmp 10)) (xi := (.const (.int .i64 0))) (kd := .i64) hx8 (by kernel_rfl) (by kernel_rfl) (by kernel_rfl) (by kernel_rfl) (by kernel_rfl) ?_
      refine gl_pure 2 [0, 3, 4, 9, 13] (K' := [(0, .string a0), (3, .int .i32 94), (4, .int .i64 0), (9, .bool true), (13, .bool (c7 == 45))]) (by kernel_rfl) ?_
      refine gl_case 13 (b := (c7 == 45)) (by kernel_rfl) (fun hc9 => ?_) (fun hc9 => ?_)
      · have hj2 := cond_t hc9 hj2
        refine gl_pure 5 [0, 3, 4, 18] (K' := [(0, .string a0), (3, .int .i32 94), (4, .int .i64 0), (18, .bool true)]) (by kernel_rfl) ?_
        refine gl_atE (by kernel_rfl) ?_
        obtain rfl := some_inj hj2
        exact ge_mid fun t ht => ⟨(Imm.refl _), rfl, ht.pick (l := [0, 3, 4, 18]) (by kernel_rfl)⟩
      · have hj2 := cond_f hc9 hj2
        refine gl_pure 1 [0, 3, 4, 9, 13, 14] (K' := [(0, .string a0), (3, .int .i32 94), (4, .int .i64 0), (9, .bool true), (13, .bool false), (14, .string a0)]) (by kernel_rfl) ?_
        obtain ⟨c10, hx11, hj2⟩ := bind_some hj2
        refine gl_index' (T' := 9) (xs := (.tmp 14)) (xi := (.const (.int .i64 0))) (kd := .i64) hx11 (by kernel_rfl) (by kernel_rfl) (by kernel_rfl) (by kernel_rfl) (by kernel_rfl) ?_
        refine gl_pure 3 [0, 3, 4, 18] (K' := [(0, .string a0), (3, .int .i32 94), (4, .int .i64 0), (18, .bool (c10 == 43))]) (by kernel_rfl) ?_
        refine gl_atE (by kernel_rfl) ?_
        obtain rfl := some_inj hj2
        exact ge_mid fun t ht => ⟨(Imm.refl _), rfl, ht.pick (l := [0, 3, 4, 18]) (by kernel_rfl)⟩
    · have hj2 := cond_f hc6 hj2
      refine gl_pure 9 [0, 3, 4, 18] (K' := [(0, .string a0), (3, .int .i32 94), (4, .int .i64 0), (18, .bool false)]) (by kernel_rfl) ?_
      refine gl_atE (by kernel_rfl) ?_
      obtain rfl := some_inj hj2
      exact ge_mid fun t ht => ⟨(Imm.refl _), rfl, ht.pick (l := [0, 3, 4, 18]) (by kernel_rfl)⟩
  · rintro t I5 L' ⟨hI3, rfl, hK4⟩
    refine ge_at hK4 ?_
    refine ge_seq ?_
    obtain ⟨j12, hj13, hr⟩ := bind_some hr
    refine gk_join (fun t I' L' => I5 ≤ I' ∧ L = L' ∧ Knows 94 [(0, .string j12), (3, .int .i32 94), (4, .int .i64 0)] t) ?_ ?_
    · refine gk_cond (b := j1) (by kernel_rfl) (by kernel_rfl) (fun hc17 => ?_) (fun hc17 => ?_)
      · have hj13 := cond_t hc17 hj13
        refine gk_region (by kernel_rfl) ?_
        refine gl_pure 1 [3, 4, 19] (K' := [(3, .int .i32 94), (4, .int .i64 0), (19, .string a0)]) (by kernel_rfl) ?_
        obtain ⟨s19, hx18, hj13⟩ := bind_some hj13
        refine gl_slice' (T' := 9) (xs := (.tmp 19)) (lo := (some (.const (.int .i64 1)))) (hi := none) hx18 (by kernel_rfl) (by kernel_rfl) (by kernel_rfl) (by kernel_rfl) (by kernel_rfl) (by kernel_rfl) ?_
        refine gl_pure 1 [0, 3, 4] (K' := [(0, .string s19), (3, .int .i32 94), (4, .int .i64 0)]) (by kernel_rfl) ?_
        refine gl_atE (by kernel_rfl) ?_
        obtain rfl := some_inj hj13
        exact ge_mid fun t ht => ⟨(Imm.refl _), rfl, ht.pick (l := [0, 3, 4]) (by kernel_rfl)⟩
      · have hj13 := cond_f hc17 hj13
        refine gk_skip (by kernel_rfl) ?_
        obtain rfl := some_inj hj13
        exact ge_mid fun t ht => ⟨(Imm.refl _), rfl, ht.pick (l := [0, 3, 4]) (by kernel_rfl)⟩
    · rintro t I16 L' ⟨hI14, rfl, hK15⟩
      refine ge_at hK15 ?_
      refine ge_seq ?_
      refine gk_seq (by kernel_rfl) ?_
      refine gk_region (by kernel_rfl) ?_
      refine gl_pure 1 [0, 3, 4, 5] (K' := [(0, .string j12), (3, .int .i32 94), (4, .int .i64 0), (5, .bool false)]) (by kernel_rfl) ?_
      refine gl_atE (by kernel_rfl) ?_
      refine ge_seq ?_
      refine gk_seq (by kernel_rfl) ?_
      refine gk_seq (by kernel_rfl) ?_
      obtain ⟨j20, hj21, hr⟩ := bind_some hr
      refine gk_join (fun t I' L' => I16 ≤ I' ∧ L = L' ∧ Knows 94 [(0, .string j12), (3, .int .i32 94), (4, .int .i64 0), (5, .bool false), (46, .bool j20)] t) ?_ ?_
      · refine gk_region (by kernel_rfl) ?_
        refine gl_pure 4 [0, 3, 4, 5, 24] (K' := [(0, .string j12), (3, .int .i32 94), (4, .int .i64 0), (5, .bool false), (24, .bool (decide ((j12.size : Int) ≥ 2)))]) (by kernel_rfl) ?_
        refine gl_case 24 (b := (decide ((j12.size : Int) ≥ 2))) (by kernel_rfl) (fun hc25 => ?_) (fun hc25 => ?_)
        · have hj21 := cond_t hc25 hj21
          refine gl_pure 1 [0, 3, 4, 5, 24, 25] (K' := [(0, .string j12), (3, .int .i32 94), (4, .int .i64 0), (5, .bool false), (24, .bool true), (25, .string j12)]) (by kernel_rfl) ?_
          obtain ⟨c26, hx27, hj21⟩ := bind_some hj21
          refine gl_index' (T' := 9) (xs := (.tmp 25)) (xi := (.const (.int .i64 0))) (kd := .i64) hx27 (by kernel_rfl) (by kernel_rfl) (by kernel_rfl) (by kernel_rfl) (by kernel_rfl) ?_
          refine gl_pure 3 [0, 3, 4, 5, 29] (K' := [(0, .string j12), (3, .int .i32 94), (4, .int .i64 0), (5, .bool false), (29, .bool (c26 == 48))]) (by kernel_rfl) ?_
          refine gl_case 29 (b := (c26 == 48)) (by kernel_rfl) (fun hc28 => ?_) (fun hc28 => ?_)
          · have hj21 := cond_t hc28 hj21
            refine gl_pure 1 [0, 3, 4, 5, 29, 30] (K' := [(0, .string j12), (3, .int .i32 94), (4, .int .i64 0), (5, .bool false), (29, .bool true), (30, .string j12)]) (by kernel_rfl) ?_
            obtain ⟨c29, hx30, hj21⟩ := bind_some hj21
            refine gl_index' (T' := 9) (xs := (.tmp 30)) (xi := (.const (.int .i64 1))) (kd := .i64) hx30 (by kernel_rfl) (by kernel_rfl) (by kernel_rfl) (by kernel_rfl) (by kernel_rfl) ?_
            refine gl_callQ (by kernel_rfl) (strconv_lower_walk (r := (strconv_lower c29))  rfl _) ?_
            refine gl_pure 2 [0, 3, 4, 5, 29, 34] (K' := [(0, .string j12), (3, .int .i32 94), (4, .int .i64 0), (5, .bool false), (29, .bool true), (34, .bool ((strconv_lower c29) == 98))]) (by kernel_rfl) ?_
            refine gl_case 34 (b := ((strconv_lower c29) == 98)) (by kernel_rfl) (fun hc31 => ?_) (fun hc31 => ?_)
            · have hj21 := cond_t hc31 hj21
              refine gl_pure 12 [0, 3, 4, 5, 46] (K' := [(0, .string j12), (3, .int .i32 94), (4, .int .i64 0), (5, .bool false), (46, .bool true)]) (by kernel_rfl) ?_
              refine gl_atE (by kernel_rfl) ?_
              obtain rfl := some_inj hj21
              exact ge_mid fun t ht => ⟨(Imm.refl _), rfl, ht.pick (l := [0, 3, 4, 5, 46]) (by kernel_rfl)⟩
            · have hj21 := cond_f hc31 hj21
              refine gl_pure 1 [0, 3, 4, 5, 29, 34, 35] (K' := [(0, .string j12), (3, .int .i32 94), (4, .int .i64 0), (5, .bool false), (29, .bool true), (34, .bool false), (35, .string j12)]) (by kernel_rfl) ?_
              obtain ⟨c32, hx33, hj21⟩ := bind_some hj21
              refine gl_index' (T' := 9) (xs := (.tmp 35)) (xi := (.const (.int .i64 1))) (kd := .i64) hx33 (by kernel_rfl) (by kernel_rfl) (by kernel_rfl) (by kernel_rfl) (by kernel_rfl) ?_
              refine gl_callQ (by kernel_rfl) (strconv_lower_walk (r := (strconv_lower c32))  rfl _) ?_
              refine gl_pure 3 [0, 3, 4, 5, 29, 40] (K' := [(0, .string j12), (3, .int .i32 94), (4, .int .i64 0), (5, .bool false), (29, .bool true), (40, .bool ((strconv_lower c32) == 111))]) (by kernel_rfl) ?_
              refine gl_case 40 (b := ((strconv_lower c32) == 111)) (by kernel_rfl) (fun hc34 => ?_) (fun hc34 => ?_)
              · have hj21 := cond_t hc34 hj21
                refine gl_pure 6 [0, 3, 4, 5, 46] (K' := [(0, .string j12), (3, .int .i32 94), (4, .int .i64 0), (5, .bool false), (46, .bool true)]) (by kernel_rfl) ?_
                refine gl_atE (by kernel_rfl) ?_
                obtain rfl := some_inj hj21
                exact ge_mid fun t ht => ⟨(Imm.refl _), rfl, ht.pick (l := [0, 3, 4, 5, 46]) (by kernel_rfl)⟩
              · have hj21 := cond_f hc34 hj21
                refine gl_pure 1 [0, 3, 4, 5, 29, 40, 41] (K' := [(0, .string j12), (3, .int .i32 94), (4, .int .i64 0), (5, .bool false), (29, .bool true), (40, .bool false), (41, .string j12)]) (by kernel_rfl) ?_
                obtain ⟨c35, hx36, hj21⟩ := bind_some hj21
                refine gl_index' (T' := 9) (xs := (.tmp 41)) (xi := (.const (.int .i64 1))) (kd := .i64) hx36 (by kernel_rfl) (by kernel_rfl) (by kernel_rfl) (by kernel_rfl) (by kernel_rfl) ?_
                refine gl_callQ (by kernel_rfl) (strconv_lower_walk (r := (strconv_lower c35))  rfl _) ?_
                refine gl_pure 3 [0, 3, 4, 5, 46] (K' := [(0, .string j12), (3, .int .i32 94), (4, .int .i64 0), (5, .bool false), (46, .bool ((strconv_lower c35) == 120))]) (by kernel_rfl) ?_
                refine gl_atE (by kernel_rfl) ?_
                obtain rfl := some_inj hj21
                exact ge_mid fun t ht => ⟨(Imm.refl _), rfl, ht.pick (l := [0, 3, 4, 5, 46]) (by kernel_rfl)⟩
          · have hj21 := cond_f hc28 hj21
            refine gl_pure 17 [0, 3, 4, 5, 46] (K' := [(0, .string j12), (3, .int .i32 94), (4, .int .i64 0), (5, .bool false), (46, .bool false)]) (by kernel_rfl) ?_
            refine gl_atE (by kernel_rfl) ?_
            obtain rfl := some_inj hj21
            exact ge_mid fun t ht => ⟨(Imm.refl _), rfl, ht.pick (l := [0, 3, 4, 5, 46]) (by kernel_rfl)⟩
        · have hj21 := cond_f hc25 hj21
          refine gl_pure 22 [0, 3, 4, 5, 46] (K' := [(0, .string j12), (3, .int .i32 94), (4, .int .i64 0), (5, .bool false), (46, .bool false)]) (by kernel_rfl) ?_
          refine gl_atE (by kernel_rfl) ?_
          obtain rfl := some_inj hj21
          exact ge_mid fun t ht => ⟨(Imm.refl _), rfl, ht.pick (l := [0, 3, 4, 5, 46]) (by kernel_rfl)⟩
      · rintro t I24 L' ⟨hI22, rfl, hK23⟩
        refine ge_at hK23 ?_
        refine ge_seq ?_
        obtain ⟨j37, hj38, hr⟩ := bind_some hr
        refine gk_join (fun t I' L' => I24 ≤ I' ∧ L = L' ∧ Knows 94 [(0, .string j12), (3, .int .i32 j37.1), (4, .int .i64 j37.2.1), (5, .bool j37.2.2)] t) ?_ ?_
        · refine gk_cond (b := j20) (by kernel_rfl) (by kernel_rfl) (fun hc42 => ?_) (fun hc42 => ?_)
          · have hj38 := cond_t hc42 hj38
            refine gk_seq (by kernel_rfl) ?_
            refine gk_region (by kernel_rfl) ?_
            refine gl_pure 1 [0, 4] (K' := [(0, .string j12), (4, .int .i64 2)]) (by kernel_rfl) ?_
            refine gl_atE (by kernel_rfl) ?_
            refine ge_seq ?_
            refine gk_seq (by kernel_rfl) ?_
            refine gk_region (by kernel_rfl) ?_
            refine gl_pure 1 [0, 3, 4] (K' := [(0, .string j12), (3, .int .i32 48), (4, .int .i64 2)]) (by kernel_rfl) ?_
            refine gl_atE (by kernel_rfl) ?_
            refine ge_seq ?_
            refine gk_region (by kernel_rfl) ?_
            refine gl_pure 1 [0, 3, 4, 47] (K' := [(0, .string j12), (3, .int .i32 48), (4, .int .i64 2), (47, .string j12)]) (by kernel_rfl) ?_
            obtain ⟨c43, hx44, hj38⟩ := bind_some hj38
            refine gl_index' (T' := 9) (xs := (.tmp 47)) (xi := (.const (.int .i64 1))) (kd := .i64) hx44 (by kernel_rfl) (by kernel_rfl) (by kernel_rfl) (by kernel_rfl) (by kernel_rfl) ?_
            refine gl_callQ (by kernel_rfl) (strconv_lower_walk (r := (strconv_lower c43))  rfl _) ?_
            refine gl_pure 2 [0, 3, 4, 5] (K' := [(0, .string j12), (3, .int .i32 48), (4, .int .i64 2), (5, .bool ((strconv_lower c43) == 120))]) (by kernel_rfl) ?_
            refine gl_atE (by kernel_rfl) ?_
            obtain rfl := some_inj hj38
            exact ge_mid fun t ht => ⟨(Imm.refl _), rfl, ht.pick (l := [0, 3, 4, 5]) (by kernel_rfl)⟩
          · have hj38 := cond_f hc42 hj38
            refine gk_skip (by kernel_rfl) ?_
            obtain rfl := some_inj hj38
            exact ge_mid fun t ht => ⟨(Imm.refl _), rfl, ht.pick (l := [0, 3, 4, 5]) (by kernel_rfl)⟩
        · rintro t I41 L' ⟨hI39, rfl, hK40⟩
          refine ge_at hK40 ?_
          refine ge_seq ?_
          refine gk_seq (by kernel_rfl) ?_
          obtain ⟨r49, hl50, hr⟩ := bind_some hr
          refine gk_join (fun t I' L' => ∃ r57, r49 = Sum.inl r57 ∧ I41 ≤ I' ∧ L = L' ∧ Knows 94 [(3, .int .i32 r57)] t) ?_ ?_
          · refine gk_block (by kernel_rfl) ?_
            refine gk_pick [0, 3, 4, 5] (K' := [(0, .string j12), (3, .int .i32 j37.1), (4, .int .i64 j37.2.1), (5, .bool j37.2.2)]) (by kernel_rfl) ?_
            intro t hK
            refine gc_loop (strconv_underscoreOK_l61 j12 j37) (fun s51 t I' L' => I41 ≤ I' ∧ L = L' ∧ Knows 94 [(0, .string j12), (3, .int .i32 s51.1), (4, .int .i64 s51.2), (5, .bool j37.2.2)] t) (by kernel_rfl) ?_ hl50 ⟨(Imm.refl _), rfl, hK⟩
            rintro s51 o52 t I56 L' hb53 ⟨hI54, rfl, hK55⟩
            unfold strconv_underscoreOK_l61 at hb53
            refine gk_at hK55 ?_
            refine gk_seq (by kernel_rfl) ?_
            refine gk_seq (by kernel_rfl) ?_
            refine gk_region (by kernel_rfl) ?_
            refine gl_pure 4 [0, 3, 4, 5, 54] (K' := [(0, .string j12), (3, .int .i32 s51.1), (4, .int .i64 s51.2), (5, .bool j37.2.2), (54, .bool (decide (s51.2 < (j12.size : Int))))]) (by kernel_rfl) ?_
            refine gl_atE (by kernel_rfl) ?_
            refine ge_seq ?_
            refine gk_cond (b := (decide (s51.2 < (j12.size : Int)))) (by kernel_rfl) (by kernel_rfl) (fun hc63 => ?_) (fun hc63 => ?_)
            · have hb53 := cond_t hc63 hb53
              refine gk_skip (by kernel_rfl) ?_
              refine ge_seq ?_
              refine gk_seq (by kernel_rfl) ?_
              obtain ⟨j64, hj65, hb53⟩ := bind_some hb53
              refine gk_join (fun t I' L' => ∃ j66, j64 = Sum.inl j66 ∧ I56 ≤ I' ∧ L = L' ∧ Knows 94 [(0, .string j12), (3, .int .i32 j66), (4, .int .i64 s51.2), (5, .bool j37.2.2)] t) ?_ ?_
              · refine gk_block (by kernel_rfl) ?_
                refine gk_seq (by kernel_rfl) ?_
                refine gk_seq (by kernel_rfl) ?_
                obtain ⟨j70, hj71, hj65⟩ := bind_some hj65
                refine gk_join (fun t I' L' => I56 ≤ I' ∧ L = L' ∧ Knows 94 [(0, .string j12), (3, .int .i32 s51.1), (4, .int .i64 s51.2), (5, .bool j37.2.2), (83, .bool j70)] t) ?_ ?_
                · refine gk_region (by kernel_rfl) ?_
                  refine gl_pure 2 [0, 3, 4, 5, 57, 58] (K' := [(0, .string j12), (3, .int .i32 s51.1), (4, .int .i64 s51.2), (5, .bool j37.2.2), (57, .string j12), (58, .int .i64 s51.2)]) (by kernel_rfl) ?_
                  obtain ⟨c75, hx76, hj71⟩ := bind_some hj71
                  refine gl_index' (T' := 9) (xs := (.tmp 57)) (xi := (.tmp 58)) (kd := .i64) hx76 (by kernel_rfl) (by kernel_rfl) (by kernel_rfl) (by kernel_rfl) (by kernel_rfl) ?_
                  refine gl_pure 2 [0, 3, 4, 5, 61] (K' := [(0, .string j12), (3, .int .i32 s51.1), (4, .int .i64 s51.2), (5, .bool j37.2.2), (61, .bool (decide (48 ≤ c75)))]) (by kernel_rfl) ?_
                  refine gl_case 61 (b := (decide (48 ≤ c75))) (by kernel_rfl) (fun hc77 => ?_) (fun hc77 => ?_)
                  · have hj71 := cond_t hc77 hj71
                    refine gl_pure 2 [0, 3, 4, 5, 61, 62, 63] (K' := [(0, .string j12), (3, .int .i32 s51.1), (4, .int .i64 s51.2), (5, .bool j37.2.2), (61, .bool true), (62, .string j12), (63, .int .i64 s51.2)]) (by kernel_rfl) ?_
                    obtain ⟨c78, hx79, hj71⟩ := bind_some hj71
                    refine gl_index' (T' := 9) (xs := (.tmp 62)) (xi := (.tmp 63)) (kd := .i64) hx79 (by kernel_rfl) (by kernel_rfl) (by kernel_rfl) (by kernel_rfl) (by kernel_rfl) ?_
                    refine gl_pure 3 [0, 3, 4, 5, 67] (K' := [(0, .string j12), (3, .int .i32 s51.1), (4, .int .i64 s51.2), (5, .bool j37.2.2), (67, .bool (decide (c78 ≤ 57)))]) (by kernel_rfl) ?_
                    refine gl_case 67 (b := (decide (c78 ≤ 57))) (by kernel_rfl) (fun hc80 => ?_) (fun hc80 => ?_)
                    · have hj71 := cond_t hc80 hj71
                      refine gl_pure 16 [0, 3, 4, 5, 83] (K' := [(0, .string j12), (3, .int .i32 s51.1), (4, .int .i64 s51.2), (5, .bool j37.2.2), (83, .bool true)]) (by kernel_rfl) ?_
                      refine gl_atE (by kernel_rfl) ?_
                      obtain rfl := some_inj hj71
                      exact ge_mid fun t ht => ⟨(Imm.refl _), rfl, ht.pick (l := [0, 3, 4, 5, 83]) (by kernel_rfl)⟩
                    · have hj71 := cond_f hc80 hj71
                      refine gl_pure 2 [0, 3, 4, 5, 67, 69] (K' := [(0, .string j12), (3, .int .i32 s51.1), (4, .int .i64 s51.2), (5, .bool j37.2.2), (67, .bool false), (69, .bool j37.2.2)]) (by kernel_rfl) ?_
                      refine gl_case 69 (b := j37.2.2) (by kernel_rfl) (fun hc81 => ?_) (fun hc81 => ?_)
                      · have hj71 := cond_t hc81 hj71
                        refine gl_pure 2 [0, 3, 4, 5, 67, 69, 70, 71] (K' := [(0, .string j12), (3, .int .i32 s51.1), (4, .int .i64 s51.2), (5, .bool j37.2.2), (67, .bool false), (69, .bool true), (70, .string j12), (71, .int .i64 s51.2)]) (by kernel_rfl) ?_
                        obtain ⟨c82, hx83, hj71⟩ := bind_some hj71
                        refine gl_index' (T' := 9) (xs := (.tmp 70)) (xi := (.tmp 71)) (kd := .i64) hx83 (by kernel_rfl) (by kernel_rfl) (by kernel_rfl) (by kernel_rfl) (by kernel_rfl) ?_
                        refine gl_callQ (by kernel_rfl) (strconv_lower_walk (r := (strconv_lower c82))  rfl _) ?_
                        refine gl_pure 3 [0, 3, 4, 5, 67, 76] (K' := [(0, .string j12), (3, .int .i32 s51.1), (4, .int .i64 s51.2), (5, .bool j37.2.2), (67, .bool false), (76, .bool (decide (97 ≤ (strconv_lower c82))))]) (by kernel_rfl) ?_
                        refine gl_case 76 (b := (decide (97 ≤ (strconv_lower c82)))) (by kernel_rfl) (fun hc84 => ?_) (fun hc84 => ?_)
                        · have hj71 := cond_t hc84 hj71
                          refine gl_pure 2 [0, 3, 4, 5, 67, 76, 77, 78] (K' := [(0, .string j12), (3, .int .i32 s51.1), (4, .int .i64 s51.2), (5, .bool j37.2.2), (67, .bool false), (76, .bool true), (77, .string j12), (78, .int .i64 s51.2)]) (by kernel_rfl) ?_
                          obtain ⟨c85, hx86, hj71⟩ := bind_some hj71
                          refine gl_index' (T' := 9) (xs := (.tmp 77)) (xi := (.tmp 78)) (kd := .i64) hx86 (by kernel_rfl) (by kernel_rfl) (by kernel_rfl) (by kernel_rfl) (by kernel_rfl) ?_
                          refine gl_callQ (by kernel_rfl) (strconv_lower_walk (r := (strconv_lower c85))  rfl _) ?_
                          refine gl_pure 3 [0, 3, 4, 5, 83] (K' := [(0, .string j12), (3, .int .i32 s51.1), (4, .int .i64 s51.2), (5, .bool j37.2.2), (83, .bool (decide ((strconv_lower c85) ≤ 102)))]) (by kernel_rfl) ?_
                          refine gl_atE (by kernel_rfl) ?_
                          obtain rfl := some_inj hj71
                          exact ge_mid fun t ht => ⟨(Imm.refl _), rfl, ht.pick (l := [0, 3, 4, 5, 83]) (by kernel_rfl)⟩
                        · have hj71 := cond_f hc84 hj71
                          refine gl_pure 7 [0, 3, 4, 5, 83] (K' := [(0, .string j12), (3, .int .i32 s51.1), (4, .int .i64 s51.2), (5, .bool j37.2.2), (83, .bool false)]) (by kernel_rfl) ?_
                          refine gl_atE (by kernel_rfl) ?_
                          obtain rfl := some_inj hj71
                          exact ge_mid fun t ht => ⟨(Imm.refl _), rfl, ht.pick (l := [0, 3, 4, 5, 83]) (by kernel_rfl)⟩
                      · have hj71 := cond_f hc81 hj71
                        refine gl_pure 14 [0, 3, 4, 5, 83] (K' := [(0, .string j12), (3, .int .i32 s51.1), (4, .int .i64 s51.2), (5, .bool j37.2.2), (83, .bool false)]) (by kernel_rfl) ?_
                        refine gl_atE (by kernel_rfl) ?_
                        obtain rfl := some_inj hj71
                        exact ge_mid fun t ht => ⟨(Imm.refl _), rfl, ht.pick (l := [0, 3, 4, 5, 83]) (by kernel_rfl)⟩
                  · have hj71 := cond_f hc77 hj71
                    refine gl_pure 8 [0, 3, 4, 5, 67, 69] (K' := [(0, .string j12), (3, .int .i32 s51.1), (4, .int .i64 s51.2), (5, .bool j37.2.2), (67, .bool false), (69, .bool j37.2.2)]) (by kernel_rfl) ?_
                    refine gl_case 69 (b := j37.2.2) (by kernel_rfl) (fun hc87 => ?_) (fun hc87 => ?_)
                    · have hj71 := cond_t hc87 hj71
                      refine gl_pure 2 [0, 3, 4, 5, 67, 69, 70, 71] (K' := [(0, .string j12), (3, .int .i32 s51.1), (4, .int .i64 s51.2), (5, .bool j37.2.2), (67, .bool false), (69, .bool true), (70, .string j12), (71, .int .i64 s51.2)]) (by kernel_rfl) ?_
                      obtain ⟨c88, hx89, hj71⟩ := bind_some hj71
                      refine gl_index' (T' := 9) (xs := (.tmp 70)) (xi := (.tmp 71)) (kd := .i64) hx89 (by kernel_rfl) (by kernel_rfl) (by kernel_rfl) (by kernel_rfl) (by kernel_rfl) ?_
                      refine gl_callQ (by kernel_rfl) (strconv_lower_walk (r := (strconv_lower c88))  rfl _) ?_
                      refine gl_pure 3 [0, 3, 4, 5, 67, 76] (K' := [(0, .string j12), (3, .int .i32 s51.1), (4, .int .i64 s51.2), (5, .bool j37.2.2), (67, .bool false), (76, .bool (decide (97 ≤ (strconv_lower c88))))]) (by kernel_rfl) ?_
                      refine gl_case 76 (b := (decide (97 ≤ (strconv_lower c88)))) (by kernel_rfl) (fun hc90 => ?_) (fun hc90 => ?_)
                      · have hj71 := cond_t hc90 hj71
                        refine gl_pure 2 [0, 3, 4, 5, 67, 76, 77, 78] (K' := [(0, .string j12), (3, .int .i32 s51.1), (4, .int .i64 s51.2), (5, .bool j37.2.2), (67, .bool false), (76, .bool true), (77, .string j12), (78, .int .i64 s51.2)]) (by kernel_rfl) ?_
                        obtain ⟨c91, hx92, hj71⟩ := bind_some hj71
                        refine gl_index' (T' := 9) (xs := (.tmp 77)) (xi := (.tmp 78)) (kd := .i64) hx92 (by kernel_rfl) (by kernel_rfl) (by kernel_rfl) (by kernel_rfl) (by kernel_rfl) ?_
                        refine gl_callQ (by kernel_rfl) (strconv_lower_walk (r := (strconv_lower c91))  rfl _) ?_
                        refine gl_pure 3 [0, 3, 4, 5, 83] (K' := [(0, .string j12), (3, .int .i32 s51.1), (4, .int .i64 s51.2), (5, .bool j37.2.2), (83, .bool (decide ((strconv_lower c91) ≤ 102)))]) (by kernel_rfl) ?_
                        refine gl_atE (by kernel_rfl) ?_
                        obtain rfl := some_inj hj71
                        exact ge_mid fun t ht => ⟨(Imm.refl _), rfl, ht.pick (l := [0, 3, 4, 5, 83]) (by kernel_rfl)⟩
                      · have hj71 := cond_f hc90 hj71
                        refine gl_pure 7 [0, 3, 4, 5, 83] (K' := [(0, .string j12), (3, .int .i32 s51.1), (4, .int .i64 s51.2), (5, .bool j37.2.2), (83, .bool false)]) (by kernel_rfl) ?_
                        refine gl_atE (by kernel_rfl) ?_
                        obtain rfl := some_inj hj71
                        exact ge_mid fun t ht => ⟨(Imm.refl _), rfl, ht.pick (l := [0, 3, 4, 5, 83]) (by kernel_rfl)⟩
                    · have hj71 := cond_f hc87 hj71
                      refine gl_pure 14 [0, 3, 4, 5, 83] (K' := [(0, .string j12), (3, .int .i32 s51.1), (4, .int .i64 s51.2), (5, .bool j37.2.2), (83, .bool false)]) (by kernel_rfl) ?_
                      refine gl_atE (by kernel_rfl) ?_
                      obtain rfl := some_inj hj71
                      exact ge_mid fun t ht => ⟨(Imm.refl _), rfl, ht.pick (l := [0, 3, 4, 5, 83]) (by kernel_rfl)⟩
                · rintro t I74 L' ⟨hI72, rfl, hK73⟩
                  refine ge_at hK73 ?_
                  refine ge_seq ?_
                  refine gk_cond (b := j70) (by kernel_rfl) (by kernel_rfl) (fun hc93 => ?_) (fun hc93 => ?_)
                  · have hj65 := cond_t hc93 hj65
                    refine gk_seq (by kernel_rfl) ?_
                    refine gk_region (by kernel_rfl) ?_
                    refine gl_pure 1 [0, 3, 4, 5] (K' := [(0, .string j12), (3, .int .i32 48), (4, .int .i64 s51.2), (5, .bool j37.2.2)]) (by kernel_rfl) ?_
                    refine gl_atE (by kernel_rfl) ?_
                    refine ge_seq ?_
                    refine gk_exit (by kernel_rfl) ?_
                    refine ge_seq_exit ?_
                    refine ge_block_hit (by kernel_rfl) ?_
                    obtain rfl := some_inj hj65
                    exact ge_mid fun t ht => ⟨_, rfl, hI72, rfl, ht.pick (l := [0, 3, 4, 5]) (by kernel_rfl)⟩
                  · have hj65 := cond_f hc93 hj65
                    refine gk_skip (by kernel_rfl) ?_
                    refine ge_seq ?_
                    refine gk_seq (by kernel_rfl) ?_
                    refine gk_seq (by kernel_rfl) ?_
                    refine gk_region (by kernel_rfl) ?_
                    refine gl_pure 2 [0, 3, 4, 5, 84, 85] (K' := [(0, .string j12), (3, .int .i32 s51.1), (4, .int .i64 s51.2), (5, .bool j37.2.2), (84, .string j12), (85, .int .i64 s51.2)]) (by kernel_rfl) ?_
                    obtain ⟨c94, hx95, hj65⟩ := bind_some hj65
                    refine gl_index' (T' := 9) (xs := (.tmp 84)) (xi := (.tmp 85)) (kd := .i64) hx95 (by kernel_rfl) (by kernel_rfl) (by kernel_rfl) (by kernel_rfl) (by kernel_rfl) ?_
                    refine gl_pure 1 [0, 3, 4, 5, 87] (K' := [(0, .string j12), (3, .int .i32 s51.1), (4, .int .i64 s51.2), (5, .bool j37.2.2), (87, .bool (c94 == 95))]) (by kernel_rfl) ?_
                    refine gl_atE (by kernel_rfl) ?_
                    refine ge_seq ?_
                    refine gk_cond (b := (c94 == 95)) (by kernel_rfl) (by kernel_rfl) (fun hc96 => ?_) (fun hc96 => ?_)
                    · have hj65 := cond_t hc96 hj65
                      refine gk_seq (by kernel_rfl) ?_
                      refine gk_seq (by kernel_rfl) ?_
                      refine gk_region (by kernel_rfl) ?_
                      refine gl_pure 2 [0, 4, 5, 89] (K' := [(0, .string j12), (4, .int .i64 s51.2), (5, .bool j37.2.2), (89, .bool (s51.1 != 48))]) (by kernel_rfl) ?_
                      refine gl_atE (by kernel_rfl) ?_
                      refine ge_seq ?_
                      refine gk_cond (b := (s51.1 != 48)) (by kernel_rfl) (by kernel_rfl) (fun hc97 => ?_) (fun hc97 => ?_)
                      · have hj65 := cond_t hc97 hj65
                        refine gk_seq (by kernel_rfl) ?_
                        refine gk_region (by kernel_rfl) ?_
                        refine gl_pure 1 [2] (K' := [(2, .bool false)]) (by kernel_rfl) ?_
                        refine gl_atE (by kernel_rfl) ?_
                        refine ge_seq ?_
                        refine gk_ret (by kernel_rfl) ?_
                        refine ge_seq_ret ?_
                        refine ge_seq_ret ?_
                        refine ge_block_ret ?_
                        refine ge_seq_ret ?_
                        obtain rfl := some_inj hj65
                        refine ge_seq_ret ?_
                        obtain rfl := some_inj hb53
                        refine ge_round_out (fun hrr => ?_) (by intro h; cases h)
                        obtain rfl := hrr
                        refine ge_block_ret ?_
                        refine ge_seq_ret ?_
                        refine ge_seq_ret ?_
                        obtain rfl := some_inj hr
                        exact ge_result trivial (ResOk.tmp (by kernel_rfl) ResOk.nil) (Imm.trans (Imm.trans (Imm.trans (Imm.trans (Imm.trans hI3 hI14) hI22) hI39) hI54) hI72) ⟨rfl, rfl⟩
                      · have hj65 := cond_f hc97 hj65
                        refine gk_skip (by kernel_rfl) ?_
                        refine ge_seq ?_
                        refine gk_seq (by kernel_rfl) ?_
                        refine gk_region (by kernel_rfl) ?_
                        refine gl_pure 1 [0, 3, 4, 5] (K' := [(0, .string j12), (3, .int .i32 95), (4, .int .i64 s51.2), (5, .bool j37.2.2)]) (by kernel_rfl) ?_
                        refine gl_atE (by kernel_rfl) ?_
                        refine ge_seq ?_
                        refine gk_exit (by kernel_rfl) ?_
                        refine ge_seq_exit ?_
                        refine ge_block_hit (by kernel_rfl) ?_
                        obtain rfl := some_inj hj65
                        exact ge_mid fun t ht => ⟨_, rfl, hI72, rfl, ht.pick (l := [0, 3, 4, 5]) (by kernel_rfl)⟩
                    · have hj65 := cond_f hc96 hj65
                      refine gk_skip (by kernel_rfl) ?_
                      refine ge_seq ?_
                      refine gk_seq (by kernel_rfl) ?_
                      refine gk_seq (by kernel_rfl) ?_
                      refine gk_region (by kernel_rfl) ?_
                      refine gl_pure 2 [0, 4, 5, 91] (K' := [(0, .string j12), (4, .int .i64 s51.2), (5, .bool j37.2.2), (91, .bool (s51.1 == 95))]) (by kernel_rfl) ?_
                      refine gl_atE (by kernel_rfl) ?_
                      refine ge_seq ?_
                      refine gk_cond (b := (s51.1 == 95)) (by kernel_rfl) (by kernel_rfl) (fun hc98 => ?_) (fun hc98 => ?_)
                      · have hj65 := cond_t hc98 hj65
                        refine gk_seq (by kernel_rfl) ?_
                        refine gk_region (by kernel_rfl) ?_
                        refine gl_pure 1 [2] (K' := [(2, .bool false)]) (by kernel_rfl) ?_
                        refine gl_atE (by kernel_rfl) ?_
                        refine ge_seq ?_
                        refine gk_ret (by kernel_rfl) ?_
                        refine ge_seq_ret ?_
                        refine ge_block_ret ?_
                        refine ge_seq_ret ?_
                        obtain rfl := some_inj hj65
                        refine ge_seq_ret ?_
                        obtain rfl := some_inj hb53
                        refine ge_round_out (fun hrr => ?_) (by intro h; cases h)
                        obtain rfl := hrr
                        refine ge_block_ret ?_
                        refine ge_seq_ret ?_
                        refine ge_seq_ret ?_
                        obtain rfl := some_inj hr
                        exact ge_result trivial (ResOk.tmp (by kernel_rfl) ResOk.nil) (Imm.trans (Imm.trans (Imm.trans (Imm.trans (Imm.trans hI3 hI14) hI22) hI39) hI54) hI72) ⟨rfl, rfl⟩
                      · have hj65 := cond_f hc98 hj65
                        refine gk_skip (by kernel_rfl) ?_
                        refine ge_seq ?_
                        refine gk_region (by kernel_rfl) ?_
                        refine gl_pure 1 [0, 3, 4, 5] (K' := [(0, .string j12), (3, .int .i32 33), (4, .int .i64 s51.2), (5, .bool j37.2.2)]) (by kernel_rfl) ?_
                        refine gl_atE (by kernel_rfl) ?_
                        refine ge_block_normal ?_
                        obtain rfl := some_inj hj65
                        exact ge_mid fun t ht => ⟨_, rfl, hI72, rfl, ht.pick (l := [0, 3, 4, 5]) (by kernel_rfl)⟩
              · rintro t I69 L' ⟨j66, rfl, hI67, rfl, hK68⟩
                refine ge_at hK68 ?_
                refine ge_seq ?_
                refine gk_region (by kernel_rfl) ?_
                refine gl_pure 3 [0, 3, 4, 5] (K' := [(0, .string j12), (3, .int .i32 j66), (4, .int .i64 (IntKind.wrap .i64 (s51.2 + 1))), (5, .bool j37.2.2)]) (by kernel_rfl) ?_
                refine gl_atE (by kernel_rfl) ?_
                obtain rfl := some_inj hb53
                exact ge_round fun t ht => ⟨(Imm.trans hI54 hI67), rfl, ht.pick (l := [0, 3, 4, 5]) (by kernel_rfl)⟩
            · have hb53 := cond_f hc63 hb53
              refine gk_exit (by kernel_rfl) ?_
              refine ge_seq_exit ?_
              obtain rfl := some_inj hb53
              refine ge_round_out (fun hrr => ?_) (by intro h; cases h)
              obtain rfl := hrr
              refine ge_block_hit (by kernel_rfl) ?_
              exact ge_mid fun t ht => ⟨_, rfl, hI54, rfl, ht.pick (l := [3]) (by kernel_rfl)⟩
          · rintro t I60 L' ⟨r57, rfl, hI58, rfl, hK59⟩
            refine ge_at hK59 ?_
            refine ge_seq ?_
            refine gk_seq (by kernel_rfl) ?_
            refine gk_region (by kernel_rfl) ?_
            refine gl_pure 3 [2] (K' := [(2, .bool (r57 != 95))]) (by kernel_rfl) ?_
            refine gl_atE (by kernel_rfl) ?_
            refine ge_seq ?_
            refine gk_ret (by kernel_rfl) ?_
            obtain rfl := some_inj hr
            exact ge_result trivial (ResOk.tmp (by kernel_rfl) ResOk.nil) (Imm.trans (Imm.trans (Imm.trans (Imm.trans hI3 hI14) hI22) hI39) hI58) ⟨rfl, rfl⟩
end Go.Proofs.YtlhpclfkoblnkaaDoor
