/- Parts: LR5. -/
import Derived.Test.YtlhpclfkoblnkaaDoorL55s
import Derived.Test.YtlhpclfkoblnkaaDoorPA3s
import Derived.Test.YtlhpclfkoblnkaaDoorLY3bs
import Derived.Test.YtlhpclfkoblnkaaDoorTie
import Derived.Test.YtlhpclfkoblnkaaDoorCards
import Derived.Lib.LaidIn
import Derived.Lib.LaidU8T
import Derived.Deep.DeepHandedRow
import Derived.Deep.DeepWitnessRowRef
import Derived.ProofKit
import Derived.SizedLaws
import Derived.OpenShut
import Derived.SevenTiedAt
set_option linter.unusedVariables false
namespace Go.Proofs.YtlhpclfkoblnkaaDoor
open Go.GB Go.ChangeShapes Go.WideShapes Go.ChangeAt Go.RowKit Go.Lib
set_option maxRecDepth 100000

theorem reads28 : Reads Tryd.prog 28 kS27 wS27 := by
  intro H enc W spare held fuel cs x h hb
  obtain ⟨xs, m, rfl, rfl, hl, hx, hf⟩ := DataW.trod_struct (fs := Tryd.prog.fieldsOf 28) (by kernel_rfl) h
  have hlen : cs.length = 3 := hl.trans (by kernel_rfl)
  have hxl : xs.length = 3 := hx.trans (by kernel_rfl)
  match xs, hxl, hf, hb with
  | [x0, x1, x2], _, hf, hb =>
    simp only [List.map_cons, List.map_nil, Go.Proofs.YtlhpclfkoblnkaaDoor.Rows.uptoBulk, Go.Proofs.YtlhpclfkoblnkaaDoor.Rows.uptoBulkAll] at hb
    obtain ⟨y0, h0, w0⟩ := field_read (i := 0) (o := 0) (n := 1) (t := 3) (x := x0) hf rfl (by kernel_rfl) (by kernel_rfl) (by kernel_rfl) (by kernel_rfl) (reads_int (k := .i64) (by kernel_rfl)) (by omega)
    obtain ⟨y1, h1, w1⟩ := field_read (i := 1) (o := 1) (n := 1) (t := 9) (x := x1) hf rfl (by kernel_rfl) (by kernel_rfl) (by kernel_rfl) (by kernel_rfl) (reads_str (by kernel_rfl)) (by omega)
    obtain ⟨y2, h2, w2⟩ := field_read (i := 2) (o := 2) (n := 1) (t := 3) (x := x2) hf rfl (by kernel_rfl) (by kernel_rfl) (by kernel_rfl) (by kernel_rfl) (reads_int (k := .i64) (by kernel_rfl)) (by omega)
    have hh := (pairR h0 (pairR h1 (lastR h2 (by rw [hlen])) rfl) rfl)
    rw [List.drop_zero] at hh
    exact ⟨⟨y0, y1, y2⟩, hh, _, _, _, by simp only [Go.Proofs.YtlhpclfkoblnkaaDoor.Rows.uptoBulk, Go.Proofs.YtlhpclfkoblnkaaDoor.Rows.uptoBulkAll, List.map_cons, List.map_nil]; omega, w0, w1, w2⟩
theorem ownKnob_none : ownKnob Tryd.prog.godebug = none := by kernel_rfl
def ren8 : Go.Shelf.Ren := ⟨fun f => f, fun t => if t = 5 then 5 else if t = 119 then 78 else if t = 138 then 80 else if t = 139 then 81 else t, fun g => if g = 3 then 0 else 1⟩
theorem pow_of {W : World} (h : Lib.VarReads Tryd.prog W "internal/strconv.uint64pow10" Rows.laid_internal_strconv_uint64pow10) : RepS (Kd.int .u64) (immOf W) (some ⟨2, 0, none⟩) 20 tab2 ∧ ∃ t fz, (immOf W).h 2 = some (.cells (tab2.map fun z => Value.int .u64 z).toArray t fz) := by
  obtain ⟨g, t, cs, fuel, p, hg, hty, hvar, hd⟩ := h
  obtain rfl := Option.some.inj ((show Tryd.prog.globalNamed "internal/strconv.uint64pow10" = some 2 by kernel_rfl).symm.trans hg)
  obtain rfl := Option.some.inj ((show (Tryd.prog.globals[2]?).map (·.type) = some 109 by kernel_rfl).symm.trans hty)
  have hcs := Lib.cells_of_tab (k := .u64) (zs := tab2) (n := 20) (show Tryd.prog.underlying 109 = some (.array 20 89) by kernel_rfl) (by kernel_rfl) (by kernel_rfl) (by kernel_rfl) hd
  have hb : ∃ t fz, W.heap[2]? = some (.cells (tab2.map fun z => Value.int .u64 z).toArray t fz) := by
    unfold World.var? at hvar
    rw [hg] at hvar
    simp only [Option.bind_some] at hvar
    split at hvar
    · rename_i c t fz hh
      cases hvar
      refine ⟨t, fz, ?_⟩
      rw [hh, ← hcs]
    · cases hvar
  refine ⟨⟨by simp [tab2], by simp [tab2, maxLen'], fun i x hx => ?_⟩, hb⟩
  obtain ⟨t, fz, hh⟩ := hb
  refine ⟨⟨2, 0, none⟩, [.int .u64 x], rfl, rfl, fun j v hj => ?_⟩
  have hj0 : j = 0 := by have := (List.getElem?_eq_some_iff.1 hj).1; simpa using this
  subst hj0
  cases hj
  rw [addr_add, show i * (Kd.int .u64).n + 0 = i from by show i * 1 + 0 = i; omega]
  refine imm_cell ?_
  simp [World.cell?, hh, hx]
theorem glob_of {W : World} (h : laidMetH Tryd.prog [("math/bits.deBruijn32tab", Rows.laid_math_bits_deBruijn32tab), ("math/bits.deBruijn64tab", Rows.laid_math_bits_deBruijn64tab), ("internal/strconv.uint64pow10", Rows.laid_internal_strconv_uint64pow10), ("unicode/utf8.acceptRanges", Rows.laid_unicode_utf8_acceptRanges), ("strconv.ErrRange", Rows.laid_strconv_ErrRange), ("strconv.ErrSyntax", Rows.laid_strconv_ErrSyntax), ("unicode/utf8.first", Rows.laid_unicode_utf8_first)] W) : Gl (immOf W) := by
  have h' : laidMet Tryd.prog [("math/bits.deBruijn32tab", Rows.laid_math_bits_deBruijn32tab), ("math/bits.deBruijn64tab", Rows.laid_math_bits_deBruijn64tab), ("internal/strconv.uint64pow10", Rows.laid_internal_strconv_uint64pow10), ("unicode/utf8.acceptRanges", Lib.acceptData), ("strconv.ErrRange", Rows.laid_strconv_ErrRange), ("strconv.ErrSyntax", Rows.laid_strconv_ErrSyntax), ("unicode/utf8.first", Lib.firstData)] W := h
  have ht := utf8Tabs_of_readsT (P := Tryd.prog) (ρ := ren8) ⟨by kernel_rfl, by kernel_rfl, by kernel_rfl, by kernel_rfl⟩ ⟨by kernel_rfl, by kernel_rfl, by kernel_rfl, by kernel_rfl, by kernel_rfl, by kernel_rfl, by kernel_rfl⟩ (Lib.laidMet.reads h' (.tail _ (.tail _ (.tail _ (.tail _ (.tail _ (.tail _ (.head _)))))))) (Lib.laidMet.reads h' (.tail _ (.tail _ (.tail _ (.head _)))))
  obtain ⟨t0, t1⟩ := ht
  refine ⟨rfl, ⟨by simp [tab0], by simp [tab0, maxLen'], fun i x hx => ?_⟩, ⟨by simp [tab1], by simp [tab1, maxLen'], fun i x hx => ?_⟩, (pow_of (Lib.laidMet.reads h' (.tail _ (.tail _ (.head _))))).1, (pow_of (Lib.laidMet.reads h' (.tail _ (.tail _ (.head _))))).2⟩
  · have hi : i < 256 := by have := (List.getElem?_eq_some_iff.1 hx).1; simpa [tab0] using this
    simp only [tab0, List.getElem?_map, List.getElem?_range hi, Option.map_some, Option.some.injEq] at hx
    subst hx
    refine ⟨⟨0, 0, none⟩, [.int .u8 (Go.Lib.firstT i)], rfl, rfl, fun j v hj => ?_⟩
    have hj0 : j = 0 := by have := (List.getElem?_eq_some_iff.1 hj).1; simpa using this
    subst hj0
    cases hj
    rw [addr_add, show i * (Kd.int .u8).n + 0 = i from by show i * 1 + 0 = i; omega]
    exact imm_cell (t0 i hi)
  · have hi : i < 16 := by have := (List.getElem?_eq_some_iff.1 hx).1; simpa [tab1] using this
    simp only [tab1, List.getElem?_map, List.getElem?_range hi, Option.map_some, Option.some.injEq] at hx
    subst hx
    refine ⟨⟨1, 0, none⟩, [.int .u8 (Go.Lib.accLo i), .int .u8 (Go.Lib.accHi i)], rfl, kS79_mk, fun j v hj => ?_⟩
    have hj2 : j < 2 := by have := (List.getElem?_eq_some_iff.1 hj).1; simpa using this
    have h2 := t1 i hi
    rw [addr_add, show i * kS79.n + j = 2 * i + j from by show i * 2 + j = 2 * i + j; omega]
    match j, hj2 with
    | 0, _ => cases hj; exact imm_cell h2.1
    | 1, _ => cases hj; exact imm_cell h2.2
noncomputable def laidWorld (os : Os) : World :=
  let w0 := World.holding Tryd.prog os ⟨#[], #[], []⟩
  let put (h : Array Obj) (g : Nat) (cs : Array Value) : Array Obj := h.modify g fun
    | .cells _ t frozen => .cells cs t frozen
    | o => o
  let n0 := w0.heap.size
  let h1 := put w0.heap 5 #[Value.int .u8 0, Value.int .u8 1, Value.int .u8 28, Value.int .u8 2, Value.int .u8 29, Value.int .u8 14, Value.int .u8 24, Value.int .u8 3, Value.int .u8 30, Value.int .u8 22, Value.int .u8 20, Value.int .u8 15, Value.int .u8 25, Value.int .u8 17, Value.int .u8 4, Value.int .u8 8, Value.int .u8 31, Value.int .u8 27, Value.int .u8 13, Value.int .u8 23, Value.int .u8 21, Value.int .u8 19, Value.int .u8 16, Value.int .u8 7, Value.int .u8 26, Value.int .u8 12, Value.int .u8 18, Value.int .u8 6, Value.int .u8 11, Value.int .u8 5, Value.int .u8 10, Value.int .u8 9]
  let h2 := put h1 6 #[Value.int .u8 0, Value.int .u8 1, Value.int .u8 56, Value.int .u8 2, Value.int .u8 57, Value.int .u8 49, Value.int .u8 28, Value.int .u8 3, Value.int .u8 61, Value.int .u8 58, Value.int .u8 42, Value.int .u8 50, Value.int .u8 38, Value.int .u8 29, Value.int .u8 17, Value.int .u8 4, Value.int .u8 62, Value.int .u8 47, Value.int .u8 59, Value.int .u8 36, Value.int .u8 45, Value.int .u8 43, Value.int .u8 51, Value.int .u8 22, Value.int .u8 53, Value.int .u8 39, Value.int .u8 33, Value.int .u8 30, Value.int .u8 24, Value.int .u8 18, Value.int .u8 12, Value.int .u8 5, Value.int .u8 63, Value.int .u8 55, Value.int .u8 48, Value.int .u8 27, Value.int .u8 60, Value.int .u8 41, Value.int .u8 37, Value.int .u8 16, Value.int .u8 46, Value.int .u8 35, Value.int .u8 44, Value.int .u8 21, Value.int .u8 52, Value.int .u8 32, Value.int .u8 23, Value.int .u8 11, Value.int .u8 54, Value.int .u8 26, Value.int .u8 40, Value.int .u8 15, Value.int .u8 34, Value.int .u8 20, Value.int .u8 31, Value.int .u8 10, Value.int .u8 25, Value.int .u8 14, Value.int .u8 19, Value.int .u8 9, Value.int .u8 13, Value.int .u8 8, Value.int .u8 7, Value.int .u8 6]
  let h3 := put h2 2 #[Value.int .u64 1, Value.int .u64 10, Value.int .u64 100, Value.int .u64 1000, Value.int .u64 10000, Value.int .u64 100000, Value.int .u64 1000000, Value.int .u64 10000000, Value.int .u64 100000000, Value.int .u64 1000000000, Value.int .u64 10000000000, Value.int .u64 100000000000, Value.int .u64 1000000000000, Value.int .u64 10000000000000, Value.int .u64 100000000000000, Value.int .u64 1000000000000000, Value.int .u64 10000000000000000, Value.int .u64 100000000000000000, Value.int .u64 1000000000000000000, Value.int .u64 10000000000000000000]
  let h4 := put h3 1 ((List.range 16).flatMap fun i => [Value.int .u8 (Lib.accLo i), Value.int .u8 (Lib.accHi i)]).toArray
  let h5 := put h4 4 #[.iface 126 (.pointer (some ⟨n0 + 0, 0, none⟩))]
  let h6 := put h5 3 #[.iface 126 (.pointer (some ⟨n0 + 1, 0, none⟩))]
  let h7 := put h6 0 (Lib.firstTab.map fun z => Value.int .u8 z).toArray
  let b0 := h7.push (.cells #[Value.string ⟨#[118, 97, 108, 117, 101, 32, 111, 117, 116, 32, 111, 102, 32, 114, 97, 110, 103, 101]⟩] 128 (0, 0))
  let b1 := b0.push (.cells #[Value.string ⟨#[105, 110, 118, 97, 108, 105, 100, 32, 115, 121, 110, 116, 97, 120]⟩] 128 (0, 0))
  { w0 with heap := b1 }
theorem laid_met (os : Os) (args : Array Value) : laidMet Tryd.prog [("math/bits.deBruijn32tab", Rows.laid_math_bits_deBruijn32tab), ("math/bits.deBruijn64tab", Rows.laid_math_bits_deBruijn64tab), ("internal/strconv.uint64pow10", Rows.laid_internal_strconv_uint64pow10), ("unicode/utf8.acceptRanges", Rows.laid_unicode_utf8_acceptRanges), ("strconv.ErrRange", Rows.laid_strconv_ErrRange), ("strconv.ErrSyntax", Rows.laid_strconv_ErrSyntax), ("unicode/utf8.first", Rows.laid_unicode_utf8_first)] ((laidWorld os).forCall (fun _ _ => 0) ⟨#[], args, []⟩).memory :=
  (LaidIn.of_run (l := [("math/bits.deBruijn32tab", Rows.laid_math_bits_deBruijn32tab), ("math/bits.deBruijn64tab", Rows.laid_math_bits_deBruijn64tab), ("internal/strconv.uint64pow10", Rows.laid_internal_strconv_uint64pow10), ("unicode/utf8.acceptRanges", Lib.acceptData), ("strconv.ErrRange", Rows.laid_strconv_ErrRange), ("strconv.ErrSyntax", Rows.laid_strconv_ErrSyntax), ("unicode/utf8.first", Lib.firstData)]) ([5, 6, 2, 1, 4, 3, 0] ++ (List.range 2).map (fun i => (World.holding Tryd.prog os ⟨#[], #[], []⟩).heap.size + i)) 12 (by kernel_rfl) (by kernel_rfl) (by kernel_rfl) (by kernel_rfl)).met
theorem witness_row (os : Os) {H : Type} (enc : TypeId × Value → H) :
    ((Rows.OpenSpec.upto Rows.lexBlanksSpec) : OpenSpec).preRow enc Tryd.prog Tryd.f7 Rows.lexBlanksUptoRow.domain false Rows.lexBlanksUptoRow.laid ((laidWorld os).forCall (fun _ _ => 0) ⟨#[], #[.slice none 0 0, .slice none 0 0], []⟩).memory #[.slice none 0 0, .slice none 0 0] := by
  have hw : (DataW.whole enc Tryd.prog ((laidWorld os).forCall (fun _ _ => 0) ⟨#[], #[.slice none 0 0, .slice none 0 0], []⟩).memory Tryd.f7.params.toList (Rows.OpenSpec.upto Rows.lexBlanksSpec).vars false (#[.slice none 0 0, .slice none 0 0] : Array Value).toList 8).map (fun x => (x.1, x.2.1)) =
      some ([.nil, .nil], []) := by kernel_rfl
  obtain ⟨⟨x1, x2, x3⟩, hx, hx1⟩ := Option.map_eq_some_iff.1 hw
  simp only [Prod.mk.injEq] at hx1
  obtain ⟨rfl, rfl⟩ := hx1
  exact OpenSpec.preRow_of_cond 8 hx (by kernel_rfl) (fun k hk => by cases hk; rfl) (by kernel_rfl) (laid_met os _)

theorem laidOut : laidOutB Tryd.prog = true := by kernel_rfl
set_option maxHeartbeats 400000 in
theorem lifted (os : Os) (started : os.Started) (H : Type) (enc : TypeId × Value → H) (F : Stop.Interp) :
    ReturnsInHanded {} Tryd.checked os 7 .any (((Rows.OpenSpec.upto Rows.lexBlanksSpec) : OpenSpec).preRow enc Tryd.prog Tryd.f7 Rows.lexBlanksUptoRow.domain false Rows.lexBlanksUptoRow.laid) (((Rows.OpenSpec.upto Rows.lexBlanksSpec).at F).post enc Tryd.prog Tryd.f7 false true false false) := by
  refine returnsInHanded_of_row (C := Tryd.checked) (s := (Rows.OpenSpec.upto Rows.lexBlanksSpec)) ownKnob_none started (by kernel_rfl) Tryd.func7
    (witness_row_atRef (enc := enc) (C := Tryd.checked) false (laidWorld os) #[.slice none 0 0, .slice none 0 0] rfl (by kernel_rfl) (by kernel_rfl) (by kernel_rfl) (witness_row os enc)) ?_
  intro W base args ds gs before hval0 hW _ hcond _ hL _ _
  have hval : ∀ (j : Nat) t v, Tryd.f7.params[j]? = some t → args[j]? = some v → Value.okWide Tryd.prog W .any base t v := hval0
  have hW' := hW
  obtain ⟨p, q, hA0, hV0, rfl, _, _⟩ := hW
  have hA : DataW.TrodAll enc Tryd.prog W 0 (fun _ => true) true Tryd.f7.params.toList args.toList ds p := hA0
  rw [show Tryd.f7.params = #[22, 39] by kernel_rfl] at hA hval
  obtain ⟨v0, vs0, d0, ds0, p0, q0, hargs, rfl, rfl, h0, r0⟩ := trodAll_cons hA
  obtain ⟨v1, vs1, d1, ds1, p1, q1, rfl, rfl, rfl, h1, r1⟩ := trodAll_cons r0
  obtain ⟨rfl, rfl, rfl⟩ := trodAll_nil r1
  obtain rfl : args = #[v0, v1] := by cases args; simp_all
  obtain ⟨rfl, rfl⟩ := trodVars_none hV0
  have hbulk := hcond _ rfl
  simp only [Rows.uptoSmall, decide_eq_true_eq, List.append_nil, Rows.uptoBulkAll] at hbulk
  have k0 := h0
  have lt0 : ∀ x ∈ p0, x.block < W.heap.size := by obtain ⟨m, hm⟩ := k0; exact DataW.trod_lt m _ _ _ hm
  obtain ⟨fu0, hf0⟩ := h0
  obtain ⟨a0, ha0, wa0⟩ := (reads_slice (e := 28) (by kernel_rfl) (by kernel_rfl) reads28) hf0 (by show Rows.uptoBulk d0 ≤ 1048576; omega)
  obtain ⟨A0, len0, cap0, rfl⟩ := okWide_slice (e := 28) (t := 22) (by kernel_rfl) (hval 0 22 v0 rfl rfl)
  obtain ⟨A0', n0', he0, hf0_0⟩ := sl_open ha0
  simp only [Value.cells, List.cons.injEq, and_true, Value.slice.injEq] at he0
  obtain ⟨rfl, rfl, rfl⟩ := he0
  have k1 := h1
  have lt1 : ∀ x ∈ p1, x.block < W.heap.size := by obtain ⟨m, hm⟩ := k1; exact DataW.trod_lt m _ _ _ hm
  obtain ⟨fu1, hf1⟩ := h1
  obtain ⟨a1, ha1, wa1⟩ := (reads_slice (e := 3) (by kernel_rfl) (by kernel_rfl) (reads_int (k := .i64) (by kernel_rfl))) hf1 (by show Rows.uptoBulk d1 ≤ 1048576; omega)
  obtain ⟨A1, len1, cap1, rfl⟩ := okWide_slice (e := 3) (t := 39) (by kernel_rfl) (hval 1 39 v1 rfl rfl)
  obtain ⟨A1', n1', he1, hf1_0⟩ := sl_open ha1
  simp only [Value.cells, List.cons.injEq, and_true, Value.slice.injEq] at he1
  obtain ⟨rfl, rfl, rfl⟩ := he1
  have hr := tocsinlaw13_LexBlanks_true a0 a1 ha0 ha1 wa0 wa1 (by show Rows.uptoBulk d0 + Rows.uptoBulk d1 ≤ 1048576; omega)
  refine (calls_of (tocsinlaw13_LexBlanks_walk (r := true) (glob_of hL) hf0_0 hf1_0 hr [])).mono fun e W' ⟨he, bel⟩ => ?_
  subst he
  have e1 : ((Rows.OpenSpec.upto Rows.lexBlanksSpec).at F).fn H ([d0, d1] ++ []) = { results := [.lit (.bool true)], args := [d0, d1] } := rfl
  have t1 : DataW.TrodAll enc Tryd.prog W' 0 (fun b => decide (b < W.heap.size)) true Tryd.f7.params.toList [.slice A0 a0.length cap0, .slice A1 a1.length cap1] [d0, d1] (p0 ++ (p1 ++ ([]))) := by
    rw [show Tryd.f7.params = #[22, 39] by kernel_rfl]
    exact (trodAll_cons_mk (Below.trod laidOut (by kernel_rfl) (of_decide_eq_true (by kernel_rfl)) k0 bel lt0) (trodAll_cons_mk (Below.trod laidOut (by kernel_rfl) (of_decide_eq_true (by kernel_rfl)) k1 bel lt1) trodAll_mk0))
  clear hcond hval hA hbulk
  refine ⟨_, rfl, _, _, _, [], p0 ++ (p1 ++ ([])), [], hW', ?_, ?_, ?_, bel.frame _, fun h => by cases h⟩
  · rw [e1]; exact trodAll_mk1 (shut_bool (show Tryd.prog.underlying 4 = some .bool by kernel_rfl) _)
  · rw [e1]; exact t1
  · rw [e1]; rfl
theorem row_holds : Rows.LexBlanksUptoSaid :=
  OpenClaim.holds_of_cond 7 Tryd.f7 rfl rfl rfl rfl rfl rfl rfl ⟨rfl, rfl, rfl, rfl, rfl⟩ rfl rfl rfl rfl rfl (by kernel_rfl) Tryd.func7 (by kernel_rfl)
    (of_decide_eq_true (by kernel_rfl)) (by unfold Func.isWrapper; rw [if_neg (of_decide_eq_false (by kernel_rfl))]; exact ⟨rfl, rfl⟩)
    (fun os started H enc _ F0 => by rw [OpenClaim.pre_eq_preRow]; exact lifted os started H enc F0)
theorem card_holds : Rows.LexBlanksUptoCardSaid :=
  Claim7.holds_tied_plain_at .later [] [.data, .data, .data, .data, .sentinel, .sentinel, .pinned] true (true, "68220a9f493954d5afeeca164dc4ce5fa9f7e66eefb795b36367f9c250a4a795") true
    row_holds (fun _ h => by cases h) (by kernel_rfl) (fun _ h => by cases h) lexBlanksUpto_row_tie rfl ⟨rfl, rfl⟩ (by kernel_rfl) rfl
    (fun f fn hf hfn => by
      obtain rfl : f = 7 := Option.some.inj ((show Tryd.prog.funcNamed "tocsin/tocsinlaw13.LexBlanks" = some 7 by kernel_rfl).symm.trans hf) |>.symm
      obtain rfl : fn = Tryd.f7 := (Option.some.inj (Tryd.func7.symm.trans hfn)).symm
      exact ⟨by kernel_rfl, fun j t ht => by
        rw [show Tryd.f7.params = #[22, 39] by kernel_rfl] at ht
        have hall : ∀ t ∈ (#[22, 39] : Array TypeId), Tryd.prog.wantsStandIn t = false := by
          intro t ht
          simp only [List.mem_toArray, List.mem_cons, List.not_mem_nil, or_false] at ht
          rcases ht with rfl | rfl <;> kernel_rfl
        exact hall t (Array.mem_of_getElem? ht)⟩)
    (by kernel_rfl)
end Go.Proofs.YtlhpclfkoblnkaaDoor
