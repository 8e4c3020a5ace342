import Derived.Test.YtjkkmbjkndageaaDoorF1
import Derived.Test.YtjkkmbjkndageaaDoorGBR
import Derived.Test.YtjkkmbjkndageaaDoorPV3
import Derived.Test.YtjkkmbjkndageaaDoorTie
import Derived.Test.YtjkkmbjkndageaaDoorCards
import Derived.Lib.LaidIn
import Derived.Lib.LaidU8T
import Derived.Deep.DeepHandedRow
import Derived.Deep.DeepWitnessRowRef
import Derived.ProofKit
import Derived.SizedLaws
import Derived.OpenShut
import Derived.SevenTiedAt
set_option linter.unusedVariables false
namespace Go.Proofs.YtjkkmbjkndageaaDoor
open Go.GB Go.ChangeShapes Go.WideShapes Go.ChangeAt Go.RowKit Go.Lib
set_option maxRecDepth 100000

theorem reads54 : Reads Tryd.prog 54 kS53 wS53 := by
  intro H enc W spare held fuel cs x h hb
  obtain ⟨xs, m, rfl, rfl, hl, hx, hf⟩ := DataW.trod_struct (fs := Tryd.prog.fieldsOf 54) (by kernel_rfl) h
  have hlen : cs.length = 2 := hl.trans (by kernel_rfl)
  have hxl : xs.length = 2 := hx.trans (by kernel_rfl)
  match xs, hxl, hf, hb with
  | [x0, x1], _, hf, hb =>
    simp only [List.map_cons, List.map_nil, Go.Proofs.YtjkkmbjkndageaaDoor.Rows.uptoBulk, Go.Proofs.YtjkkmbjkndageaaDoor.Rows.uptoBulkAll] at hb
    obtain ⟨y0, h0, w0⟩ := field_read (i := 0) (o := 0) (n := 1) (t := 9) (x := x0) hf rfl (by kernel_rfl) (by kernel_rfl) (by kernel_rfl) (by kernel_rfl) (reads_str (by kernel_rfl)) (by omega)
    obtain ⟨y1, h1, w1⟩ := field_read (i := 1) (o := 1) (n := 1) (t := 9) (x := x1) hf rfl (by kernel_rfl) (by kernel_rfl) (by kernel_rfl) (by kernel_rfl) (reads_str (by kernel_rfl)) (by omega)
    have hh := (pairR h0 (lastR h1 (by rw [hlen])) rfl)
    rw [List.drop_zero] at hh
    exact ⟨⟨y0, y1⟩, hh, _, _, by simp only [Go.Proofs.YtjkkmbjkndageaaDoor.Rows.uptoBulk, Go.Proofs.YtjkkmbjkndageaaDoor.Rows.uptoBulkAll, List.map_cons, List.map_nil]; omega, w0, w1⟩
theorem reads24 : Reads Tryd.prog 24 kS23 wS23 := by
  intro H enc W spare held fuel cs x h hb
  obtain ⟨xs, m, rfl, rfl, hl, hx, hf⟩ := DataW.trod_struct (fs := Tryd.prog.fieldsOf 24) (by kernel_rfl) h
  have hlen : cs.length = 5 := hl.trans (by kernel_rfl)
  have hxl : xs.length = 5 := hx.trans (by kernel_rfl)
  match xs, hxl, hf, hb with
  | [x0, x1, x2, x3, x4], _, hf, hb =>
    simp only [List.map_cons, List.map_nil, Go.Proofs.YtjkkmbjkndageaaDoor.Rows.uptoBulk, Go.Proofs.YtjkkmbjkndageaaDoor.Rows.uptoBulkAll] at hb
    obtain ⟨y0, h0, w0⟩ := field_read (i := 0) (o := 0) (n := 1) (t := 9) (x := x0) hf rfl (by kernel_rfl) (by kernel_rfl) (by kernel_rfl) (by kernel_rfl) (reads_str (by kernel_rfl)) (by omega)
    obtain ⟨y1, h1, w1⟩ := field_read (i := 1) (o := 1) (n := 1) (t := 9) (x := x1) hf rfl (by kernel_rfl) (by kernel_rfl) (by kernel_rfl) (by kernel_rfl) (reads_str (by kernel_rfl)) (by omega)
    obtain ⟨y2, h2, w2⟩ := field_read (i := 2) (o := 2) (n := 1) (t := 2) (x := x2) hf rfl (by kernel_rfl) (by kernel_rfl) (by kernel_rfl) (by kernel_rfl) (reads_int (k := .i64) (by kernel_rfl)) (by omega)
    obtain ⟨y3, h3, w3⟩ := field_read (i := 3) (o := 3) (n := 1) (t := 22) (x := x3) hf rfl (by kernel_rfl) (by kernel_rfl) (by kernel_rfl) (by kernel_rfl) (reads_slice (e := 25) (by kernel_rfl) (by kernel_rfl) (reads_slice (e := 54) (by kernel_rfl) (by kernel_rfl) reads54)) (by omega)
    obtain ⟨y4, h4, w4⟩ := field_read (i := 4) (o := 4) (n := 1) (t := 22) (x := x4) hf rfl (by kernel_rfl) (by kernel_rfl) (by kernel_rfl) (by kernel_rfl) (reads_slice (e := 25) (by kernel_rfl) (by kernel_rfl) (reads_slice (e := 54) (by kernel_rfl) (by kernel_rfl) reads54)) (by omega)
    have hh := (pairR h0 (pairR h1 (pairR h2 (pairR h3 (lastR h4 (by rw [hlen])) rfl) rfl) rfl) rfl)
    rw [List.drop_zero] at hh
    exact ⟨⟨y0, y1, y2, y3, y4⟩, hh, _, _, _, _, _, by simp only [Go.Proofs.YtjkkmbjkndageaaDoor.Rows.uptoBulk, Go.Proofs.YtjkkmbjkndageaaDoor.Rows.uptoBulkAll, List.map_cons, List.map_nil]; omega, w0, w1, w2, w3, w4⟩
theorem ownKnob_none : ownKnob Tryd.prog.godebug = none := by kernel_rfl
def ren8 : Go.Shelf.Ren := ⟨fun f => f, fun t => if t = 5 then 5 else if t = 119 then 96 else if t = 138 then 98 else if t = 139 then 99 else t, fun g => if g = 3 then 0 else 1⟩
theorem glob_of {W : World} (h : laidMetH Tryd.prog [("unicode/utf8.acceptRanges", Rows.laid_unicode_utf8_acceptRanges), ("unicode/utf8.first", Rows.laid_unicode_utf8_first)] W) : Gl (immOf W) := by
  have h' : laidMet Tryd.prog [("unicode/utf8.acceptRanges", Lib.acceptData), ("unicode/utf8.first", Lib.firstData)] W := h
  have ht := utf8Tabs_of_readsT (P := Tryd.prog) (ρ := ren8) ⟨by kernel_rfl, by kernel_rfl, by kernel_rfl, by kernel_rfl⟩ ⟨by kernel_rfl, by kernel_rfl, by kernel_rfl, by kernel_rfl, by kernel_rfl, by kernel_rfl, by kernel_rfl⟩ (Lib.laidMet.reads h' (.tail _ (.head _))) (Lib.laidMet.reads h' (.head _))
  obtain ⟨t0, t1⟩ := ht
  refine ⟨rfl, ⟨by simp [tab0], by simp [tab0, maxLen'], fun i x hx => ?_⟩, ⟨by simp [tab1], by simp [tab1, maxLen'], fun i x hx => ?_⟩⟩
  · have hi : i < 256 := by have := (List.getElem?_eq_some_iff.1 hx).1; simpa [tab0] using this
    simp only [tab0, List.getElem?_map, List.getElem?_range hi, Option.map_some, Option.some.injEq] at hx
    subst hx
    refine ⟨⟨0, 0, none⟩, [.int .u8 (Go.Lib.firstT i)], rfl, rfl, fun j v hj => ?_⟩
    have hj0 : j = 0 := by have := (List.getElem?_eq_some_iff.1 hj).1; simpa using this
    subst hj0
    cases hj
    rw [addr_add, show i * (Kd.int .u8).n + 0 = i from by show i * 1 + 0 = i; omega]
    exact imm_cell (t0 i hi)
  · have hi : i < 16 := by have := (List.getElem?_eq_some_iff.1 hx).1; simpa [tab1] using this
    simp only [tab1, List.getElem?_map, List.getElem?_range hi, Option.map_some, Option.some.injEq] at hx
    subst hx
    refine ⟨⟨1, 0, none⟩, [.int .u8 (Go.Lib.accLo i), .int .u8 (Go.Lib.accHi i)], rfl, kS97_mk, fun j v hj => ?_⟩
    have hj2 : j < 2 := by have := (List.getElem?_eq_some_iff.1 hj).1; simpa using this
    have h2 := t1 i hi
    rw [addr_add, show i * kS97.n + j = 2 * i + j from by show i * 2 + j = 2 * i + j; omega]
    match j, hj2 with
    | 0, _ => cases hj; exact imm_cell h2.1
    | 1, _ => cases hj; exact imm_cell h2.2
noncomputable def laidWorld (os : Os) : World :=
  let w0 := World.holding Tryd.prog os ⟨#[], #[], []⟩
  let put (h : Array Obj) (g : Nat) (cs : Array Value) : Array Obj := h.modify g fun
    | .cells _ t frozen => .cells cs t frozen
    | o => o
  let n0 := w0.heap.size
  let h1 := put w0.heap 1 ((List.range 16).flatMap fun i => [Value.int .u8 (Lib.accLo i), Value.int .u8 (Lib.accHi i)]).toArray
  let h2 := put h1 0 (Lib.firstTab.map fun z => Value.int .u8 z).toArray
  { w0 with heap := h2 }
theorem laid_met (os : Os) (args : Array Value) : laidMet Tryd.prog [("unicode/utf8.acceptRanges", Rows.laid_unicode_utf8_acceptRanges), ("unicode/utf8.first", Rows.laid_unicode_utf8_first)] ((laidWorld os).forCall (fun _ _ => 0) ⟨#[], args, []⟩).memory :=
  (LaidIn.of_run (l := [("unicode/utf8.acceptRanges", Lib.acceptData), ("unicode/utf8.first", Lib.firstData)]) ([1, 0]) 12 (by kernel_rfl) (by kernel_rfl) (by kernel_rfl) (by kernel_rfl)).met
theorem witness_row (os : Os) {H : Type} (enc : TypeId × Value → H) :
    ((Rows.OpenSpec.upto Rows.nflogFullSpec) : OpenSpec).preRow enc Tryd.prog Tryd.f3 Rows.nflogFullUptoRow.domain false Rows.nflogFullUptoRow.laid ((laidWorld os).forCall (fun _ _ => 0) ⟨#[], #[.agg #[.string ⟨#[]⟩, .string ⟨#[]⟩, .int .i64 0, .slice none 0 0, .slice none 0 0], .slice none 0 0], []⟩).memory #[.agg #[.string ⟨#[]⟩, .string ⟨#[]⟩, .int .i64 0, .slice none 0 0, .slice none 0 0], .slice none 0 0] := by
  have hw : (DataW.whole enc Tryd.prog ((laidWorld os).forCall (fun _ _ => 0) ⟨#[], #[.agg #[.string ⟨#[]⟩, .string ⟨#[]⟩, .int .i64 0, .slice none 0 0, .slice none 0 0], .slice none 0 0], []⟩).memory Tryd.f3.params.toList (Rows.OpenSpec.upto Rows.nflogFullSpec).vars false (#[.agg #[.string ⟨#[]⟩, .string ⟨#[]⟩, .int .i64 0, .slice none 0 0, .slice none 0 0], .slice none 0 0] : Array Value).toList 8).map (fun x => (x.1, x.2.1)) =
      some ([.agg [.lit (.string []), .lit (.string []), .lit (.int .i64 0), .nil, .nil], .nil], []) := by kernel_rfl
  obtain ⟨⟨x1, x2, x3⟩, hx, hx1⟩ := Option.map_eq_some_iff.1 hw
  simp only [Prod.mk.injEq] at hx1
  obtain ⟨rfl, rfl⟩ := hx1
  exact OpenSpec.preRow_of_cond 8 hx (by kernel_rfl) (fun k hk => by cases hk; rfl) (by kernel_rfl) (laid_met os _)

theorem laidOut : laidOutB Tryd.prog = true := by kernel_rfl
set_option maxHeartbeats 400000 in
theorem lifted (os : Os) (started : os.Started) (H : Type) (enc : TypeId × Value → H) (F : Stop.Interp) :
    ReturnsInHanded {} Tryd.checked os 3 .any (((Rows.OpenSpec.upto Rows.nflogFullSpec) : OpenSpec).preRow enc Tryd.prog Tryd.f3 Rows.nflogFullUptoRow.domain false Rows.nflogFullUptoRow.laid) (((Rows.OpenSpec.upto Rows.nflogFullSpec).at F).post enc Tryd.prog Tryd.f3 false true false false) := by
  refine returnsInHanded_of_row (C := Tryd.checked) (s := (Rows.OpenSpec.upto Rows.nflogFullSpec)) ownKnob_none started (by kernel_rfl) Tryd.func3
    (witness_row_atRef (enc := enc) (C := Tryd.checked) false (laidWorld os) #[.agg #[.string ⟨#[]⟩, .string ⟨#[]⟩, .int .i64 0, .slice none 0 0, .slice none 0 0], .slice none 0 0] rfl (by kernel_rfl) (by kernel_rfl) (by kernel_rfl) (witness_row os enc)) ?_
  intro W base args ds gs before hval0 hW _ hcond _ hL _ _
  have hval : ∀ (j : Nat) t v, Tryd.f3.params[j]? = some t → args[j]? = some v → Value.okWide Tryd.prog W .any base t v := hval0
  have hW' := hW
  obtain ⟨p, q, hA0, hV0, rfl, _, _⟩ := hW
  have hA : DataW.TrodAll enc Tryd.prog W 0 (fun _ => true) true Tryd.f3.params.toList args.toList ds p := hA0
  rw [show Tryd.f3.params = #[24, 25] by kernel_rfl] at hA hval
  obtain ⟨v0, vs0, d0, ds0, p0, q0, hargs, rfl, rfl, h0, r0⟩ := trodAll_cons hA
  obtain ⟨v1, vs1, d1, ds1, p1, q1, rfl, rfl, rfl, h1, r1⟩ := trodAll_cons r0
  obtain ⟨rfl, rfl, rfl⟩ := trodAll_nil r1
  obtain rfl : args = #[v0, v1] := by cases args; simp_all
  obtain ⟨rfl, rfl⟩ := trodVars_none hV0
  have hbulk := hcond _ rfl
  simp only [Rows.uptoSmall, decide_eq_true_eq, List.append_nil, Rows.uptoBulkAll] at hbulk
  have k0 := h0
  have lt0 : ∀ x ∈ p0, x.block < W.heap.size := by obtain ⟨m, hm⟩ := k0; exact DataW.trod_lt m _ _ _ hm
  obtain ⟨fu0, hf0⟩ := h0
  obtain ⟨a0, ha0, wa0⟩ := reads24 hf0 (by show Rows.uptoBulk d0 ≤ 1048576; omega)
  obtain ⟨cs0, rfl, _⟩ := okWide_struct (fs := Tryd.prog.fieldsOf 24) (t := 24) (by kernel_rfl) (hval 0 24 v0 rfl rfl)
  obtain ⟨A0_3, n0_3, A0_4, n0_4, hf0_3, hf0_4, he0⟩ := kS23_open ha0
  obtain rfl : cs0 = _ := Array.toList_inj.1 (show cs0.toList = (List.toArray _).toList from he0)
  have k1 := h1
  have lt1 : ∀ x ∈ p1, x.block < W.heap.size := by obtain ⟨m, hm⟩ := k1; exact DataW.trod_lt m _ _ _ hm
  obtain ⟨fu1, hf1⟩ := h1
  obtain ⟨a1, ha1, wa1⟩ := (reads_slice (e := 54) (by kernel_rfl) (by kernel_rfl) reads54) hf1 (by show Rows.uptoBulk d1 ≤ 1048576; omega)
  obtain ⟨A1, len1, cap1, rfl⟩ := okWide_slice (e := 54) (t := 25) (by kernel_rfl) (hval 1 25 v1 rfl rfl)
  obtain ⟨A1', n1', he1, hf1_0⟩ := sl_open ha1
  simp only [Value.cells, List.cons.injEq, and_true, Value.slice.injEq] at he1
  obtain ⟨rfl, rfl, rfl⟩ := he1
  have hr := tocsinlaw26_NflogFull_true a0 a1 ha0 ha1 wa0 wa1 (by show Rows.uptoBulk d0 + Rows.uptoBulk d1 ≤ 1048576; omega)
  refine (calls_of (tocsinlaw26_NflogFull_walk (r := true) (glob_of hL) hf0_3 hf0_4 hf1_0 hr [])).mono fun e W' ⟨he, bel⟩ => ?_
  subst he
  have e1 : ((Rows.OpenSpec.upto Rows.nflogFullSpec).at F).fn H ([d0, d1] ++ []) = { results := [.lit (.bool true)], args := [d0, d1] } := rfl
  have t1 : DataW.TrodAll enc Tryd.prog W' 0 (fun b => decide (b < W.heap.size)) true Tryd.f3.params.toList [.agg #[.string a0.f0, .string a0.f1, .int .i64 a0.f2, .slice A0_3 a0.f3.length n0_3, .slice A0_4 a0.f4.length n0_4], .slice A1 a1.length cap1] [d0, d1] (p0 ++ (p1 ++ ([]))) := by
    rw [show Tryd.f3.params = #[24, 25] by kernel_rfl]
    exact (trodAll_cons_mk (Below.trod laidOut (by kernel_rfl) (of_decide_eq_true (by kernel_rfl)) k0 bel lt0) (trodAll_cons_mk (Below.trod laidOut (by kernel_rfl) (of_decide_eq_true (by kernel_rfl)) k1 bel lt1) trodAll_mk0))
  clear hcond hval hA hbulk
  refine ⟨_, rfl, _, _, _, [], p0 ++ (p1 ++ ([])), [], hW', ?_, ?_, ?_, bel.frame _, fun h => by cases h⟩
  · rw [e1]; exact trodAll_mk1 (shut_bool (show Tryd.prog.underlying 4 = some .bool by kernel_rfl) _)
  · rw [e1]; exact t1
  · rw [e1]; rfl
theorem row_holds : Rows.NflogFullUptoSaid :=
  OpenClaim.holds_of_cond 3 Tryd.f3 rfl rfl rfl rfl rfl rfl rfl ⟨rfl, rfl, rfl, rfl, rfl⟩ rfl rfl rfl rfl rfl (by kernel_rfl) Tryd.func3 (by kernel_rfl)
    (of_decide_eq_true (by kernel_rfl)) (by unfold Func.isWrapper; rw [if_neg (of_decide_eq_false (by kernel_rfl))]; exact ⟨rfl, rfl⟩)
    (fun os started H enc _ F0 => by rw [OpenClaim.pre_eq_preRow]; exact lifted os started H enc F0)
theorem card_holds : Rows.NflogFullUptoCardSaid :=
  Claim7.holds_tied_plain_at .later [] [.data, .pinned] true (true, "3f86901e97e38fb8e4c40b0007afe955946b623e0de83b0941e1cfbfb17de582") false
    row_holds (fun _ h => by cases h) (by kernel_rfl) (fun _ h => by cases h) nflogFullUpto_row_tie rfl ⟨rfl, rfl⟩ (by kernel_rfl) rfl
    (fun f fn hf hfn => by
      obtain rfl : f = 3 := Option.some.inj ((show Tryd.prog.funcNamed "tocsin/tocsinlaw26.NflogFull" = some 3 by kernel_rfl).symm.trans hf) |>.symm
      obtain rfl : fn = Tryd.f3 := (Option.some.inj (Tryd.func3.symm.trans hfn)).symm
      exact ⟨by kernel_rfl, fun j t ht => by
        rw [show Tryd.f3.params = #[24, 25] by kernel_rfl] at ht
        have hall : ∀ t ∈ (#[24, 25] : Array TypeId), Tryd.prog.wantsStandIn t = false := by
          intro t ht
          simp only [List.mem_toArray, List.mem_cons, List.not_mem_nil, or_false] at ht
          rcases ht with rfl | rfl <;> kernel_rfl
        exact hall t (Array.mem_of_getElem? ht)⟩)
    (by kernel_rfl)
end Go.Proofs.YtjkkmbjkndageaaDoor
