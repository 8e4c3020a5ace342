/- Parts: WR4. -/
import Derived.Test.YtkjkkimnjpodiaaGreatDoorPB3gu
import Derived.Test.YtkjkkimnjpodiaaGreatDoorVP6u
import Derived.Test.YtkjkkimnjpodiaaGreatDoorTie
import Derived.Test.YtkjkkimnjpodiaaGreatDoorCards
import Derived.Lib.LaidIn
import Derived.Lib.LaidU8T
import Derived.Deep.DeepHandedRow
import Derived.Deep.DeepWitnessRowRef
import Derived.ProofKit
import Derived.SizedLaws
import Derived.OpenShut
import Derived.SevenTiedAt
set_option linter.unusedVariables false
namespace Go.Proofs.YtkjkkimnjpodiaaGreatDoor
open Go.GB Go.ChangeShapes Go.WideShapes Go.ChangeAt Go.RowKit Go.Lib
set_option maxRecDepth 100000
theorem reads77 : Reads Tryz.prog 77 kS76 wS76 := by
  intro H enc W spare held fuel cs x h hb
  obtain ⟨xs, m, rfl, rfl, hl, hx, hf⟩ := DataW.trod_struct (fs := Tryz.prog.fieldsOf 77) (by kernel_rfl) h
  have hlen : cs.length = 2 := hl.trans (by kernel_rfl)
  have hxl : xs.length = 2 := hx.trans (by kernel_rfl)
  match xs, hxl, hf, hb with
  | [x0, x1], _, hf, hb =>
    simp only [List.map_cons, List.map_nil, Go.Proofs.YtkjkkimnjpodiaaGreatDoor.Rows.uptoBulk, Go.Proofs.YtkjkkimnjpodiaaGreatDoor.Rows.uptoBulkAll] at hb
    obtain ⟨y0, h0, w0⟩ := field_read (i := 0) (o := 0) (n := 1) (t := 9) (x := x0) hf rfl (by kernel_rfl) (by kernel_rfl) (by kernel_rfl) (by kernel_rfl) (reads_str (by kernel_rfl)) (by omega)
    obtain ⟨y1, h1, w1⟩ := field_read (i := 1) (o := 1) (n := 1) (t := 9) (x := x1) hf rfl (by kernel_rfl) (by kernel_rfl) (by kernel_rfl) (by kernel_rfl) (reads_str (by kernel_rfl)) (by omega)
    have hh := (pairR h0 (lastR h1 (by rw [hlen])) rfl)
    rw [List.drop_zero] at hh
    exact ⟨⟨y0, y1⟩, hh, _, _, by simp only [Go.Proofs.YtkjkkimnjpodiaaGreatDoor.Rows.uptoBulk, Go.Proofs.YtkjkkimnjpodiaaGreatDoor.Rows.uptoBulkAll, List.map_cons, List.map_nil]; omega, w0, w1⟩
theorem reads39 : Reads Tryz.prog 39 kS38 wS38 := by
  intro H enc W spare held fuel cs x h hb
  obtain ⟨xs, m, rfl, rfl, hl, hx, hf⟩ := DataW.trod_struct (fs := Tryz.prog.fieldsOf 39) (by kernel_rfl) h
  have hlen : cs.length = 2 := hl.trans (by kernel_rfl)
  have hxl : xs.length = 2 := hx.trans (by kernel_rfl)
  match xs, hxl, hf, hb with
  | [x0, x1], _, hf, hb =>
    simp only [List.map_cons, List.map_nil, Go.Proofs.YtkjkkimnjpodiaaGreatDoor.Rows.uptoBulk, Go.Proofs.YtkjkkimnjpodiaaGreatDoor.Rows.uptoBulkAll] at hb
    obtain ⟨y0, h0, w0⟩ := field_read (i := 0) (o := 0) (n := 1) (t := 36) (x := x0) hf rfl (by kernel_rfl) (by kernel_rfl) (by kernel_rfl) (by kernel_rfl) (reads_slice (e := 77) (by kernel_rfl) (by kernel_rfl) reads77) (by omega)
    obtain ⟨y1, h1, w1⟩ := field_read (i := 1) (o := 1) (n := 1) (t := 37) (x := x1) hf rfl (by kernel_rfl) (by kernel_rfl) (by kernel_rfl) (by kernel_rfl) (reads_flt (by kernel_rfl)) (by omega)
    have hh := (pairR h0 (lastR h1 (by rw [hlen])) rfl)
    rw [List.drop_zero] at hh
    exact ⟨⟨y0, y1⟩, hh, _, _, by simp only [Go.Proofs.YtkjkkimnjpodiaaGreatDoor.Rows.uptoBulk, Go.Proofs.YtkjkkimnjpodiaaGreatDoor.Rows.uptoBulkAll, List.map_cons, List.map_nil]; omega, w0, w1⟩
theorem ownKnob_none : ownKnob Tryz.prog.godebug = none := by kernel_rfl
def ren8 : Go.Shelf.Ren := ⟨fun f => f, fun t => if t = 5 then 5 else if t = 119 then 171 else if t = 138 then 173 else if t = 139 then 174 else t, fun g => if g = 3 then 1 else 2⟩
theorem glob_of {W : World} (h : laidMetH Tryz.prog [("unicode/utf8.acceptRanges", Rows.laid_unicode_utf8_acceptRanges), ("unicode/utf8.first", Rows.laid_unicode_utf8_first)] W) : Gl (immOf W) := by
  have h' : laidMet Tryz.prog [("unicode/utf8.acceptRanges", Lib.acceptData), ("unicode/utf8.first", Lib.firstData)] W := h
  have ht := utf8Tabs_of_readsT (P := Tryz.prog) (ρ := ren8) ⟨by kernel_rfl, by kernel_rfl, by kernel_rfl, by kernel_rfl⟩ ⟨by kernel_rfl, by kernel_rfl, by kernel_rfl, by kernel_rfl, by kernel_rfl, by kernel_rfl, by kernel_rfl⟩ (Lib.laidMet.reads h' (.tail _ (.head _))) (Lib.laidMet.reads h' (.head _))
  obtain ⟨t0, t1⟩ := ht
  refine ⟨rfl, ⟨by simp [tab1], by simp [tab1, maxLen'], fun i x hx => ?_⟩, ⟨by simp [tab2], by simp [tab2, maxLen'], fun i x hx => ?_⟩⟩
  · have hi : i < 256 := by have := (List.getElem?_eq_some_iff.1 hx).1; simpa [tab1] using this
    simp only [tab1, List.getElem?_map, List.getElem?_range hi, Option.map_some, Option.some.injEq] at hx
    subst hx
    refine ⟨⟨1, 0, none⟩, [.int .u8 (Go.Lib.firstT i)], rfl, rfl, fun j v hj => ?_⟩
    have hj0 : j = 0 := by have := (List.getElem?_eq_some_iff.1 hj).1; simpa using this
    subst hj0
    cases hj
    rw [addr_add, show i * (Kd.int .u8).n + 0 = i from by show i * 1 + 0 = i; omega]
    exact imm_cell (t0 i hi)
  · have hi : i < 16 := by have := (List.getElem?_eq_some_iff.1 hx).1; simpa [tab2] using this
    simp only [tab2, List.getElem?_map, List.getElem?_range hi, Option.map_some, Option.some.injEq] at hx
    subst hx
    refine ⟨⟨2, 0, none⟩, [.int .u8 (Go.Lib.accLo i), .int .u8 (Go.Lib.accHi i)], rfl, kS172_mk, fun j v hj => ?_⟩
    have hj2 : j < 2 := by have := (List.getElem?_eq_some_iff.1 hj).1; simpa using this
    have h2 := t1 i hi
    rw [addr_add, show i * kS172.n + j = 2 * i + j from by show i * 2 + j = 2 * i + j; omega]
    match j, hj2 with
    | 0, _ => cases hj; exact imm_cell h2.1
    | 1, _ => cases hj; exact imm_cell h2.2
noncomputable def laidWorld (os : Os) : World :=
  let w0 := World.holding Tryz.prog os ⟨#[], #[], []⟩
  let put (h : Array Obj) (g : Nat) (cs : Array Value) : Array Obj := h.modify g fun
    | .cells _ t frozen => .cells cs t frozen
    | o => o
  let n0 := w0.heap.size
  let h1 := put w0.heap 2 ((List.range 16).flatMap fun i => [Value.int .u8 (Lib.accLo i), Value.int .u8 (Lib.accHi i)]).toArray
  let h2 := put h1 1 (Lib.firstTab.map fun z => Value.int .u8 z).toArray
  { w0 with heap := h2 }
theorem laid_met (os : Os) (args : Array Value) : laidMet Tryz.prog [("unicode/utf8.acceptRanges", Rows.laid_unicode_utf8_acceptRanges), ("unicode/utf8.first", Rows.laid_unicode_utf8_first)] ((laidWorld os).forCall (fun _ _ => 0) ⟨#[], args, []⟩).memory :=
  (LaidIn.of_run (l := [("unicode/utf8.acceptRanges", Lib.acceptData), ("unicode/utf8.first", Lib.firstData)]) ([2, 1]) 12 (by kernel_rfl) (by kernel_rfl) (by kernel_rfl) (by kernel_rfl)).met
theorem witness_row (os : Os) {H : Type} (enc : TypeId × Value → H) :
    ((Rows.OpenSpec.upto Rows.aggrGroupsSpec) : OpenSpec).preRow enc Tryz.prog Tryz.f10 Rows.aggrGroupsUptoRow.domain false Rows.aggrGroupsUptoRow.laid ((laidWorld os).forCall (fun _ _ => 0) ⟨#[], #[.slice none 0 0, .slice none 0 0, .bool false], []⟩).memory #[.slice none 0 0, .slice none 0 0, .bool false] := by
  have hw : (DataW.whole enc Tryz.prog ((laidWorld os).forCall (fun _ _ => 0) ⟨#[], #[.slice none 0 0, .slice none 0 0, .bool false], []⟩).memory Tryz.f10.params.toList (Rows.OpenSpec.upto Rows.aggrGroupsSpec).vars false (#[.slice none 0 0, .slice none 0 0, .bool false] : Array Value).toList 8).map (fun x => (x.1, x.2.1)) =
      some ([.nil, .nil, .lit (.bool false)], []) := by kernel_rfl
  obtain ⟨⟨x1, x2, x3⟩, hx, hx1⟩ := Option.map_eq_some_iff.1 hw
  simp only [Prod.mk.injEq] at hx1
  obtain ⟨rfl, rfl⟩ := hx1
  exact OpenSpec.preRow_of_cond 8 hx (by kernel_rfl) (fun k hk => by cases hk; rfl) (by kernel_rfl) (laid_met os _)
theorem laidOut : laidOutB Tryz.prog = true := by kernel_rfl
set_option maxHeartbeats 400000 in
theorem lifted (os : Os) (started : os.Started) (H : Type) (enc : TypeId × Value → H) (F : Stop.Interp) :
    ReturnsInHanded {} Tryz.checked os 10 .any (((Rows.OpenSpec.upto Rows.aggrGroupsSpec) : OpenSpec).preRow enc Tryz.prog Tryz.f10 Rows.aggrGroupsUptoRow.domain false Rows.aggrGroupsUptoRow.laid) (((Rows.OpenSpec.upto Rows.aggrGroupsSpec).at F).post enc Tryz.prog Tryz.f10 false true false false) := by
  refine returnsInHanded_of_row (C := Tryz.checked) (s := (Rows.OpenSpec.upto Rows.aggrGroupsSpec)) ownKnob_none started (by kernel_rfl) Tryz.func10
    (witness_row_atRef (enc := enc) (C := Tryz.checked) false (laidWorld os) #[.slice none 0 0, .slice none 0 0, .bool false] rfl (by kernel_rfl) (by kernel_rfl) (by kernel_rfl) (witness_row os enc)) ?_
  intro W base args ds gs before hval0 hW _ hcond _ hL _ _
  have hval : ∀ (j : Nat) t v, Tryz.f10.params[j]? = some t → args[j]? = some v → Value.okWide Tryz.prog W .any base t v := hval0
  have hW' := hW
  obtain ⟨p, q, hA0, hV0, rfl, _, _⟩ := hW
  have hA : DataW.TrodAll enc Tryz.prog W 0 (fun _ => true) true Tryz.f10.params.toList args.toList ds p := hA0
  rw [show Tryz.f10.params = #[22, 23, 4] by kernel_rfl] at hA hval
  obtain ⟨v0, vs0, d0, ds0, p0, q0, hargs, rfl, rfl, h0, r0⟩ := trodAll_cons hA
  obtain ⟨v1, vs1, d1, ds1, p1, q1, rfl, rfl, rfl, h1, r1⟩ := trodAll_cons r0
  obtain ⟨v2, vs2, d2, ds2, p2, q2, rfl, rfl, rfl, h2, r2⟩ := trodAll_cons r1
  obtain ⟨rfl, rfl, rfl⟩ := trodAll_nil r2
  obtain rfl : args = #[v0, v1, v2] := by cases args; simp_all
  obtain ⟨rfl, rfl⟩ := trodVars_none hV0
  have hbulk := hcond _ rfl
  simp only [Rows.uptoSmall, decide_eq_true_eq, List.append_nil, Rows.uptoBulkAll] at hbulk
  have k0 := h0
  have lt0 : ∀ x ∈ p0, x.block < W.heap.size := by obtain ⟨m, hm⟩ := k0; exact DataW.trod_lt m _ _ _ hm
  obtain ⟨fu0, hf0⟩ := h0
  obtain ⟨a0, ha0, wa0⟩ := (reads_slice (e := 39) (by kernel_rfl) (by kernel_rfl) reads39) hf0 (by show Rows.uptoBulk d0 ≤ 1048576; omega)
  obtain ⟨A0, len0, cap0, rfl⟩ := okWide_slice (e := 39) (t := 22) (by kernel_rfl) (hval 0 22 v0 rfl rfl)
  obtain ⟨A0', n0', he0, hf0_0⟩ := sl_open ha0
  simp only [Value.cells, List.cons.injEq, and_true, Value.slice.injEq] at he0
  obtain ⟨rfl, rfl, rfl⟩ := he0
  have k1 := h1
  have lt1 : ∀ x ∈ p1, x.block < W.heap.size := by obtain ⟨m, hm⟩ := k1; exact DataW.trod_lt m _ _ _ hm
  obtain ⟨fu1, hf1⟩ := h1
  obtain ⟨a1, ha1, wa1⟩ := (reads_slice (e := 9) (by kernel_rfl) (by kernel_rfl) (reads_str (by kernel_rfl))) hf1 (by show Rows.uptoBulk d1 ≤ 1048576; omega)
  obtain ⟨A1, len1, cap1, rfl⟩ := okWide_slice (e := 9) (t := 23) (by kernel_rfl) (hval 1 23 v1 rfl rfl)
  obtain ⟨A1', n1', he1, hf1_0⟩ := sl_open ha1
  simp only [Value.cells, List.cons.injEq, and_true, Value.slice.injEq] at he1
  obtain ⟨rfl, rfl, rfl⟩ := he1
  have k2 := h2
  have lt2 : ∀ x ∈ p2, x.block < W.heap.size := by obtain ⟨m, hm⟩ := k2; exact DataW.trod_lt m _ _ _ hm
  obtain ⟨fu2, hf2⟩ := h2
  obtain ⟨a2, ha2, wa2⟩ := (reads_bool (by kernel_rfl)) hf2 (by show Rows.uptoBulk d2 ≤ 1048576; omega)
  obtain ⟨z2, rfl⟩ := okWide_bool (t := 4) (by kernel_rfl) (hval 2 4 v2 rfl rfl)
  obtain rfl : a2 = z2 := by have := ha2; simp only [Kd.bool, Value.cells, List.cons.injEq, and_true, Value.bool.injEq] at this; exact this.symm
  have hr := tocsinlaw16_AggrGroups_true a0 a1 a2 ha0 ha1 ha2 wa0 wa1 wa2 (by show Rows.uptoBulk d0 + Rows.uptoBulk d1 + Rows.uptoBulk d2 ≤ 1048576; omega)
  refine (calls_of (tocsinlaw16_AggrGroups_walk (r := true) (glob_of hL) hf0_0 hf1_0 hr [])).mono fun e W' ⟨he, bel⟩ => ?_
  subst he
  have e1 : ((Rows.OpenSpec.upto Rows.aggrGroupsSpec).at F).fn H ([d0, d1, d2] ++ []) = { results := [.lit (.bool true)], args := [d0, d1, d2] } := rfl
  have t1 : DataW.TrodAll enc Tryz.prog W' 0 (fun b => decide (b < W.heap.size)) true Tryz.f10.params.toList [.slice A0 a0.length cap0, .slice A1 a1.length cap1, .bool a2] [d0, d1, d2] (p0 ++ (p1 ++ (p2 ++ ([])))) := by
    rw [show Tryz.f10.params = #[22, 23, 4] by kernel_rfl]
    exact (trodAll_cons_mk (Below.trod laidOut (by kernel_rfl) (of_decide_eq_true (by kernel_rfl)) k0 bel lt0) (trodAll_cons_mk (Below.trod laidOut (by kernel_rfl) (of_decide_eq_true (by kernel_rfl)) k1 bel lt1) (trodAll_cons_mk (Below.trod laidOut (by kernel_rfl) (of_decide_eq_true (by kernel_rfl)) k2 bel lt2) trodAll_mk0)))
  clear hcond hval hA hbulk
  refine ⟨_, rfl, _, _, _, [], p0 ++ (p1 ++ (p2 ++ ([]))), [], hW', ?_, ?_, ?_, bel.frame _, fun h => by cases h⟩
  · rw [e1]; exact trodAll_mk1 (shut_bool (show Tryz.prog.underlying 4 = some .bool by kernel_rfl) _)
  · rw [e1]; exact t1
  · rw [e1]; rfl
theorem row_holds : Rows.AggrGroupsUptoSaid :=
  OpenClaim.holds_of_cond 10 Tryz.f10 rfl rfl rfl rfl rfl rfl rfl ⟨rfl, rfl, rfl, rfl, rfl⟩ rfl rfl rfl rfl rfl (by kernel_rfl) Tryz.func10 (by kernel_rfl)
    (of_decide_eq_true (by kernel_rfl)) (by unfold Func.isWrapper; rw [if_neg (of_decide_eq_false (by kernel_rfl))]; exact ⟨rfl, rfl⟩)
    (fun os started H enc _ F0 => by rw [OpenClaim.pre_eq_preRow]; exact lifted os started H enc F0)
theorem card_holds : Rows.AggrGroupsUptoCardSaid :=
  Claim7.holds_tied_plain_at .later [] [.data, .pinned] true (true, "bb37abb888145153ec4026743e44ba52739f22bfff6f2e2cd522269694b6fc0e") false
    row_holds (fun _ h => by cases h) (by kernel_rfl) (fun _ h => by cases h) aggrGroupsUpto_row_tie rfl ⟨rfl, rfl⟩ (by kernel_rfl) rfl
    (fun f fn hf hfn => by
      obtain rfl : f = 10 := Option.some.inj ((show Tryz.prog.funcNamed "tocsin/tocsinlaw16.AggrGroups" = some 10 by kernel_rfl).symm.trans hf) |>.symm
      obtain rfl : fn = Tryz.f10 := (Option.some.inj (Tryz.func10.symm.trans hfn)).symm
      exact ⟨by kernel_rfl, fun j t ht => by
        rw [show Tryz.f10.params = #[22, 23, 4] by kernel_rfl] at ht
        have hall : ∀ t ∈ (#[22, 23, 4] : Array TypeId), Tryz.prog.wantsStandIn t = false := by
          intro t ht
          simp only [List.mem_toArray, List.mem_cons, List.not_mem_nil, or_false] at ht
          rcases ht with rfl | rfl | rfl <;> kernel_rfl
        exact hall t (Array.mem_of_getElem? ht)⟩)
    (by kernel_rfl)
end Go.Proofs.YtkjkkimnjpodiaaGreatDoor
