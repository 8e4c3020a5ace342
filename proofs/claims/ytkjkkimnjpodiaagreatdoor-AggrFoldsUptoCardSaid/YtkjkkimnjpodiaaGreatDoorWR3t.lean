/- Parts: WR3. -/
import Derived.Test.YtkjkkimnjpodiaaGreatDoorGS3t
import Derived.Test.YtkjkkimnjpodiaaGreatDoorVL1t
import Derived.Test.YtkjkkimnjpodiaaGreatDoorTie
import Derived.Test.YtkjkkimnjpodiaaGreatDoorCards
import Derived.Lib.LaidIn
import Derived.Lib.LaidU8T
import Derived.Deep.DeepHandedRow
import Derived.Deep.DeepWitnessRowRef
import Derived.ProofKit
import Derived.SizedLaws
import Derived.OpenShut
import Derived.SevenTiedAt
set_option linter.unusedVariables false
namespace Go.Proofs.YtkjkkimnjpodiaaGreatDoor
open Go.GB Go.ChangeShapes Go.WideShapes Go.ChangeAt Go.RowKit Go.Lib
set_option maxRecDepth 100000

theorem ownKnob_none : ownKnob Tryz.prog.godebug = none := by kernel_rfl
def ren8 : Go.Shelf.Ren := ⟨fun f => f, fun t => if t = 5 then 5 else if t = 119 then 171 else if t = 138 then 173 else if t = 139 then 174 else t, fun g => if g = 3 then 1 else 2⟩
theorem glob_of {W : World} (h : laidMetH Tryz.prog [("unicode/utf8.acceptRanges", Rows.laid_unicode_utf8_acceptRanges), ("unicode/utf8.first", Rows.laid_unicode_utf8_first)] W) : Gl (immOf W) := by
  have h' : laidMet Tryz.prog [("unicode/utf8.acceptRanges", Lib.acceptData), ("unicode/utf8.first", Lib.firstData)] W := h
  have ht := utf8Tabs_of_readsT (P := Tryz.prog) (ρ := ren8) ⟨by kernel_rfl, by kernel_rfl, by kernel_rfl, by kernel_rfl⟩ ⟨by kernel_rfl, by kernel_rfl, by kernel_rfl, by kernel_rfl, by kernel_rfl, by kernel_rfl, by kernel_rfl⟩ (Lib.laidMet.reads h' (.tail _ (.head _))) (Lib.laidMet.reads h' (.head _))
  obtain ⟨t0, t1⟩ := ht
  refine ⟨rfl, ⟨by simp [tab1], by simp [tab1, maxLen'], fun i x hx => ?_⟩, ⟨by simp [tab2], by simp [tab2, maxLen'], fun i x hx => ?_⟩⟩
  · have hi : i < 256 := by have := (List.getElem?_eq_some_iff.1 hx).1; simpa [tab1] using this
    simp only [tab1, List.getElem?_map, List.getElem?_range hi, Option.map_some, Option.some.injEq] at hx
    subst hx
    refine ⟨⟨1, 0, none⟩, [.int .u8 (Go.Lib.firstT i)], rfl, rfl, fun j v hj => ?_⟩
    have hj0 : j = 0 := by have := (List.getElem?_eq_some_iff.1 hj).1; simpa using this
    subst hj0
    cases hj
    rw [addr_add, show i * (Kd.int .u8).n + 0 = i from by show i * 1 + 0 = i; omega]
    exact imm_cell (t0 i hi)
  · have hi : i < 16 := by have := (List.getElem?_eq_some_iff.1 hx).1; simpa [tab2] using this
    simp only [tab2, List.getElem?_map, List.getElem?_range hi, Option.map_some, Option.some.injEq] at hx
    subst hx
    refine ⟨⟨2, 0, none⟩, [.int .u8 (Go.Lib.accLo i), .int .u8 (Go.Lib.accHi i)], rfl, kS172_mk, fun j v hj => ?_⟩
    have hj2 : j < 2 := by have := (List.getElem?_eq_some_iff.1 hj).1; simpa using this
    have h2 := t1 i hi
    rw [addr_add, show i * kS172.n + j = 2 * i + j from by show i * 2 + j = 2 * i + j; omega]
    match j, hj2 with
    | 0, _ => cases hj; exact imm_cell h2.1
    | 1, _ => cases hj; exact imm_cell h2.2
noncomputable def laidWorld (os : Os) : World :=
  let w0 := World.holding Tryz.prog os ⟨#[], #[], []⟩
  let put (h : Array Obj) (g : Nat) (cs : Array Value) : Array Obj := h.modify g fun
    | .cells _ t frozen => .cells cs t frozen
    | o => o
  let n0 := w0.heap.size
  let h1 := put w0.heap 2 ((List.range 16).flatMap fun i => [Value.int .u8 (Lib.accLo i), Value.int .u8 (Lib.accHi i)]).toArray
  let h2 := put h1 1 (Lib.firstTab.map fun z => Value.int .u8 z).toArray
  { w0 with heap := h2 }
theorem laid_met (os : Os) (args : Array Value) : laidMet Tryz.prog [("unicode/utf8.acceptRanges", Rows.laid_unicode_utf8_acceptRanges), ("unicode/utf8.first", Rows.laid_unicode_utf8_first)] ((laidWorld os).forCall (fun _ _ => 0) ⟨#[], args, []⟩).memory :=
  (LaidIn.of_run (l := [("unicode/utf8.acceptRanges", Lib.acceptData), ("unicode/utf8.first", Lib.firstData)]) ([2, 1]) 12 (by kernel_rfl) (by kernel_rfl) (by kernel_rfl) (by kernel_rfl)).met
theorem witness_row (os : Os) {H : Type} (enc : TypeId × Value → H) :
    ((Rows.OpenSpec.upto Rows.aggrFoldsSpec) : OpenSpec).preRow enc Tryz.prog Tryz.f9 Rows.aggrFoldsUptoRow.domain false Rows.aggrFoldsUptoRow.laid ((laidWorld os).forCall (fun _ _ => 0) ⟨#[], #[.string ⟨#[]⟩, .slice none 0 0, .float .f64 0], []⟩).memory #[.string ⟨#[]⟩, .slice none 0 0, .float .f64 0] := by
  have hw : (DataW.whole enc Tryz.prog ((laidWorld os).forCall (fun _ _ => 0) ⟨#[], #[.string ⟨#[]⟩, .slice none 0 0, .float .f64 0], []⟩).memory Tryz.f9.params.toList (Rows.OpenSpec.upto Rows.aggrFoldsSpec).vars false (#[.string ⟨#[]⟩, .slice none 0 0, .float .f64 0] : Array Value).toList 8).map (fun x => (x.1, x.2.1)) =
      some ([.lit (.string []), .nil, .lit (.float .f64 0)], []) := by kernel_rfl
  obtain ⟨⟨x1, x2, x3⟩, hx, hx1⟩ := Option.map_eq_some_iff.1 hw
  simp only [Prod.mk.injEq] at hx1
  obtain ⟨rfl, rfl⟩ := hx1
  exact OpenSpec.preRow_of_cond 8 hx (by kernel_rfl) (fun k hk => by cases hk; rfl) (by kernel_rfl) (laid_met os _)

theorem laidOut : laidOutB Tryz.prog = true := by kernel_rfl
set_option maxHeartbeats 400000 in
theorem lifted (os : Os) (started : os.Started) (H : Type) (enc : TypeId × Value → H) (F : Stop.Interp) :
    ReturnsInHanded {} Tryz.checked os 9 .any (((Rows.OpenSpec.upto Rows.aggrFoldsSpec) : OpenSpec).preRow enc Tryz.prog Tryz.f9 Rows.aggrFoldsUptoRow.domain false Rows.aggrFoldsUptoRow.laid) (((Rows.OpenSpec.upto Rows.aggrFoldsSpec).at F).post enc Tryz.prog Tryz.f9 false true false false) := by
  refine returnsInHanded_of_row (C := Tryz.checked) (s := (Rows.OpenSpec.upto Rows.aggrFoldsSpec)) ownKnob_none started (by kernel_rfl) Tryz.func9
    (witness_row_atRef (enc := enc) (C := Tryz.checked) false (laidWorld os) #[.string ⟨#[]⟩, .slice none 0 0, .float .f64 0] rfl (by kernel_rfl) (by kernel_rfl) (by kernel_rfl) (witness_row os enc)) ?_
  intro W base args ds gs before hval0 hW _ hcond _ hL _ _
  have hval : ∀ (j : Nat) t v, Tryz.f9.params[j]? = some t → args[j]? = some v → Value.okWide Tryz.prog W .any base t v := hval0
  have hW' := hW
  obtain ⟨p, q, hA0, hV0, rfl, _, _⟩ := hW
  have hA : DataW.TrodAll enc Tryz.prog W 0 (fun _ => true) true Tryz.f9.params.toList args.toList ds p := hA0
  rw [show Tryz.f9.params = #[9, 43, 37] by kernel_rfl] at hA hval
  obtain ⟨v0, vs0, d0, ds0, p0, q0, hargs, rfl, rfl, h0, r0⟩ := trodAll_cons hA
  obtain ⟨v1, vs1, d1, ds1, p1, q1, rfl, rfl, rfl, h1, r1⟩ := trodAll_cons r0
  obtain ⟨v2, vs2, d2, ds2, p2, q2, rfl, rfl, rfl, h2, r2⟩ := trodAll_cons r1
  obtain ⟨rfl, rfl, rfl⟩ := trodAll_nil r2
  obtain rfl : args = #[v0, v1, v2] := by cases args; simp_all
  obtain ⟨rfl, rfl⟩ := trodVars_none hV0
  have hbulk := hcond _ rfl
  simp only [Rows.uptoSmall, decide_eq_true_eq, List.append_nil, Rows.uptoBulkAll] at hbulk
  have k0 := h0
  have lt0 : ∀ x ∈ p0, x.block < W.heap.size := by obtain ⟨m, hm⟩ := k0; exact DataW.trod_lt m _ _ _ hm
  obtain ⟨fu0, hf0⟩ := h0
  obtain ⟨a0, ha0, wa0⟩ := (reads_str (by kernel_rfl)) hf0 (by show Rows.uptoBulk d0 ≤ 1048576; omega)
  obtain ⟨z0, rfl⟩ := okWide_string (t := 9) (by kernel_rfl) (hval 0 9 v0 rfl rfl)
  obtain rfl : a0 = z0 := by have := ha0; simp only [Kd.str, Value.cells, List.cons.injEq, and_true, Value.string.injEq] at this; exact this.symm
  have k1 := h1
  have lt1 : ∀ x ∈ p1, x.block < W.heap.size := by obtain ⟨m, hm⟩ := k1; exact DataW.trod_lt m _ _ _ hm
  obtain ⟨fu1, hf1⟩ := h1
  obtain ⟨a1, ha1, wa1⟩ := (reads_slice (e := 37) (by kernel_rfl) (by kernel_rfl) (reads_flt (by kernel_rfl))) hf1 (by show Rows.uptoBulk d1 ≤ 1048576; omega)
  obtain ⟨A1, len1, cap1, rfl⟩ := okWide_slice (e := 37) (t := 43) (by kernel_rfl) (hval 1 43 v1 rfl rfl)
  obtain ⟨A1', n1', he1, hf1_0⟩ := sl_open ha1
  simp only [Value.cells, List.cons.injEq, and_true, Value.slice.injEq] at he1
  obtain ⟨rfl, rfl, rfl⟩ := he1
  have k2 := h2
  have lt2 : ∀ x ∈ p2, x.block < W.heap.size := by obtain ⟨m, hm⟩ := k2; exact DataW.trod_lt m _ _ _ hm
  obtain ⟨fu2, hf2⟩ := h2
  obtain ⟨a2, ha2, wa2⟩ := (reads_flt (by kernel_rfl)) hf2 (by show Rows.uptoBulk d2 ≤ 1048576; omega)
  obtain ⟨z2, rfl⟩ := okWide_float (k := .f64) (t := 37) (by kernel_rfl) (hval 2 37 v2 rfl rfl)
  have hq2 := ha2
  obtain ⟨b2, he2, hf2_0⟩ := (hq2 : ∃ b, _ = [Value.float .f64 b] ∧ FRep a2 b)
  simp only [Value.cells, List.cons.injEq, and_true, Value.float.injEq, true_and] at he2
  obtain rfl := he2
  have hr := tocsinlaw16_AggrFolds_true a0 a1 a2 ha0 ha1 ha2 wa0 wa1 wa2 (by show Rows.uptoBulk d0 + Rows.uptoBulk d1 + Rows.uptoBulk d2 ≤ 1048576; omega)
  refine (calls_of (tocsinlaw16_AggrFolds_walk (r := true) (glob_of hL) hf1_0 hf2_0 hr [])).mono fun e W' ⟨he, bel⟩ => ?_
  subst he
  have e1 : ((Rows.OpenSpec.upto Rows.aggrFoldsSpec).at F).fn H ([d0, d1, d2] ++ []) = { results := [.lit (.bool true)], args := [d0, d1, d2] } := rfl
  have t1 : DataW.TrodAll enc Tryz.prog W' 0 (fun b => decide (b < W.heap.size)) true Tryz.f9.params.toList [.string a0, .slice A1 a1.length cap1, .float .f64 z2] [d0, d1, d2] (p0 ++ (p1 ++ (p2 ++ ([])))) := by
    rw [show Tryz.f9.params = #[9, 43, 37] by kernel_rfl]
    exact (trodAll_cons_mk (Below.trod laidOut (by kernel_rfl) (of_decide_eq_true (by kernel_rfl)) k0 bel lt0) (trodAll_cons_mk (Below.trod laidOut (by kernel_rfl) (of_decide_eq_true (by kernel_rfl)) k1 bel lt1) (trodAll_cons_mk (Below.trod laidOut (by kernel_rfl) (of_decide_eq_true (by kernel_rfl)) k2 bel lt2) trodAll_mk0)))
  clear hcond hval hA hbulk
  refine ⟨_, rfl, _, _, _, [], p0 ++ (p1 ++ (p2 ++ ([]))), [], hW', ?_, ?_, ?_, bel.frame _, fun h => by cases h⟩
  · rw [e1]; exact trodAll_mk1 (shut_bool (show Tryz.prog.underlying 4 = some .bool by kernel_rfl) _)
  · rw [e1]; exact t1
  · rw [e1]; rfl
theorem row_holds : Rows.AggrFoldsUptoSaid :=
  OpenClaim.holds_of_cond 9 Tryz.f9 rfl rfl rfl rfl rfl rfl rfl ⟨rfl, rfl, rfl, rfl, rfl⟩ rfl rfl rfl rfl rfl (by kernel_rfl) Tryz.func9 (by kernel_rfl)
    (of_decide_eq_true (by kernel_rfl)) (by unfold Func.isWrapper; rw [if_neg (of_decide_eq_false (by kernel_rfl))]; exact ⟨rfl, rfl⟩)
    (fun os started H enc _ F0 => by rw [OpenClaim.pre_eq_preRow]; exact lifted os started H enc F0)
theorem card_holds : Rows.AggrFoldsUptoCardSaid :=
  Claim7.holds_tied_plain_at .later [] [.data, .pinned] true (true, "bb37abb888145153ec4026743e44ba52739f22bfff6f2e2cd522269694b6fc0e") false
    row_holds (fun _ h => by cases h) (by kernel_rfl) (fun _ h => by cases h) aggrFoldsUpto_row_tie rfl ⟨rfl, rfl⟩ (by kernel_rfl) rfl
    (fun f fn hf hfn => by
      obtain rfl : f = 9 := Option.some.inj ((show Tryz.prog.funcNamed "tocsin/tocsinlaw16.AggrFolds" = some 9 by kernel_rfl).symm.trans hf) |>.symm
      obtain rfl : fn = Tryz.f9 := (Option.some.inj (Tryz.func9.symm.trans hfn)).symm
      exact ⟨by kernel_rfl, fun j t ht => by
        rw [show Tryz.f9.params = #[9, 43, 37] by kernel_rfl] at ht
        have hall : ∀ t ∈ (#[9, 43, 37] : Array TypeId), Tryz.prog.wantsStandIn t = false := by
          intro t ht
          simp only [List.mem_toArray, List.mem_cons, List.not_mem_nil, or_false] at ht
          rcases ht with rfl | rfl | rfl <;> kernel_rfl
        exact hall t (Array.mem_of_getElem? ht)⟩)
    (by kernel_rfl)
end Go.Proofs.YtkjkkimnjpodiaaGreatDoor
