/- strings.Builder: copyCheck and String, as calls over owned blocks. -/
import Derived.Test.YtlhpclfkoblnkaaDoorGB21
import Derived.Test.YtlhpclfkoblnkaaDoorM0
set_option linter.unusedVariables false
namespace Go.GB
open Go.RowKit Go.Proofs
theorem bld_copyCheck {g : Nat} {p : Option Addr} {x : Value} {I : Imm} (hp : p = none ∨ p = some (⟨g, 0, none⟩ : Addr)) (L : Own) :
    CallsTo Tryd.prog 49 #[.pointer (some ⟨g, 0, none⟩)] I ((g, .cells #[.pointer p, x] 51) :: L) (fun v I' L' => v = .tuple #[] ∧ (g, .cells #[.pointer (some ⟨g, 0, none⟩), x] 51) :: L = L') := by
  intro W hW
  have hg : W.heap[g]? = some (.cells #[.pointer p, x] 51) := hW.own (g, .cells #[.pointer p, x] 51) (by simp)
  rcases hp with rfl | rfl
  · refine (bcopy_none g W (by simp [World.cell?, hg]) (by simp [World.shape?, hg]) (by simp [World.frozen?, hg])).mono ?_
    rintro e W' ⟨rfl, rfl⟩
    refine ⟨_, I, _, rfl, Imm.refl I, Holds.set (A := []) hW (.cells #[.pointer (some ⟨g, 0, none⟩), x] 51) ?_ (fun b hb => ?_) rfl rfl ⟨rfl, Nat.le_refl _⟩, rfl, rfl⟩
    · simp only [World.setCell, Array.getElem?_modify, if_true, hg, Option.map_some]; rfl
    · simp only [World.setCell, Array.getElem?_modify]
      rw [if_neg (fun e => hb e.symm)]
  · refine (bcopy_self g W (by simp [World.cell?, hg])).mono ?_
    rintro e W' ⟨rfl, rfl⟩
    exact ⟨_, I, _, rfl, Imm.refl I, hW, rfl, rfl⟩
open Classical in
noncomputable def strO (xs : List Int) : Option ByteArray := if ∀ x ∈ xs, 0 ≤ x ∧ x < 256 then some ⟨(xs.map (fun x => UInt8.ofNat x.toNat)).toArray⟩ else none
theorem bld_String {g : Nat} {p : Option Addr} {A : Option Addr} {c : Nat} {xs : List Int} {C : Own} {I : Imm} {r : ByteArray} (hO : OwnS (Kd.int .u8) 5 I A c xs C) (hr : strO xs = some r) (L : Own) :
    CallsTo Tryd.prog 28 #[.pointer (some ⟨g, 0, none⟩)] I ((g, .cells #[.pointer p, .slice A xs.length c] 51) :: (C ++ L)) (fun v I' L' => v = .string r ∧ L = L') := by
  intro W hW
  unfold strO at hr
  split at hr <;> cases hr
  rename_i hx
  have hg : W.heap[g]? = some (.cells #[.pointer p, .slice A xs.length c] 51) := hW.own (g, .cells #[.pointer p, .slice A xs.length c] 51) (by simp)
  rcases hO with ⟨rfl, rfl, rfl, rfl⟩ | ⟨gb, cells, fz, rfl, rfl, hfz, h4, h5, h6, h7⟩
  · refine (bstr_none g 51 _ W hg).mono ?_
    rintro e W' ⟨rfl, rfl⟩
    have h2 : Holds I L W := Holds.drop (C := [(g, .cells #[.pointer p, .slice none ([] : List Int).length 0] 51)]) hW
    exact ⟨_, I, L, rfl, Imm.refl I, h2.drawn (W.drawn + 1), rfl, rfl⟩
  · have hgb : W.heap[gb]? = some (.cells cells 5 fz) := hW.own (gb, .cells cells 5 fz) (by simp)
    have hn1 : (Kd.int .u8).n = 1 := rfl
    rw [hn1, Nat.mul_one] at h5
    have h7' : xs.length ≤ 2147483648 := h7
    by_cases h0 : xs = []
    · subst h0
      have h2 : Holds I L W := (Holds.drop (C := [(g, .cells #[.pointer p, .slice (some ⟨gb, 0, none⟩) ([] : List Int).length c] 51)]) hW).sub (List.sublist_cons_self _ _)
      by_cases hc : c = 0
      · subst hc
        refine (bstr_zero g gb 51 (.pointer p) cells fz W hg hgb).mono ?_
        rintro e W' ⟨rfl, rfl⟩
        exact ⟨_, I, L, rfl, Imm.refl I, ((h2.drawn (W.drawn + 1)).new (.view ⟨gb, 0, none⟩ 5)).sub (List.sublist_cons_self _ _), rfl, rfl⟩
      · refine (bstr_empty g gb c 51 (.pointer p) cells fz W hg hgb hc).mono ?_
        rintro e W' ⟨rfl, rfl⟩
        exact ⟨_, I, L, rfl, Imm.refl I, h2.drawn (W.drawn + 1), rfl, rfl⟩
    · have hl0 : xs.map (fun x => UInt8.ofNat x.toNat) ≠ [] := by simpa using h0
      have hpos : 0 < xs.length := List.length_pos_iff.2 h0
      have hll : (xs.map (fun x => UInt8.ofNat x.toNat)).length = xs.length := by simp
      refine (bstr_some g gb c 51 (.pointer p) cells fz (xs.map (fun x => UInt8.ofNat x.toNat)) W hl0 (by rw [hll]; exact hg) hgb (by omega) (by rw [hll]; omega) (by rw [hll]; omega) (fun j y hj => ?_)).mono ?_
      · rw [List.getElem?_map] at hj
        cases hxj : xs[j]? with
        | none => rw [hxj] at hj; cases hj
        | some z =>
          rw [hxj] at hj
          simp only [Option.map_some, Option.some.injEq] at hj
          obtain ⟨l, hl, hc⟩ := h6.at_ j z hxj
          obtain rfl : l = [.int .u8 z] := hl
          have h8 := hc 0 (.int .u8 z) rfl
          rw [hn1, Nat.mul_one, Nat.add_zero] at h8
          have h9 := hx z (List.mem_of_getElem? hxj)
          rw [h8, ← hj]
          congr 2
          rw [UInt8.toNat_ofNat']
          omega
      · rintro e W' ⟨rfl, rfl⟩
        rw [hll]
        obtain ⟨o', ho'⟩ : ∃ o', W.drew.freeze ⟨gb, 0, none⟩ xs.length = { W with drawn := W.drawn + 1, heap := W.heap.modify gb o' } ∧ ∃ fz', o' (.cells cells 5 fz) = .cells cells 5 fz' := by
          unfold World.freeze
          rw [if_neg (by omega)]
          exact ⟨_, rfl, _, rfl⟩
        obtain ⟨ew, fz', hf'⟩ := ho'
        rw [ew]
        have h2 := Holds.set (A := [(g, .cells #[.pointer p, .slice (some ⟨gb, 0, none⟩) xs.length c] 51)]) (L := L) hW (W' := { W with drawn := W.drawn + 1, heap := W.heap.modify gb o' }) (.cells cells 5 fz') (by
          show (W.heap.modify gb o')[gb]? = _
          rw [Array.getElem?_modify, if_pos rfl, hgb, Option.map_some, hf']) (fun b hb => by
          show (W.heap.modify gb o')[b]? = _
          rw [Array.getElem?_modify, if_neg (Ne.symm hb)]) rfl rfl ⟨rfl, Nat.le_succ _⟩
        exact ⟨_, I, L, rfl, Imm.refl I, (Holds.drop (C := [(g, .cells #[.pointer p, .slice (some ⟨gb, 0, none⟩) xs.length c] 51)]) h2).sub (List.sublist_cons_self _ _), rfl, rfl⟩
end Go.GB
namespace Go.Proofs.YtlhpclfkoblnkaaDoor
/-- The kit has an Own of another meaning. -/
abbrev Own := Go.GB.Own
end Go.Proofs.YtlhpclfkoblnkaaDoor
