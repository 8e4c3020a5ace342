/- Plain laws: the document's tokens are the lists'. -/
import Derived.Test.YtlhpclfkoblnkaaDoorLX8p
set_option linter.unusedVariables false
set_option maxRecDepth 100000
namespace Go.GB
open Go.Lib
theorem find_from (c : Nat → Bool) {n k : Nat} (h : k ≤ n) : (List.range' k (n - k)).find? c = (List.range n).find? fun i => decide (k ≤ i) && c i := by
  have e : List.range n = List.range' 0 k ++ List.range' k (n - k) := by
    rw [List.range_eq_range', show List.range' 0 n = List.range' 0 (k + (n - k)) from by rw [Nat.add_sub_cancel' h], ← List.range'_append]; simp
  rw [e, List.find?_append]
  have h1 : (List.range' 0 k).find? (fun i => decide (k ≤ i) && c i) = none := by
    rw [List.find?_eq_none]
    intro x hx
    rw [List.mem_range'_1] at hx
    simp; omega
  rw [h1, Option.none_or]
  have h2 : ∀ l : List Nat, (∀ x ∈ l, k ≤ x) → l.find? (fun i => decide (k ≤ i) && c i) = l.find? c := by
    intro l
    induction l with
    | nil => intro _; rfl
    | cons x l ih =>
      intro hx
      rw [List.find?_cons, List.find?_cons, decide_eq_true (hx x (by simp)), Bool.true_and, ih (fun y hy => hx y (by simp [hy]))]
  rw [h2]
  intro x hx
  rw [List.mem_range'_1] at hx
  omega
theorem toksL_skip {l : List UInt8} {a k : Nat} (h : skipL l = k + skipL (l.drop k)) : toksL l a = toksL (l.drop k) (a + k) := by
  have hd : (l.drop k).drop (skipL (l.drop k)) = l.drop (skipL l) := by rw [List.drop_drop, ← h]
  by_cases he : l.drop (skipL l) = []
  · rw [toksL_end he, toksL_end (by rw [hd]; exact he)]
  · cases ho : oneL (l.drop (skipL l)) with
    | none => rw [toksL_bad he ho, toksL_bad (by rw [hd]; exact he) (by rw [hd]; exact ho), h]; congr 1; omega
    | some ktn =>
      obtain ⟨x, t, n⟩ := ktn
      have e1 := toksL_cons (a := a) he ho
      have e2 := toksL_cons (a := a + k) (l := l.drop k) (by rw [hd]; exact he) (by rw [hd]; exact ho)
      rw [e1, e2, List.drop_drop, h, show k + skipL (l.drop k) + n = k + (skipL (l.drop k) + n) from by omega, show a + (k + skipL (l.drop k)) + n = a + k + skipL (l.drop k) + n from by omega, show a + (k + skipL (l.drop k)) = a + k + skipL (l.drop k) from by omega]
theorem ofBytes_bi (l : List UInt8) : ofBytes (bi l) = ⟨l.toArray⟩ := by
  apply ba_eq
  rw [ofBytes_toList]
  unfold bi
  rw [List.map_map]
  show _ = l
  conv => rhs; rw [← List.map_id l]
  refine List.map_congr_left fun c _ => ?_
  show UInt8.ofNat (((c.toNat : Nat) : Int)).toNat = c
  rw [Int.toNat_natCast, UInt8.ofNat_toNat]
end Go.GB
namespace Go.Proofs.YtlhpclfkoblnkaaDoor
open Go.GB Go.Lib
/-- a text stands at a place -/
theorem stands {s x : ByteArray} {a : Nat} (hs : s.size < 4294967296) (ha : a ≤ s.size) {α : Type} {f : ByteArray → Option α} {e : Option α} {r : Option α}
    (h1 : x.size ≤ s.size - a → f (s.extract a (a + x.size)) = r) (h2 : ¬ x.size ≤ s.size - a → e = r) :
    (bif decide (((x.size : Nat) : Int) ≤ IntKind.wrap .i64 ((s.size : Int) - (a : Int))) then Option.bind (sx s (a : Int) (IntKind.wrap .i64 ((a : Int) + (x.size : Int)))) f else e) = r := by
  rw [wrapN (n := s.size - a) (by omega) (by omega)]
  by_cases h : x.size ≤ s.size - a
  · rw [decide_eq_true (by omega), cond_true, wrapN (n := a + x.size) (by omega) (by omega), sx_tl (by omega) (by omega), Option.bind_some, h1 h]
  · rw [decide_eq_false (by omega), cond_false, h2 h]
theorem stands_eq {s x : ByteArray} {a : Nat} (h : x.size ≤ s.size - a) : ((s.extract a (a + x.size)).toList == x.toList) = (tl x).isPrefixOf ((tl s).drop a) := by
  rw [tl_inj, tl_extract, show a + x.size - a = x.size from by omega, Bool.eq_iff_iff, beq_iff_eq, List.isPrefixOf_iff_prefix, List.prefix_iff_eq_take, tl_len]
  exact ⟨fun h => h.symm, fun h => h.symm⟩
theorem stands_not {s x : ByteArray} {a : Nat} (h : ¬ x.size ≤ s.size - a) : (tl x).isPrefixOf ((tl s).drop a) = false := by
  rw [Bool.eq_false_iff]
  intro hp
  have := (List.isPrefixOf_iff_prefix.1 hp).length_le
  rw [List.length_drop, tl_len, tl_len] at this; omega
end Go.Proofs.YtlhpclfkoblnkaaDoor
