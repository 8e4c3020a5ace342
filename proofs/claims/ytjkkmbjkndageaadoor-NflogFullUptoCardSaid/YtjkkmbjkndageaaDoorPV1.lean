/- Plain laws: texts put together of right texts are right; the document's Print writes right text. -/
import Derived.Test.YtjkkmbjkndageaaDoorPG2f
import Derived.Test.YtjkkmbjkndageaaDoorPG0f
import Derived.Test.YtjkkmbjkndageaaDoorPA3
import Derived.Test.YtjkkmbjkndageaaDoorLV1
set_option linter.unusedVariables false
set_option linter.unusedSimpArgs false
set_option maxRecDepth 100000
namespace Go.Proofs.YtjkkmbjkndageaaDoor
open Go.GB Go.Lib
theorem valid_app : ∀ (n : Nat) (a b : List UInt8), a.length ≤ n → validD a = true → validD (a ++ b) = validD b
  | n, [], b, _, _ => rfl
  | 0, c :: t, b, h, _ => by simp at h
  | n + 1, c :: t, b, h, hv => by
    have hne : (c :: t) ≠ [] := by simp
    have hstep := validD_step (c :: t) hne
    rw [hv] at hstep
    by_cases he : (decodeL (c :: t)).1 = 65533 ∧ (decodeL (c :: t)).2 = 1
    · rw [if_pos he] at hstep; cases hstep
    · rw [if_neg he] at hstep
      have hw := decodeL_width (c :: t)
      have hr := validD_rune (x := (c :: t).drop (decodeL (c :: t)).2 ++ b) he hne
      rw [← List.append_assoc, List.take_append_drop] at hr
      rw [hr]
      exact valid_app n _ b (by rw [List.length_drop]; omega) hstep.symm
theorem valid_two {a b : List UInt8} (h : validD a = true) (k : validD b = true) : validD (a ++ b) = true := by rw [valid_app _ a b (Nat.le_refl _) h]; exact k
/-- how a byte is written within quotes -/
def escB (c : UInt8) : List UInt8 := if c.toNat = 92 ∨ c.toNat = 34 then [92, c] else if c.toNat = 10 then [92, 110] else [c]
theorem escB_len (c : UInt8) : (escB c).length ≤ 2 := by
  unfold escB
  split
  · simp
  · split <;> simp
theorem escB_high {c : UInt8} (h : 128 ≤ c.toNat) : escB c = [c] := by unfold escB; rw [if_neg (by omega), if_neg (by omega)]
theorem escB_low {c : UInt8} (h : c.toNat < 128) (r : List UInt8) : validD (escB c ++ r) = validD r := by
  unfold escB
  split
  · rw [List.cons_append, List.cons_append, List.nil_append, validD_cons _ _ (by decide), validD_cons _ _ h]
  · split
    · rw [List.cons_append, List.cons_append, List.nil_append, validD_cons _ _ (by decide), validD_cons _ _ (by decide)]
    · rw [List.cons_append, List.nil_append, validD_cons _ _ h]
theorem esc_all_high : ∀ {l : List UInt8}, (∀ c ∈ l, 128 ≤ c.toNat) → l.flatMap escB = l
  | [], _ => rfl
  | c :: t, h => by rw [List.flatMap_cons, escB_high (h c List.mem_cons_self), esc_all_high (fun x hx => h x (List.mem_cons_of_mem _ hx))]; rfl
theorem valid_esc : ∀ (n : Nat) (a : List UInt8), a.length ≤ n → validD a = true → validD (a.flatMap escB) = true
  | n, [], _, _ => rfl
  | 0, c :: t, h, _ => by simp at h
  | n + 1, c :: t, h, hv => by
    have hne : (c :: t) ≠ [] := by simp
    by_cases hc : c.toNat < 128
    · rw [validD_cons c t hc] at hv
      rw [List.flatMap_cons, escB_low hc]
      exact valid_esc n t (by simp at h; omega) hv
    · have hstep := validD_step (c :: t) hne
      rw [hv] at hstep
      have h0 : gB (c :: t) 0 = c.toNat := rfl
      by_cases he : (decodeL (c :: t)).1 = 65533 ∧ (decodeL (c :: t)).2 = 1
      · rw [if_pos he] at hstep; cases hstep
      · rw [if_neg he] at hstep
        have h1 : (decodeL (c :: t)).2 ≠ 1 := fun h1 => he ⟨decode_one (by rw [h0]; omega) h1, h1⟩
        have hw := decodeL_width (c :: t)
        have hle := decodeL_le (c :: t) hne
        have hh : ((c :: t).take (decodeL (c :: t)).2).flatMap escB = (c :: t).take (decodeL (c :: t)).2 := esc_all_high (fun x hx => by
          obtain ⟨i, hi, rfl⟩ := List.getElem_of_mem hx
          have hi' : i < (decodeL (c :: t)).2 := by rw [List.length_take] at hi; omega
          have := Go.GB.decode_high hi' h1
          unfold gB at this
          rw [List.getElem_take]
          rw [List.getD_eq_getElem?_getD, List.getElem?_eq_getElem (by omega)] at this
          exact this)
        have e : (c :: t).flatMap escB = (c :: t).take (decodeL (c :: t)).2 ++ ((c :: t).drop (decodeL (c :: t)).2).flatMap escB := by
          conv => lhs; rw [← List.take_append_drop (decodeL (c :: t)).2 (c :: t)]
          rw [List.flatMap_append, hh]
        rw [e, validD_rune he hne]
        exact valid_esc n _ (by rw [List.length_drop]; omega) hstep.symm
/-! ### texts -/
abbrev tL (s : ByteArray) : List UInt8 := s.data.toList
structure TOk (m : Nat) (s : ByteArray) : Prop where
  v : validD (tL s) = true
  n : s.size ≤ m
theorem tL_app (a b : ByteArray) : tL (a ++ b) = tL a ++ tL b := by
  show (a ++ b).data.toList = _
  rw [ByteArray.data_append, Array.toList_append]
theorem TOk.add {m n : Nat} {a b : ByteArray} (h : TOk m a) (k : TOk n b) : TOk (m + n) (a ++ b) := ⟨by rw [tL_app]; exact valid_two h.v k.v, by rw [ByteArray.size_append]; have := h.n; have := k.n; omega⟩
theorem ok_sadd {m n : Nat} {a b : ByteArray} (h : TOk m a) (k : TOk n b) (hm : m + n ≤ 1000000000) : Ok (sadd a b) (fun z => z = a ++ b ∧ TOk (m + n) z) := by
  refine ⟨a ++ b, ?_, rfl, h.add k⟩
  unfold sadd; rw [if_pos (by have := h.n; have := k.n; omega)]
theorem TOk.more {m n : Nat} {a : ByteArray} (h : TOk m a) (hm : m ≤ n) : TOk n a := ⟨h.v, Nat.le_trans h.n hm⟩
def bI' (l : List UInt8) : List Int := l.map fun b => (b.toNat : Int)
theorem bI'_len (l : List UInt8) : (bI' l).length = l.length := by simp [bI']
theorem bI'_app (a b : List UInt8) : bI' (a ++ b) = bI' a ++ bI' b := by simp [bI']
theorem gB_at {s : ByteArray} {i : Nat} (h : i < (tL s).length) : gB (tL s) i = (tL s)[i].toNat := by
  unfold gB; rw [List.getD_eq_getElem?_getD, List.getElem?_eq_getElem h]; rfl
theorem Quoted_ok {m : Nat} {s : ByteArray} (hm : m ≤ 1000000) (hs : TOk m s) : Ok (tocsinref04_Quoted s) (fun z => TOk (2 * m + 2) z) := by
  have hn := hs.n
  have hl : (tL s).length = s.size := size_list s
  unfold tocsinref04_Quoted
  refine ok_bind (P := fun r => r = bI' (34 :: (tL s).flatMap escB)) ?_ ?_
  · refine ok_loop (fun p : List Int × Int => ∃ i : Nat, p.2 = i ∧ i ≤ s.size ∧ p.1 = bI' (34 :: ((tL s).take i).flatMap escB) ∧ (((tL s).take i).flatMap escB).length ≤ 2 * i) (fun p => s.size - p.2.toNat) ?_ ([34], 0) ⟨0, rfl, Nat.zero_le _, rfl, by simp⟩
    rintro ⟨acc, k⟩ ⟨i, h1, h2, h3, h4⟩
    dsimp only at h1 h2 h3 h4
    subst h1; subst h3
    unfold tocsinref04_Quoted_l32
    dsimp only
    by_cases hi : i < s.size
    · rw [decide_eq_true (show (i : Int) < (s.size : Int) by omega)]
      have hi' : i < (tL s).length := by omega
      have hb : bx s (i : Int) = some (((tL s)[i].toNat : Nat) : Int) := by rw [bx_at hi]; congr 2; exact gB_at hi'
      have ht : (tL s).take (i + 1) = (tL s).take i ++ [(tL s)[i]] := List.take_succ_eq_append_getElem hi'
      have hf : ((tL s).take (i + 1)).flatMap escB = ((tL s).take i).flatMap escB ++ escB (tL s)[i] := by rw [ht, List.flatMap_append]; simp
      have hlen := escB_len (tL s)[i]
      have hc := UInt8.toNat_lt (tL s)[i]
      have ap : ∀ l : List Int, l.length ≤ 2 → app (bI' (34 :: ((tL s).take i).flatMap escB)) l = some (bI' (34 :: ((tL s).take i).flatMap escB) ++ l) := fun l hl => app_eq (by rw [bI'_len, List.length_cons]; omega)
      have fin : ∀ l : List Int, l = bI' (escB (tL s)[i]) → Ok (some (Sum.inl (bI' (34 :: ((tL s).take i).flatMap escB) ++ l, IntKind.wrap .i64 ((i : Int) + 1))) : Option ((List Int × Int) ⊕ List Int)) (fun o => match o with
          | .inl s' => (∃ i : Nat, s'.2 = i ∧ i ≤ s.size ∧ s'.1 = bI' (34 :: ((tL s).take i).flatMap escB) ∧ (((tL s).take i).flatMap escB).length ≤ 2 * i) ∧ s.size - s'.2.toNat < s.size - (i : Int).toNat
          | .inr r => r = bI' (34 :: (tL s).flatMap escB)) := fun l hl => by
        refine ok_some ⟨⟨i + 1, wrap_up (by omega), hi, ?_, ?_⟩, ?_⟩
        · subst hl; rw [hf, ← bI'_app]; rfl
        · rw [hf, List.length_append]; omega
        · dsimp only
          rw [wrap_up (by omega)]; omega
      simp only [cond_true, hb, Option.bind_some]
      generalize (tL s)[i] = c at *
      by_cases k1 : c.toNat = 92
      · rw [show (((c.toNat : Nat) : Int) == 92) = true by simp [k1]]
        simp only [cond_true, Option.bind_some, ap _ (show [(92 : Int), ((c.toNat : Nat) : Int)].length ≤ 2 by simp)]
        exact ok_mono (fin [(92 : Int), ((c.toNat : Nat) : Int)] (by rw [show escB c = [92, c] by unfold escB; rw [if_pos (.inl k1)]]; rfl)) (fun o ho => by cases o <;> exact ho)
      · have f1 : (((c.toNat : Nat) : Int) == 92) = false := by rw [beq_eq_false_iff_ne]; omega
        by_cases k2 : c.toNat = 34
        · rw [f1, show (((c.toNat : Nat) : Int) == 34) = true by simp [k2]]
          simp only [cond_true, cond_false, Option.bind_some, ap _ (show [(92 : Int), ((c.toNat : Nat) : Int)].length ≤ 2 by simp)]
          exact ok_mono (fin [(92 : Int), ((c.toNat : Nat) : Int)] (by rw [show escB c = [92, c] by unfold escB; rw [if_pos (.inr k2)]]; rfl)) (fun o ho => by cases o <;> exact ho)
        · have f2 : (((c.toNat : Nat) : Int) == 34) = false := by rw [beq_eq_false_iff_ne]; omega
          by_cases k3 : c.toNat = 10
          · rw [f1, f2, show (((c.toNat : Nat) : Int) == 10) = true by simp [k3]]
            simp only [cond_true, cond_false, Option.bind_some, ap _ (show [(92 : Int), 110].length ≤ 2 by simp)]
            exact ok_mono (fin [(92 : Int), 110] (by rw [show escB c = [92, 110] by unfold escB; rw [if_neg (by omega), if_pos k3]]; rfl)) (fun o ho => by cases o <;> exact ho)
          · have f3 : (((c.toNat : Nat) : Int) == 10) = false := by rw [beq_eq_false_iff_ne]; omega
            rw [f1, f2, f3]
            simp only [cond_false, Option.bind_some, ap _ (show [((c.toNat : Nat) : Int)].length ≤ 2 by simp)]
            exact ok_mono (fin [((c.toNat : Nat) : Int)] (by rw [show escB c = [c] by unfold escB; rw [if_neg (by omega), if_neg k3]]; rfl)) (fun o ho => by cases o <;> exact ho)
    · obtain rfl : i = s.size := by omega
      rw [decide_eq_false (show ¬ ((s.size : Int) < (s.size : Int)) by omega)]
      simp only [cond_false]
      refine ok_some ?_
      show _ = _
      rw [List.take_of_length_le (by omega)]
  · rintro r rfl
    have hle : ((tL s).flatMap escB).length ≤ 2 * (tL s).length := by
      generalize tL s = l
      induction l with
      | nil => simp
      | cons c t ih => rw [List.flatMap_cons, List.length_append]; have := escB_len c; rw [List.length_cons]; omega
    rw [app_eq (by rw [bI'_len, List.length_cons, List.length_singleton]; omega)]
    refine ok_some ?_
    have e : tL (ofBytes (bI' (34 :: (tL s).flatMap escB) ++ [34])) = 34 :: ((tL s).flatMap escB ++ [34]) := by
      show (ofBytes _).data.toList = _
      rw [ofBytes_toList, List.map_append]
      unfold bI'
      rw [List.map_map]
      rw [show List.map ((fun n : Int => UInt8.ofNat n.toNat) ∘ fun b : UInt8 => (b.toNat : Int)) (34 :: (tL s).flatMap escB) = 34 :: (tL s).flatMap escB from by
        conv => rhs; rw [← List.map_id (34 :: (tL s).flatMap escB)]
        refine List.map_congr_left fun b _ => ?_
        simp]
      rfl
    refine ⟨?_, ?_⟩
    · rw [e, validD_cons _ _ (by decide)]
      exact valid_two (valid_esc _ _ (Nat.le_refl _) hs.v) (by decide +kernel)
    · rw [← size_list]
      show (tL _).length ≤ _
      rw [e, List.length_cons, List.length_append, List.length_singleton]; omega
theorem has_ok (l : List ByteArray) (hl : l.length ≤ 1000) (x : ByteArray) : Ok (tocsinref04_has l x) (fun _ => True) := by
  unfold tocsinref04_has
  rw [up_any (n := l.length) (fun i => (l[i]?).any fun y => y.toList == x.toList) true (fun i hi => ?_) ?_]
  · simp only [Option.bind_some]
    cases (List.range l.length).any (fun i => (l[i]?).any fun y => y.toList == x.toList) <;> exact ok_some trivial
  · unfold tocsinref04_has_l17
    simp only [show decide ((l.length : Int) < (l.length : Int)) = false from decide_eq_false (by omega), cond_false]
  · unfold tocsinref04_has_l17
    simp only [show decide ((i : Int) < (l.length : Int)) = true from decide_eq_true (by omega), cond_true, ix_nat, List.getElem?_eq_getElem hi, Option.bind_some, Option.any_some, wrap_up (show i < 4294967296 by omega)]
    cases (l[i].toList == x.toList) <;> rfl
theorem Get_ok (l : List S53) (hl : l.length ≤ 16) (x : ByteArray) : Ok (tocsinref04_Get l x) (fun _ => True) := by
  unfold tocsinref04_Get
  rw [up_find (n := l.length) (fun i => match l[i]? with | some y => if (y.f0.toList == x.toList) = true then some y.f1 else none | none => none) (fun i hi => ?_) ?_]
  · simp only [Option.bind_some]
    cases (List.range l.length).findSome? (fun i => match l[i]? with | some y => if (y.f0.toList == x.toList) = true then some y.f1 else none | none => none) <;> exact ok_some trivial
  · unfold tocsinref04_Get_l17
    simp only [show decide ((l.length : Int) < (l.length : Int)) = false from decide_eq_false (by omega), cond_false]
  · unfold tocsinref04_Get_l17
    simp only [show decide ((i : Int) < (l.length : Int)) = true from decide_eq_true (by omega), cond_true, ix_nat, List.getElem?_eq_getElem hi, Option.bind_some, wrap_up (show i < 4294967296 by omega)]
    cases (l[i].f0.toList == x.toList) <;> rfl
theorem Pick_ok (l : List S53) (hl : l.length ≤ 16) (ns : List ByteArray) (hn : ns.length ≤ 1000) (b : Bool) : Ok (tocsinref04_Pick l ns b) (fun r => r.length ≤ l.length ∧ ∀ x ∈ r, x ∈ l) := by
  unfold tocsinref04_Pick
  refine ok_bind (P := fun r => r.length ≤ l.length ∧ ∀ x ∈ r, x ∈ l) ?_ (fun r hr => ok_some hr)
  refine ok_loop (fun p : List S53 × Int => ∃ i : Nat, p.2 = i ∧ i ≤ l.length ∧ p.1.length ≤ i ∧ ∀ x ∈ p.1, x ∈ l) (fun p => l.length - p.2.toNat) ?_ ([], 0) ⟨0, rfl, Nat.zero_le _, Nat.le_refl _, fun x hx => by cases hx⟩
  rintro ⟨acc, k⟩ ⟨i, h1, h2, h3, h4⟩
  dsimp only at h1 h2 h3 h4
  subst h1
  unfold tocsinref04_Pick_l28
  dsimp only
  by_cases hi : i < l.length
  · rw [decide_eq_true (show (i : Int) < (l.length : Int) by omega)]
    simp only [cond_true, ix_nat, List.getElem?_eq_getElem hi, Option.bind_some]
    refine ok_bind (has_ok ns hn _) fun y _ => ?_
    refine ok_bind (P := fun r : List S53 => r.length ≤ i + 1 ∧ ∀ x ∈ r, x ∈ l) ?_ ?_
    · refine ok_cond (fun _ => ?_) (fun _ => ok_some ⟨by omega, h4⟩)
      rw [app_eq (by simp; omega)]
      refine ok_some ⟨by simp; omega, fun x hx => ?_⟩
      rcases List.mem_append.1 hx with h | h
      · exact h4 x h
      · rw [List.mem_singleton.1 h]; exact List.getElem_mem hi
    · rintro r ⟨hr1, hr2⟩
      refine ok_some ⟨⟨i + 1, wrap_up (by omega), hi, hr1, hr2⟩, ?_⟩
      dsimp only
      rw [wrap_up (by omega)]; omega
  · obtain rfl : i = l.length := by omega
    rw [decide_eq_false (show ¬ ((l.length : Int) < (l.length : Int)) by omega)]
    exact ok_some ⟨h3, h4⟩
theorem tok_lit (l : List UInt8) (h : validD l = true) (n : Nat) (hn : l.length ≤ n) : TOk n ⟨l.toArray⟩ := ⟨h, hn⟩
theorem parts_ok {j : ByteArray × List S53} (hl : j.2.length ≤ 16) (h : ∀ x ∈ j.2, oneE x = 0) {s : ByteArray} (hs : TOk 300 s) : Ok (loopO (tocsinref04_Print_l57 j) (s, 0)) (fun r => TOk 20000 r) := by
  refine ok_loop (fun p : ByteArray × Int => ∃ i : Nat, p.2 = i ∧ i ≤ j.2.length ∧ TOk (300 + 600 * i) p.1) (fun p => j.2.length - p.2.toNat) ?_ (s, 0) ⟨0, rfl, Nat.zero_le _, hs⟩
  rintro ⟨acc, k⟩ ⟨i, h1, h2, h3⟩
  dsimp only at h1 h2 h3
  subst h1
  unfold tocsinref04_Print_l57
  dsimp only
  by_cases hi : i < j.2.length
  · rw [decide_eq_true (show (i : Int) < (j.2.length : Int) by omega)]
    simp only [cond_true, ix_nat, List.getElem?_eq_getElem hi, Option.bind_some]
    obtain ⟨o1, o2, o3, o4⟩ := one_parts (h j.2[i] (List.getElem_mem hi))
    have hn := named_valid o1
    refine ok_bind (P := fun z => TOk (300 + 600 * i + 1) z) ?_ fun z1 hz1 => ?_
    · refine ok_cond (fun _ => ?_) (fun _ => ok_some (h3.more (by omega)))
      exact ok_bind (ok_sadd h3 (tok_lit [44] (by decide +kernel) 1 (by simp)) (by omega)) fun z hz => ok_some hz.2
    refine ok_bind (ok_sadd hz1 (⟨hn.2.2, hn.1⟩ : TOk 64 j.2[i].f0) (by omega)) fun z2 hz2 => ?_
    refine ok_bind (ok_sadd hz2.2 (tok_lit [61] (by decide +kernel) 1 (by simp)) (by omega)) fun z3 hz3 => ?_
    refine ok_bind (Quoted_ok (m := 256) (by omega) ⟨o4, o3⟩) fun z4 hz4 => ?_
    refine ok_bind (ok_sadd hz3.2 hz4 (by omega)) fun z5 hz5 => ?_
    refine ok_some ⟨⟨i + 1, wrap_up (by omega), hi, hz5.2.more (by omega)⟩, ?_⟩
    dsimp only
    rw [wrap_up (by omega)]; omega
  · obtain rfl : i = j.2.length := by omega
    rw [decide_eq_false (show ¬ ((j.2.length : Int) < (j.2.length : Int)) by omega)]
    exact ok_some (h3.more (by omega))
/-- the document's Print -/
theorem Print_ok (l : List S53) : Ok (tocsinref04_Print l) (fun r => TOk 30000 r.1) := by
  unfold tocsinref04_Print
  rw [refRight_eq]
  simp only [Option.bind_some]
  refine ok_cond (fun _ => ok_some (tok_lit [] (by decide +kernel) _ (by simp))) (fun h0 => ?_)
  have h : (rightE l).1 = 0 := by simpa using h0
  obtain ⟨hl, ho⟩ := right_parts h
  refine ok_bind (Get_ok l hl _) fun v _ => ?_
  rw [refMetric_eq]
  simp only [Option.bind_some]
  refine ok_bind (P := fun j => match j with | .inl p => TOk 256 p.1 ∧ p.2.length ≤ 16 ∧ ∀ x ∈ p.2, oneE x = 0 | .inr r => TOk 30000 r.1) ?_ ?_
  · refine ok_cond (fun hm => ?_) (fun _ => ok_some ⟨tok_lit [] (by decide +kernel) _ (by simp), hl, ho⟩)
    have hn := named_valid hm
    refine ok_bind (Pick_ok l hl _ (by simp) false) fun r hr => ?_
    refine ok_cond (fun _ => ok_some ⟨hn.2.2, by show v.size ≤ 30000; omega⟩) (fun _ => ok_some ⟨⟨hn.2.2, hn.1⟩, by show r.length ≤ 16; omega, fun x hx => ho x (hr.2 x hx)⟩)
  · intro j hj
    cases j with
    | inr r => exact ok_some hj
    | inl p =>
      dsimp only at hj ⊢
      refine ok_bind (ok_sadd hj.1 (tok_lit [123] (by decide +kernel) 1 (by simp)) (by omega)) fun z1 hz1 => ?_
      refine ok_bind (parts_ok hj.2.1 hj.2.2 (hz1.2.more (by omega))) fun z2 hz2 => ?_
      refine ok_bind (ok_sadd hz2 (tok_lit [125] (by decide +kernel) 1 (by simp)) (by omega)) fun z3 hz3 => ?_
      exact ok_some (hz3.2.more (by omega))
end Go.Proofs.YtjkkmbjkndageaaDoor
