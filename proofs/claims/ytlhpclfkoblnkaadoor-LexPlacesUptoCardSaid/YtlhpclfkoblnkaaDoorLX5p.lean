/- Plain laws: the program's scans: durations, signs, texts in quotes, one token, blanks, tokens. -/
import Derived.Test.YtlhpclfkoblnkaaDoorLX3p
import Derived.Test.YtlhpclfkoblnkaaDoorL52C
set_option linter.unusedVariables false
set_option maxRecDepth 100000
namespace Go.GB
open Go.Lib
/-- A search that goes up from a place on. -/
theorem up_find_from {ρ : Type} {body : Int → Option (Int ⊕ (Unit ⊕ ρ))} {n : Nat} (p : Nat → Option ρ) (h : ∀ i : Nat, i < n → body i = some (match p i with | some r => .inr (.inr r) | none => .inl ((i + 1 : Nat) : Int))) (he : body n = some (.inr (.inl ()))) :
    ∀ d i : Nat, i + d = n → loopO body i = some (match (List.range' i d).findSome? p with | some r => .inr r | none => .inl ()) := by
  intro d
  induction d with
  | zero =>
    intro i hi
    have : i = n := by omega
    subst this
    simp [loopO_done he]
  | succ d ih =>
    intro i hi
    have h1 := h i (by omega)
    rw [List.range'_succ, List.findSome?_cons]
    cases hp : p i with
    | some r => rw [hp] at h1; rw [loopO_done h1]
    | none => rw [hp] at h1; rw [loopO_step h1]; exact ih (i + 1) (by omega)
theorem findSome_if {α : Type} (c : Nat → Bool) (g : Nat → α) (l : List Nat) : l.findSome? (fun i => if c i then some (g i) else none) = (l.find? c).map g := by
  induction l with
  | nil => rfl
  | cons x l ih =>
    rw [List.findSome?_cons, List.find?_cons]
    cases hc : c x with
    | true => simp
    | false => simpa using ih
end Go.GB
namespace Go.Proofs.YtlhpclfkoblnkaaDoor
open Go.GB Go.Lib
theorem lex_units_at {i : Nat} (h : i < 7) : ∃ u : S62, lex_units[i]? = some u ∧ tl u.f0 = uName i ∧ u.f1 = (uMs i : Int) := by
  match i, h with
  | 0, _ => exact ⟨_, rfl, rfl, rfl⟩
  | 1, _ => exact ⟨_, rfl, rfl, rfl⟩
  | 2, _ => exact ⟨_, rfl, rfl, rfl⟩
  | 3, _ => exact ⟨_, rfl, rfl, rfl⟩
  | 4, _ => exact ⟨_, rfl, rfl, rfl⟩
  | 5, _ => exact ⟨_, rfl, rfl, rfl⟩
  | 6, _ => exact ⟨_, rfl, rfl, rfl⟩
theorem uMs_pos {i : Nat} (h : i < 7) : 1 ≤ uMs i ∧ uMs i ≤ 31536000000 := by
  have : ∀ j : Fin 7, 1 ≤ uMs j.val ∧ uMs j.val ≤ 31536000000 := by decide
  exact this ⟨i, h⟩
theorem times_loop {s : ByteArray} (hs : s.size < 4294967296) (hd : ∀ i, i < s.size → digN (gB (tl s) i) = true) : ∀ (d i n : Nat), i + d = s.size → n ≤ maxS + 1 →
    loopO (lex_times_l16 s) ((n : Int), (i : Int)) = some ((((tl s).drop i).foldl (fun n c => min (n * 10 + (c.toNat - 48)) (maxS + 1)) n : Nat) : Int)
  | 0, i, n, hi, hn => by
    have hl := tl_len s
    refine (loopO_done (r := (n : Int)) ?_).trans ?_
    · unfold lex_times_l16; rw [decide_eq_false (by show ¬ ((i : Int) < (s.size : Int)); omega)]; rfl
    · rw [List.drop_eq_nil_of_le (by omega)]; rfl
  | d + 1, i, n, hi, hn => by
    have hl := tl_len s
    have hdg := hd i (by omega)
    have hlt : i < (tl s).length := by omega
    have hc : 48 ≤ gB (tl s) i ∧ gB (tl s) i ≤ 57 := by unfold digN at hdg; simpa using hdg
    have hM : maxS = 1099511627776 := rfl
    have hstep : lex_times_l16 s ((n : Int), (i : Int)) = some (.inl (((min (n * 10 + (gB (tl s) i - 48)) (maxS + 1) : Nat) : Int), ((i + 1 : Nat) : Int))) := by
      unfold lex_times_l16
      rw [decide_eq_true (by show ((i : Int) < (s.size : Int)); omega), cond_true]
      show Option.bind (bx s (i : Int)) _ = _
      rw [bx_tl (by omega), Option.bind_some]
      show some (Sum.inl ((if 1099511627777 < IntKind.wrap .i64 (IntKind.wrap .i64 ((n : Int) * 10) + IntKind.wrap .i64 (IntKind.wrap .u8 (((gB (tl s) i : Nat) : Int) - 48))) then 1099511627777 else IntKind.wrap .i64 (IntKind.wrap .i64 ((n : Int) * 10) + IntKind.wrap .i64 (IntKind.wrap .u8 (((gB (tl s) i : Nat) : Int) - 48)))), IntKind.wrap .i64 ((i : Int) + 1))) = _
      rw [wrapU8 (x := ((gB (tl s) i : Nat) : Int) - 48) (by omega) (by omega), wrapN (z := ((gB (tl s) i : Nat) : Int) - 48) (n := gB (tl s) i - 48) (by omega) (by omega), wrapN (z := (n : Int) * 10) (n := n * 10) (by omega) (by omega), wrapN (z := ((n * 10 : Nat) : Int) + ((gB (tl s) i - 48 : Nat) : Int)) (n := n * 10 + (gB (tl s) i - 48)) (by omega) (by omega), wrapN (n := i + 1) (by omega) (by omega)]
      congr 3
      split <;> omega
    rw [loopO_step hstep, times_loop hs hd d (i + 1) _ (by omega) (by omega), List.drop_eq_getElem_cons hlt, List.foldl_cons]
    simp [gB, List.getD, List.getElem?_eq_getElem hlt]
theorem foldl_le : ∀ (l : List UInt8) (n : Nat), n ≤ maxS + 1 → l.foldl (fun n c => min (n * 10 + (c.toNat - 48)) (maxS + 1)) n ≤ maxS + 1
  | [], n, h => h
  | c :: l, n, h => foldl_le l _ (Nat.min_le_right _ _)
theorem lex_times_eq {s : ByteArray} {i : Nat} (hs : s.size < 4294967296) (hd : ∀ i, i < s.size → digN (gB (tl s) i) = true) (h7 : i < 7) : lex_times s (uMs i : Int) = some ((timesL (tl s) (uMs i) : Nat) : Int) := by
  have hu := uMs_pos h7
  have hM : maxS = 1099511627776 := rfl
  unfold lex_times timesL
  have h := times_loop hs hd s.size 0 0 (by omega) (by omega)
  rw [List.drop_zero] at h
  refine bind_of h ?_
  have hle := foldl_le (tl s) 0 (by omega)
  generalize (tl s).foldl (fun n c => min (n * 10 + (c.toNat - 48)) (maxS + 1)) 0 = n at *
  have hq : quox .i64 1099511627776 (uMs i : Int) = some ((maxS / uMs i : Nat) : Int) := by
    unfold quox
    rw [if_pos (by omega), show (1099511627776 : Int) = ((maxS : Nat) : Int) from rfl]
    congr 1
    have : Int.tdiv ((maxS : Nat) : Int) (uMs i : Int) = ((maxS / uMs i : Nat) : Int) := by rw [Int.ofNat_tdiv]
    rw [this, wrapN (n := maxS / uMs i) rfl (by have := Nat.div_le_self maxS (uMs i); omega)]
  refine bind_of hq ?_
  have hdl := Nat.div_le_self maxS (uMs i)
  rw [wrapN (n := maxS / uMs i + 1) (by omega) (by omega)]
  by_cases hg : n > maxS / uMs i + 1
  · rw [decide_eq_true (by omega), cond_true, if_pos hg]; rfl
  · rw [decide_eq_false (by omega), cond_false, if_neg hg]
    have hmul : n * uMs i ≤ maxS + 1 * uMs i := by
      have h1 : n * uMs i ≤ (maxS / uMs i + 1) * uMs i := Nat.mul_le_mul_right _ (by omega)
      have h2 := Nat.div_mul_le_self maxS (uMs i)
      rw [Nat.add_mul] at h1; omega
    rw [wrapN (n := n * uMs i) (by rw [Int.natCast_mul]) (by omega)]
    congr 1
    split <;> omega
theorem timesL_le (d : List UInt8) (ms : Nat) : timesL d ms ≤ maxS + 1 := by
  unfold timesL; simp only; split
  · omega
  · exact Nat.min_le_right _ _
theorem unit_loop {s : ByteArray} (hs : s.size < 4294967296) {a first sum n k : Nat} (ha : a + n + k ≤ s.size) (hk : k = runL lowN ((tl s).drop (a + n))) (hn : ∀ i, i < n → digN (gB ((tl s).drop a) i) = true) (hsum : sum ≤ maxS + 1) :
    loopO (lex_span_l46 s ((a : Int), (first : Int), (sum : Int)) (n : Int) (k : Int)) 0 = some (match unitL ((tl s).drop (a + n)) first with
      | some i => .inr (.inl (((a + n + k : Nat) : Int), ((i + 1 : Nat) : Int), ((min (sum + timesL (((tl s).drop a).take n) (uMs i)) (maxS + 1) : Nat) : Int)))
      | none => .inl ()) := by
  have hl := tl_len s
  have hM : maxS = 1099511627776 := rfl
  have h := up_find_from (n := 7) (body := lex_span_l46 s ((a : Int), (first : Int), (sum : Int)) (n : Int) (k : Int))
    (fun i => if (decide (first ≤ i) && (((tl s).drop (a + n)).take (runL lowN ((tl s).drop (a + n))) == uName i)) then some (Sum.inl (((a + n + k : Nat) : Int), ((i + 1 : Nat) : Int), ((min (sum + timesL (((tl s).drop a).take n) (uMs i)) (maxS + 1) : Nat) : Int))) else none)
    (fun i hi => by
      obtain ⟨u, hu, hu1, hu2⟩ := lex_units_at hi
      unfold lex_span_l46
      rw [show ((lex_units.length : Nat) : Int) = 7 from rfl, decide_eq_true (by omega), cond_true]
      refine bind_of (a := u) (by rw [ix_nat]; exact hu) ?_
      refine bind_of (a := (decide (first ≤ i) && (((tl s).drop (a + n)).take (runL lowN ((tl s).drop (a + n))) == uName i))) ?_ ?_
      · show (bif decide ((i : Int) ≥ (first : Int)) then _ else _) = _
        by_cases hf : first ≤ i
        · rw [decide_eq_true (show (i : Int) ≥ (first : Int) by omega), cond_true, decide_eq_true hf, Bool.true_and]
          show Option.bind (sx s (IntKind.wrap .i64 ((a : Int) + (n : Int))) (IntKind.wrap .i64 ((a : Int) + IntKind.wrap .i64 ((n : Int) + (k : Int))))) _ = _
          rw [wrapN (n := a + n) (by omega) (by omega), wrapN (z := (n : Int) + (k : Int)) (n := n + k) (by omega) (by omega), wrapN (n := a + n + k) (by omega) (by omega), sx_tl (by omega) (by omega), Option.bind_some, tl_inj, tl_extract, hu1, show a + n + k - (a + n) = k from by omega, ← hk]
        · rw [decide_eq_false (show ¬ ((i : Int) ≥ (first : Int)) by omega), cond_false, decide_eq_false hf, Bool.false_and]
      · by_cases hc : (decide (first ≤ i) && (((tl s).drop (a + n)).take (runL lowN ((tl s).drop (a + n))) == uName i)) = true
        · rw [hc, cond_true, if_pos rfl]
          show Option.bind (sx s (a : Int) (IntKind.wrap .i64 ((a : Int) + (n : Int)))) _ = _
          rw [wrapN (n := a + n) (by omega) (by omega), sx_tl (by omega) (by omega), Option.bind_some]
          have ht : tl (s.extract a (a + n)) = ((tl s).drop a).take n := by rw [tl_extract, show a + n - a = n from by omega]
          have hsz : (s.extract a (a + n)).size = n := by rw [← tl_len, ht, List.length_take, List.length_drop]; omega
          have e := lex_times_eq (s := s.extract a (a + n)) (i := i) (by omega) (fun j hj => by
            rw [hsz] at hj
            rw [ht]
            have := hn j hj
            unfold gB at this ⊢
            rwa [List.getD_eq_getElem?_getD, List.getElem?_take, if_pos hj, ← List.getD_eq_getElem?_getD]) hi
          rw [← hu2] at e
          rw [e, Option.bind_some, ht]
          have ht2 := timesL_le (((tl s).drop a).take n) (uMs i)
          show some (Sum.inr (Sum.inr (Sum.inl (IntKind.wrap .i64 ((a : Int) + IntKind.wrap .i64 ((n : Int) + (k : Int))), IntKind.wrap .i64 ((i : Int) + 1), (if 1099511627777 < IntKind.wrap .i64 ((sum : Int) + ((timesL (((tl s).drop a).take n) (uMs i) : Nat) : Int)) then 1099511627777 else IntKind.wrap .i64 ((sum : Int) + ((timesL (((tl s).drop a).take n) (uMs i) : Nat) : Int))))))) = _
          rw [wrapN (z := (n : Int) + (k : Int)) (n := n + k) (by omega) (by omega), wrapN (n := a + n + k) (by omega) (by omega), wrapN (n := i + 1) (by omega) (by omega), wrapN (n := sum + timesL (((tl s).drop a).take n) (uMs i)) (by omega) (by omega)]
          simp only [Option.some.injEq, Sum.inr.injEq, Sum.inl.injEq, Prod.mk.injEq, true_and]
          split <;> omega
        · rw [Bool.not_eq_true] at hc
          rw [hc, cond_false, if_neg (by simp), wrapN (n := i + 1) (by omega) (by omega)])
    (by
      unfold lex_span_l46
      rw [show ((lex_units.length : Nat) : Int) = 7 from rfl]; rfl) 7 0 rfl
  rw [show ((0 : Nat) : Int) = 0 from rfl] at h
  rw [h, findSome_if, ← List.range_eq_range']
  obtain ⟨o, ho⟩ : ∃ o, unitL ((tl s).drop (a + n)) first = o := ⟨_, rfl⟩
  rw [ho]
  unfold unitL at ho
  rw [ho]
  cases o <;> rfl
theorem span_loop {s : ByteArray} (hs : s.size < 4294967296) : ∀ (f a first sum : Nat), a ≤ s.size → first ≤ 7 → 8 ≤ first + f → sum ≤ maxS + 1 →
    loopO (lex_span_l16 s) ((a : Int), (first : Int), (sum : Int)) = some (((a + (spanGo f ((tl s).drop a) first sum).1 : Nat) : Int), (((spanGo f ((tl s).drop a) first sum).2 : Nat) : Int))
  | 0, a, first, sum, _, h1, h2, _ => by omega
  | f + 1, a, first, sum, ha, h1, h2, hsum => by
    have hl := tl_len s
    have hdl := runL_le digN ((tl s).drop a)
    rw [List.length_drop] at hdl
    unfold spanGo
    generalize hD : runL digN ((tl s).drop a) = D at *
    by_cases hd : D = 0
    · rw [if_pos hd]
      refine loopO_done (r := (((a + 0 : Nat) : Int), (sum : Int))) ?_
      unfold lex_span_l16
      refine bind_of (num_dig hs ha) ?_
      rw [hD, hd]; rfl
    rw [if_neg hd, List.drop_drop]
    have hkl := runL_le lowN ((tl s).drop (a + D))
    rw [List.length_drop] at hkl
    have hlp := unit_loop hs (a := a) (first := first) (sum := sum) (n := D) (k := runL lowN ((tl s).drop (a + D))) (by omega) rfl (fun i hi => (runL_in (by rw [hD]; exact hi)).2) hsum
    have hbody : lex_span_l16 s ((a : Int), (first : Int), (sum : Int)) = match unitL ((tl s).drop (a + D)) first with
        | some i => some (.inl (((a + D + runL lowN ((tl s).drop (a + D)) : Nat) : Int), ((i + 1 : Nat) : Int), ((min (sum + timesL (((tl s).drop a).take D) (uMs i)) (maxS + 1) : Nat) : Int)))
        | none => some (.inr ((a : Int), (sum : Int))) := by
      unfold lex_span_l16
      refine bind_of (num_dig hs ha) ?_
      rw [hD, show (((D : Nat) : Int) == 0) = false from by rw [beq_eq_false_iff_ne]; omega, cond_false]
      show Option.bind (lex_run s (IntKind.wrap .i64 ((a : Int) + (D : Int))) _) _ = _
      rw [wrapN (n := a + D) (by omega) (by omega)]
      refine bind_of (lex_run_eq lowN hs (by omega) (fun c hc => by rw [low_eq hc]) rfl) ?_
      refine bind_of hlp ?_
      cases unitL ((tl s).drop (a + D)) first <;> rfl
    cases hu : unitL ((tl s).drop (a + D)) first with
    | none =>
      rw [hu] at hbody
      rw [loopO_done hbody]; rfl
    | some i =>
      rw [hu] at hbody
      have hi := unitL_some hu
      have hr := unitL_run hu
      simp only
      rw [loopO_step hbody, hr, List.drop_drop, span_loop hs f _ _ _ (by omega) (by omega) (by omega) (Nat.min_le_right _ _)]
      simp only [Nat.add_assoc]
theorem lex_span_eq {s : ByteArray} (hs : s.size < 4294967296) : lex_span s = some (((spanL (tl s) : Nat) : Int), (((spanGo 8 (tl s) 0 0).2 : Nat) : Int)) := by
  unfold lex_span
  have h := span_loop hs 8 0 0 0 (Nat.zero_le _) (by omega) (by omega) (Nat.zero_le _)
  rw [List.drop_zero] at h
  refine bind_of h ?_
  rw [Nat.zero_add]; rfl
theorem lex_signs_at {i : Nat} (h : i < 22) : ∃ u : ByteArray, lex_signs[i]? = some u ∧ tl u = signsL.getD i [] := by
  have : ∀ j : Fin 22, (lex_signs[j.val]?).map tl = some (signsL.getD j.val []) := by unfold lex_signs; decide +kernel
  obtain ⟨u, h1, h2⟩ := Option.map_eq_some_iff.1 (this ⟨i, h⟩)
  exact ⟨u, h1, h2⟩
theorem find_getD {α : Type} (d : α) (c : α → Bool) (l : List α) : ((List.range l.length).find? fun i => c (l.getD i d)).map (fun i => l.getD i d) = l.find? c := by
  induction l with
  | nil => rfl
  | cons x l ih =>
    rw [List.length_cons, List.range_succ_eq_map, List.find?_cons, List.find?_cons]
    cases hc : c ((x :: l).getD 0 d) with
    | true => rw [show c x = true from hc]; rfl
    | false =>
      rw [show c x = false from hc]
      simp only [List.find?_map]
      show Option.map _ (Option.map Nat.succ (List.find? (fun i => c (l.getD i d)) (List.range l.length))) = _
      rw [Option.map_map]
      exact ih
theorem lex_one_signs {s : ByteArray} : loopO (lex_one_l89 s) 0 = some (match signL (tl s) with
    | some x => .inr (⟨5, ⟨x.toArray⟩, 0⟩, (x.length : Int))
    | none => .inl ()) := by
  have h := up_find_from (n := 22) (body := lex_one_l89 s)
    (fun i => if (signsL.getD i []).isPrefixOf (tl s) then some ((⟨5, ⟨(signsL.getD i []).toArray⟩, 0⟩, ((signsL.getD i []).length : Int)) : S27 × Int) else none)
    (fun i hi => by
      obtain ⟨u, hu, hu1⟩ := lex_signs_at hi
      unfold lex_one_l89
      rw [show ((lex_signs.length : Nat) : Int) = 22 from rfl, decide_eq_true (by omega), cond_true]
      refine bind_of (a := u) (by rw [ix_nat]; exact hu) ?_
      refine bind_of pref_eq ?_
      rw [hu1]
      cases (signsL.getD i []).isPrefixOf (tl s) with
      | true =>
        rw [cond_true, if_pos rfl, ← hu1]
        rw [show u.size = (tl u).length from (tl_len u).symm]
      | false => rw [cond_false, if_neg (by simp), wrapN (n := i + 1) (by omega) (by omega)])
    (by
      unfold lex_one_l89
      rw [show ((lex_signs.length : Nat) : Int) = 22 from rfl]; rfl) 22 0 rfl
  rw [show ((0 : Nat) : Int) = 0 from rfl] at h
  rw [h, findSome_if, ← List.range_eq_range']
  have := find_getD [] (fun x => x.isPrefixOf (tl s)) signsL
  rw [show signsL.length = 22 from rfl] at this
  unfold signL
  rw [← this]
  generalize (List.range 22).find? (fun i => (signsL.getD i []).isPrefixOf (tl s)) = o
  cases o <;> rfl
/-! ### texts in quotes -/
theorem puint_all : ∀ (a b : Fin 103), hexN a.val = true → hexN b.val = true → strconv_ParseUint_c ⟨#[UInt8.ofNat a.val, UInt8.ofNat b.val]⟩ 16 8 = some (((16 * hexV a.val + hexV b.val : Nat) : Int), ()) := by decide +kernel
theorem hexN_lt {c : Nat} (h : hexN c = true) : c < 103 := by unfold hexN digN at h; simp at h; omega
theorem puint_eq {s : ByteArray} (hs : s.size = 2) (h0 : hexN (gB (tl s) 0) = true) (h1 : hexN (gB (tl s) 1) = true) : strconv_ParseUint s 16 8 = some (((16 * hexV (gB (tl s) 0) + hexV (gB (tl s) 1) : Nat) : Int), ()) := by
  have h := puint_all ⟨_, hexN_lt h0⟩ ⟨_, hexN_lt h1⟩ h0 h1
  have e : s = ⟨#[UInt8.ofNat (gB (tl s) 0), UInt8.ofNat (gB (tl s) 1)]⟩ := by
    apply ba_eq
    have hl := tl_len s
    rw [hs] at hl
    show tl s = _
    rcases hxy : tl s with _ | ⟨x, _ | ⟨y, _ | ⟨z, t⟩⟩⟩
    · rw [hxy] at hl; simp at hl
    · rw [hxy] at hl; simp at hl
    · simp [gB, UInt8.ofNat_toNat]
    · rw [hxy] at hl; simp at hl
  have h2 := strconv_ParseUint_ev ⟨#[UInt8.ofNat (gB (tl s) 0), UInt8.ofNat (gB (tl s) 1)]⟩ 16 8 _ h
  rw [← e] at h2
  exact h2
theorem hexV_lt {c : Nat} (h : hexN c = true) : hexV c < 16 := by
  unfold hexN digN at h; unfold hexV; simp at h
  split <;> (try split) <;> omega
theorem hexV_low {c : Nat} (h : hexN c = true) : hexV c < 8 ↔ c ≤ 55 := by
  unfold hexN digN at h; unfold hexV; simp at h
  split <;> (try split) <;> omega
theorem lex_escape_eq {s : ByteArray} (hs : s.size < 4294967296) : lex_escape s = some (match escL (tl s) with | some (x, k) => ((x.toNat : Int), (k : Int)) | none => (0, 0)) := by
  have hl := tl_len s
  unfold lex_escape
  rw [nil_size]
  by_cases h0 : s.size = 0
  · rw [decide_eq_true h0, cond_true]
    have : escL (tl s) = none := by
      have hg : ∀ i, gB (tl s) i = 0 := fun i => gB_out (by omega)
      unfold escL; simp [hg]
    rw [this]
  rw [decide_eq_false h0, cond_false]
  refine bind_of (show bx s 0 = some ((gB (tl s) 0 : Nat) : Int) from bx_tl (i := 0) (by omega)) ?_
  generalize hc : gB (tl s) 0 = c
  unfold escL
  rw [hc]
  have e : ∀ k : Nat, (((c : Nat) : Int) == (k : Int)) = decide (c = k) := fun k => by rw [Bool.eq_iff_iff, beq_iff_eq, decide_eq_true_eq]; omega
  rw [show (((c : Nat) : Int) == 110) = decide (c = 110) from e 110, show (((c : Nat) : Int) == 92) = decide (c = 92) from e 92, show (((c : Nat) : Int) == 34) = decide (c = 34) from e 34, show (((c : Nat) : Int) == 39) = decide (c = 39) from e 39,
    show (((c : Nat) : Int) == 116) = decide (c = 116) from e 116, show (((c : Nat) : Int) == 114) = decide (c = 114) from e 114, show (((c : Nat) : Int) == 120) = decide (c = 120) from e 120]
  by_cases c1 : c = 110
  · subst c1; rfl
  by_cases c2 : c = 92 ∨ c = 34 ∨ c = 39
  · rw [if_neg c1, if_pos c2]
    have hx : (((((tl s).getD 0 0).toNat : Nat) : Int)) = (c : Int) := by rw [show ((tl s).getD 0 0).toNat = c from hc]
    show _ = some (((((tl s).getD 0 0).toNat : Nat) : Int), ((1 : Nat) : Int))
    rw [hx]
    rcases c2 with rfl | rfl | rfl <;> rfl
  rw [not_or, not_or] at c2
  obtain ⟨c3, c4, c5⟩ := c2
  by_cases c6 : c = 116
  · subst c6; rfl
  by_cases c7 : c = 114
  · subst c7; rfl
  rw [if_neg c1, if_neg (by omega), if_neg c6, if_neg c7]
  simp only [c1, c3, c4, c5, c6, c7, decide_false, cond_false, Option.bind_some]
  by_cases c8 : c = 120
  · simp only [c8, decide_true, cond_true, true_and]
    by_cases hH : hexN (gB (tl s) 1) = true ∧ hexN (gB (tl s) 2) = true
    · have h2 : 2 < s.size := by
        have : 0 < gB (tl s) 2 := by
          have := hH.2; unfold hexN digN at this; simp at this; omega
        have := gB_in this; omega
      rw [decide_eq_true (by omega), cond_true, show bx s 1 = some ((gB (tl s) 1 : Nat) : Int) from bx_tl (i := 1) (by omega), show bx s 2 = some ((gB (tl s) 2 : Nat) : Int) from bx_tl (i := 2) (by omega)]
      simp only [Option.bind_some, hex_eq (gB_lt _ _), hH.1, hH.2, cond_true]
      rw [show sx s 1 3 = some (s.extract 1 3) from sx_tl (a := 1) (b := 3) (by omega) (by omega)]
      have ht : tl (s.extract 1 3) = ((tl s).drop 1).take 2 := tl_extract s 1 3
      have hg0 : gB (tl (s.extract 1 3)) 0 = gB (tl s) 1 := by
        rw [ht]; unfold gB; rw [List.getD_eq_getElem?_getD, List.getElem?_take, if_pos (by omega), List.getElem?_drop, ← List.getD_eq_getElem?_getD]
      have hg1 : gB (tl (s.extract 1 3)) 1 = gB (tl s) 2 := by
        rw [ht]; unfold gB; rw [List.getD_eq_getElem?_getD, List.getElem?_take, if_pos (by omega), List.getElem?_drop, ← List.getD_eq_getElem?_getD]
      have hp := puint_eq (s := s.extract 1 3) (by rw [← tl_len, ht, List.length_take, List.length_drop]; omega) (by rw [hg0]; exact hH.1) (by rw [hg1]; exact hH.2)
      rw [hg0, hg1] at hp
      rw [Option.bind_some, hp, Option.bind_some]
      have v1 := hexV_lt hH.1
      have v2 := hexV_lt hH.2
      have v3 := hexV_low hH.1
      by_cases h7 : gB (tl s) 1 ≤ 55
      · have := v3.2 h7
        rw [if_pos ⟨trivial, trivial, h7⟩]
        simp only
        rw [decide_eq_true (by omega), cond_true, wrapU8 (by omega) (by omega)]
        simp only [Option.bind_some]
        rw [UInt8.toNat_ofNat', Nat.mod_eq_of_lt (by omega)]
        rfl
      · have : ¬ hexV (gB (tl s) 1) < 8 := fun h => h7 (v3.1 h)
        rw [if_neg (fun h => h7 h.2.2)]
        simp only
        rw [decide_eq_false (by omega), cond_false]
        rfl
    · rw [if_neg (fun h => hH ⟨h.1, h.2.1⟩)]
      have : (bif decide ((s.size : Int) > 2) then Option.bind (bx s 1) fun c39 => bif lex_hex c39 then Option.bind (bx s 2) fun c42 => some (lex_hex c42) else some false else some false) = some false := by
        by_cases h2 : 2 < s.size
        · rw [decide_eq_true (by omega), cond_true, show bx s 1 = some ((gB (tl s) 1 : Nat) : Int) from bx_tl (i := 1) (by omega), show bx s 2 = some ((gB (tl s) 2 : Nat) : Int) from bx_tl (i := 2) (by omega)]
          simp only [Option.bind_some, hex_eq (gB_lt _ _)]
          cases ha : hexN (gB (tl s) 1) with
          | false => rfl
          | true =>
            rw [cond_true]
            cases hb : hexN (gB (tl s) 2) with
            | false => rfl
            | true => exact absurd ⟨ha, hb⟩ hH
        · rw [decide_eq_false (by omega), cond_false]
      rw [this]; rfl
  · simp only [c8, decide_false, cond_false, Option.bind_some, false_and, if_false]
end Go.Proofs.YtlhpclfkoblnkaaDoor
