/- Plain laws: a log of marks in order: what Put makes of it, the program's and the document's. -/
import Derived.Test.YtjkkmbjkndageaaDoorPF1f
set_option linter.unusedVariables false
set_option linter.unusedSimpArgs false
set_option maxRecDepth 100000
namespace Go.Proofs.YtjkkmbjkndageaaDoor
open Go.GB Go.Lib
/-! ### keys -/
noncomputable abbrev kc (a b : S59) : Int := nflog_key_compare a b
theorem str_cmp (a b : ByteArray) : strings_Compare a b = cmpS a b := rfl
theorem kc_def (a b : S59) : kc a b = if cmpS a.f0 b.f0 = 0 then cmpS a.f1 b.f1 else cmpS a.f0 b.f0 := by
  show nflog_key_compare a b = _
  unfold nflog_key_compare
  rw [str_cmp, str_cmp]
  by_cases h : cmpS a.f0 b.f0 = 0
  · rw [if_pos h, show (cmpS a.f0 b.f0 != 0) = false by simp [h]]; rfl
  · rw [if_neg h, show (cmpS a.f0 b.f0 != 0) = true by simpa using h]; rfl
theorem kc_range (a b : S59) : kc a b = -1 ∨ kc a b = 0 ∨ kc a b = 1 := by
  rw [kc_def]; split <;> exact cmpS_range _ _
theorem kc_trans {a b c : S59} (h : kc a b = -1) (k : kc b c = -1) : kc a c = -1 := by
  rw [kc_def] at *
  have r1 := cmpS_range a.f0 b.f0
  have r2 := cmpS_range b.f0 c.f0
  by_cases h1 : cmpS a.f0 b.f0 = 0
  · have e1 := cmpS_zero h1
    rw [if_pos h1] at h
    rw [e1]
    by_cases h2 : cmpS b.f0 c.f0 = 0
    · rw [if_pos h2] at k ⊢; exact cmpS_trans h k
    · rw [if_neg h2] at k ⊢; exact k
  · rw [if_neg h1] at h
    by_cases h2 : cmpS b.f0 c.f0 = 0
    · have e2 := cmpS_zero h2
      rw [← e2, if_neg h1]; exact h
    · rw [if_neg h2] at k
      have := cmpS_trans h k
      rw [if_neg (by omega)]; exact this
theorem kc_swap' (a b : S59) : kc b a = - kc a b := kc_swap a b
theorem keyEq_kc {a b : S59} : keyEq a b = true ↔ kc a b = 0 := by
  rw [keyEq_iff]
  exact ⟨fun h => by rw [h]; exact kc_self b, kc_zero⟩
/-! ### what Put makes of a list -/
noncomputable def geM (k : S59) (x : S23) : Bool := decide (nflog_key_compare (keyOf x) k ≥ 0)
noncomputable def putR (L : List S23) (m : S23) : Int × List S23 :=
  if markE m ≠ 0 then (markE m, L) else match L.findIdx? (geM (keyOf m)) with
  | none => if L.length ≥ 500 then (8, L) else (0, L ++ [m])
  | some i => match L[i]? with
    | none => (0, L)
    | some e => if keyEq (keyOf e) (keyOf m) = true then (if e.f2 > m.f2 then (90, L) else (0, L.set i m)) else if L.length ≥ 500 then (8, L) else (0, L.take i ++ m :: L.drop i)
theorem idx_ent (L : List S23) (k : S59) : (L.map entOf).findIdx? (ge k) = L.findIdx? (geM k) := by rw [List.findIdx?_map]; rfl
theorem PutL_eq {L : List S23} (hL : L.length ≤ 500) (hW : ∀ x ∈ L, Wm x) {m : S23} (hm : Wm m) : nflog_Log_Put ⟨⟨L.map entOf⟩⟩ m = some ((putR L m).1, ⟨⟨(putR L m).2.map entOf⟩⟩) := by
  unfold nflog_Log_Put putR
  simp only [MRight_eq hm, Option.bind_some]
  by_cases h0 : markE m = 0
  · rw [if_neg (by simpa using h0), h0]
    simp only [bne_self_eq_false, cond_false]
    have hl : (L.map entOf).length ≤ 2147483648 := by rw [List.length_map]; omega
    have hidx := idx_ent L (keyOf m)
    cases hf : L.findIdx? (geM (keyOf m)) with
    | none =>
      rw [hf] at hidx
      have hfi := find_eq (L.map entOf) (keyOf m) hl
      rw [hidx] at hfi
      simp only [Find_out _ hl hidx, Option.bind_some, Bool.false_and, cond_false, Bool.not_false, cond_true, nflog_Log_Len, List.length_map]
      by_cases h5 : L.length ≥ 500
      · rw [if_pos h5, decide_eq_true (show (L.length : Int) ≥ 500 by omega)]; rfl
      · rw [if_neg h5, decide_eq_false (show ¬ (L.length : Int) ≥ 500 by omega)]
        simp only [cond_false, own_eq hm, Option.bind_some]
        unfold nflog_list_put
        have e : linsert (L.map entOf) ((L.map entOf).length : Int) (entOf m) = some ((L ++ [m]).map entOf) := by
          unfold linsert maxLen'
          rw [if_pos (by simp; omega), show ((L.map entOf).length : Int).toNat = (L.map entOf).length from rfl, List.take_length, List.drop_length, List.map_append]; rfl
        simp only [show (⟨m.f0, m.f1⟩ : S59) = keyOf m from rfl, hfi, Option.bind_some, cond_false]
        rw [show (⟨⟨(keyOf m).f0, (keyOf m).f1⟩, ⟨m.f0, m.f1, m.f2, m.f3, m.f4⟩⟩ : S76) = entOf m from rfl, e]
        rfl
    | some i =>
      rw [hf] at hidx
      obtain ⟨hi, hp, _⟩ := List.findIdx?_eq_some_iff_getElem.1 hf
      have he : (L.map entOf)[i]? = some (entOf L[i]) := by rw [List.getElem?_map, List.getElem?_eq_getElem hi]; rfl
      have hfi := find_eq (L.map entOf) (keyOf m) hl
      rw [hidx] at hfi
      simp only [he, Option.bind_some] at hfi
      simp only [List.getElem?_eq_getElem hi, Find_at _ hl hidx he (hW _ (List.getElem_mem hi)), Option.bind_some, nflog_Log_Len, List.length_map]
      have kk : keyEq (entOf L[i]).f0 ⟨m.f0, m.f1⟩ = keyEq (keyOf L[i]) (keyOf m) := rfl
      have kk' : keyEq (entOf L[i]).f0 (keyOf m) = keyEq (keyOf L[i]) (keyOf m) := rfl
      rw [kk] at *
      rw [kk'] at hfi
      cases hk : keyEq (keyOf L[i]) (keyOf m) with
      | true =>
        rw [hk] at hfi
        simp only [if_true, Bool.true_and, Bool.not_true, cond_false, show (entOf L[i]).f1 = L[i] from rfl]
        by_cases ho : L[i].f2 > m.f2
        · rw [if_pos ho, decide_eq_true ho]; rfl
        · rw [if_neg ho, decide_eq_false ho]
          simp only [cond_false, Option.bind_some, own_eq hm]
          unfold nflog_list_put
          simp only [show (⟨m.f0, m.f1⟩ : S59) = keyOf m from rfl, hfi, Option.bind_some, cond_true, ix_nat, he]
          have e : lset (L.map entOf) (i : Int) ⟨(entOf L[i]).f0, m⟩ = (L.set i m).map entOf := by
            unfold lset
            rw [List.map_set]
            have := keyEq_iff.1 hk
            show (L.map entOf).set i ⟨keyOf L[i], m⟩ = _
            rw [this]; rfl
          rw [e]
      | false =>
        rw [hk] at hfi
        simp only [Bool.false_eq_true, if_false, Bool.false_and, cond_false, Bool.not_false, cond_true, Option.bind_some]
        by_cases h5 : L.length ≥ 500
        · rw [if_pos h5, decide_eq_true (show (L.length : Int) ≥ 500 by omega)]; rfl
        · rw [if_neg h5, decide_eq_false (show ¬ (L.length : Int) ≥ 500 by omega)]
          simp only [cond_false, own_eq hm, Option.bind_some]
          unfold nflog_list_put
          have e : linsert (L.map entOf) (i : Int) (entOf m) = some ((L.take i ++ m :: L.drop i).map entOf) := by
            unfold linsert maxLen'
            rw [if_pos (by simp; omega)]
            simp
          simp only [show (⟨m.f0, m.f1⟩ : S59) = keyOf m from rfl, hfi, Option.bind_some, cond_false]
          rw [show (⟨⟨(keyOf m).f0, (keyOf m).f1⟩, ⟨m.f0, m.f1, m.f2, m.f3, m.f4⟩⟩ : S76) = entOf m from rfl, e]
          rfl
  · rw [if_pos h0, show (markE m != 0) = true by simpa using h0]; rfl
/-! ### lists in order -/
def Sor (L : List S23) : Prop := L.Pairwise fun a b => kc (keyOf a) (keyOf b) = -1
theorem geM_false {k : S59} {x : S23} (h : geM k x = false) : kc (keyOf x) k = -1 := by
  have : ¬ kc (keyOf x) k ≥ 0 := of_decide_eq_false h
  have r := kc_range (keyOf x) k
  omega
theorem geM_true {k : S59} {x : S23} (h : geM k x = true) : kc (keyOf x) k = 0 ∨ kc (keyOf x) k = 1 := by
  have : kc (keyOf x) k ≥ 0 := of_decide_eq_true h
  have r := kc_range (keyOf x) k
  omega
theorem idx_rel (k : S59) : ∀ {L : List S23}, Sor L → L.findIdx? (fun x => keyEq (keyOf x) k) = match L.findIdx? (geM k) with
    | none => none
    | some i => match L[i]? with
      | none => none
      | some e => if keyEq (keyOf e) k = true then some i else none
  | [], _ => rfl
  | x :: t, h => by
    have ht := List.pairwise_cons.1 h
    rw [List.findIdx?_cons, List.findIdx?_cons]
    cases hg : geM k x with
    | true =>
      simp only [if_true, List.getElem?_cons_zero]
      cases hk : keyEq (keyOf x) k with
      | true => rfl
      | false =>
        simp only [Bool.false_eq_true, if_false, Option.map_eq_none_iff, List.findIdx?_eq_none_iff]
        intro y hy
        have h1 : kc (keyOf x) k = 1 := (geM_true hg).resolve_left fun h0 => by rw [keyEq_kc.2 h0] at hk; cases hk
        have h2 := ht.1 y hy
        have h3 := kc_swap' (keyOf x) k
        have h4 := kc_trans (show kc k (keyOf x) = -1 by omega) h2
        rw [Bool.eq_false_iff]
        intro h5
        have := keyEq_kc.1 h5
        have := kc_swap' k (keyOf y)
        omega
    | false =>
      have h1 := geM_false hg
      have hk : keyEq (keyOf x) k = false := by rw [Bool.eq_false_iff]; intro h5; have := keyEq_kc.1 h5; omega
      rw [hk]
      simp only [Bool.false_eq_true, if_false]
      rw [idx_rel k ht.2]
      cases hf : t.findIdx? (geM k) with
      | none => rfl
      | some i =>
        simp only [Option.map_some, List.getElem?_cons_succ]
        cases t[i]? with
        | none => rfl
        | some e => dsimp only; split <;> rfl
theorem refFind_eq (L : List S23) (hL : L.length ≤ 1000) (k0 k1 : ByteArray) : tocsinref26_Log_find ⟨L⟩ k0 k1 = some (match L.findIdx? (fun x => keyEq (keyOf x) ⟨k0, k1⟩) with | none => -1 | some i => (i : Int)) := by
  have key : ∀ (d i : Nat), L.length - i = d → i ≤ L.length → loopO (tocsinref26_Log_find_l17 ⟨L⟩ k0 k1) (i : Int) = some (match (L.drop i).findIdx? (fun x => keyEq (keyOf x) ⟨k0, k1⟩) with | none => .inl () | some j => .inr ((i + j : Nat) : Int)) := by
    intro d
    induction d with
    | zero =>
      intro i hd hi
      have : i = L.length := by omega
      subst this
      refine loopO_of (.done ?_)
      unfold tocsinref26_Log_find_l17
      rw [show decide ((L.length : Int) < (L.length : Int)) = false from decide_eq_false (by omega)]
      simp
    | succ d ih =>
      intro i hd hi
      have hlt : i < L.length := by omega
      have e1 : ix L ((i : Nat) : Int) = some L[i] := by rw [ix_nat, List.getElem?_eq_getElem hlt]
      have e4 : decide (((i : Nat) : Int) < (L.length : Int)) = true := decide_eq_true (by omega)
      rw [List.drop_eq_getElem_cons hlt, List.findIdx?_cons]
      cases hq : keyEq (keyOf L[i]) ⟨k0, k1⟩ with
      | true =>
        refine loopO_of (.done ?_)
        unfold tocsinref26_Log_find_l17
        simp only [e4, cond_true, e1, Option.bind_some]
        rw [show (L[i].f0.toList == k0.toList && L[i].f1.toList == k1.toList) = true from hq]
        rfl
      | false =>
        have hb : tocsinref26_Log_find_l17 ⟨L⟩ k0 k1 (i : Int) = some (.inl ((i + 1 : Nat) : Int)) := by
          unfold tocsinref26_Log_find_l17
          simp only [e4, cond_true, e1, Option.bind_some]
          rw [show (L[i].f0.toList == k0.toList && L[i].f1.toList == k1.toList) = false from hq]
          simp only [cond_false, wrap_up (show i < 4294967296 by omega)]
        rw [loopO_eq, hb]
        simp only [Option.bind_some]
        rw [ih (i + 1) (by omega) (by omega)]
        simp only [Bool.false_eq_true, if_false]
        cases h : (L.drop (i + 1)).findIdx? (fun x => keyEq (keyOf x) ⟨k0, k1⟩) with
        | none => rfl
        | some j => simp only [Option.map_some]; rw [show i + 1 + j = i + (j + 1) from by omega]
  unfold tocsinref26_Log_find
  have := key L.length 0 (by omega) (by omega)
  rw [show ((0 : Nat) : Int) = 0 from rfl] at this
  rw [this, List.drop_zero]
  cases h : L.findIdx? (fun x => keyEq (keyOf x) ⟨k0, k1⟩) with
  | none => rfl
  | some j => simp
theorem gt_eq (x m : S23) : (bif (!((Op.bytesLess x.f0.toList m.f0.toList) || (x.f0.toList == m.f0.toList))) then some true else (bif (x.f0.toList == m.f0.toList) then some (!((Op.bytesLess x.f1.toList m.f1.toList) || (x.f1.toList == m.f1.toList))) else some false)) = some (decide (kc (keyOf x) (keyOf m) = 1)) := by
  rw [kc_def, less_eq, less_eq, beq_eq, beq_eq]
  show _ = some (decide ((if cmpS x.f0 m.f0 = 0 then cmpS x.f1 m.f1 else cmpS x.f0 m.f0) = 1))
  rcases cmpS_range x.f0 m.f0 with h | h | h
  · simp [h]
  · rcases cmpS_range x.f1 m.f1 with g | g | g <;> simp [h, g]
  · simp [h]
theorem refOwn_eq {l : Sets} (hl : Ws l) : tocsinref26_own l = some l := by
  obtain ⟨h1, h2⟩ := hl
  unfold tocsinref26_own
  have h : loopO (tocsinref26_own_l28 l) ([], 0) = some l := by
    have := up_inv (body := tocsinref26_own_l28 l) (fun i => (l.take i, (i : Int))) (n := l.length) (r := l) (fun i hi => ?_) ?_ 0 (Nat.zero_le _)
    · simpa using this
    · unfold tocsinref26_own_l28
      have e1 : ix l ((i : Nat) : Int) = some l[i] := by rw [ix_nat, List.getElem?_eq_getElem hi]
      have e2 : app ([] : List S53) l[i] = some l[i] := by
        have := h2 _ (List.getElem_mem hi)
        unfold Wl at this
        rw [app_eq (by simpa using this)]; rfl
      have e3 : app (l.take i) [l[i]] = some (l.take (i + 1)) := by
        rw [app_eq (by simp; omega), List.take_append_getElem hi]
      have e4 : decide (((i : Nat) : Int) < (l.length : Int)) = true := decide_eq_true (by omega)
      simp only [e4, cond_true, e1, Option.bind_some, e2, e3, wrap_up (show i < 4294967296 by omega)]
    · unfold tocsinref26_own_l28
      have e4 : decide ((l.length : Int) < (l.length : Int)) = false := decide_eq_false (by omega)
      simp only [e4, cond_false, List.take_length]
  rw [h]; rfl
theorem sets36_eq {l : Sets} (hl : Ws l) : nflog_sets_f36 l = some l := by
  obtain ⟨h1, h2⟩ := hl
  unfold nflog_sets_f36
  have h : loopO (nflog_sets_f36_l28 l) ([], 0) = some l := by
    have := up_inv (body := nflog_sets_f36_l28 l) (fun i => (l.take i, (i : Int))) (n := l.length) (r := l) (fun i hi => ?_) ?_ 0 (Nat.zero_le _)
    · simpa using this
    · unfold nflog_sets_f36_l28
      have e1 : ix l ((i : Nat) : Int) = some l[i] := by rw [ix_nat, List.getElem?_eq_getElem hi]
      have e2 : app ([] : List S53) l[i] = some l[i] := by
        have := h2 _ (List.getElem_mem hi)
        unfold Wl at this
        rw [app_eq (by simpa using this)]; rfl
      have e3 : app (l.take i) [l[i]] = some (l.take (i + 1)) := by
        rw [app_eq (by simp; omega), List.take_append_getElem hi]
      have e4 : decide (((i : Nat) : Int) < (l.length : Int)) = true := decide_eq_true (by omega)
      simp only [e4, cond_true, e1, Option.bind_some, slices_Clone_f57, e2, e3, wrap_up (show i < 4294967296 by omega)]
    · unfold nflog_sets_f36_l28
      have e4 : decide ((l.length : Int) < (l.length : Int)) = false := decide_eq_false (by omega)
      simp only [e4, cond_false, List.take_length]
  rw [h]; rfl
theorem own18_eq {m : S23} (hm : Wm m) : nflog_own_f18 m = some m := by
  unfold nflog_own_f18
  rw [sets36_eq hm.1, sets36_eq hm.2]; rfl
theorem Put6_eq {m : S23} (hm : Wm m) (l : S45) : nflog_Log_Put_f6 l m = nflog_Log_Put l m := by
  unfold nflog_Log_Put_f6 nflog_Log_Put
  rw [own18_eq hm, own_eq hm]
/-! ### the document's Put -/
theorem put_loop {L : List S23} (hL : L.length ≤ 500) {m : S23} {i0 : Nat} (hA : ∀ (j : Nat) (hj : j < L.length), i0 ≤ j → kc (keyOf L[j]) (keyOf m) = 1) (hB : ∀ (j : Nat) (hj : j < L.length), j + 1 = i0 → kc (keyOf L[j]) (keyOf m) ≠ 1) :
    ∀ (d k : Nat) (X : S23), k = i0 + d → k ≤ L.length → ∃ Y, loopO (tocsinref26_Log_put_l93 m) (L.take k ++ X :: L.drop k, (k : Int)) = some ((i0 : Int), L.take i0 ++ Y :: L.drop i0)
  | 0, k, X, hk, hl => by
    obtain rfl : k = i0 := by omega
    refine ⟨X, loopO_done ?_⟩
    unfold tocsinref26_Log_put_l93
    by_cases h0 : k = 0
    · subst h0; rfl
    · have hlen : (L.take k).length = k := by rw [List.length_take]; omega
      have hx : ix (L.take k ++ X :: L.drop k) (IntKind.wrap .i64 ((k : Int) - 1)) = some L[k - 1] := by
        rw [ix_prev (by omega) (by omega), List.getElem?_append_left (by omega), List.getElem?_take, if_pos (by omega), List.getElem?_eq_getElem]
      simp only [decide_eq_true (show (k : Int) > 0 by omega), cond_true, hx, Option.bind_some, gt_eq]
      rw [decide_eq_false (hB (k - 1) (by omega) (by omega))]
      rfl
  | d + 1, k, X, hk, hl => by
    have hlen : (L.take k).length = k := by rw [List.length_take]; omega
    have hx : ix (L.take k ++ X :: L.drop k) (IntKind.wrap .i64 ((k : Int) - 1)) = some L[k - 1] := by
      rw [ix_prev (by omega) (by omega), List.getElem?_append_left (by omega), List.getElem?_take, if_pos (by omega), List.getElem?_eq_getElem]
    have hx2 : ix (L.take k ++ X :: L.drop k) (k : Int) = some X := by
      rw [ix_nat, List.getElem?_append_right (by omega), hlen, Nat.sub_self]; rfl
    have hs : lset (L.take k ++ X :: L.drop k) (k : Int) L[k - 1] = L.take (k - 1) ++ L[k - 1] :: L.drop (k - 1) := by
      unfold lset
      rw [show (k : Int).toNat = k from rfl, List.set_append_right _ _ (by omega), hlen, Nat.sub_self, List.set_cons_zero]
      have e1 : L.take k = L.take (k - 1) ++ [L[k - 1]] := by
        have := List.take_append_getElem (show k - 1 < L.length by omega)
        rw [this, show k - 1 + 1 = k by omega]
      have e2 : L.drop (k - 1) = L[k - 1] :: L.drop k := by
        rw [List.drop_eq_getElem_cons (show k - 1 < L.length by omega), show k - 1 + 1 = k by omega]
      rw [e1, e2, List.append_assoc]; rfl
    obtain ⟨Y, hY⟩ := put_loop hL hA hB d (k - 1) L[k - 1] (by omega) (by omega)
    refine ⟨Y, ?_⟩
    rw [← hY]
    refine loopO_step ?_
    unfold tocsinref26_Log_put_l93
    simp only [decide_eq_true (show (k : Int) > 0 by omega), cond_true, hx, Option.bind_some, gt_eq]
    rw [decide_eq_true (hA (k - 1) (by omega) (by omega))]
    simp only [cond_true, hx2, Option.bind_some, hs]
    rw [wrap64 (by omega) (by omega), show (k : Int) - 1 = ((k - 1 : Nat) : Int) by omega]
theorem place_above {L : List S23} (hS : Sor L) {k : S59} {i : Nat} (hi : i < L.length) (h1 : kc (keyOf L[i]) k = 1) : ∀ (j : Nat) (hj : j < L.length), i ≤ j → kc (keyOf L[j]) k = 1 := by
  intro j hj hij
  rcases Nat.eq_or_lt_of_le hij with rfl | hlt
  · exact h1
  · have h2 := List.pairwise_iff_getElem.1 hS i j hi hj hlt
    have h3 := kc_swap' (keyOf L[i]) k
    have h4 := kc_trans (show kc k (keyOf L[i]) = -1 by omega) h2
    have h5 := kc_swap' k (keyOf L[j])
    omega
theorem refput_in {L : List S23} (hL : L.length < 500) {m : S23} (hm : Wm m) {i0 : Nat} (hi0 : i0 ≤ L.length) (hn : L.findIdx? (fun x => keyEq (keyOf x) (keyOf m)) = none) (hA : ∀ (j : Nat) (hj : j < L.length), i0 ≤ j → kc (keyOf L[j]) (keyOf m) = 1) (hB : ∀ (j : Nat) (hj : j < L.length), j + 1 = i0 → kc (keyOf L[j]) (keyOf m) ≠ 1) :
    tocsinref26_Log_put ⟨L⟩ m = some ⟨L.take i0 ++ m :: L.drop i0⟩ := by
  unfold tocsinref26_Log_put
  have hf := refFind_eq L (by omega) m.f0 m.f1
  rw [show (fun x : S23 => keyEq (keyOf x) ⟨m.f0, m.f1⟩) = fun x => keyEq (keyOf x) (keyOf m) from rfl, hn] at hf
  obtain ⟨Y, hY⟩ := put_loop (by omega) hA hB (L.length - i0) L.length m (by omega) (Nat.le_refl _)
  rw [List.take_length, List.drop_length] at hY
  simp only [refOwn_eq hm.1, refOwn_eq hm.2, Option.bind_some, hf]
  rw [decide_eq_false (show ¬ ((-1 : Int) ≥ 0) by omega)]
  simp only [cond_false, app_eq (show L.length + [m].length ≤ 2147483648 by simp; omega), Option.bind_some]
  simp only [Option.bind_some, hY]
  have hlen : (L.take i0).length = i0 := by rw [List.length_take]; omega
  rw [ix_nat, List.getElem?_append_right (by omega), hlen, Nat.sub_self]
  simp only [List.getElem?_cons_zero, Option.bind_some]
  unfold lset
  rw [show (i0 : Int).toNat = i0 from rfl, List.set_append_right _ _ (by omega), hlen, Nat.sub_self, List.set_cons_zero]
theorem refPut_eq {L : List S23} (hL : L.length ≤ 500) (hS : Sor L) {m : S23} (hm : Wm m) : tocsinref26_Log_Put ⟨L⟩ m = some ((putR L m).1, ⟨(putR L m).2⟩) := by
  unfold tocsinref26_Log_Put putR
  simp only [refMRight_eq hm, Option.bind_some]
  by_cases h0 : markE m = 0
  · rw [if_neg (by simpa using h0), h0]
    simp only [bne_self_eq_false, cond_false]
    have hf := refFind_eq L (by omega) m.f0 m.f1
    have hr := idx_rel (keyOf m) hS
    rw [show (fun x : S23 => keyEq (keyOf x) ⟨m.f0, m.f1⟩) = fun x => keyEq (keyOf x) (keyOf m) from rfl] at hf
    rw [hf]
    simp only [Option.bind_some]
    have lacks : L.findIdx? (fun x => keyEq (keyOf x) (keyOf m)) = none → ∀ i0, i0 ≤ L.length → (∀ (j : Nat) (hj : j < L.length), i0 ≤ j → kc (keyOf L[j]) (keyOf m) = 1) → (∀ (j : Nat) (hj : j < L.length), j + 1 = i0 → kc (keyOf L[j]) (keyOf m) ≠ 1) →
        (Option.bind (bif (decide ((-1 : Int) ≥ 0)) then (Option.bind (ix L (-1)) fun (x18 : S23) => some (decide (x18.f2 > m.f2))) else (some false)) fun (j12 : Bool) => bif j12 then (some ((90 : Int), (⟨L⟩ : S30))) else
          (bif ((decide ((-1 : Int) < 0)) && (decide ((L.length : Int) ≥ 500))) then (some (8, ⟨L⟩)) else (Option.bind (tocsinref26_Log_put ⟨L⟩ m) fun (y41 : S30) => some (0, y41)))) = some (if L.length ≥ 500 then (8, ⟨L⟩) else (0, ⟨L.take i0 ++ m :: L.drop i0⟩)) := by
      intro hn i0 hi0 hA hB
      rw [decide_eq_false (show ¬ ((-1 : Int) ≥ 0) by omega), decide_eq_true (show (-1 : Int) < 0 by omega)]
      simp only [cond_false, Option.bind_some, Bool.true_and]
      by_cases h5 : L.length ≥ 500
      · rw [if_pos h5, decide_eq_true (show (L.length : Int) ≥ 500 by omega)]; rfl
      · rw [if_neg h5, decide_eq_false (show ¬ (L.length : Int) ≥ 500 by omega), refput_in (by omega) hm hi0 hn hA hB]; rfl
    cases hg : L.findIdx? (geM (keyOf m)) with
    | none =>
      rw [hg] at hr
      simp only at hr
      rw [hr]
      have hall := List.findIdx?_eq_none_iff.1 hg
      have := lacks hr L.length (Nat.le_refl _) (fun j hj hij => by omega) (fun j hj _ h1 => by have := geM_false (hall _ (List.getElem_mem hj)); omega)
      rw [List.take_length, List.drop_length] at this
      refine this.trans ?_
      split <;> rfl
    | some i =>
      obtain ⟨hi, hp, hlow⟩ := List.findIdx?_eq_some_iff_getElem.1 hg
      rw [hg] at hr
      simp only [List.getElem?_eq_getElem hi] at hr ⊢
      cases hk : keyEq (keyOf L[i]) (keyOf m) with
      | true =>
        rw [hk] at hr
        simp only [if_true] at hr ⊢
        rw [hr]
        dsimp only
        rw [decide_eq_true (show (i : Int) ≥ 0 by omega), decide_eq_false (show ¬ (i : Int) < 0 by omega)]
        simp only [cond_true, ix_nat, List.getElem?_eq_getElem hi, Option.bind_some, Bool.false_and, cond_false]
        by_cases ho : L[i].f2 > m.f2
        · rw [if_pos ho, decide_eq_true ho]; rfl
        · rw [if_neg ho, decide_eq_false ho]
          simp only [cond_false]
          unfold tocsinref26_Log_put
          simp only [refOwn_eq hm.1, refOwn_eq hm.2, Option.bind_some, hf]
          rw [hr]
          dsimp only
          rw [decide_eq_true (show (i : Int) ≥ 0 by omega)]
          simp only [cond_true, ix_nat, List.getElem?_eq_getElem hi, Option.bind_some]
          rfl
      | false =>
        rw [hk] at hr
        simp only [Bool.false_eq_true, if_false] at hr ⊢
        rw [hr]
        have h1 : kc (keyOf L[i]) (keyOf m) = 1 := (geM_true hp).resolve_left fun h0 => by rw [keyEq_kc.2 h0] at hk; cases hk
        refine (lacks hr i (by omega) (place_above hS hi h1) (fun j hj hji h2 => by
          have := hlow j (by omega)
          rw [Bool.not_eq_true] at this
          have := geM_false this
          omega)).trans ?_
        split <;> rfl
  · rw [if_pos h0, show (markE m != 0) = true by simpa using h0]; rfl
/-! ### what stays true of the list -/
structure LOk (L : List S23) : Prop where
  n : L.length ≤ 500
  w : ∀ x ∈ L, Wm x
  s : Sor L
theorem sor_ins {L : List S23} (hS : Sor L) {m : S23} {i : Nat} (hi : i ≤ L.length) (hA : ∀ (j : Nat) (hj : j < L.length), i ≤ j → kc (keyOf L[j]) (keyOf m) = 1) (hC : ∀ (j : Nat) (hj : j < L.length), j < i → kc (keyOf L[j]) (keyOf m) = -1) : Sor (L.take i ++ m :: L.drop i) := by
  have hS' : Sor (L.take i ++ L.drop i) := by rw [List.take_append_drop]; exact hS
  obtain ⟨p1, p2, p3⟩ := List.pairwise_append.1 hS'
  refine List.pairwise_append.2 ⟨p1, List.pairwise_cons.2 ⟨fun x hx => ?_, p2⟩, fun x hx y hy => ?_⟩
  · obtain ⟨j, hj, rfl⟩ := List.getElem_of_mem hx
    rw [List.length_drop] at hj
    rw [List.getElem_drop]
    have := hA (i + j) (by omega) (by omega)
    have := kc_swap' (keyOf (L[i + j]'(by omega))) (keyOf m)
    omega
  · rcases List.mem_cons.1 hy with rfl | hy
    · obtain ⟨j, hj, rfl⟩ := List.getElem_of_mem hx
      rw [List.length_take] at hj
      rw [List.getElem_take]
      exact hC j (by omega) (by omega)
    · exact p3 x hx y hy
theorem LOk.put {L : List S23} (h : LOk L) {m : S23} (hm : Wm m) : LOk (putR L m).2 := by
  unfold putR
  by_cases h0 : markE m = 0
  · rw [if_neg (by simpa using h0)]
    cases hg : L.findIdx? (geM (keyOf m)) with
    | none =>
      dsimp only
      by_cases h5 : L.length ≥ 500
      · rw [if_pos h5]; exact h
      · rw [if_neg h5]
        have hall := List.findIdx?_eq_none_iff.1 hg
        have := sor_ins (m := m) h.s (Nat.le_refl _) (fun j hj hij => by omega) (fun j hj _ => geM_false (hall _ (List.getElem_mem hj)))
        rw [List.take_length, List.drop_length] at this
        refine ⟨by simp; omega, fun x hx => ?_, this⟩
        rcases List.mem_append.1 hx with hx | hx
        · exact h.w x hx
        · rw [List.mem_singleton.1 hx]; exact hm
    | some i =>
      obtain ⟨hi, hp, hlow⟩ := List.findIdx?_eq_some_iff_getElem.1 hg
      simp only [List.getElem?_eq_getElem hi]
      cases hk : keyEq (keyOf L[i]) (keyOf m) with
      | true =>
        simp only [if_true]
        by_cases ho : L[i].f2 > m.f2
        · rw [if_pos ho]; exact h
        · rw [if_neg ho]
          refine ⟨by simpa using h.n, fun x hx => ?_, ?_⟩
          · rcases List.mem_or_eq_of_mem_set hx with hx | rfl
            · exact h.w x hx
            · exact hm
          · have e : (L.set i m).map keyOf = L.map keyOf := by
              rw [List.map_set, ← keyEq_iff.1 hk]
              apply List.ext_getElem
              · simp
              · intro j h1 h2
                rw [List.getElem_set]
                split
                · rename_i hij; subst hij; simp
                · rfl
            have h1 : (L.map keyOf).Pairwise fun a b => kc a b = -1 := List.pairwise_map.2 h.s
            rw [← e] at h1
            exact List.pairwise_map.1 h1
      | false =>
        simp only [Bool.false_eq_true, if_false]
        by_cases h5 : L.length ≥ 500
        · rw [if_pos h5]; exact h
        · rw [if_neg h5]
          have h1 : kc (keyOf L[i]) (keyOf m) = 1 := (geM_true hp).resolve_left fun h0 => by rw [keyEq_kc.2 h0] at hk; cases hk
          refine ⟨by simp; omega, fun x hx => ?_, sor_ins h.s (by omega) (place_above h.s hi h1) (fun j hj hji => ?_)⟩
          · rcases List.mem_append.1 hx with hx | hx
            · exact h.w x (List.mem_of_mem_take hx)
            · rcases List.mem_cons.1 hx with rfl | hx
              · exact hm
              · exact h.w x (List.mem_of_mem_drop hx)
          · have := hlow j hji
            rw [Bool.not_eq_true] at this
            exact geM_false this
  · rw [if_pos h0]; exact h
/-- a Put, of both -/
theorem step_put {L : List S23} (h : LOk L) {m : S23} (hm : Wm m) (a b : Int) : tocsinlaw26_step ⟨⟨L.map entOf⟩⟩ ⟨L⟩ ⟨0, m, a, b⟩ = some (true, ⟨⟨(putR L m).2.map entOf⟩⟩, ⟨(putR L m).2⟩) := by
  unfold tocsinlaw26_step
  simp only [mark_eq hm, Option.bind_some, Put6_eq hm, PutL_eq h.n h.w hm, refPut_eq h.n h.s hm, refMark_self hm, beq_self_eq_true, cond_true]
end Go.Proofs.YtjkkmbjkndageaaDoor
