/- Plain laws: label sets in bytes. -/
import Derived.Test.YtlkmfhccpcncnaaDoorPB3
import Derived.Test.YtlkmfhccpcncnaaDoorPB5
set_option linter.unusedVariables false
set_option maxRecDepth 100000
namespace Go.Proofs.YtlkmfhccpcncnaaDoor
open Go.GB Go.Lib
theorem faultAt_ne {l : List S79} {i : Nat} {v : Int × Int} (h : faultAt l i = some v) : v.1 ≠ 0 := by
  unfold faultAt at h
  split at h
  · cases h
  · rename_i x _
    by_cases h1 : oneE x ≠ 0
    · rw [if_pos h1] at h; cases h; exact h1
    · rw [if_neg h1] at h
      split at h
      · cases h
      · split at h
        · cases h
        · split at h
          · cases h
          · cases h; show (3 : Int) ≠ 0; decide
theorem right_none {l : List S79} (h : (rightE l).1 = 0) : l.length ≤ 16 ∧ ∀ i, i < l.length → faultAt l i = none := by
  unfold rightE at h
  split at h
  · cases h
  · refine ⟨by omega, fun i hi => ?_⟩
    cases hf : (List.range l.length).findSome? (faultAt l) with
    | some v =>
      rw [hf] at h
      obtain ⟨j, _, hj⟩ := List.exists_of_findSome?_eq_some hf
      exact absurd h (faultAt_ne hj)
    | none => rw [List.findSome?_eq_none_iff] at hf; exact hf i (List.mem_range.2 hi)
theorem right_zero {l : List S79} (h : (rightE l).1 = 0) : rightE l = (0, 0) := by
  obtain ⟨h1, h2⟩ := right_none h
  unfold rightE
  rw [if_neg (by omega)]
  have : (List.range l.length).findSome? (faultAt l) = none := by
    rw [List.findSome?_eq_none_iff]
    exact fun i hi => h2 i (List.mem_range.1 hi)
  rw [this]; rfl
theorem one_parts {x : S79} (h : oneE x = 0) : namedB x.f0 64 false = true ∧ x.f1.size ≠ 0 ∧ x.f1.size ≤ 256 ∧ validD x.f1.data.toList = true := by
  unfold oneE at h
  cases hn : namedB x.f0 64 false with
  | false => rw [hn] at h; cases h
  | true =>
    rw [hn] at h
    simp only [if_true] at h
    unfold valueE at h
    by_cases h0 : x.f1.size = 0
    · rw [if_pos h0] at h; cases h
    · rw [if_neg h0] at h
      by_cases h1 : x.f1.size > 256
      · rw [if_pos h1] at h; cases h
      · rw [if_neg h1] at h
        cases hv : validD x.f1.data.toList with
        | false => rw [hv] at h; cases h
        | true => exact ⟨rfl, h0, by omega, rfl⟩
theorem named_valid {s : ByteArray} {most : Nat} {c : Bool} (h : namedB s most c = true) : s.size ≤ most ∧ s.size ≠ 0 ∧ validD s.data.toList = true := by
  unfold namedB at h
  simp only [Bool.and_eq_true, decide_eq_true_eq, List.all_eq_true, Bool.not_eq_true'] at h
  obtain ⟨h0, h1, _, h2⟩ := h
  refine ⟨h1, h0, ?_⟩
  have := validD_ascii s.data.toList.length s.data.toList (fun b hb => by
    rw [List.take_length] at hb
    obtain ⟨i, hi, rfl⟩ := List.getElem_of_mem hb
    have h3 := h2 i (List.mem_range.2 (by rw [← size_list]; exact hi))
    have e : bat s i = (s.data.toList[i]).toNat := by
      unfold bat
      rw [List.getD_eq_getElem?_getD, List.getElem?_eq_getElem hi]; rfl
    rw [e] at h3
    unfold labels_letter labels_digit at h3
    simp only [Bool.or_eq_true, Bool.and_eq_true, decide_eq_true_eq, beq_iff_eq] at h3
    omega)
  rw [this, List.drop_length]
  rfl
theorem right_parts {l : List S79} (h : (rightE l).1 = 0) : l.length ≤ 16 ∧ ∀ x ∈ l, oneE x = 0 := by
  obtain ⟨h1, h2⟩ := right_none h
  refine ⟨h1, fun x hx => ?_⟩
  obtain ⟨i, hi, rfl⟩ := List.getElem_of_mem hx
  have := h2 i hi
  unfold faultAt at this
  rw [List.getElem?_eq_getElem hi] at this
  simp only at this
  by_cases h0 : oneE l[i] ≠ 0
  · rw [if_pos h0] at this; cases this
  · simpa using h0
def encLab (x : S79) : List Int := (uv x.f0.size ++ bytesOf x.f0) ++ (uv x.f1.size ++ bytesOf x.f1)
def encLabs (l : List S79) : List Int := l.flatMap encLab
def encL (l : List S79) : List Int := uv l.length ++ encLabs l
theorem encLab_len {x : S79} (h : oneE x = 0) : (encLab x).length ≤ 340 := by
  obtain ⟨h1, _, h2, _⟩ := one_parts h
  have h3 := (named_valid h1).1
  have := uv_len x.f0.size
  have := uv_len x.f1.size
  simp [encLab, bytesOf_length]
  omega
theorem encLabs_len : ∀ {l : List S79}, (∀ x ∈ l, oneE x = 0) → (encLabs l).length ≤ 340 * l.length
  | [], _ => by simp [encLabs]
  | x :: r, h => by
    have h1 := encLab_len (h x (by simp))
    have h2 := encLabs_len (l := r) (fun y hy => h y (by simp [hy]))
    unfold encLabs at h2 ⊢
    simp only [List.flatMap_cons, List.length_append, List.length_cons]
    omega
theorem encL_len {l : List S79} (h : (rightE l).1 = 0) : (encL l).length ≤ 5450 := by
  obtain ⟨h1, h2⟩ := right_parts h
  have := encLabs_len h2
  have := uv_len l.length
  simp only [encL, List.length_append]
  omega
theorem encLabs_take {l : List S79} {i : Nat} (hi : i < l.length) : encLabs (l.take (i + 1)) = encLabs (l.take i) ++ encLab l[i] := by
  unfold encLabs
  rw [List.take_add_one, List.getElem?_eq_getElem hi]
  simp only [Option.toList_some, List.flatMap_append, List.flatMap_cons, List.flatMap_nil, List.append_nil]
theorem Put_eq {a : List Int} {l : List S79} (ha : a.length ≤ 2147470000) : labels_Put a l = some (if (rightE l).1 = 0 then a ++ encL l else [], (rightE l).1) := by
  unfold labels_Put labels_right
  rw [Right_eq]
  simp only [Option.bind_some]
  by_cases h : (rightE l).1 = 0
  · obtain ⟨h1, h2⟩ := right_parts h
    rw [if_pos h, show ((rightE l).1 != 0) = false by simp [h]]
    simp only [cond_false]
    rw [wrapU64 (by omega) (by omega), PutU_eq (by omega) (by omega)]
    simp only [Option.bind_some]
    have hl := uv_len l.length
    have hloop := up_inv (body := labels_Put_l40 l) (fun i => (a ++ uv l.length ++ encLabs (l.take i), (i : Int))) (n := l.length) (r := a ++ uv l.length ++ encLabs l) (fun i hi => by
      unfold labels_Put_l40
      have hx : ix l (i : Int) = some l[i] := by rw [ix_nat, List.getElem?_eq_getElem hi]
      have h3 := encLabs_len (l := l.take i) (fun x hx => h2 x (List.mem_of_mem_take hx))
      have h4 := h2 l[i] (List.getElem_mem hi)
      obtain ⟨k1, _, k2, _⟩ := one_parts h4
      have k3 := (named_valid k1).1
      have k4 := uv_len l[i].f0.size
      have hti : (l.take i).length ≤ 16 := by rw [List.length_take]; omega
      rw [show decide ((a ++ uv l.length ++ encLabs (l.take i), (i : Int)).2 < (l.length : Int)) = true from decide_eq_true (by show (i : Int) < _; omega)]
      simp only [cond_true, hx, Option.bind_some]
      rw [PutText_eq (by simp only [List.length_append]; omega)]
      simp only [Option.bind_some]
      rw [PutText_eq (by simp only [List.length_append, bytesOf_length]; omega)]
      simp only [Option.bind_some, wrap_up (show i < 4294967296 by omega)]
      rw [encLabs_take hi]
      simp [encLab]) (by
      unfold labels_Put_l40
      rw [show decide ((a ++ uv l.length ++ encLabs (l.take l.length), (l.length : Int)).2 < (l.length : Int)) = false from decide_eq_false (by show ¬ ((l.length : Int) < _); omega)]
      rw [List.take_length]; rfl) 0 (Nat.zero_le _)
    simp only [List.take_zero, encLabs, List.flatMap_nil, List.append_nil, Int.ofNat_zero, Int.natCast_zero] at hloop
    rw [hloop]
    simp [h, encL, encLabs]
  · rw [if_neg h, show ((rightE l).1 != 0) = true by simpa using h]
    rfl
theorem refPut_eq {a : List Int} {l : List S79} (ha : a.length ≤ 2147470000) : tocsinref04_Put a l = some (if (rightE l).1 = 0 then a ++ encL l else [], (rightE l).1) := by
  unfold tocsinref04_Put
  rw [refRight_eq]
  simp only [Option.bind_some]
  by_cases h : (rightE l).1 = 0
  · obtain ⟨h1, h2⟩ := right_parts h
    rw [if_pos h, show ((rightE l).1 != 0) = false by simp [h]]
    simp only [cond_false]
    rw [wrapU64 (by omega) (by omega), refPutU_eq (by omega) (by omega)]
    simp only [Option.bind_some]
    have hl := uv_len l.length
    have hloop := up_inv (body := tocsinref04_Put_l40 l) (fun i => (a ++ uv l.length ++ encLabs (l.take i), (i : Int))) (n := l.length) (r := a ++ uv l.length ++ encLabs l) (fun i hi => by
      unfold tocsinref04_Put_l40
      have hx : ix l (i : Int) = some l[i] := by rw [ix_nat, List.getElem?_eq_getElem hi]
      have h3 := encLabs_len (l := l.take i) (fun x hx => h2 x (List.mem_of_mem_take hx))
      have h4 := h2 l[i] (List.getElem_mem hi)
      obtain ⟨k1, _, k2, _⟩ := one_parts h4
      have k3 := (named_valid k1).1
      have k4 := uv_len l[i].f0.size
      have hti : (l.take i).length ≤ 16 := by rw [List.length_take]; omega
      rw [show decide ((a ++ uv l.length ++ encLabs (l.take i), (i : Int)).2 < (l.length : Int)) = true from decide_eq_true (by show (i : Int) < _; omega)]
      simp only [cond_true, hx, Option.bind_some]
      rw [refPutText_eq (by simp only [List.length_append]; omega)]
      simp only [Option.bind_some]
      rw [refPutText_eq (by simp only [List.length_append, bytesOf_length]; omega)]
      simp only [Option.bind_some, wrap_up (show i < 4294967296 by omega)]
      rw [encLabs_take hi]
      simp [encLab]) (by
      unfold tocsinref04_Put_l40
      rw [show decide ((a ++ uv l.length ++ encLabs (l.take l.length), (l.length : Int)).2 < (l.length : Int)) = false from decide_eq_false (by show ¬ ((l.length : Int) < _); omega)]
      rw [List.take_length]; rfl) 0 (Nat.zero_le _)
    simp only [List.take_zero, encLabs, List.flatMap_nil, List.append_nil, Int.ofNat_zero, Int.natCast_zero] at hloop
    rw [hloop]
    simp [h, encL, encLabs]
  · rw [if_neg h, show ((rightE l).1 != 0) = true by simpa using h]
    rfl
/-! ### Reading -/
def ROk (len at_ : Nat) (v : List S79 × Int × Int) : Prop := (v.2.2 = 0 ∧ (at_ : Int) < v.2.1 ∧ v.2.1 ≤ (len : Int) ∧ v.1.length ≤ 16 ∧ (rightE v.1).1 = 0) ∨ (v.2.2 ≠ 0 ∧ v.1 = [] ∧ v.2.1 = 0)
theorem Read_both {b : List Int} (hb : Bytes b) (hl : b.length ≤ 2147483648) (at_ : Int) : ∃ v, labels_Read b at_ = some v ∧ tocsinref04_Read b at_ = some v ∧ ROk b.length at_.toNat v := by
  unfold labels_Read tocsinref04_Read
  obtain ⟨⟨n, e, er⟩, h1, h2, h3⟩ := U_both hb hl at_
  rw [h1, h2]
  simp only [Option.bind_some]
  rcases h3 with ⟨h4, h5, h6, h7, h8⟩ | ⟨h4, h5, h6⟩
  · simp only at h4 h5 h6 h7 h8
    subst h4
    simp only [show ((0 : Int) != 0) = false from rfl, cond_false]
    by_cases hn : n > 16
    · rw [decide_eq_true hn]; exact ⟨_, rfl, rfl, .inr ⟨by decide, rfl, rfl⟩⟩
    · rw [decide_eq_false hn]
      simp only [cond_false]
      have hsame : loopO (labels_Read_l33 b (n, e, 0)) (e, [], 0) = loopO (tocsinref04_Read_l33 b (n, e, 0)) (e, [], 0) := by
        refine loopO_same (fun s => ?_) _
        unfold labels_Read_l33 tocsinref04_Read_l33
        obtain ⟨v1, t1, t2, _⟩ := Text_both hb hl s.1 64 (by omega)
        rw [t1, t2]
        simp only [Option.bind_some]
        obtain ⟨v2, t3, t4, _⟩ := Text_both hb hl v1.2.1 256 (by omega)
        rw [t3, t4]
      rw [← hsame]
      have hok : Ok (loopO (labels_Read_l33 b (n, e, 0)) (e, [], 0)) (fun r => match r with
          | .inl q => (at_.toNat : Int) < q.1 ∧ q.1 ≤ (b.length : Int) ∧ q.2.length ≤ 16
          | .inr v => v.2.2 ≠ 0 ∧ v.1 = [] ∧ v.2.1 = 0) := by
        refine ok_loop (fun s => ∃ i : Nat, s.2.2 = (i : Int) ∧ (i : Int) ≤ n ∧ s.2.1.length = i ∧ (at_.toNat : Int) < s.1 ∧ s.1 ≤ (b.length : Int)) (fun s => (n - s.2.2).toNat) (fun s hs => ?_) (e, [], 0) ⟨0, rfl, h7, rfl, h5, h6⟩
        obtain ⟨i, hi, hin, hli, ha1, ha2⟩ := hs
        unfold labels_Read_l33
        refine ok_cond (fun hc => ?_) (fun hc => ok_some ⟨ha1, ha2, by show s.2.1.length ≤ 16; omega⟩)
        have hc' := of_decide_eq_true hc
        simp only at hc'
        obtain ⟨v1, t1, _, k1⟩ := Text_both hb hl s.1 64 (by omega)
        rw [t1]
        simp only [Option.bind_some]
        rcases k1 with ⟨k1, k2, k3, _⟩ | ⟨k1, k2, k3⟩
        · rw [k1]
          simp only [show ((0 : Int) != 0) = false from rfl, cond_false]
          obtain ⟨v2, t3, _, k4⟩ := Text_both hb hl v1.2.1 256 (by omega)
          rw [t3]
          simp only [Option.bind_some]
          rcases k4 with ⟨k4, k5, k6, _⟩ | ⟨k4, k5, k6⟩
          · rw [k4]
            simp only [show ((0 : Int) != 0) = false from rfl, cond_false]
            refine ok_bind (ok_app (by simp; omega)) fun z hz => ok_some ⟨⟨i + 1, ?_, by omega, by rw [hz]; simp [hli], by show _ < v2.2.1; omega, k6⟩, ?_⟩
            · show IntKind.wrap .u64 (s.2.2 + 1) = _
              rw [hi, wrapU64 (by omega) (by omega)]; omega
            · show (n - IntKind.wrap .u64 (s.2.2 + 1)).toNat < (n - s.2.2).toNat
              rw [hi, wrapU64 (by omega) (by omega)]; omega
          · rw [show (v2.2.2 != 0) = true by simpa using k4]
            exact ok_some ⟨k4, rfl, rfl⟩
        · rw [show (v1.2.2 != 0) = true by simpa using k1]
          exact ok_some ⟨k1, rfl, rfl⟩
      obtain ⟨r, hr, hq⟩ := hok
      rw [hr]
      cases r with
      | inl q =>
        simp only [Option.bind_some, labels_right, Right_eq, refRight_eq]
        by_cases hz : (rightE q.2).1 = 0
        · rw [show ((rightE q.2).1 != 0) = false by simp [hz]]
          exact ⟨_, rfl, rfl, .inl ⟨rfl, hq.1, hq.2.1, hq.2.2, hz⟩⟩
        · rw [show ((rightE q.2).1 != 0) = true by simpa using hz]
          exact ⟨_, rfl, rfl, .inr ⟨hz, rfl, rfl⟩⟩
      | inr v => exact ⟨v, rfl, rfl, .inr hq⟩
  · simp only at h4 h5 h6
    rw [show (er != 0) = true by simpa using h4]
    exact ⟨_, rfl, rfl, .inr ⟨h4, rfl, rfl⟩⟩
theorem Read_back {pre post : List Int} {l : List S79} (h : (rightE l).1 = 0) (hl : (pre ++ encL l ++ post).length ≤ 2147483648) :
    labels_Read (pre ++ encL l ++ post) (pre.length : Int) = some (l, ((pre.length + (encL l).length : Nat) : Int), 0) := by
  obtain ⟨h1, h2⟩ := right_parts h
  unfold labels_Read
  have eb : pre ++ encL l ++ post = pre ++ uv l.length ++ (encLabs l ++ post) := by simp [encL]
  have hU := U_back (pre := pre) (n := l.length) (post := encLabs l ++ post) (by omega) (by rw [← eb]; exact hl)
  rw [← eb] at hU
  rw [hU]
  simp only [Option.bind_some, show ((0 : Int) != 0) = false from rfl, cond_false, show decide ((l.length : Int) > 16) = false from decide_eq_false (by omega)]
  have hloop := up_inv (body := labels_Read_l33 (pre ++ encL l ++ post) ((l.length : Int), ((pre.length + (uv l.length).length : Nat) : Int), 0)) (fun i => (((pre.length + (uv l.length).length + (encLabs (l.take i)).length : Nat) : Int), l.take i, (i : Int))) (n := l.length) (r := .inl (((pre.length + (uv l.length).length + (encLabs l).length : Nat) : Int), l)) (fun i hi => by
    unfold labels_Read_l33
    have h4 := h2 l[i] (List.getElem_mem hi)
    obtain ⟨k1, _, k2, k3⟩ := one_parts h4
    obtain ⟨k4, _, k5⟩ := named_valid k1
    obtain ⟨rest, hrest⟩ : ∃ rest, encLabs l = encLabs (l.take i) ++ encLab l[i] ++ rest := by
      refine ⟨encLabs (l.drop (i + 1)), ?_⟩
      rw [← encLabs_take hi]
      unfold encLabs
      rw [← List.flatMap_append, List.take_append_drop]
    have e1 : pre ++ encL l ++ post = (pre ++ uv l.length ++ encLabs (l.take i)) ++ (uv l[i].f0.size ++ bytesOf l[i].f0) ++ ((uv l[i].f1.size ++ bytesOf l[i].f1) ++ rest ++ post) := by
      rw [eb, hrest]; simp [encLab]
    have e2 : pre ++ encL l ++ post = (pre ++ uv l.length ++ encLabs (l.take i) ++ (uv l[i].f0.size ++ bytesOf l[i].f0)) ++ (uv l[i].f1.size ++ bytesOf l[i].f1) ++ (rest ++ post) := by
      rw [eb, hrest]; simp [encLab]
    have t1 := Text_back (pre := pre ++ uv l.length ++ encLabs (l.take i)) (post := (uv l[i].f1.size ++ bytesOf l[i].f1) ++ rest ++ post) (s := l[i].f0) (most := 64) k4 (by omega) k5 (by rw [← e1]; exact hl)
    have t2 := Text_back (pre := pre ++ uv l.length ++ encLabs (l.take i) ++ (uv l[i].f0.size ++ bytesOf l[i].f0)) (post := rest ++ post) (s := l[i].f1) (most := 256) k2 (by omega) k3 (by rw [← e2]; exact hl)
    rw [← e1] at t1
    rw [← e2] at t2
    rw [show ((pre ++ uv l.length ++ encLabs (l.take i)).length : Nat) = pre.length + (uv l.length).length + (encLabs (l.take i)).length by simp; omega] at t1
    rw [show ((pre ++ uv l.length ++ encLabs (l.take i) ++ (uv l[i].f0.size ++ bytesOf l[i].f0)).length : Nat) = pre.length + (uv l.length).length + (encLabs (l.take i)).length + (uv l[i].f0.size ++ bytesOf l[i].f0).length by simp; omega] at t2
    simp only [show decide ((i : Int) < (l.length : Int)) = true from decide_eq_true (by omega), cond_true]
    rw [show (64 : Int) = ((64 : Nat) : Int) from rfl, t1]
    simp only [Option.bind_some, show ((0 : Int) != 0) = false from rfl, cond_false]
    rw [show (256 : Int) = ((256 : Nat) : Int) from rfl, t2]
    simp only [Option.bind_some, show ((0 : Int) != 0) = false from rfl, cond_false]
    rw [app_eq (by simp; omega)]
    simp only [Option.bind_some]
    rw [wrapU64 (by omega) (by omega), encLabs_take hi, List.take_add_one, List.getElem?_eq_getElem hi]
    simp only [List.length_append, encLab, Option.toList_some]
    congr 4
    omega) (by
    unfold labels_Read_l33
    simp only [show decide ((l.length : Int) < (l.length : Int)) = false from decide_eq_false (by omega), cond_false, List.take_length]) 0 (Nat.zero_le _)
  simp only [List.take_zero, encLabs, List.flatMap_nil, List.length_nil, Nat.add_zero, Int.natCast_zero] at hloop
  rw [hloop]
  simp only [Option.bind_some, labels_right, Right_eq, h, show ((0 : Int) != 0) = false from rfl, cond_false]
  congr 3
  simp [encL, encLabs]
  omega
end Go.Proofs.YtlkmfhccpcncnaaDoor
