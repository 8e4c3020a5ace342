/- Plain laws: marks in bytes, there and back. -/
import Derived.Test.YtlkmfhccpcncnaaDoorPD1
set_option linter.unusedVariables false
set_option maxRecDepth 100000
namespace Go.Proofs.YtlkmfhccpcncnaaDoor
open Go.GB Go.Lib
def encSs (l : Sets) : List Int := l.flatMap encL
def encSets (l : Sets) : List Int := uv l.length ++ encSs l
def encText (s : ByteArray) : List Int := uv s.size ++ bytesOf s
def encMark (m : S23) : List Int := encText m.f0 ++ encText m.f1 ++ uv (2 * m.f2.toNat) ++ encSets m.f3 ++ encSets m.f4
theorem encSs_len : ∀ {l : Sets}, (∀ x ∈ l, (rightE x).1 = 0) → (encSs l).length ≤ 5450 * l.length
  | [], _ => by simp [encSs]
  | x :: r, h => by
    have h1 := encL_len (h x (by simp))
    have h2 := encSs_len (l := r) (fun y hy => h y (by simp [hy]))
    unfold encSs at h2 ⊢
    simp only [List.flatMap_cons, List.length_append, List.length_cons]
    omega
theorem encSets_len {l : Sets} (h : ∀ x ∈ l, (rightE x).1 = 0) (hl : l.length ≤ 500) : (encSets l).length ≤ 2725010 := by
  have := encSs_len h
  have := uv_len l.length
  simp only [encSets, List.length_append]
  omega
theorem encSs_take {l : Sets} {i : Nat} (hi : i < l.length) : encSs (l.take (i + 1)) = encSs (l.take i) ++ encL l[i] := by
  unfold encSs
  rw [List.take_add_one, List.getElem?_eq_getElem hi]
  simp only [Option.toList_some, List.flatMap_append, List.flatMap_cons, List.flatMap_nil, List.append_nil]
theorem rec_in {a : List Int} {l : Sets} (h : ∀ x ∈ l, (rightE x).1 = 0) (hl : l.length ≤ 500) (ha : a.length ≤ 2140000000) : loopO (nflog_record_l123 l) (a, 0) = some (a ++ encSs l) := by
  have hloop := up_inv (body := nflog_record_l123 l) (fun i => (a ++ encSs (l.take i), (i : Int))) (n := l.length) (r := a ++ encSs l) (fun i hi => by
    unfold nflog_record_l123
    have h3 := encSs_len (l := l.take i) (fun x hx => h x (List.mem_of_mem_take hx))
    have hti : (l.take i).length ≤ 500 := by rw [List.length_take]; omega
    have h4 := h l[i] (List.getElem_mem hi)
    simp only [show decide ((i : Int) < (l.length : Int)) = true from decide_eq_true (by omega), cond_true, ix_nat, List.getElem?_eq_getElem hi, Option.bind_some]
    rw [Put_eq (by simp only [List.length_append]; omega)]
    simp only [Option.bind_some, if_pos h4, wrap_up (show i < 4294967296 by omega)]
    rw [encSs_take hi, List.append_assoc]) (by
    unfold nflog_record_l123
    simp only [show decide ((l.length : Int) < (l.length : Int)) = false from decide_eq_false (by omega), cond_false, List.take_length]) 0 (Nat.zero_le _)
  simpa [encSs] using hloop
theorem refRec_in {a : List Int} {l : Sets} (h : ∀ x ∈ l, (rightE x).1 = 0) (hl : l.length ≤ 500) (ha : a.length ≤ 2140000000) : loopO (tocsinref26_Record_l126 l) (a, 0) = some (a ++ encSs l) := by
  have hloop := up_inv (body := tocsinref26_Record_l126 l) (fun i => (a ++ encSs (l.take i), (i : Int))) (n := l.length) (r := a ++ encSs l) (fun i hi => by
    unfold tocsinref26_Record_l126
    have h3 := encSs_len (l := l.take i) (fun x hx => h x (List.mem_of_mem_take hx))
    have hti : (l.take i).length ≤ 500 := by rw [List.length_take]; omega
    have h4 := h l[i] (List.getElem_mem hi)
    simp only [show decide ((i : Int) < (l.length : Int)) = true from decide_eq_true (by omega), cond_true, ix_nat, List.getElem?_eq_getElem hi, Option.bind_some]
    rw [refPut_eq (by simp only [List.length_append]; omega)]
    simp only [Option.bind_some, if_pos h4, wrap_up (show i < 4294967296 by omega)]
    rw [encSs_take hi, List.append_assoc]) (by
    unfold tocsinref26_Record_l126
    simp only [show decide ((l.length : Int) < (l.length : Int)) = false from decide_eq_false (by omega), cond_false, List.take_length]) 0 (Nat.zero_le _)
  simpa [encSs] using hloop
theorem rec_out {a : List Int} {m : S23} (h : markE m = 0) (ha : a.length ≤ 1000000) : loopO (nflog_record_l68 m) (a, 0) = some (a ++ encSets m.f3 ++ encSets m.f4) := by
  obtain ⟨_, _, _, l3, l4, r3, r4⟩ := mark_parts h
  have h3 := rising_all r3
  have h4 := rising_all r4
  have n3 := encSets_len h3 l3
  have u3 := uv_len m.f3.length
  have u4 := uv_len m.f4.length
  have s0 : nflog_record_l68 m (a, 0) = some (.inl (a ++ encSets m.f3, 1)) := by
    unfold nflog_record_l68
    have e : ix [m.f3, m.f4] (0 : Int) = some m.f3 := rfl
    simp only [show decide ((0 : Int) < (([m.f3, m.f4] : List Sets).length : Int)) = true from rfl, cond_true, e, Option.bind_some]
    rw [wrapU64 (by omega) (by omega), PutU_eq (by omega) (by omega)]
    simp only [Option.bind_some]
    rw [rec_in h3 l3 (by simp only [List.length_append]; omega)]
    simp [encSets]
    rfl
  have s1 : nflog_record_l68 m (a ++ encSets m.f3, 1) = some (.inl (a ++ encSets m.f3 ++ encSets m.f4, 2)) := by
    unfold nflog_record_l68
    have e : ix [m.f3, m.f4] (1 : Int) = some m.f4 := rfl
    simp only [show decide ((1 : Int) < (([m.f3, m.f4] : List Sets).length : Int)) = true from rfl, cond_true, e, Option.bind_some]
    rw [wrapU64 (by omega) (by omega), PutU_eq (by omega) (by simp only [List.length_append]; omega)]
    simp only [Option.bind_some]
    rw [rec_in h4 l4 (by simp only [List.length_append]; omega)]
    simp [encSets]
    rfl
  have s2 : nflog_record_l68 m (a ++ encSets m.f3 ++ encSets m.f4, 2) = some (.inr (a ++ encSets m.f3 ++ encSets m.f4)) := by
    unfold nflog_record_l68
    rfl
  rw [loopO_step s0, loopO_step s1, loopO_done s2]
theorem refRec_out {a : List Int} {m : S23} (h : markE m = 0) (ha : a.length ≤ 1000000) : loopO (tocsinref26_Record_l71 m) (a, 0) = some (a ++ encSets m.f3 ++ encSets m.f4) := by
  obtain ⟨_, _, _, l3, l4, r3, r4⟩ := mark_parts h
  have h3 := rising_all r3
  have h4 := rising_all r4
  have n3 := encSets_len h3 l3
  have u3 := uv_len m.f3.length
  have u4 := uv_len m.f4.length
  have s0 : tocsinref26_Record_l71 m (a, 0) = some (.inl (a ++ encSets m.f3, 1)) := by
    unfold tocsinref26_Record_l71
    have e : ix [m.f3, m.f4] (0 : Int) = some m.f3 := rfl
    simp only [show decide ((0 : Int) < (([m.f3, m.f4] : List Sets).length : Int)) = true from rfl, cond_true, e, Option.bind_some]
    rw [wrapU64 (by omega) (by omega), refPutU_eq (by omega) (by omega)]
    simp only [Option.bind_some]
    rw [refRec_in h3 l3 (by simp only [List.length_append]; omega)]
    simp [encSets]
    rfl
  have s1 : tocsinref26_Record_l71 m (a ++ encSets m.f3, 1) = some (.inl (a ++ encSets m.f3 ++ encSets m.f4, 2)) := by
    unfold tocsinref26_Record_l71
    have e : ix [m.f3, m.f4] (1 : Int) = some m.f4 := rfl
    simp only [show decide ((1 : Int) < (([m.f3, m.f4] : List Sets).length : Int)) = true from rfl, cond_true, e, Option.bind_some]
    rw [wrapU64 (by omega) (by omega), refPutU_eq (by omega) (by simp only [List.length_append]; omega)]
    simp only [Option.bind_some]
    rw [refRec_in h4 l4 (by simp only [List.length_append]; omega)]
    simp [encSets]
    rfl
  have s2 : tocsinref26_Record_l71 m (a ++ encSets m.f3 ++ encSets m.f4, 2) = some (.inr (a ++ encSets m.f3 ++ encSets m.f4)) := by
    unfold tocsinref26_Record_l71
    rfl
  rw [loopO_step s0, loopO_step s1, loopO_done s2]
theorem record_eq {m : S23} (h : markE m = 0) : nflog_record m = some (encMark m) := by
  obtain ⟨t0, t1, t2, l3, l4, r3, r4⟩ := mark_parts h
  have k0 := (textB_parts t0).1
  have k1 := (textB_parts t1).1
  have u0 := uv_len m.f0.size
  have u1 := uv_len m.f1.size
  have u2 := uv_len (2 * m.f2.toNat)
  unfold nflog_record
  rw [PutText_eq (by simp; omega)]
  simp only [Option.bind_some]
  rw [PutText_eq (by simp [bytesOf_length]; omega)]
  simp only [Option.bind_some]
  rw [show m.f2 = ((m.f2.toNat : Nat) : Int) by omega, PutI_eq (by omega) (by simp [bytesOf_length]; omega)]
  simp only [Option.bind_some]
  rw [rec_out h (by simp [bytesOf_length]; omega)]
  simp [encMark, encText]
theorem refRecord_eq {m : S23} (hm : Wm m) : tocsinref26_Record m = some (if markE m = 0 then encMark m else [], markE m) := by
  unfold tocsinref26_Record
  rw [refMRight_eq hm]
  simp only [Option.bind_some]
  by_cases h : markE m = 0
  · obtain ⟨t0, t1, t2, l3, l4, r3, r4⟩ := mark_parts h
    have k0 := (textB_parts t0).1
    have k1 := (textB_parts t1).1
    have u0 := uv_len m.f0.size
    have u1 := uv_len m.f1.size
    have u2 := uv_len (2 * m.f2.toNat)
    rw [if_pos h, show (markE m != 0) = false by simp [h]]
    simp only [cond_false]
    rw [refPutText_eq (by simp; omega)]
    simp only [Option.bind_some]
    rw [refPutText_eq (by simp [bytesOf_length]; omega)]
    simp only [Option.bind_some]
    have e2 : m.f2 = ((m.f2.toNat : Nat) : Int) := by omega
    have hp := refPutI_eq (a := [] ++ uv m.f0.size ++ bytesOf m.f0 ++ uv m.f1.size ++ bytesOf m.f1) (n := m.f2.toNat) (by omega) (by simp [bytesOf_length]; omega)
    rw [← e2] at hp
    rw [hp]
    simp only [Option.bind_some]
    rw [refRec_out h (by simp [bytesOf_length]; omega)]
    simp [encMark, encText, h]
  · rw [if_neg h, show (markE m != 0) = true by simpa using h]
    rfl
theorem Record_eq {m : S23} (hm : Wm m) : nflog_Record m = some (if markE m = 0 then encMark m else [], markE m) := by
  unfold nflog_Record
  rw [MRight_eq hm]
  simp only [Option.bind_some]
  by_cases h : markE m = 0
  · rw [if_pos h, show (markE m != 0) = false by simp [h], record_eq h, h]
    rfl
  · rw [if_neg h, show (markE m != 0) = true by simpa using h]
    rfl
/-! ### Reading -/
def LOk (len at_ : Nat) (v : Sets × Int × Bool) : Prop := (v.2.2 = true ∧ (at_ : Int) < v.2.1 ∧ v.2.1 ≤ (len : Int) ∧ v.1.length ≤ 500 ∧ ∀ x ∈ v.1, x.length ≤ 16) ∨ v = ([], 0, false)
theorem lists_ok {b : List Int} (hb : Bytes b) (hl : b.length ≤ 2147483648) (at_ : Int) : ∃ v, nflog_lists b at_ = some v ∧ LOk b.length at_.toNat v := by
  unfold nflog_lists
  obtain ⟨⟨n, e, er⟩, h1, _, h3⟩ := U_both hb hl at_
  rw [h1]
  simp only [Option.bind_some]
  rcases h3 with ⟨h4, h5, h6, h7, h8⟩ | ⟨h4, h5, h6⟩
  · simp only at h4 h5 h6 h7 h8
    subst h4
    simp only [show ((0 : Int) != 0) = false from rfl, Bool.false_or]
    by_cases hn : n > 500
    · rw [decide_eq_true hn]; exact ⟨_, rfl, .inr rfl⟩
    · rw [decide_eq_false hn]
      simp only [cond_false]
      have hok : Ok (loopO (nflog_lists_l38 b (n, e, 0)) (e, [], 0)) (fun r => match r with
          | .inl q => (at_.toNat : Int) < q.1 ∧ q.1 ≤ (b.length : Int) ∧ q.2.length ≤ 500 ∧ ∀ x ∈ q.2, x.length ≤ 16
          | .inr v => v = ([], 0, false)) := by
        refine ok_loop (fun s => ∃ i : Nat, s.2.2 = (i : Int) ∧ (i : Int) ≤ n ∧ s.2.1.length = i ∧ (at_.toNat : Int) < s.1 ∧ s.1 ≤ (b.length : Int) ∧ ∀ x ∈ s.2.1, x.length ≤ 16) (fun s => (n - s.2.2).toNat) (fun s hs => ?_) (e, [], 0) ⟨0, rfl, h7, rfl, h5, h6, by simp⟩
        obtain ⟨i, hi, hin, hli, ha1, ha2, ha3⟩ := hs
        unfold nflog_lists_l38
        refine ok_cond (fun hc => ?_) (fun hc => ok_some ⟨ha1, ha2, by show s.2.1.length ≤ 500; omega, ha3⟩)
        have hc' := of_decide_eq_true hc
        simp only at hc'
        obtain ⟨v1, t1, _, k1⟩ := Read_both hb hl s.1
        rw [t1]
        simp only [Option.bind_some]
        rcases k1 with ⟨k1, k2, k3, k4, _⟩ | ⟨k1, k2, k3⟩
        · rw [k1]
          simp only [show ((0 : Int) != 0) = false from rfl, cond_false]
          refine ok_bind (ok_app (by simp; omega)) fun z hz => ok_some ⟨⟨i + 1, ?_, by omega, by rw [hz]; simp [hli], by show _ < v1.2.1; omega, k3, fun x hx => ?_⟩, ?_⟩
          · show IntKind.wrap .u64 (s.2.2 + 1) = _
            rw [hi, wrapU64 (by omega) (by omega)]; omega
          · rw [hz] at hx
            rcases List.mem_append.1 hx with hx | hx
            · exact ha3 x hx
            · rw [List.mem_singleton.1 hx]; exact k4
          · show (n - IntKind.wrap .u64 (s.2.2 + 1)).toNat < (n - s.2.2).toNat
            rw [hi, wrapU64 (by omega) (by omega)]; omega
        · rw [show (v1.2.2 != 0) = true by simpa using k1]
          exact ok_some rfl
      obtain ⟨r, hr, hq⟩ := hok
      rw [hr]
      cases r with
      | inl q => exact ⟨_, rfl, .inl ⟨rfl, hq⟩⟩
      | inr v => exact ⟨v, rfl, .inr hq⟩
  · simp only at h4 h5 h6
    rw [show (er != 0) = true by simpa using h4]
    exact ⟨_, rfl, .inr rfl⟩
abbrev RInner := (Int × Sets) ⊕ ((Sets × Sets × Int × Int) ⊕ ((Int × Sets × Sets) ⊕ (S23 × Int)))
def refEnd : (Int × Sets) ⊕ (Sets × Int × Bool) → RInner
  | .inl q => .inl q
  | .inr _ => .inr (.inr (.inr (zm, 3)))
theorem refInner {b : List Int} (hb : Bytes b) (hl : b.length ≤ 2147483648) (y : Int × Int × Int) (s : Int × Sets × Int) : loopO (tocsinref26_Read_l108 b y) s = (loopO (nflog_lists_l38 b y) s).map refEnd := by
  refine loopO_map refEnd (fun s => ?_) s
  unfold tocsinref26_Read_l108 nflog_lists_l38
  cases decide (s.2.2 < y.1) with
  | false => rfl
  | true =>
    simp only [cond_true]
    obtain ⟨v1, t1, t2, _⟩ := Read_both hb hl s.1
    rw [t1, t2]
    simp only [Option.bind_some]
    cases (v1.2.2 != 0) with
    | true => rfl
    | false =>
      simp only [cond_false]
      cases app s.2.1 [v1.1] <;> rfl
theorem refOuter {b : List Int} (hb : Bytes b) (hl : b.length ≤ 2147483648) (F R : Sets) (at_ : Int) (i : Nat) (hi : i < 2) {v : Sets × Int × Bool} (hv : nflog_lists b at_ = some v) (hok : LOk b.length at_.toNat v) :
    tocsinref26_Read_l64 b (F, R, at_, (i : Int)) = if v.2.2 = true then some (.inl (if i = 0 then v.1 else F, if i = 0 then R else v.1, v.2.1, ((i + 1 : Nat) : Int))) else some (.inr (.inr (zm, 3))) := by
  unfold tocsinref26_Read_l64
  simp only [show decide ((i : Int) < 2) = true from decide_eq_true (by omega), cond_true]
  unfold nflog_lists at hv
  obtain ⟨y, h1, h2, _⟩ := U_both hb hl at_
  rw [h1] at hv
  rw [h2]
  simp only [Option.bind_some] at hv ⊢
  cases hc : ((y.2.2 != 0) || (decide (y.1 > 500))) with
  | true =>
    rw [hc] at hv
    simp only [cond_true, Option.some.injEq] at hv ⊢
    subst hv
    rfl
  | false =>
    rw [hc] at hv
    simp only [cond_false] at hv ⊢
    rw [refInner hb hl]
    cases hlp : loopO (nflog_lists_l38 b y) (y.2.1, [], 0) with
    | none => rw [hlp] at hv; cases hv
    | some r =>
      rw [hlp] at hv
      simp only [Option.bind_some, Option.map_some] at hv ⊢
      cases r with
      | inl q =>
        simp only [Option.some.injEq] at hv
        subst hv
        simp only [refEnd, if_true, wrap_up (show i < 4294967296 by omega)]
        by_cases hi0 : i = 0
        · subst hi0; rfl
        · rw [show ((i : Int) == 0) = false by rw [beq_eq_false_iff_ne]; omega, if_neg hi0, if_neg hi0]; rfl
      | inr w =>
        simp only [Option.some.injEq] at hv
        subst hv
        rcases hok with ⟨h, _⟩ | h
        · -- an end of this kind is none
          have : LOk b.length at_.toNat w := .inl ⟨h, by assumption⟩
          have hfalse : w.2.2 = false := by
            have : ∀ s r, LoopR (nflog_lists_l38 b y) s r → ∀ w, r = .inr w → w.2.2 = false := by
              intro s r hr
              induction hr with
              | @done s r h1 =>
                rintro w rfl
                unfold nflog_lists_l38 at h1
                cases hd : decide (s.2.2 < y.1) with
                | false => rw [hd] at h1; cases h1
                | true =>
                  rw [hd] at h1
                  simp only [cond_true] at h1
                  obtain ⟨v1, t1, _, _⟩ := Read_both hb hl s.1
                  rw [t1] at h1
                  simp only [Option.bind_some] at h1
                  cases he : (v1.2.2 != 0) with
                  | true => rw [he] at h1; cases h1; rfl
                  | false =>
                    rw [he] at h1
                    simp only [cond_false] at h1
                    cases ha : app s.2.1 [v1.1] with
                    | none => rw [ha] at h1; cases h1
                    | some z => rw [ha] at h1; cases h1
              | step _ _ ih => exact ih
            exact this _ _ (loopR_of hlp) w rfl
          rw [h] at hfalse; cases hfalse
        · rw [h]; rfl
theorem Wm_of {m : S23} (h3 : m.f3.length ≤ 500) (h4 : m.f4.length ≤ 500) (k3 : ∀ x ∈ m.f3, x.length ≤ 16) (k4 : ∀ x ∈ m.f4, x.length ≤ 16) : Wm m :=
  ⟨⟨by omega, fun x hx => by have := k3 x hx; unfold Wl; omega⟩, ⟨by omega, fun x hx => by have := k4 x hx; unfold Wl; omega⟩⟩
theorem zm_wm : Wm zm := ⟨⟨by decide, fun x h => by cases h⟩, ⟨by decide, fun x h => by cases h⟩⟩
theorem MRead_both {b : List Int} (hb : Bytes b) (hl : b.length ≤ 2147483648) : ∃ v, nflog_Read b = some v ∧ tocsinref26_Read b = some v ∧ Wm v.1 := by
  unfold nflog_Read nflog_read tocsinref26_Read
  obtain ⟨t1, h1, h1', _⟩ := Text_both hb hl 0 64 (by omega)
  obtain ⟨t2, h2, h2', _⟩ := Text_both hb hl t1.2.1 65536 (by omega)
  obtain ⟨t3, h3, h3', _⟩ := I_both hb hl t2.2.1
  rw [h1, h1']
  simp only [Option.bind_some]
  rw [h2, h2']
  simp only [Option.bind_some]
  rw [h3, h3']
  simp only [Option.bind_some]
  by_cases e1 : t1.2.2 = 0
  · by_cases e2 : t2.2.2 = 0
    · by_cases e3 : t3.2.2 = 0
      · rw [e1, e2, e3]
        simp only [show ((0 : Int) == 0) = true from rfl, show ((0 : Int) != 0) = false from rfl, Bool.and_self, Bool.not_true, cond_false]
        obtain ⟨v, hv, hvo⟩ := lists_ok hb hl t3.2.1
        have s0 := refOuter hb hl [] [] t3.2.1 0 (by omega) hv hvo
        rw [hv]
        simp only [Option.bind_some]
        rw [show ((0 : Nat) : Int) = 0 from rfl] at s0
        rcases hvo with ⟨hv1, hv2, hv3, hv4, hv5⟩ | hv0
        · rw [if_pos hv1, if_pos rfl, if_pos rfl] at s0
          rw [loopO_step s0, hv1]
          simp only [Bool.not_true, cond_false]
          obtain ⟨w, hw, hwo⟩ := lists_ok hb hl v.2.1
          have s1 := refOuter hb hl v.1 [] v.2.1 1 (by omega) hw hwo
          rw [hw]
          simp only [Option.bind_some]
          rcases hwo with ⟨hw1, hw2, hw3, hw4, hw5⟩ | hw0
          · rw [if_pos hw1, if_neg (by omega), if_neg (by omega)] at s1
            have s2 : tocsinref26_Read_l64 b (v.1, w.1, w.2.1, ((1 + 1 : Nat) : Int)) = some (.inr (.inl (w.2.1, v.1, w.1))) := by
              unfold tocsinref26_Read_l64; rfl
            rw [loopO_step s1, loopO_done s2, hw1]
            simp only [cond_true, Option.bind_some]
            have hM : Wm (⟨t1.1, t2.1, t3.1, v.1, w.1⟩ : S23) := Wm_of hv4 hw4 hv5 hw5
            by_cases he : w.2.1 = (b.length : Int)
            · rw [show (w.2.1 == (b.length : Int)) = true by simpa using he, show (w.2.1 != (b.length : Int)) = false by simp [he]]
              simp only [Bool.not_true, cond_false, MRight_eq hM, refMRight_eq hM, Option.bind_some]
              cases markE (⟨t1.1, t2.1, t3.1, v.1, w.1⟩ : S23) != 0 with
              | true => exact ⟨_, rfl, rfl, zm_wm⟩
              | false => exact ⟨_, rfl, rfl, hM⟩
            · rw [show (w.2.1 == (b.length : Int)) = false by simpa using he, show (w.2.1 != (b.length : Int)) = true by simp [he]]
              exact ⟨_, rfl, rfl, zm_wm⟩
          · rw [hw0] at s1 ⊢
            rw [if_neg (by simp)] at s1
            rw [show ((0 + 1 : Nat) : Int) = ((1 : Nat) : Int) from rfl, loopO_done s1]
            exact ⟨_, rfl, rfl, zm_wm⟩
        · rw [hv0] at s0 ⊢
          rw [if_neg (by simp)] at s0
          rw [loopO_done s0]
          exact ⟨_, rfl, rfl, zm_wm⟩
      · rw [e1, e2, show (t3.2.2 == 0) = false by simpa using e3, show (t3.2.2 != 0) = true by simpa using e3]
        exact ⟨_, rfl, rfl, zm_wm⟩
    · rw [e1, show (t2.2.2 == 0) = false by simpa using e2, show (t2.2.2 != 0) = true by simpa using e2]
      exact ⟨_, rfl, rfl, zm_wm⟩
  · rw [show (t1.2.2 == 0) = false by simpa using e1, show (t1.2.2 != 0) = true by simpa using e1]
    exact ⟨_, rfl, rfl, zm_wm⟩
end Go.Proofs.YtlkmfhccpcncnaaDoor
