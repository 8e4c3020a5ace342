/- Plain laws over the printed functions: label sets, marks. -/
import Derived.Test.YtlkmfhccpcncnaaDoorGP1
import Derived.Test.YtlkmfhccpcncnaaDoorG1C
import Derived.KernelRfl
set_option linter.unusedVariables false
set_option maxRecDepth 100000
namespace Go.Proofs.YtlkmfhccpcncnaaDoor
open Go.GB
theorem awake_true : tocsinlaw26_awake = some true := tocsinlaw26_awake_ev _ (by kernel_rfl)
def Wl (x : List S79) : Prop := x.length ≤ 2147483648
def Ws (l : List (List S79)) : Prop := l.length ≤ 2147483648 ∧ ∀ x ∈ l, Wl x
theorem lt_of {i n : Nat} (h : decide ((i : Int) < (n : Int)) = true) : i < n := by have := of_decide_eq_true h; omega
theorem labels_Right_ok (x : List S79) : Ok (labels_Right x) (fun _ => True) := by
  unfold labels_Right
  refine ok_cond (fun _ => ok_some trivial) fun h => ?_
  have hl : x.length ≤ 16 := by have := of_decide_eq_false h; omega
  refine ok_bind (P := fun _ => True) (ok_up (n := x.length) (fun _ => True) (fun i hi _ => ?_) trivial) fun r _ => by cases r <;> exact ok_some trivial
  unfold labels_Right_l18
  refine ok_cond (fun h => ?_) (fun h => ok_some trivial)
  have hlt := lt_of h
  refine ok_bind (ok_ix hlt) fun y _ => ok_bind (Name_ok _) fun b _ => ok_cond (fun _ => ok_some trivial) fun _ => ok_bind (value_ok _) fun v _ => ok_cond (fun _ => ok_some trivial) fun _ => ?_
  refine ok_bind (P := fun _ => True) (ok_cond (fun h0 => ?_) fun _ => ok_some trivial) fun b _ => ok_cond (fun _ => ok_some trivial) fun _ => ok_some ⟨wrap_up (by omega), hlt, trivial⟩
  have hi0 : 0 < i := by have := of_decide_eq_true h0; omega
  have e : IntKind.wrap .i64 ((i : Int) - 1) = ((i - 1 : Nat) : Int) := by rw [wrap64 (by omega) (by omega)]; omega
  rw [e]
  exact ok_bind (ok_ix (by omega)) fun _ _ => ok_some trivial
theorem right1_ok (x : List S79) : Ok (nflog_right_1 x) (fun _ => True) := ok_bind (labels_Right_ok x) fun _ _ => ok_some trivial
theorem contains_ok {l : List (List S79)} (hl : l.length ≤ 2147483648) {f : List S79 → Option Bool} (hf : ∀ x ∈ l, Ok (f x) (fun _ => True)) : Ok (slices_ContainsFunc l f) (fun _ => True) := by
  unfold slices_ContainsFunc slices_IndexFunc_f108
  refine ok_bind (P := fun _ => True) (ok_bind (P := fun _ => True) (ok_up (n := l.length) (fun _ => True) (fun i hi _ => ?_) trivial) fun r _ => by cases r <;> exact ok_some trivial) fun _ _ => ok_some trivial
  unfold slices_IndexFunc_f108_l17
  refine ok_cond (fun h => ?_) (fun h => ok_some trivial)
  have hlt := lt_of h
  exact ok_bind (ok_ix hlt) fun x hx => ok_bind (hf x hx.2) fun b _ => ok_cond (fun _ => ok_some trivial) fun _ => ok_some ⟨wrap_up (by omega), hlt, trivial⟩
theorem right_ok {l : List (List S79)} (hl : l.length ≤ 2147483648) : Ok (nflog_right l) (fun _ => True) := ok_bind (contains_ok hl fun x _ => right1_ok x) fun _ _ => ok_some trivial
theorem compare_ok {x y : List S79} (hx : Wl x) (hy : Wl y) : Ok (labels_Compare x y) (fun _ => True) := by
  unfold labels_Compare slices_CompareFunc
  refine ok_bind (P := fun _ => True) (ok_bind (P := fun _ => True) (ok_up (n := x.length) (fun _ => True) (fun i hi _ => ?_) trivial) fun r _ => by cases r <;> first | exact ok_cond (fun _ => ok_some trivial) fun _ => ok_some trivial | exact ok_some trivial) fun _ _ => ok_some trivial
  unfold slices_CompareFunc_l17
  unfold Wl at hx hy
  refine ok_cond (fun h => ?_) (fun h => ok_some trivial)
  have hlt := lt_of h
  refine ok_bind (ok_ix hlt) fun u _ => ok_cond (fun _ => ok_some trivial) fun h2 => ?_
  have hlt2 : i < y.length := by have := of_decide_eq_false h2; omega
  exact ok_bind (ok_ix hlt2) fun v _ => ok_bind (ok_some trivial : Ok (some _) fun _ => True) fun _ _ => ok_cond (fun _ => ok_some trivial) fun _ => ok_some ⟨wrap_up (by omega), hlt, trivial⟩
theorem rising_ok {l : List (List S79)} (hl : Ws l) : Ok (nflog_rising l) (fun _ => True) := by
  obtain ⟨h1, h2⟩ := hl
  unfold nflog_rising
  refine ok_bind (P := fun _ => True) (ok_up (n := l.length) (fun _ => True) (fun i hi _ => ?_) trivial) fun r _ => by cases r <;> exact ok_some trivial
  unfold nflog_rising_l17
  refine ok_cond (fun h => ?_) (fun h => ok_some trivial)
  have hlt := lt_of h
  refine ok_bind (ok_ix hlt) fun x hx => ok_bind (labels_Right_ok x) fun y _ => ok_bind (P := fun _ => True) (ok_cond (fun _ => ok_some trivial) fun _ => ok_cond (fun h0 => ?_) fun _ => ok_some trivial) fun b _ => ok_cond (fun _ => ok_some trivial) fun _ => ok_some ⟨wrap_up (by omega), hlt, trivial⟩
  have hi0 : 0 < i := by have := of_decide_eq_true h0; omega
  have e : IntKind.wrap .i64 ((i : Int) - 1) = ((i - 1 : Nat) : Int) := by rw [wrap64 (by omega) (by omega)]; omega
  rw [e]
  exact ok_bind (ok_ix (by omega)) fun z hz => ok_bind (compare_ok (h2 _ hz.2) (h2 _ hx.2)) fun _ _ => ok_some trivial
def Wm (m : S23) : Prop := Ws m.f3 ∧ Ws m.f4
theorem Right_ok {m : S23} (hm : Wm m) : Ok (nflog_Right m) (fun _ => True) := by
  unfold nflog_Right
  exact ok_bind (text_ok _ _) fun _ _ => ok_cond (fun _ => ok_some trivial) fun _ => ok_bind (text_ok _ _) fun _ _ => ok_cond (fun _ => ok_some trivial) fun _ => ok_cond (fun _ => ok_some trivial) fun _ => ok_cond (fun _ => ok_some trivial) fun _ =>
    ok_bind (P := fun _ => True) (ok_bind (rising_ok hm.1) fun _ _ => ok_cond (fun _ => ok_some trivial) fun _ => ok_bind (rising_ok hm.2) fun _ _ => ok_some trivial) fun _ _ => ok_cond (fun _ => ok_some trivial) fun _ => ok_some trivial
theorem Within_ok {a b : List (List S79)} (ha : Ws a) (hb : Ws b) : Ok (nflog_Within a b) (fun _ => True) := by
  obtain ⟨h1, h2⟩ := ha
  unfold nflog_Within
  refine ok_bind (P := fun _ => True) (ok_up (n := a.length) (fun _ => True) (fun i hi _ => ?_) trivial) fun r _ => by cases r <;> exact ok_some trivial
  unfold nflog_Within_l17
  refine ok_cond (fun h => ?_) (fun h => ok_some trivial)
  have hlt := lt_of h
  exact ok_bind (ok_ix hlt) fun x hx => ok_bind (contains_ok hb.1 fun y hy => ok_bind (compare_ok (h2 _ hx.2) (hb.2 _ hy)) fun _ _ => ok_some trivial) fun _ _ => ok_cond (fun _ => ok_some trivial) fun _ => ok_some ⟨wrap_up (by omega), hlt, trivial⟩
theorem Needs_ok {m : S23} (hm : Wm m) (has : Bool) (now rep : Int) {f r : List (List S79)} (hf : Ws f) (hr : Ws r) : Ok (nflog_Needs m has now rep f r) (fun _ => True) := by
  unfold nflog_Needs
  exact ok_cond (fun _ => ok_some trivial) fun _ => ok_bind (P := fun _ => True) (ok_bind (right_ok hf.1) fun _ _ => ok_cond (fun _ => ok_some trivial) fun _ => ok_bind (right_ok hr.1) fun _ _ => ok_some trivial) fun _ _ => ok_cond (fun _ => ok_some trivial) fun _ =>
    ok_cond (fun _ => ok_some trivial) fun _ => ok_bind (Right_ok hm) fun _ _ => ok_cond (fun _ => ok_some trivial) fun _ => ok_bind (Within_ok hf hm.1) fun _ _ => ok_cond (fun _ => ok_some trivial) fun _ => ok_cond (fun _ => ok_some trivial) fun _ =>
    ok_bind (Within_ok hr hm.2) fun _ _ => ok_cond (fun _ => ok_some trivial) fun _ => ok_some trivial
theorem sets_eq {l : List (List S79)} (hl : Ws l) : nflog_sets l = some l := by
  obtain ⟨h1, h2⟩ := hl
  unfold nflog_sets
  have h : loopO (nflog_sets_l28 l) ([], 0) = some l := by
    have := up_inv (body := nflog_sets_l28 l) (fun i => (l.take i, (i : Int))) (n := l.length) (r := l) (fun i hi => ?_) ?_ 0 (Nat.zero_le _)
    · simpa using this
    · unfold nflog_sets_l28
      have e1 : ix l ((i : Nat) : Int) = some l[i] := by rw [ix_nat, List.getElem?_eq_getElem hi]
      have e2 : app ([] : List S79) l[i] = some l[i] := by unfold app maxLen'; rw [if_pos (by have := h2 _ (List.getElem_mem hi); unfold Wl at this; simpa using this)]; simp
      have e3 : app (l.take i) [l[i]] = some (l.take (i + 1)) := by
        unfold app maxLen'
        rw [if_pos (by simp; omega), List.take_append_getElem hi]
      have e4 : decide (((i : Nat) : Int) < (l.length : Int)) = true := decide_eq_true (by omega)
      simp only [e4, cond_true, e1, Option.bind_some, slices_Clone, e2, e3, wrap_up (show i < 4294967296 by omega)]
    · unfold nflog_sets_l28
      have e4 : decide ((l.length : Int) < (l.length : Int)) = false := decide_eq_false (by omega)
      simp only [e4, cond_false, List.take_length]
  rw [h]; rfl
theorem own_eq {m : S23} (hm : Wm m) : nflog_own m = some m := by
  unfold nflog_own
  rw [sets_eq hm.1, sets_eq hm.2]; rfl
end Go.Proofs.YtlkmfhccpcncnaaDoor
