/- Plain laws over the printed functions: they answer. -/
import Derived.Test.YtlkmfhccpcncnaaDoorG1
import Derived.Test.YtlkmfhccpcncnaaDoorGB14
set_option linter.unusedVariables false
namespace Go.Proofs.YtlkmfhccpcncnaaDoor
open Go.GB
theorem word_ok {s : ByteArray} (h : 8 ≤ s.size) : Ok (utf8_word s) (fun _ => True) := by
  unfold utf8_word
  refine ok_bind (ok_bx (by omega) (by omega)) fun _ _ => ?_
  refine ok_bind (ok_bx (by omega) (by omega)) fun _ _ => ?_
  refine ok_bind (ok_bx (by omega) (by omega)) fun _ _ => ?_
  refine ok_bind (ok_bx (by omega) (by omega)) fun _ _ => ?_
  refine ok_bind (ok_bx (by omega) (by omega)) fun _ _ => ?_
  refine ok_bind (ok_bx (by omega) (by omega)) fun _ _ => ?_
  refine ok_bind (ok_bx (by omega) (by omega)) fun _ _ => ?_
  refine ok_bind (ok_bx (by omega) (by omega)) fun _ _ => ?_
  exact ok_some trivial
theorem l82_ok (s : ByteArray) : Ok (loopO utf8_ValidString_l82 s) (fun r => r.size ≤ s.size) := by
  refine ok_loop (fun t => t.size ≤ s.size) (fun t => t.size) (fun t ht => ?_) s (Nat.le_refl _)
  unfold utf8_ValidString_l82
  refine ok_bind (P := fun b => b = true → 32 < t.size) (ok_cond (fun h => ?_) (fun h => ok_some (by simp))) fun b hb => ok_cond (fun h => ?_) (fun h => ok_some ht)
  · have h32 : 32 < t.size := by have := of_decide_eq_true h; omega
    refine ok_bind (word_ok (by omega)) fun _ _ => ok_bind (ok_sx (by omega) (by omega) (by omega)) fun t1 h1 => ok_bind (word_ok (by omega)) fun _ _ => ?_
    refine ok_bind (ok_sx (by omega) (by omega) (by omega)) fun t2 h2 => ok_bind (word_ok (by omega)) fun _ _ => ?_
    refine ok_bind (ok_sx (by omega) (by omega) (by omega)) fun t3 h3 => ok_bind (word_ok (by omega)) fun _ _ => ok_some fun _ => h32
  · have h32 := hb h
    refine ok_bind (ok_sx (by omega) (by omega) (by omega)) fun t1 h1 => ok_some ⟨?_, ?_⟩ <;> omega
theorem tab_ok {c : Int} (h0 : 0 ≤ c) (h1 : c < 256) : Ok (ix tab0 c) (fun x => Ok (ix tab1 (shr .u8 x 4)) (fun _ => True)) := by
  obtain ⟨k, rfl⟩ : ∃ k : Nat, c = k := ⟨c.toNat, by omega⟩
  have hk : k < 256 := by omega
  refine ⟨(Go.Lib.firstT k : Int), by rw [ix_nat]; simp [tab0, List.getElem?_range hk], ?_⟩
  have : ∀ n, n < 16 → Ok (ix tab1 ((n : Nat) : Int)) (fun _ => True) := fun n hn => ok_true (ok_ix (by simpa [tab1] using hn))
  rcases Go.Lib.firstT_cases k with h | h | h | h | h | h | h | h | h <;> rw [h]
  · exact this 15 (by omega)
  · exact this 15 (by omega)
  · exact this 0 (by omega)
  · exact this 1 (by omega)
  · exact this 0 (by omega)
  · exact this 2 (by omega)
  · exact this 3 (by omega)
  · exact this 0 (by omega)
  · exact this 4 (by omega)
/-- A way that goes on with a shorter text, or ends. -/
def Sh (n : Nat) {X : Type} (Q : X → Prop) (o : ByteArray ⊕ X) : Prop := match o with
  | .inl t => t.size < n
  | .inr v => Q v
theorem ok_sh {n : Nat} {X : Type} {Q : X → Prop} {j : ByteArray ⊕ (ByteArray ⊕ X)} (h : Sh n (Sh n Q) j) : Ok (match j with | .inl t => some (.inl t) | .inr v => some v) (Sh n Q) := by
  cases j with
  | inl t => exact ok_some h
  | inr v => exact ok_some h
theorem vs_body (s : ByteArray) : Ok (utf8_ValidString_l17 s) (Sh s.size (fun _ => True)) := by
  unfold utf8_ValidString_l17
  refine ok_cond (fun h0 => ?_) (fun h0 => ok_some trivial)
  have hs : 0 < s.size := by have := of_decide_eq_true h0; omega
  refine ok_bind (P := Sh s.size (Sh s.size (fun _ => True))) ?_ fun j hj => by
    cases j with
    | inl t => exact ok_some hj
    | inr v => exact ok_some hj
  refine ok_bind (ok_bx (by omega) (by omega)) fun c hc => ok_cond (fun h1 => ?_) (fun h1 => ?_)
  · refine ok_bind (ok_sx (by omega) (by omega) (by omega)) fun t ht => ?_
    refine ok_bind (P := fun b => b = true → 8 < t.size) (ok_cond (fun h => ok_bind (word_ok (by have := of_decide_eq_true h; omega)) fun _ _ => ok_some fun _ => by have := of_decide_eq_true h; omega) (fun h => ok_some (by simp))) fun b hb => ?_
    refine ok_bind (P := fun u => u.size ≤ t.size) (ok_cond (fun h => ?_) (fun h => ok_some (Nat.le_refl _))) fun u hu => ok_some (show u.size < s.size by omega)
    have h8 := hb h
    refine ok_bind (ok_sx (by omega) (by omega) (by omega)) fun u hu => ?_
    refine ok_bind (P := fun b => b = true → 16 < u.size) (ok_cond (fun h => ?_) (fun h => ok_some (by simp))) fun b hb => ?_
    · have h16 : 16 < u.size := by have := of_decide_eq_true h; omega
      exact ok_bind (word_ok (by omega)) fun _ _ => ok_bind (ok_sx (by omega) (by omega) (by omega)) fun w hw => ok_bind (word_ok (by omega)) fun _ _ => ok_some fun _ => h16
    · refine ok_bind (P := fun w => w.size ≤ u.size) (ok_cond (fun h => ?_) (fun h => ok_some (Nat.le_refl _))) fun w hw => ok_some (by omega)
      have h16 := hb h
      exact ok_bind (ok_sx (by omega) (by omega) (by omega)) fun w hw => ok_bind (l82_ok w) fun r hr => ok_some (by omega)
  · refine ok_bind (tab_ok hc.1 hc.2) fun x hx => ok_bind hx fun y _ => ?_
    refine ok_bind (P := Sh s.size (Sh s.size (Sh s.size (fun _ => True)))) (ok_cond (fun h2 => ?_) (fun h2 => ?_)) fun j hj => by
      cases j with
      | inl t => exact ok_some hj
      | inr v => exact ok_some hj
    · refine ok_bind (P := fun b => b = false → 2 ≤ s.size) (ok_cond (fun h => ok_some (by simp)) (fun h => ?_)) fun b hb => ok_cond (fun _ => ok_some trivial) (fun h => ?_)
      · have hz : 2 ≤ s.size := by have := of_decide_eq_false h; omega
        exact ok_bind (ok_bx (by omega) (by omega)) fun _ _ => ok_cond (fun _ => ok_some fun _ => hz) fun _ => ok_bind (ok_bx (by omega) (by omega)) fun _ _ => ok_some fun _ => hz
      · have hz := hb h
        exact ok_bind (ok_sx (by omega) (by omega) (by omega)) fun t ht => ok_some (show t.size < s.size by omega)
    · refine ok_bind (P := Sh s.size (Sh s.size (Sh s.size (Sh s.size (fun _ => True))))) (ok_cond (fun h3 => ?_) (fun h3 => ok_cond (fun h4 => ?_) (fun h4 => ok_some trivial))) fun j hj => by
        cases j with
        | inl t => exact ok_some hj
        | inr v => exact ok_some hj
      · refine ok_bind (P := fun b => b = false → 3 ≤ s.size) (ok_cond (fun h => ok_some (by simp)) (fun h => ?_)) fun b hb => ok_cond (fun _ => ok_some trivial) (fun h => ?_)
        · have hz : 3 ≤ s.size := by have := of_decide_eq_false h; omega
          exact ok_bind (ok_bx (by omega) (by omega)) fun _ _ => ok_cond (fun _ => ok_some fun _ => hz) fun _ => ok_bind (ok_bx (by omega) (by omega)) fun _ _ => ok_cond (fun _ => ok_some fun _ => hz) fun _ => ok_bind (ok_bx (by omega) (by omega)) fun _ _ => ok_cond (fun _ => ok_some fun _ => hz) fun _ => ok_bind (ok_bx (by omega) (by omega)) fun _ _ => ok_some fun _ => hz
        · have hz := hb h
          exact ok_bind (ok_sx (by omega) (by omega) (by omega)) fun t ht => ok_some (show t.size < s.size by omega)
      · refine ok_bind (P := fun b => b = false → 4 ≤ s.size) (ok_cond (fun h => ok_some (by simp)) (fun h => ?_)) fun b hb => ok_cond (fun _ => ok_some trivial) (fun h => ?_)
        · have hz : 4 ≤ s.size := by have := of_decide_eq_false h; omega
          exact ok_bind (ok_bx (by omega) (by omega)) fun _ _ => ok_cond (fun _ => ok_some fun _ => hz) fun _ => ok_bind (ok_bx (by omega) (by omega)) fun _ _ => ok_cond (fun _ => ok_some fun _ => hz) fun _ => ok_bind (ok_bx (by omega) (by omega)) fun _ _ => ok_cond (fun _ => ok_some fun _ => hz) fun _ => ok_bind (ok_bx (by omega) (by omega)) fun _ _ => ok_cond (fun _ => ok_some fun _ => hz) fun _ => ok_bind (ok_bx (by omega) (by omega)) fun _ _ => ok_cond (fun _ => ok_some fun _ => hz) fun _ => ok_bind (ok_bx (by omega) (by omega)) fun _ _ => ok_some fun _ => hz
        · have hz := hb h
          exact ok_bind (ok_sx (by omega) (by omega) (by omega)) fun t ht => ok_some (show t.size < s.size by omega)
theorem ValidString_ok (s : ByteArray) : Ok (utf8_ValidString s) (fun _ => True) := by
  unfold utf8_ValidString
  refine ok_bind (P := fun _ => True) (ok_loop (fun _ => True) (fun t => t.size) (fun t _ => ok_mono (vs_body t) fun o ho => ?_) s trivial) fun r _ => ?_
  · cases o with
    | inl t => exact ⟨trivial, ho⟩
    | inr r => trivial
  · cases r <;> exact ok_some trivial
theorem named_ok (s : ByteArray) (b : Bool) : Ok (labels_named s 64 b) (fun _ => True) := by
  unfold labels_named
  refine ok_bind (P := fun j => j = false → s.size ≤ 64) (ok_cond (fun h => ok_some (by simp)) (fun h => ok_cond (fun h => ok_some (by simp)) (fun h' => ?_))) fun j hj => ok_cond (fun _ => ok_some trivial) (fun h => ?_)
  · rw [size_zero_iff] at h
    have h1 := of_decide_eq_false h
    have h2 := of_decide_eq_false h'
    exact ok_bind (ok_bx (by omega) (by omega)) fun _ _ => ok_some fun _ => by omega
  · have hz := hj h
    refine ok_bind (ok_sb (by omega)) fun l hl => ok_bind (P := fun _ => True) (ok_up (n := l.length) (fun _ => True) (fun i hi _ => ?_) trivial) fun r _ => by cases r <;> exact ok_some trivial
    have hll : l.length ≤ 64 := by rw [hl, bytesOf_length]; exact hz
    unfold labels_named_l33
    refine ok_cond (fun h => ?_) (fun h => ok_some trivial)
    have hlt : i < l.length := by have := of_decide_eq_true h; omega
    refine ok_bind (ok_ix hlt) fun x _ => ok_cond (fun _ => ok_some trivial) fun _ => ok_some ⟨wrap_up (by omega), hlt, trivial⟩
theorem Name_ok (s : ByteArray) : Ok (labels_Name s) (fun _ => True) := ok_bind (named_ok s false) fun _ _ => ok_some trivial
theorem value_ok (s : ByteArray) : Ok (labels_value s) (fun _ => True) := by
  unfold labels_value
  exact ok_cond (fun _ => ok_some trivial) fun _ => ok_cond (fun _ => ok_some trivial) fun _ => ok_bind (ValidString_ok s) fun _ _ => ok_cond (fun _ => ok_some trivial) fun _ => ok_some trivial
theorem text_ok (s : ByteArray) (n : Int) : Ok (nflog_text s n) (fun _ => True) := by
  unfold nflog_text
  exact ok_bind (P := fun _ => True) (ok_cond (fun _ => ok_cond (fun _ => ok_bind (ValidString_ok s) fun _ _ => ok_some trivial) fun _ => ok_some trivial) fun _ => ok_some trivial) fun _ _ => ok_some trivial
end Go.Proofs.YtlkmfhccpcncnaaDoor
