/- Plain laws of chapter 4: label sets that are sorted, made, picked: the program's are the document's. -/
import Derived.Test.YtnlkfajnaelnnaaGreatDoorLX1z
import Derived.Test.YtnlkfajnaelnnaaGreatDoorPA3z
import Derived.Test.YtnlkfajnaelnnaaGreatDoorGB30z
/- Plain laws: a label set's text as it is read, over lists of bytes and places. -/
set_option linter.unusedVariables false
set_option linter.unusedSimpArgs false
set_option maxRecDepth 100000
namespace Go.Proofs.YtnlkfajnaelnnaaGreatDoor
open Go.GB Go.Lib
/-! ### bytes -/
theorem fin_all {P : Nat → Prop} (h : ∀ c : Fin 256, P c.val) {n : Nat} (hn : n < 256) : P n := h ⟨n, hn⟩
abbrev tl (s : ByteArray) : List UInt8 := s.data.toList
theorem tl_len (s : ByteArray) : (tl s).length = s.size := size_list s
theorem ba_ext {a b : ByteArray} (h : tl a = tl b) : a = b := by
  cases a with | mk a => cases b with | mk b => exact congrArg _ (Array.toList_inj.1 h)
theorem gB_out {l : List UInt8} {i : Nat} (h : l.length ≤ i) : gB l i = 0 := by unfold gB; rw [List.getD_eq_getElem?_getD, List.getElem?_eq_none h]; rfl
theorem gB_in {l : List UInt8} {i : Nat} (h : 0 < gB l i) : i < l.length := by
  rcases Nat.lt_or_ge i l.length with h1 | h1
  · exact h1
  · rw [gB_out h1] at h; omega
theorem bx_tl {s : ByteArray} {i : Nat} (h : i < s.size) : bx s (i : Int) = some ((gB (tl s) i : Nat) : Int) := bx_at h
theorem tl_extract (s : ByteArray) (a b : Nat) : tl (s.extract a b) = ((tl s).drop a).take (b - a) := by
  show (s.extract a b).data.toList = _
  rw [ByteArray.data_extract, Array.toList_extract, List.extract_eq_take_drop]
theorem sx_tl {s : ByteArray} {a b : Nat} (h : a ≤ b) (hb : b ≤ s.size) : sx s (a : Int) (b : Int) = some (s.extract a b) := by
  unfold sx
  rw [if_pos ⟨by omega, by omega, by omega⟩]; rfl
theorem tl_inj {a b : ByteArray} : (a.toList == b.toList) = (tl a == tl b) := by rw [ByteArray.toList_eq, ByteArray.toList_eq]
theorem gB_head {l r : List UInt8} {i : Nat} {c : UInt8} (h : l.drop i = c :: r) : gB l i = c.toNat := by
  have := gB_drop l i 0
  rw [h, Nat.add_zero] at this
  exact this.symm
theorem drop_more {l r : List UInt8} {i : Nat} (p : List UInt8) (h : l.drop i = p ++ r) : l.drop (i + p.length) = r := by
  rw [← List.drop_drop, h, List.drop_left]
theorem drop_one {l r : List UInt8} {i : Nat} {c : UInt8} (h : l.drop i = c :: r) : l.drop (i + 1) = r := drop_more [c] h
/-! ### the parts of a text -/
def blN (c : Nat) : Bool := decide (c = 32) || decide (c = 9)
def blk (l : List UInt8) (i : Nat) : Nat := i + runL blN (l.drop i)
noncomputable def namN (colon : Bool) (c : Nat) : Bool := labels_letter (c : Int) || (labels_digit (c : Int) || (colon && ((c : Int) == 58)))
noncomputable def runN (l : List UInt8) (colon : Bool) (i : Nat) : Nat := i + runL (namN colon) (l.drop i)
/-- what stands in quotes, behind the first one: the place of the first fault, or the text and the place behind it -/
def valL : List UInt8 → Nat → List UInt8 → Nat ⊕ (List UInt8 × Nat)
  | [], i, _ => .inl i
  | [c], i, acc => if c.toNat = 34 then .inr (acc, i + 1) else .inl (i + 1)
  | c :: d :: r, i, acc =>
    if c.toNat = 34 then .inr (acc, i + 1)
    else if c.toNat ≠ 92 then valL (d :: r) (i + 1) (acc ++ [c])
    else if d.toNat = 110 then valL r (i + 2) (acc ++ [10])
    else if d.toNat = 92 ∨ d.toNat = 34 then valL r (i + 2) (acc ++ [d])
    else .inl i
def valP (l : List UInt8) (i : Nat) : Nat ⊕ (List UInt8 × Nat) := if gB l (blk l i) = 34 then valL (l.drop (blk l i + 1)) (blk l i + 1) [] else .inl (blk l i)
noncomputable def itemP (s : ByteArray) (i : Nat) : Nat ⊕ (S49 × Nat) :=
  if namedB (s.extract i (runN (tl s) false i)) 64 false = true then
    (if gB (tl s) (blk (tl s) (runN (tl s) false i)) = 61 then
      (match valP (tl s) (blk (tl s) (runN (tl s) false i) + 1) with
      | .inl p => .inl p
      | .inr v => .inr (⟨s.extract i (runN (tl s) false i), ⟨v.1.toArray⟩⟩, v.2))
    else .inl (blk (tl s) (runN (tl s) false i)))
  else .inl i
noncomputable def setL : Nat → ByteArray → Nat → List S49 → Nat ⊕ (List S49 × Nat)
  | 0, _, i, _ => .inl i
  | f + 1, s, i, acc =>
    if gB (tl s) (blk (tl s) i) = 125 then .inr (acc, blk (tl s) i + 1)
    else match itemP s (blk (tl s) i) with
      | .inl p => .inl p
      | .inr (x, p) =>
        if gB (tl s) (blk (tl s) p) = 44 then setL f s (blk (tl s) p + 1) (acc ++ [x])
        else if gB (tl s) (blk (tl s) p) = 125 then .inr (acc ++ [x], blk (tl s) p + 1)
        else .inl (blk (tl s) p)
def finL (s : ByteArray) (p : Nat) (l : List S49) : Nat ⊕ List S49 := if blk (tl s) p < s.size then .inl (blk (tl s) p) else .inr l
noncomputable def bracesL (s : ByteArray) (i : Nat) (l : List S49) : Nat ⊕ List S49 := match setL (s.size + 1) s i [] with
  | .inl p => .inl p
  | .inr (x, p) => finL s p (l ++ x)
def metricT : ByteArray := ⟨#[95, 95, 110, 97, 109, 101, 95, 95]⟩
noncomputable def parseL (s : ByteArray) : Nat ⊕ List S49 :=
  if gB (tl s) (blk (tl s) 0) = 123 then bracesL s (blk (tl s) 0 + 1) []
  else if namedB (s.extract (blk (tl s) 0) (runN (tl s) true (blk (tl s) 0))) 256 true = true then
    (if gB (tl s) (blk (tl s) (runN (tl s) true (blk (tl s) 0))) = 123 then bracesL s (blk (tl s) (runN (tl s) true (blk (tl s) 0)) + 1) [⟨metricT, s.extract (blk (tl s) 0) (runN (tl s) true (blk (tl s) 0))⟩]
    else finL s (runN (tl s) true (blk (tl s) 0)) [⟨metricT, s.extract (blk (tl s) 0) (runN (tl s) true (blk (tl s) 0))⟩])
  else .inl (blk (tl s) 0)
/-! ### places -/
theorem blk_le {l : List UInt8} {i : Nat} (h : i ≤ l.length) : i ≤ blk l i ∧ blk l i ≤ l.length := by
  have := runL_le blN (l.drop i)
  rw [List.length_drop] at this
  unfold blk; omega
theorem runN_le {l : List UInt8} {c : Bool} {i : Nat} (h : i ≤ l.length) : i ≤ runN l c i ∧ runN l c i ≤ l.length := by
  have := runL_le (namN c) (l.drop i)
  rw [List.length_drop] at this
  unfold runN; omega
theorem blk_none {l : List UInt8} {i : Nat} (h : blN (gB l i) = false) : blk l i = i := by
  unfold blk
  rcases Nat.lt_or_ge i l.length with h1 | h1
  · rw [runL_step h1, h]; simp
  · rw [runL_out h1]; omega
theorem blk_end {l : List UInt8} (i : Nat) : blN (gB l (blk l i)) = false := by
  unfold blk
  rcases Nat.lt_or_ge (i + runL blN (l.drop i)) l.length with h1 | h1
  · rw [← gB_drop]; exact runL_end (by rw [List.length_drop]; omega)
  · rw [gB_out h1]; decide
theorem blk_blk (l : List UInt8) (i : Nat) : blk l (blk l i) = blk l i := blk_none (blk_end i)
theorem valL_le : ∀ (r : List UInt8) (i : Nat) (acc : List UInt8) {v : List UInt8 × Nat}, valL r i acc = .inr v → i < v.2 ∧ v.2 ≤ i + r.length
  | [], i, acc, v, h => by simp [valL] at h
  | [c], i, acc, v, h => by
    unfold valL at h
    split at h <;> cases h
    simp
  | c :: d :: r, i, acc, v, h => by
    unfold valL at h
    split at h
    · cases h; simp
    · split at h
      · have := valL_le (d :: r) _ _ h; simp at this ⊢; omega
      · split at h
        · have := valL_le r _ _ h; simp at this ⊢; omega
        · split at h
          · have := valL_le r _ _ h; simp at this ⊢; omega
          · cases h
theorem valP_le {l : List UInt8} {i : Nat} {v : List UInt8 × Nat} (hi : i ≤ l.length) (h : valP l i = .inr v) : i < v.2 ∧ v.2 ≤ l.length := by
  unfold valP at h
  split at h
  · rename_i h1
    have h2 := gB_in (l := l) (i := blk l i) (by omega)
    have h3 := valL_le _ _ _ h
    have h4 := blk_le hi
    rw [List.length_drop] at h3
    omega
  · cases h
theorem itemP_le {s : ByteArray} {i : Nat} {x : S49} {p : Nat} (hi : i ≤ s.size) (h : itemP s i = .inr (x, p)) : i < p ∧ p ≤ s.size := by
  unfold itemP at h
  rw [← tl_len] at hi ⊢
  have h1 := runN_le (c := false) hi
  have h2 := blk_le h1.2
  split at h
  · split at h
    · rename_i h3
      have h4 := gB_in (l := tl s) (i := blk (tl s) (runN (tl s) false i)) (by omega)
      split at h
      · cases h
      · rename_i v hv
        have := valP_le (by omega) hv
        cases h
        omega
    · cases h
  · cases h
end Go.Proofs.YtnlkfajnaelnnaaGreatDoor

/- Plain laws: a label set's text, there and back (lists of bytes). -/
set_option linter.unusedVariables false
set_option linter.unusedSimpArgs false
set_option maxRecDepth 100000
namespace Go.Proofs.YtnlkfajnaelnnaaGreatDoor
open Go.GB Go.Lib


def itemT (x : S49) : List UInt8 := tl x.f0 ++ 61 :: 34 :: (qBody (tl x.f1) ++ [34])
def bodyT : List S49 → List UInt8
  | [] => []
  | [x] => itemT x
  | x :: y :: r => itemT x ++ 44 :: bodyT (y :: r)
theorem qBody_cons (c : UInt8) (v : List UInt8) : qBody (c :: v) = qB c ++ qBody v := by simp [qBody]
theorem valL_plain {c : UInt8} {r : List UInt8} {i : Nat} {acc : List UInt8} (h1 : c.toNat ≠ 34) (h2 : c.toNat ≠ 92) (hr : r ≠ []) : valL (c :: r) i acc = valL r (i + 1) (acc ++ [c]) := by
  cases r with
  | nil => exact absurd rfl hr
  | cons d r => rw [valL, if_neg h1, if_pos h2]
theorem valL_quote {c : UInt8} {r : List UInt8} {i : Nat} {acc : List UInt8} (h1 : c.toNat = 34) : valL (c :: r) i acc = .inr (acc, i + 1) := by
  cases r with
  | nil => rw [valL, if_pos h1]
  | cons d r => rw [valL, if_pos h1]
theorem valL_esc {d e : UInt8} {r : List UInt8} {i : Nat} {acc : List UInt8} (h : (d.toNat = 110 ∧ e = 10) ∨ ((d.toNat = 92 ∨ d.toNat = 34) ∧ e = d)) : valL (92 :: d :: r) i acc = valL r (i + 2) (acc ++ [e]) := by
  rw [valL, if_neg (by decide), if_neg (by decide)]
  rcases h with ⟨h, rfl⟩ | ⟨h, rfl⟩
  · rw [if_pos h]
  · rw [if_neg (by omega), if_pos h]
theorem val_back (post : List UInt8) : ∀ (v : List UInt8) (i : Nat) (acc : List UInt8), valL (qBody v ++ 34 :: post) i acc = .inr (acc ++ v, i + (qBody v).length + 1)
  | [], i, acc => by rw [show qBody [] = [] from rfl, List.nil_append, valL_quote (by decide)]; simp
  | c :: v, i, acc => by
    rw [qBody_cons, List.append_assoc, qB]
    by_cases h1 : c.toNat = 92 ∨ c.toNat = 34
    · rw [if_pos h1, List.cons_append, List.cons_append, List.nil_append, valL_esc (.inr ⟨h1, rfl⟩), val_back post v]
      simp; omega
    · rw [if_neg h1]
      by_cases h2 : c.toNat = 10
      · have hc : c = 10 := UInt8.toNat_inj.1 (by rw [h2]; rfl)
        rw [if_pos h2, List.cons_append, List.cons_append, List.nil_append, valL_esc (.inl ⟨by decide, rfl⟩), val_back post v, hc]
        simp; omega
      · rw [if_neg h2, List.cons_append, List.nil_append, valL_plain (by omega) (by omega) (by simp), val_back post v]
        simp [Nat.add_assoc, Nat.add_comm, Nat.add_left_comm]
theorem runL_all {p : Nat → Bool} : ∀ {a : List UInt8} {r : List UInt8}, (∀ c ∈ a, p c.toNat = true) → (∀ c r', r = c :: r' → p c.toNat = false) → runL p (a ++ r) = a.length
  | [], r, _, hr => by
    cases r with
    | nil => rfl
    | cons c r => rw [List.nil_append, runL_cons, hr c r rfl]; rfl
  | c :: a, r, ha, hr => by
    rw [List.cons_append, runL_cons, if_pos (ha c (by simp)), runL_all (fun d hd => ha d (by simp [hd])) hr]; rfl
theorem bat_gB (s : ByteArray) (i : Nat) : bat s i = gB (tl s) i := rfl
theorem named_nam {s : ByteArray} {m : Nat} {c : Bool} (h : namedB s m c = true) : (∀ b ∈ tl s, namN c b.toNat = true) ∧ tl s ≠ [] := by
  unfold namedB at h
  simp only [Bool.and_eq_true, decide_eq_true_eq, List.all_eq_true, List.mem_range] at h
  obtain ⟨h0, _, _, h1⟩ := h
  refine ⟨fun b hb => ?_, fun e => h0 (by rw [← tl_len, e]; rfl)⟩
  obtain ⟨i, hi, rfl⟩ := List.getElem_of_mem hb
  have h2 := h1 i (by rw [← tl_len]; exact hi)
  rw [bat_gB, show gB (tl s) i = (tl s)[i].toNat from by simp [gB, List.getElem?_eq_getElem hi]] at h2
  exact h2
theorem namN_not : ∀ {c : Nat}, c < 256 → namN true c = true → blN c = false ∧ c ≠ 123 ∧ c ≠ 125 := fun {c} h =>
  fin_all (P := fun n => namN true n = true → blN n = false ∧ n ≠ 123 ∧ n ≠ 125) (by unfold namN labels_letter labels_digit blN; decide +kernel) h
theorem namN_weak {c : Nat} (h : namN false c = true) : namN true c = true := by
  unfold namN at h ⊢
  simp only [Bool.false_and, Bool.or_false, Bool.or_eq_true] at h
  rcases h with h | h <;> simp [h]
theorem namN_61 : namN false 61 = false := by unfold namN labels_letter labels_digit; decide +kernel
theorem namN_123 : namN true 123 = false := by unfold namN labels_letter labels_digit; decide +kernel
theorem extract_at {s : ByteArray} {i : Nat} {a r : List UInt8} (h : (tl s).drop i = a ++ r) : tl (s.extract i (i + a.length)) = a := by
  rw [tl_extract, h, show i + a.length - i = a.length from by omega, List.take_left]
theorem item_back {s : ByteArray} {x : S49} {i : Nat} {post : List UInt8} (h : (tl s).drop i = itemT x ++ post) (hn : namedB x.f0 64 false = true) : itemP s i = .inr (x, i + (itemT x).length) := by
  obtain ⟨h1, h2⟩ := named_nam hn
  have h' : (tl s).drop i = tl x.f0 ++ 61 :: 34 :: (qBody (tl x.f1) ++ 34 :: post) := by rw [h]; simp [itemT]
  have hr : runN (tl s) false i = i + (tl x.f0).length := by
    unfold runN
    rw [h', runL_all h1 (fun c r' e => by cases e; exact namN_61)]
  have e1 : s.extract i (runN (tl s) false i) = x.f0 := ba_ext (by rw [hr]; exact extract_at h')
  have h3 := drop_more _ h'
  have g1 : gB (tl s) (i + (tl x.f0).length) = 61 := gB_head h3
  have b1 : blk (tl s) (i + (tl x.f0).length) = i + (tl x.f0).length := blk_none (by rw [g1]; decide)
  have h4 := drop_one h3
  have g2 : gB (tl s) (i + (tl x.f0).length + 1) = 34 := gB_head h4
  have b2 : blk (tl s) (i + (tl x.f0).length + 1) = i + (tl x.f0).length + 1 := blk_none (by rw [g2]; decide)
  have h5 := drop_one h4
  unfold itemP
  rw [e1, if_pos hn, hr, b1, if_pos g1]
  unfold valP
  rw [b2, if_pos g2, h5, val_back]
  simp only [List.nil_append]
  have e2 : (⟨(tl x.f1).toArray⟩ : ByteArray) = x.f1 := ba_ext rfl
  rw [e2]
  congr 2
  simp [itemT]; omega
theorem item_head {x : S49} (hn : namedB x.f0 64 false = true) (post : List UInt8) : ∃ c r, itemT x ++ post = c :: r ∧ blN c.toNat = false ∧ c.toNat ≠ 125 := by
  obtain ⟨h1, h2⟩ := named_nam hn
  unfold itemT
  cases h : tl x.f0 with
  | nil => exact absurd h h2
  | cons c r =>
    have := namN_not (UInt8.toNat_lt c) (namN_weak (h1 c (by rw [h]; simp)))
    exact ⟨c, _, rfl, this.1, this.2.2⟩
theorem set_back (s : ByteArray) : ∀ (rest : List S49) (f i : Nat) (acc : List S49) (post : List UInt8), rest.length < f → (tl s).drop i = bodyT rest ++ 125 :: post → (∀ x ∈ rest, namedB x.f0 64 false = true) →
    setL f s i acc = .inr (acc ++ rest, i + (bodyT rest).length + 1)
  | _, 0, _, _, _, hf, _, _ => absurd hf (by omega)
  | [], f + 1, i, acc, post, hf, h, _ => by
    have g1 : gB (tl s) i = 125 := gB_head h
    rw [setL, blk_none (by rw [g1]; decide), if_pos g1]; simp [bodyT]
  | [x], f + 1, i, acc, post, hf, h, hn => by
    have hx := hn x (by simp)
    rw [bodyT] at h
    obtain ⟨c, r, e, hb, hc⟩ := item_head hx (125 :: post)
    have g1 : gB (tl s) i = c.toNat := gB_head (by rw [h, e])
    have g2 : gB (tl s) (i + (itemT x).length) = 125 := gB_head (drop_more _ h)
    rw [setL, blk_none (by rw [g1]; exact hb), if_neg (by rw [g1]; exact hc), item_back h hx]
    simp only
    rw [blk_none (by rw [g2]; decide), if_neg (by omega), if_pos g2, bodyT]
  | x :: y :: rest, f + 1, i, acc, post, hf, h, hn => by
    have hx := hn x (by simp)
    rw [bodyT, List.append_assoc, List.cons_append] at h
    obtain ⟨c, r, e, hb, hc⟩ := item_head hx (44 :: (bodyT (y :: rest) ++ 125 :: post))
    have g1 : gB (tl s) i = c.toNat := gB_head (by rw [h, e])
    have h2 := drop_more _ h
    have g2 : gB (tl s) (i + (itemT x).length) = 44 := gB_head h2
    rw [setL, blk_none (by rw [g1]; exact hb), if_neg (by rw [g1]; exact hc), item_back h hx]
    simp only
    rw [blk_none (by rw [g2]; decide), if_pos g2, set_back s (y :: rest) f _ _ post (by simp at hf ⊢; omega) (drop_one h2) (fun z hz => hn z (List.mem_cons_of_mem _ hz)), bodyT]
    simp; omega
/-- what is printed -/
def printT (ahead : Option ByteArray) (rest : List S49) : List UInt8 := match ahead with
  | some v => if rest = [] then tl v else tl v ++ 123 :: (bodyT rest ++ [125])
  | none => 123 :: (bodyT rest ++ [125])
theorem fin_end {s : ByteArray} {p : Nat} (l : List S49) (h : p = s.size) : finL s p l = .inr l := by
  subst h
  unfold finL blk
  rw [runL_out (by rw [tl_len]; omega), Nat.add_zero, if_neg (by omega)]
theorem braces_back {s : ByteArray} {i : Nat} {rest l : List S49} (h : (tl s).drop i = bodyT rest ++ [125]) (hl : rest.length ≤ s.size) (hn : ∀ x ∈ rest, namedB x.f0 64 false = true) : bracesL s i l = .inr (l ++ rest) := by
  unfold bracesL
  rw [set_back s rest (s.size + 1) i [] [] (by omega) h hn]
  simp only [List.nil_append]
  refine fin_end _ ?_
  have := congrArg List.length h
  rw [List.length_drop, tl_len, List.length_append] at this
  simp at this
  omega
theorem parse_none {s : ByteArray} {rest : List S49} (h : tl s = printT none rest) (hl : rest.length ≤ s.size) (hn : ∀ x ∈ rest, namedB x.f0 64 false = true) : parseL s = .inr rest := by
  have h0 : (tl s).drop 0 = 123 :: (bodyT rest ++ [125]) := h
  have g1 : gB (tl s) 0 = 123 := gB_head h0
  have b1 : blk (tl s) 0 = 0 := blk_none (by rw [g1]; decide)
  unfold parseL
  rw [b1, if_pos g1, braces_back (drop_one h0) hl hn]
  rfl
theorem parse_some {s v : ByteArray} {rest : List S49} (h : tl s = printT (some v) rest) (hv : namedB v 256 true = true) (hl : rest.length ≤ s.size) (hn : ∀ x ∈ rest, namedB x.f0 64 false = true) : parseL s = .inr (⟨metricT, v⟩ :: rest) := by
  obtain ⟨h1, h2⟩ := named_nam hv
  obtain ⟨R, hR, hc⟩ : ∃ R, tl s = tl v ++ R ∧ ((rest = [] ∧ R = []) ∨ R = 123 :: (bodyT rest ++ [125])) := by
    unfold printT at h
    by_cases hr : rest = []
    · simp only at h; exact ⟨[], by rw [h, if_pos hr, List.append_nil], .inl ⟨hr, rfl⟩⟩
    · simp only at h; exact ⟨_, by rw [h, if_neg hr], .inr rfl⟩
  have h0 : (tl s).drop 0 = tl v ++ R := hR
  have g0 : blN (gB (tl s) 0) = false ∧ gB (tl s) 0 ≠ 123 := by
    cases e : tl v with
    | nil => exact absurd e h2
    | cons c r =>
      have := namN_not (UInt8.toNat_lt c) (h1 c (by rw [e]; simp))
      rw [show gB (tl s) 0 = c.toNat from gB_head (by rw [h0, e]; rfl)]
      exact ⟨this.1, this.2.1⟩
  have b0 : blk (tl s) 0 = 0 := blk_none g0.1
  have r0 : runN (tl s) true 0 = (tl v).length := by
    unfold runN
    rw [h0, runL_all h1 (fun c r' e => by
      rcases hc with ⟨_, hc⟩ | hc
      · rw [hc] at e; cases e
      · rw [hc] at e; cases e; exact namN_123), Nat.zero_add]
  have e0 : s.extract 0 (tl v).length = v := ba_ext (by have := extract_at h0; rwa [Nat.zero_add] at this)
  unfold parseL
  rw [b0, if_neg g0.2, r0, e0, if_pos hv]
  have hd := drop_more _ h0
  rw [Nat.zero_add] at hd
  rcases hc with ⟨hr, hc⟩ | hc
  · subst hr; subst hc
    have hz : (tl v).length = s.size := by rw [← tl_len, hR, List.append_nil]
    have g1 : gB (tl s) (tl v).length = 0 := gB_out (by rw [tl_len]; omega)
    rw [blk_none (by rw [g1]; decide), if_neg (by omega), fin_end _ hz]
  · rw [hc] at hd
    have g1 : gB (tl s) (tl v).length = 123 := gB_head hd
    rw [blk_none (by rw [g1]; decide), if_pos g1, braces_back (drop_one hd) hl hn]
    rfl
end Go.Proofs.YtnlkfajnaelnnaaGreatDoor

/- Plain laws: the program's reader reads as the lists say. -/
set_option linter.unusedVariables false
set_option linter.unusedSimpArgs false
set_option maxRecDepth 100000
namespace Go.GB
theorem wrapN {n : Nat} {z : Int} (h : z = (n : Int)) (hn : n < 9223372036854775808) : IntKind.wrap .i64 z = (n : Int) := by rw [wrap64 (by omega) (by omega), h]
/-- a loop that counts a run -/
theorem loop_run {body : Int → Option (Int ⊕ Int)} {l : List UInt8} {p : Nat → Bool}
    (h : ∀ k : Nat, k ≤ l.length → body (k : Int) = some (if k < l.length ∧ p (gB l k) = true then .inl ((k + 1 : Nat) : Int) else .inr (k : Int))) :
    ∀ d k : Nat, k + d = l.length → loopO body (k : Int) = some ((k + runL p (l.drop k) : Nat) : Int)
  | 0, k, hd => by
    have := h k (by omega)
    rw [if_neg (by omega)] at this
    rw [loopO_done this, runL_out (by omega), Nat.add_zero]
  | d + 1, k, hd => by
    have h1 := h k (by omega)
    rw [runL_step (by omega)]
    by_cases hp : p (gB l k) = true
    · rw [if_pos ⟨by omega, hp⟩] at h1
      rw [if_pos hp, loopO_step h1, loop_run h d (k + 1) (by omega)]
      congr 2; omega
    · rw [if_neg (fun h => hp h.2)] at h1
      rw [if_neg hp, loopO_done h1, Nat.add_zero]
end Go.GB
namespace Go.Proofs.YtnlkfajnaelnnaaGreatDoor
open Go.GB Go.Lib
/-! ### one byte -/
def bI (l : List UInt8) : List Int := l.map fun b => (b.toNat : Int)
theorem bI_len (l : List UInt8) : (bI l).length = l.length := by simp [bI]
theorem bI_add (l : List UInt8) (c : UInt8) : bI l ++ [(c.toNat : Int)] = bI (l ++ [c]) := by simp [bI]
theorem strO_bI (l : List UInt8) : strO (bI l) = some ⟨l.toArray⟩ := by
  unfold strO
  rw [if_pos (fun x hx => by obtain ⟨b, _, rfl⟩ := List.mem_map.1 hx; have := UInt8.toNat_lt b; omega)]
  congr 3
  unfold bI
  rw [List.map_map]
  conv => rhs; rw [← List.map_id l]
  refine List.map_congr_left fun b _ => ?_
  simp
theorem beqN {a k : Nat} : (((a : Nat) : Int) == ((k : Nat) : Int)) = decide (a = k) := by
  rw [Bool.eq_iff_iff, beq_iff_eq, decide_eq_true_eq]; omega
theorem blN_int {c : Nat} : (bif ((c : Int) == 32) then some true else some ((c : Int) == 9)) = some (blN c) := by
  have e1 : ((c : Int) == 32) = decide (c = 32) := beqN (k := 32)
  have e2 : ((c : Int) == 9) = decide (c = 9) := beqN (k := 9)
  rw [e1, e2]; unfold blN
  cases decide (c = 32) <;> rfl
theorem blanks_eq {s : ByteArray} {b : Int} {i : Nat} (hs : s.size < 4294967296) (hi : i ≤ s.size) : labels_reader_blanks ⟨s, (i : Int), b⟩ = some ⟨s, ((blk (tl s) i : Nat) : Int), b⟩ := by
  unfold labels_reader_blanks
  rw [loop_run (l := tl s) (p := blN) (fun k hk => ?_) (s.size - i) i (by rw [tl_len]; omega)]
  · rfl
  · rw [tl_len] at hk ⊢
    unfold labels_reader_blanks_l16
    by_cases h : k < s.size
    · rw [decide_eq_true (show ((k : Int) < (s.size : Int)) by omega)]
      simp only [cond_true, bx_tl h, Option.bind_some, blN_int, wrap_up (show k < 4294967296 by omega), h, true_and]
      cases blN (gB (tl s) k) <;> rfl
    · rw [decide_eq_false (show ¬((k : Int) < (s.size : Int)) by omega)]
      simp only [cond_false, Option.bind_some, h, false_and, if_false]
theorem fail_on {s : ByteArray} {i : Int} {p : Nat} : labels_reader_fail ⟨s, i, -1⟩ (p : Int) = some ⟨s, i, (p : Int)⟩ := rfl
theorem fail_off {s : ByteArray} {i : Int} {b : Nat} {p : Int} : labels_reader_fail ⟨s, i, (b : Int)⟩ p = some ⟨s, i, (b : Int)⟩ := by
  unfold labels_reader_fail
  rw [show decide (((b : Nat) : Int) < 0) = false from decide_eq_false (by omega)]; rfl
theorem off_ge (b : Nat) : decide (((b : Nat) : Int) ≥ 0) = true := decide_eq_true (by omega)
theorem next_off {s : ByteArray} {i : Int} {b : Nat} {c : Int} : labels_reader_next ⟨s, i, (b : Int)⟩ c = some (false, ⟨s, i, (b : Int)⟩) := by
  unfold labels_reader_next; rw [off_ge]; rfl
theorem want_off {s : ByteArray} {i : Int} {b : Nat} {c : Int} : labels_reader_want ⟨s, i, (b : Int)⟩ c = some ⟨s, i, (b : Int)⟩ := by
  unfold labels_reader_want; rw [next_off]
  simp only [Option.bind_some, Bool.not_false, cond_true, fail_off]
theorem value_off {s : ByteArray} {i : Int} {b : Nat} : labels_reader_value ⟨s, i, (b : Int)⟩ = some (⟨#[]⟩, ⟨s, i, (b : Int)⟩) := by
  unfold labels_reader_value; rw [want_off]
  simp only [Option.bind_some]
  rw [loopO_done (r := Sum.inl (s, i, (b : Int))) (by unfold labels_reader_value_l35; rw [show decide (((b : Nat) : Int) < 0) = false from decide_eq_false (by omega)]; rfl)]
  simp only [Option.bind_some, fail_off]
theorem next_on {s : ByteArray} {i c : Nat} (hs : s.size < 4294967296) (hi : i ≤ s.size) (hc : 0 < c) : labels_reader_next ⟨s, (i : Int), -1⟩ (c : Int) =
    some (if gB (tl s) (blk (tl s) i) = c then (true, ⟨s, ((blk (tl s) i + 1 : Nat) : Int), -1⟩) else (false, ⟨s, ((blk (tl s) i : Nat) : Int), -1⟩)) := by
  unfold labels_reader_next
  rw [show decide ((-1 : Int) ≥ 0) = false from rfl]
  simp only [cond_false, blanks_eq hs hi, Option.bind_some]
  by_cases h : blk (tl s) i < s.size
  · rw [show decide (((blk (tl s) i : Nat) : Int) ≥ (s.size : Int)) = false from decide_eq_false (by omega)]
    simp only [cond_false, bx_tl h, Option.bind_some, bne, beqN]
    by_cases hg : gB (tl s) (blk (tl s) i) = c
    · simp only [hg, decide_true, Bool.not_true, cond_false, if_true, wrap_up (show blk (tl s) i < 4294967296 by omega)]
    · simp only [hg, decide_false, Bool.not_false, cond_true, if_false]
  · rw [show decide (((blk (tl s) i : Nat) : Int) ≥ (s.size : Int)) = true from decide_eq_true (by omega)]
    rw [if_neg (fun e => by rw [gB_out (by rw [tl_len]; omega)] at e; omega)]
    rfl
theorem want_on {s : ByteArray} {i c : Nat} (hs : s.size < 4294967296) (hi : i ≤ s.size) (hc : 0 < c) : labels_reader_want ⟨s, (i : Int), -1⟩ (c : Int) =
    some (if gB (tl s) (blk (tl s) i) = c then ⟨s, ((blk (tl s) i + 1 : Nat) : Int), -1⟩ else ⟨s, ((blk (tl s) i : Nat) : Int), ((blk (tl s) i : Nat) : Int)⟩) := by
  unfold labels_reader_want
  rw [next_on hs hi hc]
  by_cases hg : gB (tl s) (blk (tl s) i) = c
  · simp only [hg, if_true, Option.bind_some, Bool.not_true, cond_false]
  · simp only [hg, if_false, Option.bind_some, Bool.not_false, cond_true, fail_on]
theorem nam_int {c : Nat} {col : Bool} : (bif labels_letter (c : Int) then some true else bif labels_digit (c : Int) then some true else bif col then some ((c : Int) == 58) else some false) = some (namN col c) := by
  unfold namN
  cases labels_letter (c : Int) <;> cases labels_digit (c : Int) <;> cases col <;> rfl
theorem name_loop {s : ByteArray} {b : Int} {i : Nat} {col : Bool} (hs : s.size < 4294967296) (hi : i ≤ s.size) : loopO (labels_reader_name_l22 col ⟨s, (i : Int), b⟩) (i : Int) = some ((runN (tl s) col i : Nat) : Int) := by
  rw [loop_run (l := tl s) (p := namN col) (fun k hk => ?_) (s.size - i) i (by rw [tl_len]; omega)]
  · rfl
  · rw [tl_len] at hk ⊢
    unfold labels_reader_name_l22
    by_cases h : k < s.size
    · rw [decide_eq_true (show ((k : Int) < (s.size : Int)) by omega)]
      simp only [cond_true, bx_tl h, Option.bind_some, nam_int, wrap_up (show k < 4294967296 by omega), h, true_and]
      cases namN col (gB (tl s) k) <;> rfl
    · rw [decide_eq_false (show ¬((k : Int) < (s.size : Int)) by omega)]
      simp only [cond_false, Option.bind_some, h, false_and, if_false]
theorem empty_run {s : ByteArray} {a b : Nat} (h : a ≤ b) (hb : b ≤ s.size) : ((s.extract a b).toList == (⟨#[]⟩ : ByteArray).toList) = decide (a = b) := by
  rw [nil_size]
  have : (s.extract a b).size = b - a := by rw [← tl_len, tl_extract, List.length_take, List.length_drop, tl_len]; omega
  rw [this, Bool.eq_iff_iff, decide_eq_true_eq, decide_eq_true_eq]; omega
/-- the fault of a name -/
theorem name_fault {s : ByteArray} {a b : Nat} (h : a ≤ b) (hb : b ≤ s.size) : (Option.bind (bif ((s.extract a b).toList == (⟨#[]⟩ : ByteArray).toList) then
          (Option.bind (labels_reader_fail (⟨s, (b : Int), -1⟩ : S89) (b : Int)) fun (y69 : S89) =>
            some (y69.f0, y69.f1, y69.f2))
          else
          (some (s, (b : Int), -1))) fun (j63 : ByteArray × Int × Int) =>
        Option.bind (labels_reader_fail (⟨j63.1, j63.2.1, j63.2.2⟩ : S89) (a : Int)) fun (y74 : S89) =>
        some (y74.f0, y74.f1, y74.f2)) = some (s, (b : Int), (a : Int)) := by
  rw [empty_run h hb]
  by_cases e : a = b
  · subst e; simp only [decide_true, cond_true, fail_on, Option.bind_some, fail_off]
  · simp only [e, decide_false, cond_false, fail_on, Option.bind_some]
theorem name_on {s : ByteArray} {i m : Nat} {col : Bool} (hs : s.size < 4294967296) (hi : i ≤ s.size) (hm : m = if col then 256 else 64)
    (hM : ∀ t : ByteArray, labels_Metric t = some (namedB t 256 true)) : labels_reader_name ⟨s, (i : Int), -1⟩ col =
    some (s.extract (blk (tl s) i) (runN (tl s) col (blk (tl s) i)), ⟨s, ((runN (tl s) col (blk (tl s) i) : Nat) : Int), if namedB (s.extract (blk (tl s) i) (runN (tl s) col (blk (tl s) i))) m col = true then -1 else ((blk (tl s) i : Nat) : Int)⟩) := by
  have hb := blk_le (l := tl s) (i := i) (by rw [tl_len]; exact hi)
  have hr := runN_le (l := tl s) (c := col) (i := blk (tl s) i) hb.2
  rw [tl_len] at hb hr
  have hj : ∀ x : ByteArray, (bif col then
      (Option.bind (labels_Metric x) fun (y48 : Bool) =>
        bif (!y48) then
        (some true)
        else
        (bif (!col) then
          (Option.bind (labels_Name x) fun (y52 : Bool) =>
            some (!y52))
          else
          (some false)))
      else
      (bif (!col) then
        (Option.bind (labels_Name x) fun (y55 : Bool) =>
          some (!y55))
        else
        (some false))) = some (!namedB x m col) := by
    intro x
    cases col with
    | true => rw [hm, hM]; simp only [Option.bind_some, cond_true, Bool.not_true, cond_false, if_true]; cases namedB x 256 true <;> rfl
    | false => rw [hm, Name_eq]; simp only [Option.bind_some, cond_true, Bool.not_false, cond_false, Bool.false_eq_true, if_false]
  unfold labels_reader_name
  rw [show decide ((-1 : Int) ≥ 0) = false from rfl]
  simp only [cond_false, blanks_eq hs hi, Option.bind_some, name_loop hs hb.2, sx_tl hr.1 hr.2, hj, name_fault hr.1 hr.2]
  cases namedB (s.extract (blk (tl s) i) (runN (tl s) col (blk (tl s) i))) m col with
  | true => simp only [Bool.not_true, cond_false, Option.bind_some, if_true]
  | false => simp only [Bool.not_false, cond_true, name_fault hr.1 hr.2, Option.bind_some, Bool.false_eq_true, if_false]
end Go.Proofs.YtnlkfajnaelnnaaGreatDoor

/- Plain laws: the program's reader: values, braces. -/
set_option linter.unusedVariables false
set_option linter.unusedSimpArgs false
set_option maxRecDepth 100000
namespace Go.Proofs.YtnlkfajnaelnnaaGreatDoor
open Go.GB Go.Lib
theorem write_eq {l : List UInt8} {c : UInt8} (h : l.length < 2147483648) : strings_Builder_WriteByte ⟨bI l⟩ (c.toNat : Int) = some ((), ⟨bI (l ++ [c])⟩) := by
  unfold strings_Builder_WriteByte strings_Builder_copyCheck
  rw [app_eq (by rw [bI_len]; simp; omega), bI_add]; rfl
theorem drop_in {s : ByteArray} {i : Nat} {c : UInt8} {r : List UInt8} (h : (tl s).drop i = c :: r) : i < s.size ∧ bx s (i : Int) = some (c.toNat : Int) := by
  have h1 : i < s.size := by
    have := congrArg List.length h
    rw [List.length_drop, tl_len] at this
    simp at this; omega
  exact ⟨h1, by rw [bx_tl h1, gB_head h]⟩
theorem lit {c k : Nat} {x : Int} (hx : x = (k : Int)) : ((c : Int) == x) = decide (c = k) := by rw [hx]; exact beqN
section
variable {s : ByteArray} {i : Nat} {acc : List UInt8}
theorem vl_stop {j : Int} {b : Nat} {l : List Int} : labels_reader_value_l35 (s, j, (b : Int), (), l) = some (.inr (.inl (s, j, (b : Int)))) := by
  unfold labels_reader_value_l35
  rw [show decide (((b : Nat) : Int) < 0) = false from decide_eq_false (by omega)]; rfl
theorem vl_end (h : (tl s).drop i = []) : labels_reader_value_l35 (s, (i : Int), -1, (), bI acc) = some (.inr (.inl (s, (i : Int), -1))) := by
  unfold labels_reader_value_l35
  have : s.size ≤ i := by have := List.drop_eq_nil_iff.1 h; rwa [tl_len] at this
  rw [show decide ((i : Int) < (s.size : Int)) = false from decide_eq_false (by omega)]; rfl
theorem vl_quote {c : UInt8} {r : List UInt8} (hs : s.size < 2147483648) (h : (tl s).drop i = c :: r) (hc : c.toNat = 34) : labels_reader_value_l35 (s, (i : Int), -1, (), bI acc) = some (.inr (.inr (⟨acc.toArray⟩, ⟨s, ((i + 1 : Nat) : Int), -1⟩))) := by
  obtain ⟨h1, h2⟩ := drop_in h
  unfold labels_reader_value_l35
  rw [show decide ((i : Int) < (s.size : Int)) = true from decide_eq_true (by omega)]
  simp only [show decide ((-1 : Int) < 0) = true from rfl, Bool.and_self, cond_true, h2, Option.bind_some, lit (k := 34) (x := 34) rfl, hc, decide_true, strings_Builder_String, strO_bI, wrap_up (show i < 4294967296 by omega)]
theorem vl_plain {c : UInt8} {r : List UInt8} (hs : s.size < 2147483648) (ha : acc.length ≤ i) (h : (tl s).drop i = c :: r) (hc : c.toNat ≠ 34) (hd : c.toNat ≠ 92) : labels_reader_value_l35 (s, (i : Int), -1, (), bI acc) = some (.inl (s, ((i + 1 : Nat) : Int), -1, (), bI (acc ++ [c]))) := by
  obtain ⟨h1, h2⟩ := drop_in h
  unfold labels_reader_value_l35
  rw [show decide ((i : Int) < (s.size : Int)) = true from decide_eq_true (by omega)]
  simp only [show decide ((-1 : Int) < 0) = true from rfl, Bool.and_self, cond_true, h2, Option.bind_some, lit (k := 34) (x := 34) rfl, lit (k := 92) (x := 92) rfl, bne, hc, hd, decide_false, cond_false, Bool.not_false, write_eq (show acc.length < 2147483648 by omega), wrap_up (show i < 4294967296 by omega)]
theorem vl_last {c : UInt8} (hs : s.size < 2147483648) (h : (tl s).drop i = [c]) (hd : c.toNat = 92) : labels_reader_value_l35 (s, (i : Int), -1, (), bI acc) = some (.inl (s, ((i + 1 : Nat) : Int), ((i + 1 : Nat) : Int), (), bI acc)) := by
  obtain ⟨h1, h2⟩ := drop_in h
  have h3 : i + 1 = s.size := by
    have := congrArg List.length h
    rw [List.length_drop, tl_len] at this
    simp at this; omega
  unfold labels_reader_value_l35
  rw [show decide ((i : Int) < (s.size : Int)) = true from decide_eq_true (by omega)]
  simp only [show decide ((-1 : Int) < 0) = true from rfl, Bool.and_self, cond_true, h2, Option.bind_some, lit (k := 34) (x := 34) rfl, lit (k := 92) (x := 92) rfl, bne, hd, decide_true, decide_false, cond_false, Bool.not_true, wrap_up (show i < 4294967296 by omega),
    show decide (((i + 1 : Nat) : Int) ≥ (s.size : Int)) = true from decide_eq_true (by omega), fail_on, show decide ((92 : Nat) = 34) = false from rfl]
theorem vl_esc {c d e : UInt8} {r : List UInt8} (hs : s.size < 2147483648) (ha : acc.length ≤ i) (h : (tl s).drop i = c :: d :: r) (hc : c.toNat = 92) (hd : (d.toNat = 110 ∧ e = 10) ∨ ((d.toNat = 92 ∨ d.toNat = 34) ∧ e = d)) :
    labels_reader_value_l35 (s, (i : Int), -1, (), bI acc) = some (.inl (s, ((i + 2 : Nat) : Int), -1, (), bI (acc ++ [e]))) := by
  obtain ⟨h1, h2⟩ := drop_in h
  obtain ⟨h3, h4⟩ := drop_in (drop_one h)
  unfold labels_reader_value_l35
  rw [show decide ((i : Int) < (s.size : Int)) = true from decide_eq_true (by omega)]
  simp only [show decide ((-1 : Int) < 0) = true from rfl, Bool.and_self, cond_true, h2, Option.bind_some, lit (k := 34) (x := 34) rfl, lit (k := 92) (x := 92) rfl, lit (k := 110) (x := 110) rfl, bne, hc, decide_true, decide_false, cond_false, Bool.not_true, wrap_up (show i < 4294967296 by omega), wrap_up (show i + 1 < 4294967296 by omega),
    show decide (((i + 1 : Nat) : Int) ≥ (s.size : Int)) = false from decide_eq_false (by omega), show decide ((92 : Nat) = 34) = false from rfl, h4]
  have hw := fun (c : UInt8) => write_eq (l := acc) (c := c) (show acc.length < 2147483648 by omega)
  rcases hd with ⟨hd, rfl⟩ | ⟨hd, rfl⟩
  · have := hw 10
    rw [show (((10 : UInt8).toNat : Nat) : Int) = 10 from rfl] at this
    simp only [hd, decide_true, cond_true, this, Option.bind_some, wrap_up (show i + 1 < 4294967296 by omega)]
  · have e1 : decide (e.toNat = 110) = false := decide_eq_false (by omega)
    have e2 : (decide (e.toNat = 92) || decide (e.toNat = 34)) = true := by rw [Bool.or_eq_true, decide_eq_true_eq, decide_eq_true_eq]; exact hd
    simp only [e1, e2, cond_true, cond_false, hw, Option.bind_some, wrap_up (show i + 1 < 4294967296 by omega)]
theorem vl_bad {c d : UInt8} {r : List UInt8} (hs : s.size < 2147483648) (h : (tl s).drop i = c :: d :: r) (hc : c.toNat = 92) (hd : d.toNat ≠ 110 ∧ d.toNat ≠ 92 ∧ d.toNat ≠ 34) :
    labels_reader_value_l35 (s, (i : Int), -1, (), bI acc) = some (.inl (s, ((i + 2 : Nat) : Int), (i : Int), (), bI acc)) := by
  obtain ⟨h1, h2⟩ := drop_in h
  obtain ⟨h3, h4⟩ := drop_in (drop_one h)
  unfold labels_reader_value_l35
  rw [show decide ((i : Int) < (s.size : Int)) = true from decide_eq_true (by omega)]
  simp only [show decide ((-1 : Int) < 0) = true from rfl, Bool.and_self, cond_true, h2, Option.bind_some, lit (k := 34) (x := 34) rfl, lit (k := 92) (x := 92) rfl, lit (k := 110) (x := 110) rfl, bne, hc, hd, decide_true, decide_false, cond_false, Bool.not_true, wrap_up (show i < 4294967296 by omega), wrap_up (show i + 1 < 4294967296 by omega),
    show decide (((i + 1 : Nat) : Int) ≥ (s.size : Int)) = false from decide_eq_false (by omega), show decide ((92 : Nat) = 34) = false from rfl, h4, Bool.or_self, wrapN (show (((i + 1 : Nat) : Int) - 1) = ((i : Nat) : Int) by omega) (by omega), fail_on]
end
/-- what a value comes to -/
def VP (s : ByteArray) (v : Nat ⊕ (List UInt8 × Nat)) (r : (ByteArray × Int × Int) ⊕ (ByteArray × S89)) : Prop := match v with
  | .inl p => ∃ j : Nat, j ≤ s.size ∧ ((r = .inl (s, (j : Int), (p : Int))) ∨ (r = .inl (s, (j : Int), -1) ∧ p = s.size))
  | .inr v => r = .inr (⟨v.1.toArray⟩, ⟨s, (v.2 : Int), -1⟩)
theorem vl_loop {s : ByteArray} (hs : s.size < 2147483648) : ∀ (rest : List UInt8) (i : Nat) (acc : List UInt8), (tl s).drop i = rest → i ≤ s.size → acc.length ≤ i →
    ∃ r, loopO labels_reader_value_l35 (s, (i : Int), -1, (), bI acc) = some r ∧ VP s (valL rest i acc) r
  | [], i, acc, h, hi, ha => by
    refine ⟨_, loopO_done (vl_end h), i, hi, .inr ⟨rfl, ?_⟩⟩
    have := List.drop_eq_nil_iff.1 h
    rw [tl_len] at this; omega
  | [c], i, acc, h, hi, ha => by
    have h1 := (drop_in h).1
    have h3 : i + 1 = s.size := by
      have := congrArg List.length h
      rw [List.length_drop, tl_len] at this
      simp at this; omega
    rw [valL]
    by_cases hc : c.toNat = 34
    · rw [if_pos hc]
      exact ⟨_, loopO_done (vl_quote hs h hc), rfl⟩
    · rw [if_neg hc]
      by_cases hd : c.toNat = 92
      · rw [loopO_step (vl_last hs h hd)]
        exact ⟨_, loopO_done vl_stop, i + 1, by omega, .inl rfl⟩
      · rw [loopO_step (vl_plain hs ha h hc hd)]
        exact ⟨_, loopO_done (vl_end (drop_one h)), i + 1, by omega, .inr ⟨rfl, h3⟩⟩
  | c :: d :: r, i, acc, h, hi, ha => by
    have h1 := (drop_in h).1
    have h2 := (drop_in (drop_one h)).1
    rw [valL]
    by_cases hc : c.toNat = 34
    · rw [if_pos hc]
      exact ⟨_, loopO_done (vl_quote hs h hc), rfl⟩
    · rw [if_neg hc]
      by_cases hd : c.toNat = 92
      · rw [if_neg (by omega)]
        by_cases k1 : d.toNat = 110
        · rw [if_pos k1, loopO_step (vl_esc hs ha h hd (.inl ⟨k1, rfl⟩))]
          exact vl_loop hs r (i + 2) _ (drop_one (drop_one h)) (by omega) (by simp; omega)
        · rw [if_neg k1]
          by_cases k2 : d.toNat = 92 ∨ d.toNat = 34
          · rw [if_pos k2, loopO_step (vl_esc hs ha h hd (.inr ⟨k2, rfl⟩))]
            exact vl_loop hs r (i + 2) _ (drop_one (drop_one h)) (by omega) (by simp; omega)
          · rw [if_neg k2, loopO_step (vl_bad hs h hd (by omega))]
            exact ⟨_, loopO_done vl_stop, i + 2, by omega, .inl rfl⟩
      · rw [if_pos hd, loopO_step (vl_plain hs ha h hc hd)]
        exact vl_loop hs (d :: r) (i + 1) _ (drop_one h) (by omega) (by simp; omega)
/-- values -/
theorem value_on {s : ByteArray} {i : Nat} (hs : s.size < 2147483648) (hi : i ≤ s.size) : match valP (tl s) i with
    | .inl p => ∃ j : Nat, j ≤ s.size ∧ labels_reader_value ⟨s, (i : Int), -1⟩ = some (⟨#[]⟩, ⟨s, (j : Int), (p : Int)⟩)
    | .inr v => labels_reader_value ⟨s, (i : Int), -1⟩ = some (⟨v.1.toArray⟩, ⟨s, (v.2 : Int), -1⟩) := by
  have hb := blk_le (l := tl s) (i := i) (by rw [tl_len]; exact hi)
  rw [tl_len] at hb
  have hw := want_on (c := 34) (show s.size < 4294967296 by omega) hi (by omega)
  rw [show ((34 : Nat) : Int) = 34 from rfl] at hw
  unfold valP labels_reader_value
  rw [hw]
  by_cases h1 : gB (tl s) (blk (tl s) i) = 34
  · have h2 := gB_in (l := tl s) (i := blk (tl s) i) (by omega)
    rw [tl_len] at h2
    obtain ⟨r, k1, k2⟩ := vl_loop hs _ (blk (tl s) i + 1) [] rfl (by omega) (by simp)
    rw [show bI [] = ([] : List Int) from rfl] at k1
    simp only [h1, if_true, Option.bind_some, k1]
    cases hv : valL ((tl s).drop (blk (tl s) i + 1)) (blk (tl s) i + 1) [] with
    | inl p =>
      rw [hv] at k2
      obtain ⟨j, hj, rfl | ⟨rfl, hp⟩⟩ := k2
      · exact ⟨j, hj, by simp only [fail_off, Option.bind_some]⟩
      · exact ⟨j, hj, by rw [hp]; simp only [fail_on, Option.bind_some]⟩
    | inr v =>
      rw [hv] at k2
      have k3 : r = _ := k2
      subst k3
      rfl
  · rw [if_neg h1]
    simp only [h1, if_false, Option.bind_some]
    refine ⟨blk (tl s) i, hb.2, ?_⟩
    rw [loopO_done vl_stop]
    simp only [Option.bind_some, fail_off]
/-- what a list in braces comes to -/
def DP (s : ByteArray) (v : Nat ⊕ (List S49 × Nat)) (r : ((List S49) × ByteArray × Int × Int) ⊕ ((List S49) × S89)) : Prop := match v with
  | .inl p => ∃ (m : List S49) (j : Nat), m.length ≤ j ∧ j ≤ s.size ∧ r = .inr (m, ⟨s, (j : Int), (p : Int)⟩)
  | .inr v => v.1.length ≤ v.2 ∧ v.2 ≤ s.size ∧ (r = .inl (v.1, s, (v.2 : Int), -1) ∨ r = .inr (v.1, ⟨s, (v.2 : Int), -1⟩))
theorem set_loop {s : ByteArray} (hs : s.size < 2147483648) (hM : ∀ t : ByteArray, labels_Metric t = some (namedB t 256 true)) : ∀ (f i : Nat) (acc : List S49), s.size < f + i → i ≤ s.size → acc.length ≤ i →
    ∃ r, loopO labels_reader_braces_l29 (s, (i : Int), -1, acc) = some r ∧ DP s (setL f s i acc) r
  | 0, i, acc, hf, hi, ha => absurd hf (by omega)
  | f + 1, i, acc, hf, hi, ha => by
    have hs4 : s.size < 4294967296 := by omega
    have hb := blk_le (l := tl s) (i := i) (by rw [tl_len]; exact hi)
    rw [tl_len] at hb
    have n1 := next_on (c := 125) hs4 hi (by omega)
    rw [show ((125 : Nat) : Int) = 125 from rfl] at n1
    rw [setL]
    by_cases h1 : gB (tl s) (blk (tl s) i) = 125
    · have h2 := gB_in (l := tl s) (i := blk (tl s) i) (by omega)
      rw [tl_len] at h2
      rw [if_pos h1]
      refine ⟨_, loopO_done (r := .inl (acc, s, ((blk (tl s) i + 1 : Nat) : Int), -1)) ?_, by simp only; omega, h2, .inl rfl⟩
      unfold labels_reader_braces_l29
      simp only [n1, h1, if_true, Option.bind_some, Bool.not_true, cond_false]
    · rw [if_neg h1]
      have hr := runN_le (l := tl s) (c := false) (i := blk (tl s) i) (by rw [tl_len]; exact hb.2)
      rw [tl_len] at hr
      have hb2 := blk_le (l := tl s) (i := runN (tl s) false (blk (tl s) i)) (by rw [tl_len]; exact hr.2)
      rw [tl_len] at hb2
      have m1 := name_on (m := 64) (col := false) hs4 hb.2 rfl hM
      rw [blk_blk] at m1
      unfold itemP
      by_cases h3 : namedB (s.extract (blk (tl s) i) (runN (tl s) false (blk (tl s) i))) 64 false = true
      · rw [if_pos h3]
        simp only [h3, if_true] at m1
        have w1 := want_on (c := 61) hs4 hr.2 (by omega)
        rw [show ((61 : Nat) : Int) = 61 from rfl] at w1
        by_cases h4 : gB (tl s) (blk (tl s) (runN (tl s) false (blk (tl s) i))) = 61
        · have h5 := gB_in (l := tl s) (i := blk (tl s) (runN (tl s) false (blk (tl s) i))) (by omega)
          rw [tl_len] at h5
          rw [if_pos h4]
          simp only [h4, if_true] at w1
          have v1 := value_on (i := blk (tl s) (runN (tl s) false (blk (tl s) i)) + 1) hs h5
          cases hv : valP (tl s) (blk (tl s) (runN (tl s) false (blk (tl s) i)) + 1) with
          | inl p =>
            rw [hv] at v1
            obtain ⟨j, hj, v1⟩ := v1
            refine ⟨_, loopO_done (r := .inr ([], ⟨s, (j : Int), (p : Int)⟩)) ?_, [], j, by simp, hj, rfl⟩
            unfold labels_reader_braces_l29
            simp only [n1, h1, if_false, Option.bind_some, Bool.not_false, cond_true, m1, w1, v1, off_ge]
          | inr v =>
            rw [hv] at v1
            simp only at v1
            have hp := valP_le (by rw [tl_len]; omega) hv
            rw [tl_len] at hp
            have hb3 := blk_le (l := tl s) (i := v.2) (by rw [tl_len]; exact hp.2)
            rw [tl_len] at hb3
            have n2 := next_on (c := 44) hs4 hp.2 (by omega)
            rw [show ((44 : Nat) : Int) = 44 from rfl] at n2
            have w2 := want_on (c := 125) hs4 hb3.2 (by omega)
            rw [show ((125 : Nat) : Int) = 125 from rfl, blk_blk] at w2
            have a1 : app acc [(⟨s.extract (blk (tl s) i) (runN (tl s) false (blk (tl s) i)), ⟨v.1.toArray⟩⟩ : S49)] = some (acc ++ [⟨s.extract (blk (tl s) i) (runN (tl s) false (blk (tl s) i)), ⟨v.1.toArray⟩⟩]) := app_eq (by simp; omega)
            simp only
            by_cases h6 : gB (tl s) (blk (tl s) v.2) = 44
            · have h7 := gB_in (l := tl s) (i := blk (tl s) v.2) (by omega)
              rw [tl_len] at h7
              rw [if_pos h6]
              simp only [h6, if_true] at n2
              rw [loopO_step (s' := (s, ((blk (tl s) v.2 + 1 : Nat) : Int), -1, acc ++ [⟨s.extract (blk (tl s) i) (runN (tl s) false (blk (tl s) i)), ⟨v.1.toArray⟩⟩])) (by
                unfold labels_reader_braces_l29
                simp only [n1, h1, if_false, Option.bind_some, Bool.not_false, cond_true, m1, w1, v1, show decide ((-1 : Int) ≥ 0) = false from rfl, cond_false, a1, n2, Bool.not_true])]
              exact set_loop hs hM f (blk (tl s) v.2 + 1) _ (by omega) (by omega) (by simp; omega)
            · rw [if_neg h6]
              simp only [h6, if_false] at n2
              by_cases h8 : gB (tl s) (blk (tl s) v.2) = 125
              · have h7 := gB_in (l := tl s) (i := blk (tl s) v.2) (by omega)
                rw [tl_len] at h7
                rw [if_pos h8]
                simp only [h8, if_true] at w2
                refine ⟨_, loopO_done (r := .inr (acc ++ [⟨s.extract (blk (tl s) i) (runN (tl s) false (blk (tl s) i)), ⟨v.1.toArray⟩⟩], ⟨s, ((blk (tl s) v.2 + 1 : Nat) : Int), -1⟩)) ?_, by simp; omega, by simp only; omega, .inr rfl⟩
                unfold labels_reader_braces_l29
                simp only [n1, h1, if_false, Option.bind_some, Bool.not_false, cond_true, m1, w1, v1, show decide ((-1 : Int) ≥ 0) = false from rfl, cond_false, a1, n2, w2]
              · rw [if_neg h8]
                simp only [h8, if_false] at w2
                refine ⟨_, loopO_done (r := .inr (acc ++ [⟨s.extract (blk (tl s) i) (runN (tl s) false (blk (tl s) i)), ⟨v.1.toArray⟩⟩], ⟨s, ((blk (tl s) v.2 : Nat) : Int), ((blk (tl s) v.2 : Nat) : Int)⟩)) ?_, _, blk (tl s) v.2, by simp; omega, hb3.2, rfl⟩
                unfold labels_reader_braces_l29
                simp only [n1, h1, if_false, Option.bind_some, Bool.not_false, cond_true, m1, w1, v1, show decide ((-1 : Int) ≥ 0) = false from rfl, cond_false, a1, n2, w2]
        · rw [if_neg h4]
          simp only [h4, if_false] at w1
          refine ⟨_, loopO_done (r := .inr ([], ⟨s, ((blk (tl s) (runN (tl s) false (blk (tl s) i)) : Nat) : Int), ((blk (tl s) (runN (tl s) false (blk (tl s) i)) : Nat) : Int)⟩)) ?_, [], _, by simp, hb2.2, rfl⟩
          unfold labels_reader_braces_l29
          simp only [n1, h1, if_false, Option.bind_some, Bool.not_false, cond_true, m1, w1, value_off, off_ge]
      · rw [if_neg h3]
        simp only [h3, if_false, Bool.false_eq_true] at m1
        refine ⟨_, loopO_done (r := .inr ([], ⟨s, ((runN (tl s) false (blk (tl s) i) : Nat) : Int), ((blk (tl s) i : Nat) : Int)⟩)) ?_, [], _, by simp, hr.2, rfl⟩
        unfold labels_reader_braces_l29
        simp only [n1, h1, if_false, Option.bind_some, Bool.not_false, cond_true, m1, want_off, value_off, off_ge]
end Go.Proofs.YtnlkfajnaelnnaaGreatDoor

/- Plain laws: the document's reader reads as the lists say: places, names, values. -/
set_option linter.unusedVariables false
set_option linter.unusedSimpArgs false
set_option maxRecDepth 100000
namespace Go.Proofs.YtnlkfajnaelnnaaGreatDoor
open Go.GB Go.Lib
section
variable {s : ByteArray} {i : Nat} {acc : List UInt8}
end
end Go.Proofs.YtnlkfajnaelnnaaGreatDoor

/- Plain laws: the program's Parse, up to the labels that are read. -/
set_option linter.unusedVariables false
set_option linter.unusedSimpArgs false
set_option maxRecDepth 100000
namespace Go.Proofs.YtnlkfajnaelnnaaGreatDoor
open Go.GB Go.Lib
theorem braces_on {s : ByteArray} {i : Nat} (hs : s.size < 2147483648) (hM : ∀ t : ByteArray, labels_Metric t = some (namedB t 256 true)) (hi : i ≤ s.size) : match setL (s.size + 1) s i [] with
    | .inl p => ∃ (m : List S49) (j : Nat), m.length ≤ s.size ∧ j ≤ s.size ∧ labels_reader_braces ⟨s, (i : Int), -1⟩ = some (m, ⟨s, (j : Int), (p : Int)⟩)
    | .inr v => v.1.length ≤ s.size ∧ v.2 ≤ s.size ∧ labels_reader_braces ⟨s, (i : Int), -1⟩ = some (v.1, ⟨s, (v.2 : Int), -1⟩) := by
  obtain ⟨r, h1, h2⟩ := set_loop hs hM (s.size + 1) i [] (by omega) hi (by simp)
  cases hv : setL (s.size + 1) s i [] with
  | inl p =>
    rw [hv] at h2
    obtain ⟨m, j, h3, h4, rfl⟩ := h2
    refine ⟨m, j, by omega, h4, ?_⟩
    unfold labels_reader_braces
    simp only [h1, Option.bind_some]
  | inr v =>
    rw [hv] at h2
    obtain ⟨h3, h4, rfl | rfl⟩ := h2 <;>
    · refine ⟨by omega, h4, ?_⟩
      unfold labels_reader_braces
      simp only [h1, Option.bind_some]
/-- what is made of the labels -/
noncomputable def afterP (m : List S49) : Option (List S49 × Int × Int) :=
  Option.bind (labels_sorted m) fun (y103 : (List S49) × Bool) =>
      bif y103.2 then
      (some ([], 6, 0))
      else
      (Option.bind (labels_Right y103.1) fun (y113 : Int × Int) =>
        bif (y113.1 != 0) then
        (some ([], y113.1, y113.2))
        else
        (some (y103.1, 0, 0)))
noncomputable def tailP (a0 : ByteArray) (j51 : (List S49) × ByteArray × Int × Int) : Option (List S49 × Int × Int) :=
    Option.bind (labels_reader_blanks (⟨j51.2.1, j51.2.2.1, j51.2.2.2⟩ : S89)) fun (y76 : S89) =>
    Option.bind (bif ((decide (y76.f2 < 0)) && (decide (y76.f1 < (a0.size : Int)))) then
      (Option.bind (labels_reader_fail y76 y76.f1) fun (y93 : S89) =>
        some (y93.f0, y93.f1, y93.f2))
      else
      (some (y76.f0, y76.f1, y76.f2))) fun (j87 : ByteArray × Int × Int) =>
    bif (decide (j87.2.2 ≥ 0)) then
    (some ([], 3, j87.2.2))
    else
    afterP j51.1
theorem tail_off {s : ByteArray} {m : List S49} {j p : Nat} (hs : s.size < 4294967296) (hj : j ≤ s.size) : tailP s (m, s, (j : Int), (p : Int)) = some ([], 3, (p : Int)) := by
  unfold tailP
  simp only [blanks_eq hs hj, Option.bind_some, show decide (((p : Nat) : Int) < 0) = false from decide_eq_false (by omega), Bool.false_and, cond_false, off_ge, cond_true]
/-- what is answered, by the labels or the fault -/
noncomputable def answP (v : Nat ⊕ List S49) : Option (List S49 × Int × Int) := match v with
  | .inl p => some ([], 3, (p : Int))
  | .inr m => afterP m
theorem tail_on {s : ByteArray} {m : List S49} {j : Nat} (hs : s.size < 4294967296) (hj : j ≤ s.size) : tailP s (m, s, (j : Int), -1) = answP (finL s j m) := by
  unfold tailP finL
  have hb := blk_le (l := tl s) (i := j) (by rw [tl_len]; exact hj)
  by_cases h : blk (tl s) j < s.size
  · simp only [blanks_eq hs hj, Option.bind_some, show decide ((-1 : Int) < 0) = true from rfl, show decide (((blk (tl s) j : Nat) : Int) < (s.size : Int)) = true from decide_eq_true (by omega), Bool.and_self, cond_true, fail_on, off_ge, if_pos h]
    rfl
  · simp only [blanks_eq hs hj, Option.bind_some, show decide ((-1 : Int) < 0) = true from rfl, show decide (((blk (tl s) j : Nat) : Int) < (s.size : Int)) = false from decide_eq_false (by omega), Bool.and_false, cond_false, show decide ((-1 : Int) ≥ 0) = false from rfl, if_neg h]
    rfl
/-- behind the first brace -/
theorem tail_braces {s : ByteArray} {i : Nat} {l : List S49} (hs : s.size < 2147483640) (hM : ∀ t : ByteArray, labels_Metric t = some (namedB t 256 true)) (hi : i ≤ s.size) (hl : l.length ≤ 1) :
    (Option.bind (Option.bind (labels_reader_braces ⟨s, (i : Int), -1⟩) fun (y61 : (List S49) × S89) =>
        Option.bind (app l y61.1) fun (zs70 : List S49) =>
        some (zs70, y61.2.f0, y61.2.f1, y61.2.f2)) (tailP s)) = answP (bracesL s i l) := by
  have h1 := braces_on (i := i) (show s.size < 2147483648 by omega) hM hi
  unfold bracesL
  cases hv : setL (s.size + 1) s i [] with
  | inl p =>
    rw [hv] at h1
    obtain ⟨m, j, h2, h3, h4⟩ := h1
    simp only [h4, Option.bind_some, app_eq (show l.length + m.length ≤ 2147483648 by omega), tail_off (show s.size < 4294967296 by omega) h3]
    rfl
  | inr v =>
    rw [hv] at h1
    obtain ⟨h2, h3, h4⟩ := h1
    simp only [h4, Option.bind_some, app_eq (show l.length + v.1.length ≤ 2147483648 by omega), tail_on (show s.size < 4294967296 by omega) h3]
theorem Parse_read {s : ByteArray} (hs : s.size ≤ 65536) (hM : ∀ t : ByteArray, labels_Metric t = some (namedB t 256 true)) : labels_Parse s = answP (parseL s) := by
  have hs4 : s.size < 4294967296 := by omega
  have b0 := blanks_eq (s := s) (b := -1) (i := 0) hs4 (by omega)
  rw [show ((0 : Nat) : Int) = 0 from rfl] at b0
  have hb := blk_le (l := tl s) (i := 0) (by omega)
  rw [tl_len] at hb
  unfold labels_Parse parseL
  rw [show decide ((s.size : Int) > 65536) = false from decide_eq_false (by omega)]
  simp only [cond_false, b0, Option.bind_some]
  by_cases h1 : gB (tl s) (blk (tl s) 0) = 123
  · have h2 := gB_in (l := tl s) (i := blk (tl s) 0) (by omega)
    rw [tl_len] at h2
    have n1 := next_on (c := 123) hs4 hb.2 (by omega)
    rw [show ((123 : Nat) : Int) = 123 from rfl, blk_blk, if_pos h1] at n1
    rw [if_pos h1, show decide (((blk (tl s) 0 : Nat) : Int) < (s.size : Int)) = true from decide_eq_true (by omega)]
    simp only [cond_true, bx_tl h2, h1, Option.bind_some, show (((123 : Nat) : Int) == 123) = true from rfl, Bool.not_true, cond_false, n1]
    exact tail_braces (by omega) hM (by omega) (by simp)
  · rw [if_neg h1]
    have hj : (bif decide (((blk (tl s) 0 : Nat) : Int) < (s.size : Int)) then Option.bind (bx s ((blk (tl s) 0 : Nat) : Int)) fun (c14 : Int) => some (c14 == 123) else some false) = some false := by
      by_cases h2 : blk (tl s) 0 < s.size
      · rw [decide_eq_true (show ((blk (tl s) 0 : Nat) : Int) < (s.size : Int) by omega)]
        simp only [cond_true, bx_tl h2, Option.bind_some, lit (k := 123) (x := 123) rfl, h1, decide_false]
      · rw [decide_eq_false (show ¬((blk (tl s) 0 : Nat) : Int) < (s.size : Int) by omega)]; rfl
    have hr := runN_le (l := tl s) (c := true) (i := blk (tl s) 0) (by rw [tl_len]; exact hb.2)
    rw [tl_len] at hr
    have hb2 := blk_le (l := tl s) (i := runN (tl s) true (blk (tl s) 0)) (by rw [tl_len]; exact hr.2)
    rw [tl_len] at hb2
    have m1 := name_on (m := 256) (col := true) hs4 hb.2 rfl hM
    rw [blk_blk] at m1
    have a1 : app ([] : List S49) [(⟨metricT, s.extract (blk (tl s) 0) (runN (tl s) true (blk (tl s) 0))⟩ : S49)] = some [⟨metricT, s.extract (blk (tl s) 0) (runN (tl s) true (blk (tl s) 0))⟩] := app_eq (by simp)
    unfold metricT at a1
    simp only [hj, Option.bind_some, Bool.not_false, cond_true, m1, a1]
    by_cases h3 : namedB (s.extract (blk (tl s) 0) (runN (tl s) true (blk (tl s) 0))) 256 true = true
    · have n1 := next_on (c := 123) hs4 hb2.2 (by omega)
      rw [show ((123 : Nat) : Int) = 123 from rfl, blk_blk] at n1
      simp only [h3, if_true, blanks_eq hs4 hr.2, Option.bind_some, n1]
      by_cases h4 : gB (tl s) (blk (tl s) (runN (tl s) true (blk (tl s) 0))) = 123
      · have h5 := gB_in (l := tl s) (i := blk (tl s) (runN (tl s) true (blk (tl s) 0))) (by omega)
        rw [tl_len] at h5
        simp only [h4, if_true, cond_true]
        exact tail_braces (l := [⟨metricT, s.extract (blk (tl s) 0) (runN (tl s) true (blk (tl s) 0))⟩]) (by omega) hM (by omega) (by simp)
      · simp only [h4, if_false, cond_false, Option.bind_some]
        have := tail_on (s := s) (m := [⟨metricT, s.extract (blk (tl s) 0) (runN (tl s) true (blk (tl s) 0))⟩]) (j := blk (tl s) (runN (tl s) true (blk (tl s) 0))) hs4 hb2.2
        rw [show finL s (blk (tl s) (runN (tl s) true (blk (tl s) 0))) [⟨metricT, s.extract (blk (tl s) 0) (runN (tl s) true (blk (tl s) 0))⟩] = finL s (runN (tl s) true (blk (tl s) 0)) [⟨metricT, s.extract (blk (tl s) 0) (runN (tl s) true (blk (tl s) 0))⟩] by unfold finL; rw [blk_blk]] at this
        exact this
    · simp only [h3, if_false, Bool.false_eq_true, blanks_eq hs4 hr.2, Option.bind_some, next_off, cond_false]
      exact tail_off hs4 hb2.2
end Go.Proofs.YtnlkfajnaelnnaaGreatDoor

/- Plain laws: the document's reader: braces, and Parse up to the labels that are read. -/
set_option linter.unusedVariables false
set_option linter.unusedSimpArgs false
set_option maxRecDepth 100000
namespace Go.Proofs.YtnlkfajnaelnnaaGreatDoor
open Go.GB Go.Lib
end Go.Proofs.YtnlkfajnaelnnaaGreatDoor

/- Stable sorting: what is a stable sort of a list, and that there is one alone. -/
set_option linter.unusedVariables false
set_option linter.unusedSimpArgs false
namespace Go.GB
section
variable {α : Type}
/-- A strict weak order. -/
structure Swo (lt : α → α → Bool) : Prop where
  asymm : ∀ a b, lt a b = true → lt b a = false
  trans : ∀ a b c, lt b a = false → lt c b = false → lt c a = false
variable {lt : α → α → Bool}
theorem Swo.irrefl (h : Swo lt) (a : α) : lt a a = false := by
  cases e : lt a a with
  | false => rfl
  | true => have := h.asymm a a e; rw [e] at this; exact this
/-- x < y, y ≤ z: x < z. -/
theorem Swo.lt_le (h : Swo lt) {a b c : α} (h1 : lt a b = true) (h2 : lt c b = false) : lt a c = true := by
  cases e : lt a c with
  | true => rfl
  | false => have := h.trans b c a h2 e; rw [h1] at this; cases this
theorem Swo.le_lt (h : Swo lt) {a b c : α} (h1 : lt b a = false) (h2 : lt b c = true) : lt a c = true := by
  cases e : lt a c with
  | true => rfl
  | false => have := h.trans c a b e h1; rw [h2] at this; cases this
def eqv (lt : α → α → Bool) (k x : α) : Bool := !lt k x && !lt x k
theorem eqv_iff {k x : α} : eqv lt k x = true ↔ lt k x = false ∧ lt x k = false := by simp [eqv]
theorem Swo.eqv_self (h : Swo lt) (a : α) : eqv lt a a = true := by simp [eqv, h.irrefl]
def Sorted (lt : α → α → Bool) (l : List α) : Prop := l.Pairwise fun a b => lt b a = false
def FE (lt : α → α → Bool) (l m : List α) : Prop := ∀ k, l.filter (eqv lt k) = m.filter (eqv lt k)
theorem FE.refl (l : List α) : FE lt l l := fun _ => rfl
theorem FE.symm {l m : List α} (h : FE lt l m) : FE lt m l := fun k => (h k).symm
theorem FE.trans {l m n : List α} (h : FE lt l m) (h' : FE lt m n) : FE lt l n := fun k => (h k).trans (h' k)
theorem FE.append {l m l' m' : List α} (h : FE lt l m) (h' : FE lt l' m') : FE lt (l ++ l') (m ++ m') := fun k => by rw [List.filter_append, List.filter_append, h k, h' k]
theorem FE.mid {P S l m : List α} (h : FE lt l m) : FE lt (P ++ l ++ S) (P ++ m ++ S) := ((FE.refl P).append h).append (FE.refl S)
theorem FE.mem (hs : Swo lt) {l m : List α} (h : FE lt l m) {x : α} (hx : x ∈ l) : x ∈ m := by
  have : x ∈ l.filter (eqv lt x) := List.mem_filter.2 ⟨hx, hs.eqv_self x⟩
  rw [h x] at this
  exact (List.mem_filter.1 this).1
/-- Two parts of which one stands all below the other change places. -/
theorem FE.swap (hs : Swo lt) {X Y : List α} (h : ∀ x ∈ X, ∀ y ∈ Y, lt y x = true) : FE lt (X ++ Y) (Y ++ X) := fun k => by
  rw [List.filter_append, List.filter_append]
  by_cases hx : X.filter (eqv lt k) = []
  · rw [hx]; simp
  · have hy : Y.filter (eqv lt k) = [] := by
      rw [List.filter_eq_nil_iff]
      intro y hy hk
      obtain ⟨x, hx'⟩ := List.exists_mem_of_ne_nil _ hx
      obtain ⟨hxX, hxk⟩ := List.mem_filter.1 hx'
      have h1 := h x hxX y hy
      have h2 := hs.trans x k y (eqv_iff.1 hxk).1 (eqv_iff.1 hk).2
      rw [h1] at h2; cases h2
    rw [hy]; simp
theorem Sorted.uniq (hs : Swo lt) : ∀ {a b : List α}, Sorted lt a → Sorted lt b → FE lt a b → a = b
  | [], [], _, _, _ => rfl
  | [], y :: b, _, _, h => by have := h.symm.mem hs (x := y) (by simp); cases this
  | x :: a, [], _, _, h => by have := h.mem hs (x := x) (by simp); cases this
  | x :: a, y :: b, ha, hb, h => by
    have ha' := List.pairwise_cons.1 ha
    have hb' := List.pairwise_cons.1 hb
    have hxy : lt x y = false := by
      rcases List.mem_cons.1 (h.mem hs (x := x) (by simp)) with rfl | hx
      · exact hs.irrefl _
      · exact hb'.1 x hx
    have hyx : lt y x = false := by
      rcases List.mem_cons.1 (h.symm.mem hs (x := y) (by simp)) with rfl | hy
      · exact hs.irrefl _
      · exact ha'.1 y hy
    have e1 := h x
    rw [List.filter_cons_of_pos (hs.eqv_self x), List.filter_cons_of_pos (eqv_iff.2 ⟨hxy, hyx⟩)] at e1
    simp only [List.cons.injEq] at e1
    obtain ⟨rfl, _⟩ := e1
    congr 1
    refine Sorted.uniq hs ha'.2 hb'.2 fun k => ?_
    have e2 := h k
    by_cases hk : eqv lt k x = true
    · rw [List.filter_cons_of_pos hk, List.filter_cons_of_pos hk] at e2
      simpa using e2
    · rw [List.filter_cons_of_neg hk, List.filter_cons_of_neg hk] at e2
      exact e2
/-- m is l, stably sorted. -/
def StS (lt : α → α → Bool) (l m : List α) : Prop := FE lt m l ∧ Sorted lt m
theorem StS.uniq (hs : Swo lt) {l a b : List α} (ha : StS lt l a) (hb : StS lt l b) : a = b := Sorted.uniq hs ha.2 hb.2 (ha.1.trans hb.1.symm)
theorem FE.length (hs : Swo lt) : ∀ (n : Nat) {a b : List α}, a.length = n → FE lt a b → b.length = n
  | 0, a, b, hn, h => by
    cases b with
    | nil => rfl
    | cons y b => have := h.symm.mem hs (x := y) (by simp); rw [List.length_eq_zero_iff.1 hn] at this; cases this
  | n + 1, a, b, hn, h => by
    cases a with
    | nil => cases hn
    | cons x a =>
      have hx := h.mem hs (x := x) (by simp)
      have hne : b.filter (eqv lt x) ≠ [] := fun e => by
        have : x ∈ b.filter (eqv lt x) := List.mem_filter.2 ⟨hx, hs.eqv_self x⟩
        rw [e] at this; cases this
      -- the first of x's class in b is x
      have e1 := h x
      rw [List.filter_cons_of_pos (hs.eqv_self x)] at e1
      obtain ⟨b1, b2, hb, hb1⟩ : ∃ b1 b2, b = b1 ++ x :: b2 ∧ ∀ z ∈ b1, eqv lt x z = false := by
        clear hn h hx hne
        induction b with
        | nil => cases e1
        | cons z b ih =>
          by_cases hz : eqv lt x z = true
          · rw [List.filter_cons_of_pos hz] at e1
            simp only [List.cons.injEq] at e1
            obtain ⟨rfl, _⟩ := e1
            exact ⟨[], b, rfl, fun z hz => by cases hz⟩
          · rw [List.filter_cons_of_neg hz] at e1
            obtain ⟨b1, b2, rfl, h1⟩ := ih e1
            exact ⟨z :: b1, b2, rfl, fun w hw => by
              rcases List.mem_cons.1 hw with rfl | hw
              · simpa using hz
              · exact h1 w hw⟩
      have h2 : FE lt a (b1 ++ b2) := fun k => by
        have e2 := h k
        rw [hb, List.filter_append] at e2
        rw [List.filter_append]
        by_cases hk : eqv lt k x = true
        · rw [List.filter_cons_of_pos hk, List.filter_cons_of_pos hk] at e2
          have h0 : b1.filter (eqv lt k) = [] := by
            rw [List.filter_eq_nil_iff]
            intro z hz hkz
            have h1 := hb1 z hz
            have h3 := eqv_iff.1 hk
            have h4 := eqv_iff.1 hkz
            have : eqv lt x z = true := eqv_iff.2 ⟨hs.trans z k x h4.1 h3.2, hs.trans x k z h3.1 h4.2⟩
            rw [this] at h1; cases h1
          rw [h0] at e2 ⊢
          simpa using e2
        · rw [List.filter_cons_of_neg hk, List.filter_cons_of_neg hk] at e2
          exact e2
      have := FE.length hs n (by simpa using hn) h2
      rw [hb]; simp at this ⊢; omega
end
end Go.GB

/- Stable sorting: the library's swaps, rotations and binary searches. -/
set_option linter.unusedVariables false
set_option linter.unusedSimpArgs false
namespace Go.GB
noncomputable def gswapRange_l25 {α : Type} (cf : α → α → Int) (a1 : Int) (a2 : Int) (a3 : Int) : ((List α) × Int) → Option (((List α) × Int) ⊕ ((List α))) := fun s10 =>
  bif (decide (s10.2 < a3)) then
  (Option.bind (ix s10.1 (IntKind.wrap .i64 (a2 + s10.2))) fun (x28 : α) =>
    Option.bind (ix s10.1 (IntKind.wrap .i64 (a1 + s10.2))) fun (x37 : α) =>
    Option.bind (ix s10.1 (IntKind.wrap .i64 (a1 + s10.2))) fun (x46 : α) =>
    Option.bind (ix (lset s10.1 (IntKind.wrap .i64 (a1 + s10.2)) x28) (IntKind.wrap .i64 (a2 + s10.2))) fun (x58 : α) =>
    some (Sum.inl ((lset (lset s10.1 (IntKind.wrap .i64 (a1 + s10.2)) x28) (IntKind.wrap .i64 (a2 + s10.2)) x37), (IntKind.wrap .i64 (s10.2 + 1)))))
  else
  (some (Sum.inr s10.1))
noncomputable def gswapRange {α : Type} (cf : α → α → Int) (a0 : List α) (a1 : Int) (a2 : Int) (a3 : Int) : Option (List α) :=
  Option.bind (loopO (gswapRange_l25 cf a1 a2 a3) (a0, 0)) fun (r8 : (List α)) =>
  some r8
noncomputable def grotate_l25 {α : Type} (cf : α → α → Int) (a2 : Int) : ((List α) × Int × Int) → Option (((List α) × Int × Int) ⊕ ((List α) × Int)) := fun s10 =>
  bif (s10.2.1 != s10.2.2) then
  (Option.bind (bif (decide (s10.2.1 > s10.2.2)) then
      (Option.bind (gswapRange cf s10.1 (IntKind.wrap .i64 (a2 - s10.2.1)) a2 s10.2.2) fun (y37 : (List α)) =>
        some (y37, (IntKind.wrap .i64 (s10.2.1 - s10.2.2)), s10.2.2))
      else
      (Option.bind (gswapRange cf s10.1 (IntKind.wrap .i64 (a2 - s10.2.1)) (IntKind.wrap .i64 ((IntKind.wrap .i64 (a2 + s10.2.2)) - s10.2.1)) s10.2.1) fun (y45 : (List α)) =>
        some (y45, s10.2.1, (IntKind.wrap .i64 (s10.2.2 - s10.2.1))))) fun (j28 : (List α) × Int × Int) =>
    some (Sum.inl (j28.1, j28.2.1, j28.2.2)))
  else
  (some (Sum.inr (s10.1, s10.2.1)))
noncomputable def grotate {α : Type} (cf : α → α → Int) (a0 : List α) (a1 : Int) (a2 : Int) (a3 : Int) : Option (List α) :=
  Option.bind (loopO (grotate_l25 cf a2) (a0, (IntKind.wrap .i64 (a2 - a1)), (IntKind.wrap .i64 (a3 - a2)))) fun (r8 : (List α) × Int) =>
  Option.bind (gswapRange cf r8.1 (IntKind.wrap .i64 (a2 - r8.2)) a2 r8.2) fun (y53 : (List α)) =>
  some y53
noncomputable def gsymMerge_l17 {α : Type} (cf : α → α → Int) (a0 : List α) (a1 : Int) : (Int × Int) → Option ((Int × Int) ⊕ (Int)) := fun s8 =>
  bif (decide (s8.1 < s8.2)) then
  (Option.bind (ix a0 (IntKind.wrap .i64 (shr .u64 (IntKind.wrap .u64 (IntKind.wrap .i64 (s8.1 + s8.2))) 1))) fun (x20 : α) =>
    Option.bind (ix a0 a1) fun (x29 : α) =>
    Option.bind (bif (decide ((cf x20 x29) < 0)) then
      (some ((IntKind.wrap .i64 ((IntKind.wrap .i64 (shr .u64 (IntKind.wrap .u64 (IntKind.wrap .i64 (s8.1 + s8.2))) 1)) + 1)), s8.2))
      else
      (some (s8.1, (IntKind.wrap .i64 (shr .u64 (IntKind.wrap .u64 (IntKind.wrap .i64 (s8.1 + s8.2))) 1))))) fun (j38 : Int × Int) =>
    some (Sum.inl (j38.1, j38.2)))
  else
  (some (Sum.inr s8.1))
noncomputable def gsymMerge_l68 {α : Type} (cf : α → α → Int) (r6 : Int) : ((List α) × Int) → Option (((List α) × Int) ⊕ ((List α))) := fun s53 =>
  bif (decide (s53.2 < (IntKind.wrap .i64 (r6 - 1)))) then
  (Option.bind (ix s53.1 (IntKind.wrap .i64 (s53.2 + 1))) fun (x71 : α) =>
    Option.bind (ix s53.1 s53.2) fun (x80 : α) =>
    Option.bind (ix s53.1 s53.2) fun (x89 : α) =>
    Option.bind (ix (lset s53.1 s53.2 x71) (IntKind.wrap .i64 (s53.2 + 1))) fun (x101 : α) =>
    some (Sum.inl ((lset (lset s53.1 s53.2 x71) (IntKind.wrap .i64 (s53.2 + 1)) x80), (IntKind.wrap .i64 (s53.2 + 1)))))
  else
  (some (Sum.inr s53.1))
noncomputable def gsymMerge_l129 {α : Type} (cf : α → α → Int) (a0 : List α) (a2 : Int) : (Int × Int) → Option ((Int × Int) ⊕ (Int)) := fun s120 =>
  bif (decide (s120.1 < s120.2)) then
  (Option.bind (ix a0 a2) fun (x132 : α) =>
    Option.bind (ix a0 (IntKind.wrap .i64 (shr .u64 (IntKind.wrap .u64 (IntKind.wrap .i64 (s120.1 + s120.2))) 1))) fun (x141 : α) =>
    Option.bind (bif (!(decide ((cf x132 x141) < 0))) then
      (some ((IntKind.wrap .i64 ((IntKind.wrap .i64 (shr .u64 (IntKind.wrap .u64 (IntKind.wrap .i64 (s120.1 + s120.2))) 1)) + 1)), s120.2))
      else
      (some (s120.1, (IntKind.wrap .i64 (shr .u64 (IntKind.wrap .u64 (IntKind.wrap .i64 (s120.1 + s120.2))) 1))))) fun (j150 : Int × Int) =>
    some (Sum.inl (j150.1, j150.2)))
  else
  (some (Sum.inr s120.1))
noncomputable def gsymMerge_l180 {α : Type} (cf : α → α → Int) (r118 : Int) : ((List α) × Int) → Option (((List α) × Int) ⊕ ((List α))) := fun s165 =>
  bif (decide (s165.2 > r118)) then
  (Option.bind (ix s165.1 (IntKind.wrap .i64 (s165.2 - 1))) fun (x183 : α) =>
    Option.bind (ix s165.1 s165.2) fun (x192 : α) =>
    Option.bind (ix s165.1 s165.2) fun (x201 : α) =>
    Option.bind (ix (lset s165.1 s165.2 x183) (IntKind.wrap .i64 (s165.2 - 1))) fun (x213 : α) =>
    some (Sum.inl ((lset (lset s165.1 s165.2 x183) (IntKind.wrap .i64 (s165.2 - 1)) x192), (IntKind.wrap .i64 (s165.2 - 1)))))
  else
  (some (Sum.inr s165.1))
noncomputable def gsymMerge_l246 {α : Type} (cf : α → α → Int) (a0 : List α) (a1 : Int) (a2 : Int) (a3 : Int) : (Int × Int) → Option ((Int × Int) ⊕ (Int)) := fun s237 =>
  bif (decide (s237.1 < s237.2)) then
  (Option.bind (ix a0 (IntKind.wrap .i64 ((IntKind.wrap .i64 ((IntKind.wrap .i64 ((IntKind.wrap .i64 (shr .u64 (IntKind.wrap .u64 (IntKind.wrap .i64 (a1 + a3))) 1)) + a2)) - 1)) - (IntKind.wrap .i64 (shr .u64 (IntKind.wrap .u64 (IntKind.wrap .i64 (s237.1 + s237.2))) 1))))) fun (x249 : α) =>
    Option.bind (ix a0 (IntKind.wrap .i64 (shr .u64 (IntKind.wrap .u64 (IntKind.wrap .i64 (s237.1 + s237.2))) 1))) fun (x258 : α) =>
    Option.bind (bif (!(decide ((cf x249 x258) < 0))) then
      (some ((IntKind.wrap .i64 ((IntKind.wrap .i64 (shr .u64 (IntKind.wrap .u64 (IntKind.wrap .i64 (s237.1 + s237.2))) 1)) + 1)), s237.2))
      else
      (some (s237.1, (IntKind.wrap .i64 (shr .u64 (IntKind.wrap .u64 (IntKind.wrap .i64 (s237.1 + s237.2))) 1))))) fun (j267 : Int × Int) =>
    some (Sum.inl (j267.1, j267.2)))
  else
  (some (Sum.inr s237.1))
noncomputable def gsymMerge_b {α : Type} (cf : α → α → Int) (rec_ : (List α) → Int → Int → Int → Option (List α)) (a0 : List α) (a1 : Int) (a2 : Int) (a3 : Int) : Option (List α) :=
  bif ((IntKind.wrap .i64 (a2 - a1)) == 1) then
  (Option.bind (loopO (gsymMerge_l17 cf a0 a1) (a2, a3)) fun (r6 : Int) =>
    Option.bind (loopO (gsymMerge_l68 cf r6) (a0, a1)) fun (r51 : (List α)) =>
    some r51)
  else
  (bif ((IntKind.wrap .i64 (a3 - a2)) == 1) then
    (Option.bind (loopO (gsymMerge_l129 cf a0 a2) (a1, a2)) fun (r118 : Int) =>
      Option.bind (loopO (gsymMerge_l180 cf r118) (a0, a2)) fun (r163 : (List α)) =>
      some r163)
    else
    (Option.bind (bif (decide (a2 > (IntKind.wrap .i64 (shr .u64 (IntKind.wrap .u64 (IntKind.wrap .i64 (a1 + a3))) 1)))) then
        (some ((IntKind.wrap .i64 ((IntKind.wrap .i64 ((IntKind.wrap .i64 (shr .u64 (IntKind.wrap .u64 (IntKind.wrap .i64 (a1 + a3))) 1)) + a2)) - a3)), (IntKind.wrap .i64 (shr .u64 (IntKind.wrap .u64 (IntKind.wrap .i64 (a1 + a3))) 1))))
        else
        (some (a1, a2))) fun (j225 : Int × Int) =>
      Option.bind (loopO (gsymMerge_l246 cf a0 a1 a2 a3) (j225.1, j225.2)) fun (r235 : Int) =>
      Option.bind (bif ((decide (r235 < a2)) && (decide (a2 < (IntKind.wrap .i64 ((IntKind.wrap .i64 ((IntKind.wrap .i64 (shr .u64 (IntKind.wrap .u64 (IntKind.wrap .i64 (a1 + a3))) 1)) + a2)) - r235))))) then
        (Option.bind (grotate cf a0 r235 a2 (IntKind.wrap .i64 ((IntKind.wrap .i64 ((IntKind.wrap .i64 (shr .u64 (IntKind.wrap .u64 (IntKind.wrap .i64 (a1 + a3))) 1)) + a2)) - r235))) fun (y288 : (List α)) =>
          some y288)
        else
        (some a0)) fun (j279 : (List α)) =>
      Option.bind (bif ((decide (a1 < r235)) && (decide (r235 < (IntKind.wrap .i64 (shr .u64 (IntKind.wrap .u64 (IntKind.wrap .i64 (a1 + a3))) 1))))) then
        (Option.bind (rec_ j279 a1 r235 (IntKind.wrap .i64 (shr .u64 (IntKind.wrap .u64 (IntKind.wrap .i64 (a1 + a3))) 1))) fun (y311 : (List α)) =>
          some y311)
        else
        (some j279)) fun (j302 : (List α)) =>
      Option.bind (bif ((decide ((IntKind.wrap .i64 (shr .u64 (IntKind.wrap .u64 (IntKind.wrap .i64 (a1 + a3))) 1)) < (IntKind.wrap .i64 ((IntKind.wrap .i64 ((IntKind.wrap .i64 (shr .u64 (IntKind.wrap .u64 (IntKind.wrap .i64 (a1 + a3))) 1)) + a2)) - r235)))) && (decide ((IntKind.wrap .i64 ((IntKind.wrap .i64 ((IntKind.wrap .i64 (shr .u64 (IntKind.wrap .u64 (IntKind.wrap .i64 (a1 + a3))) 1)) + a2)) - r235)) < a3))) then
        (Option.bind (rec_ j302 (IntKind.wrap .i64 (shr .u64 (IntKind.wrap .u64 (IntKind.wrap .i64 (a1 + a3))) 1)) (IntKind.wrap .i64 ((IntKind.wrap .i64 ((IntKind.wrap .i64 (shr .u64 (IntKind.wrap .u64 (IntKind.wrap .i64 (a1 + a3))) 1)) + a2)) - r235)) a3) fun (y334 : (List α)) =>
          some y334)
        else
        (some j302)) fun (j325 : (List α)) =>
      some j325))
noncomputable def gsymMerge {α : Type} (cf : α → α → Int) (a0 : List α) (a1 : Int) (a2 : Int) (a3 : Int) : Option (List α) :=
  iterF (fun (rec_ : ((List α) × Int × Int × Int) → Option (List α)) (x : (List α) × Int × Int × Int) => gsymMerge_b cf (fun a0 a1 a2 a3 => rec_ (a0, a1, a2, a3)) x.1 x.2.1 x.2.2.1 x.2.2.2) 4294967296 (a0, a1, a2, a3)
noncomputable def ginsertionSort_l52 {α : Type} (cf : α → α → Int) (a1 : Int) : ((List α) × Int) → Option (((List α) × Int) ⊕ ((List α))) := fun s37 =>
  Option.bind (bif (decide (s37.2 > a1)) then
    (Option.bind (ix s37.1 s37.2) fun (x60 : α) =>
      Option.bind (ix s37.1 (IntKind.wrap .i64 (s37.2 - 1))) fun (x69 : α) =>
      some (decide ((cf x60 x69) < 0)))
    else
    (some false)) fun (j54 : Bool) =>
  bif j54 then
  (Option.bind (ix s37.1 (IntKind.wrap .i64 (s37.2 - 1))) fun (x79 : α) =>
    Option.bind (ix s37.1 s37.2) fun (x88 : α) =>
    Option.bind (ix s37.1 s37.2) fun (x97 : α) =>
    Option.bind (ix (lset s37.1 s37.2 x79) (IntKind.wrap .i64 (s37.2 - 1))) fun (x109 : α) =>
    some (Sum.inl ((lset (lset s37.1 s37.2 x79) (IntKind.wrap .i64 (s37.2 - 1)) x88), (IntKind.wrap .i64 (s37.2 - 1)))))
  else
  (some (Sum.inr s37.1))
noncomputable def ginsertionSort_l25 {α : Type} (cf : α → α → Int) (a1 : Int) (a2 : Int) : ((List α) × Int) → Option (((List α) × Int) ⊕ ((List α))) := fun s10 =>
  bif (decide (s10.2 < a2)) then
  (Option.bind (loopO (ginsertionSort_l52 cf a1) (s10.1, s10.2)) fun (r35 : (List α)) =>
    some (Sum.inl (r35, (IntKind.wrap .i64 (s10.2 + 1)))))
  else
  (some (Sum.inr s10.1))
noncomputable def ginsertionSort {α : Type} (cf : α → α → Int) (a0 : List α) (a1 : Int) (a2 : Int) : Option (List α) :=
  Option.bind (loopO (ginsertionSort_l25 cf a1 a2) (a0, (IntKind.wrap .i64 (a1 + 1)))) fun (r8 : (List α)) =>
  some r8
noncomputable def gstable_l25 {α : Type} (cf : α → α → Int) (a1 : Int) : ((List α) × Int × Int) → Option (((List α) × Int × Int) ⊕ ((List α) × Int)) := fun s10 =>
  bif (decide (s10.2.2 ≤ a1)) then
  (Option.bind (ginsertionSort cf s10.1 s10.2.1 s10.2.2) fun (y28 : (List α)) =>
    some (Sum.inl (y28, s10.2.2, (IntKind.wrap .i64 (s10.2.2 + 20)))))
  else
  (some (Sum.inr (s10.1, s10.2.1)))
noncomputable def gstable_l95 {α : Type} (cf : α → α → Int) (a1 : Int) (s53 : (List α) × Int) : ((List α) × Int × Int) → Option (((List α) × Int × Int) ⊕ ((List α) × Int)) := fun s80 =>
  bif (decide (s80.2.2 ≤ a1)) then
  (Option.bind (gsymMerge cf s80.1 s80.2.1 (IntKind.wrap .i64 (s80.2.1 + s53.2)) s80.2.2) fun (y98 : (List α)) =>
    some (Sum.inl (y98, s80.2.2, (IntKind.wrap .i64 (s80.2.2 + (IntKind.wrap .i64 (2 * s53.2)))))))
  else
  (some (Sum.inr (s80.1, s80.2.1)))
noncomputable def gstable_l68 {α : Type} (cf : α → α → Int) (a1 : Int) : ((List α) × Int) → Option (((List α) × Int) ⊕ ((List α))) := fun s53 =>
  bif (decide (s53.2 < a1)) then
  (Option.bind (loopO (gstable_l95 cf a1 s53) (s53.1, 0, (IntKind.wrap .i64 (2 * s53.2)))) fun (r78 : (List α) × Int) =>
    Option.bind (bif (decide ((IntKind.wrap .i64 (r78.2 + s53.2)) < a1)) then
      (Option.bind (gsymMerge cf r78.1 r78.2 (IntKind.wrap .i64 (r78.2 + s53.2)) a1) fun (y115 : (List α)) =>
        some y115)
      else
      (some r78.1)) fun (j106 : (List α)) =>
    some (Sum.inl (j106, (IntKind.wrap .i64 (s53.2 * 2)))))
  else
  (some (Sum.inr s53.1))
noncomputable def gstable {α : Type} (cf : α → α → Int) (a0 : List α) (a1 : Int) : Option (List α) :=
  Option.bind (loopO (gstable_l25 cf a1) (a0, 0, 20)) fun (r8 : (List α) × Int) =>
  Option.bind (ginsertionSort cf r8.1 r8.2 a1) fun (y36 : (List α)) =>
  Option.bind (loopO (gstable_l68 cf a1) (y36, 20)) fun (r51 : (List α)) =>
  some r51
noncomputable def gSortStable {α : Type} (cf : α → α → Int) (a0 : List α) : Option (List α) :=
  Option.bind (gstable cf a0 (a0.length : Int)) fun (y1 : (List α)) =>
  some y1
section
variable {α : Type} {cf : α → α → Int}
theorem ix_at {l A B : List α} {x : α} {i : Int} (hl : l = A ++ x :: B) (hi : i = (A.length : Int)) : ix l i = some x := by
  subst hl; subst hi; rw [ix_nat]; simp
theorem lset_at {l A B : List α} {x y : α} {i : Int} (hl : l = A ++ x :: B) (hi : i = (A.length : Int)) : lset l i y = A ++ y :: B := by
  subst hl; subst hi; simp [lset]
/-- Two elements change places. -/
theorem ex_up {l A B C : List α} {x y : α} {i j : Int} (hl : l = A ++ x :: (B ++ y :: C)) (hi : i = (A.length : Int)) (hj : j = ((A.length + 1 + B.length : Nat) : Int)) :
    ix l i = some x ∧ ix l j = some y ∧ ix (lset l i y) j = some y ∧ lset (lset l i y) j x = A ++ y :: (B ++ x :: C) := by
  have h1 : lset l i y = (A ++ y :: B) ++ y :: C := by rw [lset_at hl hi]; simp
  have hj' : j = ((A ++ y :: B).length : Int) := by rw [hj]; simp; omega
  refine ⟨ix_at hl hi, ix_at (A := A ++ x :: B) (B := C) (by rw [hl]; simp) (by rw [hj]; simp; omega), ix_at h1 hj', ?_⟩
  rw [lset_at h1 hj']; simp
theorem ex_down {l A B C : List α} {x y : α} {i j : Int} (hl : l = A ++ x :: (B ++ y :: C)) (hi : i = (A.length : Int)) (hj : j = ((A.length + 1 + B.length : Nat) : Int)) :
    ix l i = some x ∧ ix l j = some y ∧ ix (lset l j x) i = some x ∧ lset (lset l j x) i y = A ++ y :: (B ++ x :: C) := by
  have h0 : ix l j = some y := ix_at (A := A ++ x :: B) (B := C) (by rw [hl]; simp) (by rw [hj]; simp; omega)
  have h1 : lset l j x = A ++ x :: (B ++ x :: C) := by
    rw [lset_at (A := A ++ x :: B) (B := C) (x := y) (by rw [hl]; simp) (by rw [hj]; simp; omega)]; simp
  refine ⟨ix_at hl hi, h0, ix_at h1 hi, ?_⟩
  rw [lset_at h1 hi]
/-- Exchange of two ranges of one length. -/
theorem gswapRange_loop (P M S : List α) (a b n : Nat) (ha : a = P.length) (hb : b = P.length + n + M.length) (hn : b + n < 4294967296) :
    ∀ (X2 Y2 X1 Y1 : List α), X2.length = Y2.length → X1.length = Y1.length → n = X1.length + X2.length →
      loopO (gswapRange_l25 cf (a : Int) (b : Int) (n : Int)) (P ++ (Y1 ++ (X2 ++ (M ++ (X1 ++ (Y2 ++ S))))), (X1.length : Int)) = some (P ++ ((Y1 ++ Y2) ++ (M ++ ((X1 ++ X2) ++ S)))) := by
  intro X2
  induction X2 with
  | nil =>
    intro Y2 X1 Y1 h2 h1 hn'
    have : Y2 = [] := List.length_eq_zero_iff.1 h2.symm
    subst this
    rw [loopO_done (r := P ++ (Y1 ++ ([] ++ (M ++ (X1 ++ ([] ++ S)))))) (by
      unfold gswapRange_l25
      rw [show decide (((X1.length : Nat) : Int) < (n : Int)) = false from decide_eq_false (by simp at hn'; omega)]; rfl)]
    simp
  | cons x X2 ih =>
    intro Y2 X1 Y1 h2 h1 hn'
    cases Y2 with
    | nil => cases h2
    | cons y Y2 =>
      simp only [List.length_cons, Nat.add_right_cancel_iff] at h2
      simp only [List.length_cons] at hn'
      have hl : P ++ (Y1 ++ (x :: X2 ++ (M ++ (X1 ++ (y :: Y2 ++ S))))) = (P ++ Y1) ++ x :: ((X2 ++ M ++ X1) ++ y :: (Y2 ++ S)) := by simp
      have ei : IntKind.wrap .i64 ((a : Int) + ((X1.length : Nat) : Int)) = ((P ++ Y1).length : Int) := by rw [wrap64 (by omega) (by omega), List.length_append]; omega
      have ej : IntKind.wrap .i64 ((b : Int) + ((X1.length : Nat) : Int)) = (((P ++ Y1).length + 1 + (X2 ++ M ++ X1).length : Nat) : Int) := by rw [wrap64 (by omega) (by omega)]; simp only [List.length_append]; omega
      obtain ⟨e1, e2, e3, e4⟩ := ex_up hl ei ej
      rw [loopO_step (s' := (P ++ ((Y1 ++ [y]) ++ (X2 ++ (M ++ ((X1 ++ [x]) ++ (Y2 ++ S))))), ((X1 ++ [x]).length : Int))) (by
        unfold gswapRange_l25
        rw [show decide (((X1.length : Nat) : Int) < (n : Int)) = true from decide_eq_true (by omega)]
        simp only [cond_true, e1, e2, Option.bind_some, e3, e4, wrap_up (show X1.length < 4294967296 by omega)]
        simp)]
      rw [ih Y2 (X1 ++ [x]) (Y1 ++ [y]) h2 (by simp; omega) (by simp; omega)]
      simp
theorem gswapRange_eq {l P X M Y S : List α} {a b n : Int} (hl : l = P ++ (X ++ (M ++ (Y ++ S)))) (hXY : X.length = Y.length) (hlen : l.length < 2147483648) (ha : a = (P.length : Int)) (hb : b = ((P.length + X.length + M.length : Nat) : Int)) (hn : n = (X.length : Int)) :
    gswapRange cf l a b n = some (P ++ (Y ++ (M ++ (X ++ S)))) := by
  subst hl ha hb hn
  simp only [List.length_append] at hlen
  unfold gswapRange
  have := gswapRange_loop (cf := cf) P M S P.length (P.length + X.length + M.length) X.length rfl rfl (by omega) X Y [] [] hXY rfl (by simp)
  simp only [List.nil_append, List.length_nil] at this
  rw [show ((0 : Nat) : Int) = 0 from rfl] at this
  rw [this]; rfl
theorem grotate_loop (n : Nat) : ∀ (P X Y S : List α) (m : Int), X.length + Y.length ≤ n → 0 < X.length → 0 < Y.length → P.length + X.length + Y.length + S.length < 2147483648 → m = ((P.length + X.length : Nat) : Int) →
    ∃ P' U V S', loopO (grotate_l25 cf m) (P ++ (X ++ (Y ++ S)), (X.length : Int), (Y.length : Int)) = some (P' ++ (U ++ (V ++ S')), (U.length : Int)) ∧ U.length = V.length ∧ 0 < U.length ∧ m = ((P'.length + U.length : Nat) : Int) ∧ P'.length + U.length + V.length + S'.length < 2147483648 ∧
      P' ++ (V ++ (U ++ S')) = P ++ (Y ++ (X ++ S)) := by
  induction n with
  | zero => intro P X Y S m hn hx hy; omega
  | succ n ih =>
    intro P X Y S m hn hx hy hlen hm
    by_cases hij : X.length = Y.length
    · refine ⟨P, X, Y, S, loopO_done (by
        unfold grotate_l25
        rw [show (((X.length : Nat) : Int) != ((Y.length : Nat) : Int)) = false by rw [hij]; simp]; rfl), hij, hx, hm, hlen, rfl⟩
    · have hne : (((X.length : Nat) : Int) != ((Y.length : Nat) : Int)) = true := by simp; omega
      by_cases hgt : X.length > Y.length
      · -- X = A ++ Z with |A| = |Y|
        obtain ⟨A, Z, rfl, hA⟩ : ∃ A Z, X = A ++ Z ∧ A.length = Y.length := ⟨X.take Y.length, X.drop Y.length, (List.take_append_drop _ _).symm, by rw [List.length_take]; omega⟩
        have hAZ : (A ++ Z).length = A.length + Z.length := List.length_append
        simp only [List.length_append] at hn hx hlen hm hgt hij hne
        have hs := gswapRange_eq (cf := cf) (l := P ++ ((A ++ Z) ++ (Y ++ S))) (P := P) (X := A) (M := Z) (Y := Y) (S := S) (a := IntKind.wrap .i64 (m - ((A ++ Z).length : Int))) (b := m) (n := (Y.length : Int)) (by simp) hA (by simp; omega)
          (by rw [hm, wrap64 (by omega) (by omega)]; omega) (by rw [hm]; omega) (by rw [hA])
        have hstep : loopO (grotate_l25 cf m) (P ++ ((A ++ Z) ++ (Y ++ S)), ((A ++ Z).length : Int), (Y.length : Int)) = loopO (grotate_l25 cf m) ((P ++ Y) ++ (Z ++ (A ++ S)), (Z.length : Int), (A.length : Int)) := by
          refine loopO_step ?_
          unfold grotate_l25
          simp only [List.length_append] at hs ⊢
          rw [hne]
          simp only [cond_true]
          rw [show decide (((A.length + Z.length : Nat) : Int) > ((Y.length : Nat) : Int)) = true from decide_eq_true (by omega)]
          simp only [cond_true, hs, Option.bind_some]
          rw [wrap64 (by omega) (by omega)]
          simp; omega
        obtain ⟨P', U, V, S', h1, h2, h3, h4, h5, h6⟩ := ih (P ++ Y) Z A S m (by omega) (by omega) (by omega) (by simp; omega) (by rw [hm]; simp; omega)
        exact ⟨P', U, V, S', hstep.trans h1, h2, h3, h4, h5, by rw [h6]; simp⟩
      · obtain ⟨Z, B, rfl, hB⟩ : ∃ Z B, Y = Z ++ B ∧ B.length = X.length := ⟨Y.take (Y.length - X.length), Y.drop (Y.length - X.length), (List.take_append_drop _ _).symm, by rw [List.length_drop]; omega⟩
        simp only [List.length_append] at hn hy hlen hgt hij hne
        have hs := gswapRange_eq (cf := cf) (l := P ++ (X ++ ((Z ++ B) ++ S))) (P := P) (X := X) (M := Z) (Y := B) (S := S) (a := IntKind.wrap .i64 (m - (X.length : Int))) (b := IntKind.wrap .i64 (IntKind.wrap .i64 (m + ((Z ++ B).length : Int)) - (X.length : Int))) (n := (X.length : Int)) (by simp) hB.symm (by simp; omega)
          (by rw [hm, wrap64 (by omega) (by omega)]; omega) (by rw [hm, wrap64 (x := _ + _) (by simp; omega) (by simp; omega), wrap64 (by simp; omega) (by simp; omega)]; simp; omega) rfl
        have hstep : loopO (grotate_l25 cf m) (P ++ (X ++ ((Z ++ B) ++ S)), (X.length : Int), ((Z ++ B).length : Int)) = loopO (grotate_l25 cf m) (P ++ (B ++ (Z ++ (X ++ S))), (B.length : Int), (Z.length : Int)) := by
          refine loopO_step ?_
          unfold grotate_l25
          simp only [List.length_append] at hs ⊢
          rw [hne]
          simp only [cond_true]
          rw [show decide (((X.length : Nat) : Int) > ((Z.length + B.length : Nat) : Int)) = false from decide_eq_false (by omega)]
          simp only [cond_false, hs, Option.bind_some]
          rw [wrap64 (by omega) (by omega)]
          simp only [hB]
          rw [show ((Z.length + X.length : Nat) : Int) - (X.length : Int) = (Z.length : Int) from by omega]
        obtain ⟨P', U, V, S', h1, h2, h3, h4, h5, h6⟩ := ih P B Z (X ++ S) m (by omega) (by omega) (by omega) (by simp; omega) (by rw [hm]; omega)
        exact ⟨P', U, V, S', hstep.trans h1, h2, h3, h4, h5, by rw [h6]; simp⟩
theorem grotate_eq {l P X Y S : List α} {a m b : Int} (hl : l = P ++ (X ++ (Y ++ S))) (hx : 0 < X.length) (hy : 0 < Y.length) (hlen : l.length < 2147483648) (ha : a = (P.length : Int)) (hm : m = ((P.length + X.length : Nat) : Int)) (hb : b = ((P.length + X.length + Y.length : Nat) : Int)) :
    grotate cf l a m b = some (P ++ (Y ++ (X ++ S))) := by
  subst hl
  simp only [List.length_append] at hlen
  obtain ⟨P', U, V, S', h1, h2, h3, h4, h5, h6⟩ := grotate_loop (cf := cf) (X.length + Y.length) P X Y S m (Nat.le_refl _) hx hy (by omega) hm
  unfold grotate
  rw [show IntKind.wrap .i64 (m - a) = (X.length : Int) by rw [hm, ha, wrap64 (by omega) (by omega)]; omega, show IntKind.wrap .i64 (b - m) = (Y.length : Int) by rw [hm, hb, wrap64 (by omega) (by omega)]; omega, h1]
  simp only [Option.bind_some]
  rw [gswapRange_eq (cf := cf) (P := P') (X := U) (M := []) (Y := V) (S := S') (by simp) h2 (by simp; omega) (by rw [h4, wrap64 (by omega) (by omega)]; omega) (by rw [h4]; simp) rfl]
  simp only [List.nil_append, Option.bind_some]
  rw [h6]
/-- A search by halves. -/
theorem mid_eq {i j : Nat} (h : i + j < 4294967296) : IntKind.wrap .i64 (shr .u64 (IntKind.wrap .u64 (IntKind.wrap .i64 ((i : Int) + (j : Int)))) 1) = (((i + j) / 2 : Nat) : Int) := by
  rw [wrap64 (x := (i : Int) + (j : Int)) (by omega) (by omega), wrapU64 (by omega) (by omega)]
  have := shr_nat .u64 (i + j) 1 (by decide)
  rw [show ((i + j : Nat) : Int) = (i : Int) + (j : Int) from by omega, show ((1 : Nat) : Int) = 1 from rfl] at this
  rw [this, wrap64 (by omega) (by omega)]
theorem bs_spec {body : Int × Int → Option ((Int × Int) ⊕ Int)} (lo hi : Nat) (q : Nat → Bool)
    (h : ∀ i j : Nat, lo ≤ i → i < j → j ≤ hi → body ((i : Int), (j : Int)) = some (.inl (bif q ((i + j) / 2) then ((((i + j) / 2 + 1 : Nat) : Int), (j : Int)) else ((i : Int), (((i + j) / 2 : Nat) : Int)))))
    (he : ∀ i : Nat, body ((i : Int), (i : Int)) = some (.inr (i : Int))) :
    ∀ (n i j : Nat), j - i ≤ n → lo ≤ i → i ≤ j → j ≤ hi → (lo < i → q (i - 1) = true) → (j < hi → q j = false) →
      ∃ st : Nat, loopO body ((i : Int), (j : Int)) = some (st : Int) ∧ lo ≤ st ∧ st ≤ hi ∧ (lo < st → q (st - 1) = true) ∧ (st < hi → q st = false) := by
  intro n
  induction n with
  | zero =>
    intro i j hn h1 h2 h3 h4 h5
    obtain rfl : i = j := by omega
    exact ⟨i, loopO_done (he i), h1, h3, h4, h5⟩
  | succ n ih =>
    intro i j hn h1 h2 h3 h4 h5
    by_cases hij : i = j
    · subst hij; exact ⟨i, loopO_done (he i), h1, h3, h4, h5⟩
    · have hstep := h i j h1 (by omega) h3
      cases hq : q ((i + j) / 2) with
      | true =>
        rw [hq] at hstep
        obtain ⟨st, e, r⟩ := ih ((i + j) / 2 + 1) j (by omega) (by omega) (by omega) h3 (fun _ => by rw [Nat.add_sub_cancel]; exact hq) h5
        exact ⟨st, (loopO_step hstep).trans e, r⟩
      | false =>
        rw [hq] at hstep
        obtain ⟨st, e, r⟩ := ih i ((i + j) / 2) (by omega) h1 (by omega) (by omega) h4 (fun _ => hq)
        exact ⟨st, (loopO_step hstep).trans e, r⟩
end
end Go.GB

/- Stable sorting: the library's insertion sort and merge. -/
set_option linter.unusedVariables false
set_option linter.unusedSimpArgs false
namespace Go.GB
section
variable {α : Type} {lt : α → α → Bool}
theorem Sorted.last {A : List α} {z : α} (h : Sorted lt (A ++ [z])) : ∀ a ∈ A, lt z a = false := fun a ha => (List.pairwise_append.1 h).2.2 a ha z (by simp)
theorem Sorted.head {B : List α} {y : α} (h : Sorted lt (y :: B)) : ∀ b ∈ B, lt b y = false := (List.pairwise_cons.1 h).1
theorem Sorted.left {A B : List α} (h : Sorted lt (A ++ B)) : Sorted lt A := (List.pairwise_append.1 h).1
theorem Sorted.right {A B : List α} (h : Sorted lt (A ++ B)) : Sorted lt B := (List.pairwise_append.1 h).2.1
theorem Sorted.cross {A B : List α} (h : Sorted lt (A ++ B)) : ∀ a ∈ A, ∀ b ∈ B, lt b a = false := (List.pairwise_append.1 h).2.2
theorem Sorted.append {A B : List α} (h : Sorted lt A) (h' : Sorted lt B) (hc : ∀ a ∈ A, ∀ b ∈ B, lt b a = false) : Sorted lt (A ++ B) := List.pairwise_append.2 ⟨h, h', hc⟩
theorem StS.self {A : List α} (h : Sorted lt A) : StS lt A A := ⟨FE.refl A, h⟩
/-- One more element, put in its place. -/
theorem ins_sts (hs : Swo lt) {X0 U V : List α} {y : α} (h : StS lt X0 (U ++ V)) (h2 : ∀ v ∈ V, lt y v = true) (h3 : U = [] ∨ ∃ U' z, U = U' ++ [z] ∧ lt y z = false) : StS lt (X0 ++ [y]) (U ++ (y :: V)) := by
  refine ⟨?_, ?_⟩
  · have e1 : FE lt (U ++ ([y] ++ V) ++ []) (U ++ (V ++ [y]) ++ []) := FE.mid (FE.swap hs (fun x hx z hz => by rw [List.mem_singleton.1 hz]; exact h2 x hx)).symm
    have e2 : FE lt ((U ++ V) ++ [y]) (X0 ++ [y]) := h.1.append (FE.refl _)
    have := e1.trans (by simpa using e2)
    simpa using this
  · have hUV := h.2
    refine Sorted.append hUV.left (List.pairwise_cons.2 ⟨fun v hv => hs.asymm y v (h2 v hv), hUV.right⟩) fun u hu w hw => ?_
    rcases List.mem_cons.1 hw with rfl | hw
    · rcases h3 with rfl | ⟨U', z, rfl, hz⟩
      · cases hu
      · rcases List.mem_append.1 hu with hu | hu
        · exact hs.trans u z w (hUV.left.last u hu) hz
        · rw [List.mem_singleton.1 hu]; exact hz
    · exact hUV.cross u hu w hw
/-- Two sorted lists, each cut in two, and what comes of the parts. -/
theorem merge4 (hs : Swo lt) {X1 X2 Y1 Y2 Z1 Z2 : List α} (hX : Sorted lt (X1 ++ X2)) (hY : Sorted lt (Y1 ++ Y2)) (c1 : ∀ x ∈ X1, ∀ y ∈ Y2, lt y x = false) (c2 : ∀ x ∈ X2, ∀ y ∈ Y1, lt y x = true)
    (h1 : StS lt (X1 ++ Y1) Z1) (h2 : StS lt (X2 ++ Y2) Z2) : StS lt ((X1 ++ X2) ++ (Y1 ++ Y2)) (Z1 ++ Z2) := by
  refine ⟨?_, h1.2.append h2.2 fun a ha b hb => ?_⟩
  · refine (h1.1.append h2.1).trans ?_
    have e : FE lt (X1 ++ (Y1 ++ X2) ++ Y2) (X1 ++ (X2 ++ Y1) ++ Y2) := FE.mid (FE.swap hs c2).symm
    simpa using e
  · have ha' := h1.1.mem hs ha
    have hb' := h2.1.mem hs hb
    rcases List.mem_append.1 ha' with ha' | ha' <;> rcases List.mem_append.1 hb' with hb' | hb'
    · exact hX.cross a ha' b hb'
    · exact c1 a ha' b hb'
    · exact hs.asymm a b (c2 b hb' a ha')
    · exact hY.cross a ha' b hb'
end
section
variable {α : Type} {cf : α → α → Int}
def ltc (cf : α → α → Int) (x y : α) : Bool := decide (cf x y < 0)
/-- One element goes down to its place. -/
theorem gins_inner (hs : Swo (ltc cf)) (P R : List α) (y : α) (a : Int) (ha : a = (P.length : Int)) (n : Nat) : ∀ (X : List α) (W : List α), X.length = n → P.length + X.length < 2147483648 →
    ∃ U V, X = U ++ V ∧ loopO (ginsertionSort_l52 cf a) (P ++ (X ++ (y :: (W ++ R))), ((P.length + X.length : Nat) : Int)) = some (P ++ (U ++ (y :: (V ++ (W ++ R))))) ∧ (∀ v ∈ V, ltc cf y v = true) ∧ (U = [] ∨ ∃ U' z, U = U' ++ [z] ∧ ltc cf y z = false) := by
  induction n with
  | zero =>
    intro X W hn hl
    have : X = [] := List.length_eq_zero_iff.1 hn
    subst this
    refine ⟨[], [], rfl, loopO_done ?_, (fun v hv => by cases hv), .inl rfl⟩
    unfold ginsertionSort_l52
    rw [show decide (((P.length + ([] : List α).length : Nat) : Int) > a) = false from decide_eq_false (by simp; omega)]
    simp
  | succ n ih =>
    intro X W hn hl
    obtain ⟨X', z, rfl⟩ : ∃ X' z, X = X' ++ [z] := ⟨X.dropLast, X.getLast (by intro e; rw [e] at hn; cases hn), (List.dropLast_concat_getLast _).symm⟩
    simp only [List.length_append, List.length_cons, List.length_nil] at hn hl
    have hl0 : P ++ ((X' ++ [z]) ++ (y :: (W ++ R))) = (P ++ X') ++ z :: ([] ++ y :: (W ++ R)) := by simp
    have ej : ((P.length + (X' ++ [z]).length : Nat) : Int) = (((P ++ X').length + 1 + ([] : List α).length : Nat) : Int) := by simp; omega
    have ei : IntKind.wrap .i64 (((P.length + (X' ++ [z]).length : Nat) : Int) - 1) = ((P ++ X').length : Int) := by
      simp only [List.length_append, List.length_cons, List.length_nil]; rw [wrap64 (by omega) (by omega)]; omega
    obtain ⟨e1, e2, e3, e4⟩ := ex_down hl0 ei ej
    rw [ei] at e1 e3 e4
    have hgt : decide (((P.length + (X' ++ [z]).length : Nat) : Int) > a) = true := decide_eq_true (by simp; omega)
    cases hlt : ltc cf y z with
    | false =>
      refine ⟨X' ++ [z], [], by simp, loopO_done ?_, fun v hv => (by cases hv), .inr ⟨X', z, rfl, hlt⟩⟩
      unfold ginsertionSort_l52
      unfold ltc at hlt
      simp only [hgt, cond_true, ei, e1, e2, Option.bind_some, hlt, cond_false, List.nil_append]
    | true =>
      obtain ⟨U, V, rfl, h1, h2, h3⟩ := ih X' (z :: W) (by omega) (by omega)
      refine ⟨U, V ++ [z], by simp, ?_, fun v hv => ?_, h3⟩
      · rw [loopO_step (s' := (P ++ ((U ++ V) ++ (y :: ((z :: W) ++ R))), ((P.length + (U ++ V).length : Nat) : Int))) (by
          unfold ginsertionSort_l52
          unfold ltc at hlt
          simp only [hgt, cond_true, ei, e1, e2, Option.bind_some, hlt, e3, e4]
          simp), h1]
        simp
      · rcases List.mem_append.1 hv with hv | hv
        · exact h2 v hv
        · rw [List.mem_singleton.1 hv]; exact hlt
theorem gins_outer (hs : Swo (ltc cf)) (P S : List α) (a b : Int) (ha : a = (P.length : Int)) : ∀ (Y X0 X1 : List α), StS (ltc cf) X0 X1 → b = ((P.length + X1.length + Y.length : Nat) : Int) → P.length + X1.length + Y.length < 2147483648 →
    ∃ Z, loopO (ginsertionSort_l25 cf a b) (P ++ (X1 ++ (Y ++ S)), ((P.length + X1.length : Nat) : Int)) = some (P ++ (Z ++ S)) ∧ StS (ltc cf) (X0 ++ Y) Z := by
  intro Y
  induction Y with
  | nil =>
    intro X0 X1 h hb hl
    refine ⟨X1, loopO_done ?_, by simpa using h⟩
    unfold ginsertionSort_l25
    rw [show decide (((P.length + X1.length : Nat) : Int) < b) = false from decide_eq_false (by rw [hb]; simp)]
    simp
  | cons y Y ih =>
    intro X0 X1 h hb hl
    simp only [List.length_cons] at hb hl
    obtain ⟨U, V, rfl, h1, h2, h3⟩ := gins_inner hs P (Y ++ S) y a ha X1.length X1 [] rfl (by omega)
    simp only [List.nil_append] at h1
    have hst : StS (ltc cf) (X0 ++ [y]) (U ++ (y :: V)) := ins_sts hs h h2 h3
    obtain ⟨Z, hz, hZ⟩ := ih (X0 ++ [y]) (U ++ (y :: V)) hst (by rw [hb]; simp; omega) (by simp at hl ⊢; omega)
    refine ⟨Z, ?_, by simpa using hZ⟩
    rw [loopO_step (s' := (P ++ ((U ++ (y :: V)) ++ (Y ++ S)), ((P.length + (U ++ (y :: V)).length : Nat) : Int))) (by
      unfold ginsertionSort_l25
      rw [show decide (((P.length + (U ++ V).length : Nat) : Int) < b) = true from decide_eq_true (by rw [hb]; omega)]
      simp only [cond_true]
      rw [show P ++ ((U ++ V) ++ (y :: Y ++ S)) = P ++ ((U ++ V) ++ (y :: (Y ++ S))) from by simp, h1]
      simp only [Option.bind_some]
      rw [wrap_up (by omega)]
      simp; omega)]
    exact hz
theorem gins_eq (hs : Swo (ltc cf)) {l P X S : List α} {a b : Int} (hl : l = P ++ (X ++ S)) (hlen : l.length < 2147483648) (ha : a = (P.length : Int)) (hb : b = ((P.length + X.length : Nat) : Int)) : ∃ Z, ginsertionSort cf l a b = some (P ++ (Z ++ S)) ∧ StS (ltc cf) X Z := by
  subst hl
  simp only [List.length_append] at hlen
  unfold ginsertionSort
  cases X with
  | nil =>
    refine ⟨[], ?_, StS.self List.Pairwise.nil⟩
    rw [loopO_done (r := P ++ ([] ++ S)) (by
      unfold ginsertionSort_l25
      rw [ha, wrap_up (by omega), show decide (((P.length + 1 : Nat) : Int) < b) = false from decide_eq_false (by rw [hb]; simp; omega)]; rfl)]
    rfl
  | cons x X =>
    simp only [List.length_cons] at hlen hb
    obtain ⟨Z, h1, h2⟩ := gins_outer (cf := cf) hs P S a b ha X [x] [x] (StS.self (List.pairwise_singleton _ _)) (by rw [hb]; simp; omega) (by simp; omega)
    refine ⟨Z, ?_, h2⟩
    rw [ha, wrap_up (by omega)]
    simp only [List.length_cons, List.length_nil, Nat.zero_add] at h1
    rw [← ha, show P ++ (x :: X ++ S) = P ++ ([x] ++ (X ++ S)) from rfl, h1]
    rfl
/-- One element goes to the right, to the left. -/
theorem gsym_right (P R : List α) (x : α) (r : Int) : ∀ (Y2 Y1 : List α), r = ((P.length + Y1.length + Y2.length + 1 : Nat) : Int) → P.length + Y1.length + Y2.length < 2147483648 →
    loopO (gsymMerge_l68 cf r) (P ++ (Y1 ++ (x :: (Y2 ++ R))), ((P.length + Y1.length : Nat) : Int)) = some (P ++ (Y1 ++ (Y2 ++ (x :: R)))) := by
  intro Y2
  induction Y2 with
  | nil =>
    intro Y1 hr hl
    refine loopO_done ?_
    unfold gsymMerge_l68
    rw [show decide (((P.length + Y1.length : Nat) : Int) < IntKind.wrap .i64 (r - 1)) = false from decide_eq_false (by rw [hr, wrap64 (by omega) (by omega)]; simp)]
    rfl
  | cons y Y2 ih =>
    intro Y1 hr hl
    simp only [List.length_cons] at hr hl
    have hl0 : P ++ (Y1 ++ (x :: (y :: Y2 ++ R))) = (P ++ Y1) ++ x :: ([] ++ y :: (Y2 ++ R)) := by simp
    have ei : ((P.length + Y1.length : Nat) : Int) = ((P ++ Y1).length : Int) := by simp
    have ej : IntKind.wrap .i64 (((P.length + Y1.length : Nat) : Int) + 1) = (((P ++ Y1).length + 1 + ([] : List α).length : Nat) : Int) := by rw [wrap_up (by omega)]; simp
    obtain ⟨e1, e2, e3, e4⟩ := ex_up hl0 ei ej
    rw [ej] at e2 e3 e4
    rw [loopO_step (s' := (P ++ ((Y1 ++ [y]) ++ (x :: (Y2 ++ R))), ((P.length + (Y1 ++ [y]).length : Nat) : Int))) (by
      unfold gsymMerge_l68
      rw [show decide (((P.length + Y1.length : Nat) : Int) < IntKind.wrap .i64 (r - 1)) = true from decide_eq_true (by rw [hr, wrap64 (by omega) (by omega)]; omega)]
      simp only [cond_true, ej, e1, e2, Option.bind_some, e3, e4]
      simp; omega), ih (Y1 ++ [y]) (by rw [hr]; simp; omega) (by simp; omega)]
    simp
theorem gsym_left (P R : List α) (y : α) (r : Int) (hr : r = (P.length : Int)) (n : Nat) : ∀ (X W : List α), X.length = n → P.length + X.length < 2147483648 →
    loopO (gsymMerge_l180 cf r) (P ++ (X ++ (y :: (W ++ R))), ((P.length + X.length : Nat) : Int)) = some (P ++ (y :: (X ++ (W ++ R)))) := by
  induction n with
  | zero =>
    intro X W hn hl
    have : X = [] := List.length_eq_zero_iff.1 hn
    subst this
    refine loopO_done ?_
    unfold gsymMerge_l180
    rw [show decide (((P.length + ([] : List α).length : Nat) : Int) > r) = false from decide_eq_false (by simp; omega)]
    rfl
  | succ n ih =>
    intro X W hn hl
    obtain ⟨X', z, rfl⟩ : ∃ X' z, X = X' ++ [z] := ⟨X.dropLast, X.getLast (by intro e; rw [e] at hn; cases hn), (List.dropLast_concat_getLast _).symm⟩
    simp only [List.length_append, List.length_cons, List.length_nil] at hn hl
    have hl0 : P ++ ((X' ++ [z]) ++ (y :: (W ++ R))) = (P ++ X') ++ z :: ([] ++ y :: (W ++ R)) := by simp
    have ej : ((P.length + (X' ++ [z]).length : Nat) : Int) = (((P ++ X').length + 1 + ([] : List α).length : Nat) : Int) := by simp; omega
    have ei : IntKind.wrap .i64 (((P.length + (X' ++ [z]).length : Nat) : Int) - 1) = ((P ++ X').length : Int) := by
      simp only [List.length_append, List.length_cons, List.length_nil]; rw [wrap64 (by omega) (by omega)]; omega
    obtain ⟨e1, e2, e3, e4⟩ := ex_down hl0 ei ej
    rw [ei] at e1 e3 e4
    rw [loopO_step (s' := (P ++ (X' ++ (y :: ((z :: W) ++ R))), ((P.length + X'.length : Nat) : Int))) (by
      unfold gsymMerge_l180
      rw [show decide (((P.length + (X' ++ [z]).length : Nat) : Int) > r) = true from decide_eq_true (by simp; omega)]
      simp only [cond_true, ei, e1, e2, Option.bind_some, e3, e4]
      simp), ih X' (z :: W) (by omega) (by omega)]
    simp
end
end Go.GB

/- Stable sorting: the library's merge in place. -/
set_option linter.unusedVariables false
set_option linter.unusedSimpArgs false
namespace Go.GB
section
variable {α : Type} {cf : α → α → Int}
theorem split_at {Y : List α} {k : Nat} (h : k ≤ Y.length) : ∃ Y1 Y2, Y = Y1 ++ Y2 ∧ Y1.length = k := ⟨Y.take k, Y.drop k, (List.take_append_drop _ _).symm, by rw [List.length_take]; omega⟩
theorem snoc_of {Y : List α} (h : 0 < Y.length) : ∃ Y' z, Y = Y' ++ [z] := ⟨Y.dropLast, Y.getLast (by intro e; rw [e] at h; cases h), (List.dropLast_concat_getLast _).symm⟩
theorem cons_of {Y : List α} (h : 0 < Y.length) : ∃ z Y', Y = z :: Y' := by
  cases Y with
  | nil => cases h
  | cons z Y' => exact ⟨z, Y', rfl⟩
noncomputable abbrev symF (cf : α → α → Int) : ((List α × Int × Int × Int) → Option (List α)) → (List α × Int × Int × Int) → Option (List α) :=
  fun rec_ x => gsymMerge_b cf (fun a0 a1 a2 a3 => rec_ (a0, a1, a2, a3)) x.1 x.2.1 x.2.2.1 x.2.2.2
/-- One element ahead of a sorted list. -/
theorem gsym_one (hs : Swo (ltc cf)) (rec_ : List α → Int → Int → Int → Option (List α)) {P Y S : List α} {x : α} (hY : 0 < Y.length) (hSY : Sorted (ltc cf) Y) (hlen : P.length + 1 + Y.length + S.length < 2147483648) :
    ∃ Z, gsymMerge_b cf rec_ (P ++ ([x] ++ (Y ++ S))) ((P.length : Nat) : Int) ((P.length + 1 : Nat) : Int) ((P.length + 1 + Y.length : Nat) : Int) = some (P ++ (Z ++ S)) ∧ StS (ltc cf) ([x] ++ Y) Z := by
  have hx : ix (P ++ ([x] ++ (Y ++ S))) ((P.length : Nat) : Int) = some x := ix_at (A := P) (B := Y ++ S) (by simp) rfl
  obtain ⟨st, h1, h2, h3, h4, h5⟩ := bs_spec (body := gsymMerge_l17 cf (P ++ ([x] ++ (Y ++ S))) ((P.length : Nat) : Int)) (P.length + 1) (P.length + 1 + Y.length) (fun h => match Y[h - (P.length + 1)]? with | some y => ltc cf y x | none => false)
    (fun i j hi hij hj => by
      have hk : (i + j) / 2 - (P.length + 1) < Y.length := by omega
      have hy : ix (P ++ ([x] ++ (Y ++ S))) (((i + j) / 2 : Nat) : Int) = some (Y[(i + j) / 2 - (P.length + 1)]) := by
        rw [ix_nat, List.getElem?_append_right (by omega), List.getElem?_append_right (by simp; omega), List.getElem?_append_left (by simp; omega), ← List.getElem?_eq_getElem]
        congr 1
      unfold gsymMerge_l17
      simp only [mid_eq (show i + j < 4294967296 by omega)]
      rw [show decide ((i : Int) < (j : Int)) = true from decide_eq_true (by omega)]
      simp only [cond_true, hy, hx, Option.bind_some, List.getElem?_eq_getElem hk]
      rw [wrap_up (by omega)]
      unfold ltc
      cases decide (cf Y[(i + j) / 2 - (P.length + 1)] x < 0) <;> rfl)
    (fun i => by unfold gsymMerge_l17; rw [show decide ((i : Int) < (i : Int)) = false from decide_eq_false (by omega)]; rfl)
    (Y.length) (P.length + 1) (P.length + 1 + Y.length) (by omega) (Nat.le_refl _) (by omega) (Nat.le_refl _) (fun h => by omega) (fun h => by omega)
  obtain ⟨Y1, Y2, rfl, hY1⟩ := split_at (Y := Y) (k := st - (P.length + 1)) (by omega)
  have hmv := gsym_right (cf := cf) P (Y2 ++ S) x ((st : Nat) : Int) Y1 [] (by simp; omega) (by simp at hlen ⊢; omega)
  simp only [List.nil_append, List.length_nil, Nat.add_zero] at hmv
  refine ⟨Y1 ++ ([x] ++ Y2), ?_, ?_⟩
  · unfold gsymMerge_b
    rw [show ((IntKind.wrap .i64 (((P.length + 1 : Nat) : Int) - ((P.length : Nat) : Int))) == 1) = true by rw [wrap64 (by omega) (by omega)]; simp; omega]
    simp only [cond_true]
    rw [h1]
    simp only [Option.bind_some]
    rw [show P ++ ([x] ++ ((Y1 ++ Y2) ++ S)) = P ++ (x :: (Y1 ++ (Y2 ++ S))) from by simp, hmv]
    simp
  · have c2 : ∀ y ∈ Y1, ltc cf y x = true := by
      by_cases h0 : Y1.length = 0
      · rw [List.length_eq_zero_iff.1 h0]; intro y hy; cases hy
      · obtain ⟨Y', z, rfl⟩ := snoc_of (Y := Y1) (by omega)
        have hz := h4 (by omega)
        simp only [List.length_append, List.length_cons, List.length_nil] at hY1
        rw [show st - 1 - (P.length + 1) = Y'.length from by omega] at hz
        rw [show ((Y' ++ [z]) ++ Y2)[Y'.length]? = some z from by simp] at hz
        intro y hy
        rcases List.mem_append.1 hy with hy | hy
        · exact hs.le_lt (hSY.left.last y hy) hz
        · rw [List.mem_singleton.1 hy]; exact hz
    have c3 : ∀ y ∈ Y2, ltc cf y x = false := by
      by_cases h0 : Y2.length = 0
      · rw [List.length_eq_zero_iff.1 h0]; intro y hy; cases hy
      · obtain ⟨z, Y', rfl⟩ := cons_of (Y := Y2) (by omega)
        have hz := h5 (by simp; omega)
        rw [show st - (P.length + 1) = Y1.length from by omega] at hz
        rw [show (Y1 ++ z :: Y')[Y1.length]? = some z from by simp] at hz
        intro y hy
        rcases List.mem_cons.1 hy with rfl | hy
        · exact hz
        · exact hs.trans x z y hz (hSY.right.head y hy)
    have := merge4 hs (X1 := []) (X2 := [x]) (Y1 := Y1) (Y2 := Y2) (Z1 := Y1) (Z2 := [x] ++ Y2) (List.pairwise_singleton _ _) hSY (fun x hx => by cases hx) (fun u hu y hy => by rw [List.mem_singleton.1 hu]; exact c2 y hy)
      (StS.self hSY.left) (StS.self (List.pairwise_cons.2 ⟨c3, hSY.right⟩))
    simpa using this
/-- One element behind a sorted list. -/
theorem gsym_end (hs : Swo (ltc cf)) (rec_ : List α → Int → Int → Int → Option (List α)) {P X S : List α} {y : α} (hX : 1 < X.length) (hSX : Sorted (ltc cf) X) (hlen : P.length + X.length + 1 + S.length < 2147483648) :
    ∃ Z, gsymMerge_b cf rec_ (P ++ (X ++ ([y] ++ S))) ((P.length : Nat) : Int) ((P.length + X.length : Nat) : Int) ((P.length + X.length + 1 : Nat) : Int) = some (P ++ (Z ++ S)) ∧ StS (ltc cf) (X ++ [y]) Z := by
  have hy : ix (P ++ (X ++ ([y] ++ S))) ((P.length + X.length : Nat) : Int) = some y := ix_at (A := P ++ X) (B := S) (by simp) (by simp)
  obtain ⟨st, h1, h2, h3, h4, h5⟩ := bs_spec (body := gsymMerge_l129 cf (P ++ (X ++ ([y] ++ S))) ((P.length + X.length : Nat) : Int)) P.length (P.length + X.length) (fun h => match X[h - P.length]? with | some x => !(ltc cf y x) | none => false)
    (fun i j hi hij hj => by
      have hk : (i + j) / 2 - P.length < X.length := by omega
      have hx : ix (P ++ (X ++ ([y] ++ S))) (((i + j) / 2 : Nat) : Int) = some (X[(i + j) / 2 - P.length]) := by
        rw [ix_nat, List.getElem?_append_right (by omega), List.getElem?_append_left (by omega), ← List.getElem?_eq_getElem]
      unfold gsymMerge_l129
      simp only [mid_eq (show i + j < 4294967296 by omega)]
      rw [show decide ((i : Int) < (j : Int)) = true from decide_eq_true (by omega)]
      simp only [cond_true, hy, hx, Option.bind_some, List.getElem?_eq_getElem hk]
      rw [wrap_up (by omega)]
      unfold ltc
      cases decide (cf y X[(i + j) / 2 - P.length] < 0) <;> rfl)
    (fun i => by unfold gsymMerge_l129; rw [show decide ((i : Int) < (i : Int)) = false from decide_eq_false (by omega)]; rfl)
    (X.length) P.length (P.length + X.length) (by omega) (Nat.le_refl _) (by omega) (Nat.le_refl _) (fun h => by omega) (fun h => by omega)
  obtain ⟨X1, X2, rfl, hX1⟩ := split_at (Y := X) (k := st - P.length) (by omega)
  have hlx : (X1 ++ X2).length = X1.length + X2.length := List.length_append
  have hmv := gsym_left (cf := cf) (P ++ X1) S y ((st : Nat) : Int) (by simp; omega) X2.length X2 [] rfl (by simp at hlen ⊢; omega)
  simp only [List.nil_append] at hmv
  refine ⟨X1 ++ ([y] ++ X2), ?_, ?_⟩
  · unfold gsymMerge_b
    rw [show ((IntKind.wrap .i64 (((P.length + (X1 ++ X2).length : Nat) : Int) - ((P.length : Nat) : Int))) == 1) = false by rw [wrap64 (by omega) (by omega)]; simp; omega]
    simp only [cond_false]
    rw [show ((IntKind.wrap .i64 (((P.length + (X1 ++ X2).length + 1 : Nat) : Int) - ((P.length + (X1 ++ X2).length : Nat) : Int))) == 1) = true by rw [wrap64 (by omega) (by omega)]; simp; omega]
    simp only [cond_true]
    rw [h1]
    simp only [Option.bind_some]
    rw [show P ++ ((X1 ++ X2) ++ ([y] ++ S)) = (P ++ X1) ++ (X2 ++ (y :: S)) from by simp, show ((P.length + (X1 ++ X2).length : Nat) : Int) = (((P ++ X1).length + X2.length : Nat) : Int) from by simp; omega, hmv]
    simp
  · have c2 : ∀ x ∈ X2, ltc cf y x = true := by
      by_cases h0 : X2.length = 0
      · rw [List.length_eq_zero_iff.1 h0]; intro x hx; cases hx
      · obtain ⟨z, X', rfl⟩ := cons_of (Y := X2) (by omega)
        have hz := h5 (by simp at hlx ⊢; omega)
        rw [show st - P.length = X1.length from by omega] at hz
        rw [show (X1 ++ z :: X')[X1.length]? = some z from by simp] at hz
        simp only [Bool.not_eq_false'] at hz
        intro x hx
        rcases List.mem_cons.1 hx with rfl | hx
        · exact hz
        · exact hs.lt_le hz (hSX.right.head x hx)
    have c1 : ∀ x ∈ X1, ltc cf y x = false := by
      by_cases h0 : X1.length = 0
      · rw [List.length_eq_zero_iff.1 h0]; intro x hx; cases hx
      · obtain ⟨X', z, rfl⟩ := snoc_of (Y := X1) (by omega)
        have hz := h4 (by omega)
        simp only [List.length_append, List.length_cons, List.length_nil] at hX1
        rw [show st - 1 - P.length = X'.length from by omega] at hz
        rw [show ((X' ++ [z]) ++ X2)[X'.length]? = some z from by simp] at hz
        simp only [Bool.not_eq_true'] at hz
        intro x hx
        rcases List.mem_append.1 hx with hx | hx
        · exact hs.trans x z y (hSX.left.last x hx) hz
        · rw [List.mem_singleton.1 hx]; exact hz
    have := merge4 hs (X1 := X1) (X2 := X2) (Y1 := [y]) (Y2 := []) (Z1 := X1 ++ [y]) (Z2 := X2) hSX (List.pairwise_singleton _ _) (fun x hx z hz => by cases hz) (fun u hu z hz => by rw [List.mem_singleton.1 hz]; exact c2 u hu)
      (StS.self (hSX.left.append (List.pairwise_singleton _ _) (fun x hx z hz => by rw [List.mem_singleton.1 hz]; exact c1 x hx))) (by simpa using StS.self hSX.right)
    simpa using this
set_option maxHeartbeats 2000000 in
/-- Two sorted ranges, one behind the other. -/
theorem gsym_eq (hs : Swo (ltc cf)) (n : Nat) : ∀ (P X Y S : List α), X.length + Y.length ≤ n → 0 < X.length → 0 < Y.length → Sorted (ltc cf) X → Sorted (ltc cf) Y → P.length + X.length + Y.length + S.length < 2147483648 →
    ∃ Z, iterF (symF cf) n (P ++ (X ++ (Y ++ S)), ((P.length : Nat) : Int), ((P.length + X.length : Nat) : Int), ((P.length + X.length + Y.length : Nat) : Int)) = some (P ++ (Z ++ S)) ∧ StS (ltc cf) (X ++ Y) Z := by
  induction n with
  | zero => intro P X Y S hn hX; omega
  | succ n ih =>
    intro P X Y S hn hX hY hSX hSY hlen
    rw [iterF_succ]
    show ∃ Z, gsymMerge_b cf (fun a0 a1 a2 a3 => iterF (symF cf) n (a0, a1, a2, a3)) (P ++ (X ++ (Y ++ S))) ((P.length : Nat) : Int) ((P.length + X.length : Nat) : Int) ((P.length + X.length + Y.length : Nat) : Int) = some (P ++ (Z ++ S)) ∧ _
    by_cases hX1 : X.length = 1
    · obtain ⟨x, X', rfl⟩ := cons_of hX
      have : X' = [] := List.length_eq_zero_iff.1 (by simpa using hX1)
      subst this
      exact gsym_one hs _ hY hSY (by simp at hlen ⊢; omega)
    by_cases hY1 : Y.length = 1
    · obtain ⟨y, Y', rfl⟩ := cons_of hY
      have : Y' = [] := List.length_eq_zero_iff.1 (by simpa using hY1)
      subst this
      exact gsym_end hs _ (by omega) hSX (by simp at hlen ⊢; omega)
    -- the general case
    generalize ha : P.length = a at *
    generalize hm : a + X.length = m at *
    generalize hb : m + Y.length = b at *
    have hmid1 : IntKind.wrap .i64 (shr .u64 (IntKind.wrap .u64 (IntKind.wrap .i64 ((a : Int) + (b : Int)))) 1) = (((a + b) / 2 : Nat) : Int) := mid_eq (by omega)
    generalize hmid : (a + b) / 2 = mid at *
    -- where the search goes
    obtain ⟨lo, hi, hlohi, hlo1, hcases⟩ : ∃ lo hi : Nat, (bif (decide ((m : Int) > (mid : Int))) then some ((IntKind.wrap .i64 ((IntKind.wrap .i64 ((mid : Int) + (m : Int))) - (b : Int))), (mid : Int)) else some ((a : Int), (m : Int)) : Option (Int × Int)) = some ((lo : Int), (hi : Int)) ∧ lo ≤ hi ∧
        ((mid < m ∧ lo + b = mid + m ∧ hi = mid) ∨ (m ≤ mid ∧ lo = a ∧ hi = m)) := by
      by_cases hc : mid < m
      · refine ⟨mid + m - b, mid, ?_, by omega, .inl ⟨hc, by omega, rfl⟩⟩
        rw [show decide ((m : Int) > (mid : Int)) = true from decide_eq_true (by omega)]
        simp only [cond_true]
        rw [wrap64 (x := (mid : Int) + (m : Int)) (by omega) (by omega), wrap64 (by omega) (by omega)]
        congr 2; omega
      · refine ⟨a, m, ?_, by omega, .inr ⟨by omega, rfl, rfl⟩⟩
        rw [show decide ((m : Int) > (mid : Int)) = false from decide_eq_false (by omega)]; rfl
    have hxi : ∀ c : Nat, a ≤ c → (hc : c < m) → ix (P ++ (X ++ (Y ++ S))) (c : Int) = some (X[c - a]'(by omega)) := fun c h1 h2 => by
      rw [ix_nat, List.getElem?_append_right (by omega), ha, List.getElem?_append_left (by omega), ← List.getElem?_eq_getElem]
    have hyi : ∀ c : Nat, m ≤ c → (hc : c < b) → ix (P ++ (X ++ (Y ++ S))) (c : Int) = some (Y[c - m]'(by omega)) := fun c h1 h2 => by
      rw [ix_nat, List.getElem?_append_right (by omega), ha, List.getElem?_append_right (by omega), show c - a - X.length = c - m from by omega, List.getElem?_append_left (by omega), ← List.getElem?_eq_getElem]
    obtain ⟨st, h1, h2, h3, h4, h5⟩ := bs_spec (body := gsymMerge_l246 cf (P ++ (X ++ (Y ++ S))) (a : Int) (m : Int) (b : Int)) lo hi (fun c => match X[c - a]?, Y[mid + m - 1 - c - m]? with | some x, some y => !(ltc cf y x) | _, _ => false)
      (fun i j hi' hij hj => by
        have hk1 : (i + j) / 2 - a < X.length := by omega
        have hk2 : mid + m - 1 - (i + j) / 2 - m < Y.length := by omega
        have hx := hxi ((i + j) / 2) (by omega) (by omega)
        have hy := hyi (mid + m - 1 - (i + j) / 2) (by omega) (by omega)
        unfold gsymMerge_l246
        simp only [mid_eq (show i + j < 4294967296 by omega), hmid1]
        rw [show decide ((i : Int) < (j : Int)) = true from decide_eq_true (by omega)]
        rw [show IntKind.wrap .i64 (IntKind.wrap .i64 (IntKind.wrap .i64 ((mid : Int) + (m : Int)) - 1) - (((i + j) / 2 : Nat) : Int)) = ((mid + m - 1 - (i + j) / 2 : Nat) : Int) by
          rw [wrap64 (x := (mid : Int) + (m : Int)) (by omega) (by omega), wrap64 (x := _ - 1) (by omega) (by omega), wrap64 (by omega) (by omega)]; omega]
        simp only [cond_true, hy, hx, Option.bind_some, List.getElem?_eq_getElem hk1, List.getElem?_eq_getElem hk2]
        rw [wrap_up (by omega)]
        unfold ltc
        cases decide (cf Y[mid + m - 1 - (i + j) / 2 - m] X[(i + j) / 2 - a] < 0) <;> rfl)
      (fun i => by unfold gsymMerge_l246; rw [show decide ((i : Int) < (i : Int)) = false from decide_eq_false (by omega)]; rfl)
      (hi - lo) lo hi (Nat.le_refl _) (Nat.le_refl _) hlo1 (Nat.le_refl _) (fun h => by omega) (fun h => by omega)
    obtain ⟨X1, X2, rfl, hx1⟩ := split_at (Y := X) (k := st - a) (by omega)
    obtain ⟨Y1, Y2, rfl, hy1⟩ := split_at (Y := Y) (k := mid - st) (by omega)
    have hlx : (X1 ++ X2).length = X1.length + X2.length := List.length_append
    have hly : (Y1 ++ Y2).length = Y1.length + Y2.length := List.length_append
    -- what the search tells
    have c1 : ∀ x ∈ X1, ∀ y ∈ Y2, ltc cf y x = false := by
      intro x hx y hy
      have hX1p : 0 < X1.length := List.length_pos_of_mem hx
      have hY2p : 0 < Y2.length := List.length_pos_of_mem hy
      obtain ⟨X', z, rfl⟩ := snoc_of hX1p
      obtain ⟨w, Y', rfl⟩ := cons_of hY2p
      have e1 : (X' ++ [z]).length = X'.length + 1 := by simp
      have e2 : (w :: Y').length = Y'.length + 1 := by simp
      have hz := h4 (by omega)
      rw [show st - 1 - a = X'.length from by omega, show mid + m - 1 - (st - 1) - m = Y1.length from by omega] at hz
      rw [show ((X' ++ [z]) ++ X2)[X'.length]? = some z from by simp, show (Y1 ++ w :: Y')[Y1.length]? = some w from by simp] at hz
      simp only [Bool.not_eq_true'] at hz
      have hxz : ltc cf z x = false := by
        rcases List.mem_append.1 hx with hx | hx
        · exact hSX.left.last x hx
        · rw [List.mem_singleton.1 hx]; exact hs.irrefl _
      have hwy : ltc cf y w = false := by
        rcases List.mem_cons.1 hy with rfl | hy
        · exact hs.irrefl _
        · exact hSY.right.head y hy
      exact hs.trans x z y hxz (hs.trans z w y hz hwy)
    have c2 : ∀ x ∈ X2, ∀ y ∈ Y1, ltc cf y x = true := by
      intro x hx y hy
      have hX2p : 0 < X2.length := List.length_pos_of_mem hx
      have hY1p : 0 < Y1.length := List.length_pos_of_mem hy
      obtain ⟨z, X', rfl⟩ := cons_of hX2p
      obtain ⟨Y', w, rfl⟩ := snoc_of hY1p
      have e1 : (Y' ++ [w]).length = Y'.length + 1 := by simp
      have e2 : (z :: X').length = X'.length + 1 := by simp
      have hz := h5 (by omega)
      rw [show st - a = X1.length from by omega, show mid + m - 1 - st - m = Y'.length from by omega] at hz
      rw [show (X1 ++ z :: X')[X1.length]? = some z from by simp, show ((Y' ++ [w]) ++ Y2)[Y'.length]? = some w from by simp] at hz
      simp only [Bool.not_eq_false'] at hz
      have hyw : ltc cf w y = false := by
        rcases List.mem_append.1 hy with hy | hy
        · exact hSY.left.last y hy
        · rw [List.mem_singleton.1 hy]; exact hs.irrefl _
      have hzx : ltc cf x z = false := by
        rcases List.mem_cons.1 hx with rfl | hx
        · exact hs.irrefl _
        · exact hSX.right.head x hx
      exact hs.le_lt hyw (hs.lt_le hz hzx)
    -- the steps
    have hend : IntKind.wrap .i64 (IntKind.wrap .i64 ((mid : Int) + (m : Int)) - (st : Int)) = ((mid + m - st : Nat) : Int) := by
      rw [wrap64 (x := (mid : Int) + (m : Int)) (by omega) (by omega), wrap64 (by omega) (by omega)]; omega
    have hrot : (bif ((decide ((st : Int) < (m : Int))) && (decide ((m : Int) < ((mid + m - st : Nat) : Int)))) then (Option.bind (grotate cf (P ++ ((X1 ++ X2) ++ ((Y1 ++ Y2) ++ S))) (st : Int) (m : Int) ((mid + m - st : Nat) : Int)) fun (y288 : List α) => some y288) else some (P ++ ((X1 ++ X2) ++ ((Y1 ++ Y2) ++ S)))) = some (P ++ (X1 ++ (Y1 ++ (X2 ++ (Y2 ++ S))))) := by
      by_cases hc : 0 < X2.length ∧ 0 < Y1.length
      · rw [show (decide ((st : Int) < (m : Int)) && decide ((m : Int) < ((mid + m - st : Nat) : Int))) = true by rw [Bool.and_eq_true, decide_eq_true_iff, decide_eq_true_iff]; omega]
        rw [grotate_eq (cf := cf) (P := P ++ X1) (X := X2) (Y := Y1) (S := Y2 ++ S) (by simp) hc.1 hc.2 (by simp only [List.length_append]; omega) (by simp; omega) (by simp; omega) (by simp; omega)]
        simp
      · rw [show (decide ((st : Int) < (m : Int)) && decide ((m : Int) < ((mid + m - st : Nat) : Int))) = false by rw [Bool.and_eq_false_iff, decide_eq_false_iff_not, decide_eq_false_iff_not]; omega]
        rcases Nat.eq_zero_or_pos X2.length with h0 | h0
        · rw [List.length_eq_zero_iff.1 h0]; simp
        · rw [List.length_eq_zero_iff.1 (show Y1.length = 0 by omega)]; simp
    obtain ⟨Z1, hr1, hZ1⟩ : ∃ Z1, (bif ((decide ((a : Int) < (st : Int))) && (decide ((st : Int) < (mid : Int)))) then (Option.bind (iterF (symF cf) n (P ++ (X1 ++ (Y1 ++ (X2 ++ (Y2 ++ S)))), (a : Int), (st : Int), (mid : Int))) fun (y311 : List α) => some y311) else some (P ++ (X1 ++ (Y1 ++ (X2 ++ (Y2 ++ S)))))) = some (P ++ (Z1 ++ (X2 ++ (Y2 ++ S)))) ∧ StS (ltc cf) (X1 ++ Y1) Z1 := by
      by_cases hc : 0 < X1.length ∧ 0 < Y1.length
      · obtain ⟨Z1, e, hz⟩ := ih P X1 Y1 (X2 ++ (Y2 ++ S)) (by omega) hc.1 hc.2 hSX.left hSY.left (by simp only [List.length_append]; omega)
        refine ⟨Z1, ?_, hz⟩
        rw [show (decide ((a : Int) < (st : Int)) && decide ((st : Int) < (mid : Int))) = true by rw [Bool.and_eq_true, decide_eq_true_iff, decide_eq_true_iff]; omega]
        rw [ha, show a + X1.length = st from by omega, show st + Y1.length = mid from by omega] at e
        rw [e]; rfl
      · refine ⟨X1 ++ Y1, ?_, StS.self ?_⟩
        · rw [show (decide ((a : Int) < (st : Int)) && decide ((st : Int) < (mid : Int))) = false by rw [Bool.and_eq_false_iff, decide_eq_false_iff_not, decide_eq_false_iff_not]; omega]
          simp
        · rcases Nat.eq_zero_or_pos X1.length with h0 | h0
          · rw [List.length_eq_zero_iff.1 h0]; simpa using hSY.left
          · rw [List.length_eq_zero_iff.1 (show Y1.length = 0 by omega)]; simpa using hSX.left
    have hlZ1 : Z1.length = X1.length + Y1.length := FE.length hs _ (by simp) hZ1.1.symm
    obtain ⟨Z2, hr2, hZ2⟩ : ∃ Z2, (bif ((decide ((mid : Int) < ((mid + m - st : Nat) : Int))) && (decide (((mid + m - st : Nat) : Int) < (b : Int)))) then (Option.bind (iterF (symF cf) n (P ++ (Z1 ++ (X2 ++ (Y2 ++ S))), (mid : Int), ((mid + m - st : Nat) : Int), (b : Int))) fun (y334 : List α) => some y334) else some (P ++ (Z1 ++ (X2 ++ (Y2 ++ S))))) = some (P ++ (Z1 ++ (Z2 ++ S))) ∧ StS (ltc cf) (X2 ++ Y2) Z2 := by
      by_cases hc : 0 < X2.length ∧ 0 < Y2.length
      · obtain ⟨Z2, e, hz⟩ := ih (P ++ Z1) X2 Y2 S (by omega) hc.1 hc.2 hSX.right hSY.right (by simp only [List.length_append]; omega)
        refine ⟨Z2, ?_, hz⟩
        rw [show (decide ((mid : Int) < ((mid + m - st : Nat) : Int)) && decide (((mid + m - st : Nat) : Int) < (b : Int))) = true by rw [Bool.and_eq_true, decide_eq_true_iff, decide_eq_true_iff]; omega]
        rw [List.length_append, show P.length + Z1.length = mid from by omega, show mid + X2.length = mid + m - st from by omega, show mid + m - st + Y2.length = b from by omega, List.append_assoc] at e
        rw [e]; simp
      · refine ⟨X2 ++ Y2, ?_, StS.self ?_⟩
        · rw [show (decide ((mid : Int) < ((mid + m - st : Nat) : Int)) && decide (((mid + m - st : Nat) : Int) < (b : Int))) = false by rw [Bool.and_eq_false_iff, decide_eq_false_iff_not, decide_eq_false_iff_not]; omega]
          simp
        · rcases Nat.eq_zero_or_pos X2.length with h0 | h0
          · rw [List.length_eq_zero_iff.1 h0]; simpa using hSY.right
          · rw [List.length_eq_zero_iff.1 (show Y2.length = 0 by omega)]; simpa using hSX.right
    refine ⟨Z1 ++ Z2, ?_, merge4 hs hSX hSY c1 c2 hZ1 hZ2⟩
    unfold gsymMerge_b
    rw [show ((IntKind.wrap .i64 ((m : Int) - (a : Int))) == 1) = false by rw [wrap64 (by omega) (by omega)]; simp; omega, show ((IntKind.wrap .i64 ((b : Int) - (m : Int))) == 1) = false by rw [wrap64 (by omega) (by omega)]; simp; omega]
    simp only [cond_false, hmid1, hlohi, Option.bind_some, h1, hend, hrot, hr1, hr2]
    simp
end
end Go.GB

/- Stable sorting: the whole of it. -/
set_option linter.unusedVariables false
set_option linter.unusedSimpArgs false
namespace Go.GB
section
variable {α : Type}
/-- Full runs of k elements, each sorted. -/
inductive Full (lt : α → α → Bool) (k : Nat) : List α → Prop
  | nil : Full lt k []
  | snoc {D x : List α} : Full lt k D → x.length = k → Sorted lt x → Full lt k (D ++ x)
/-- Runs of k elements, the last one may be shorter. -/
inductive Runs (lt : α → α → Bool) (k : Nat) : List α → Prop
  | last {x : List α} : x.length ≤ k → Sorted lt x → Runs lt k x
  | cons {x R : List α} : x.length = k → Sorted lt x → Runs lt k R → Runs lt k (x ++ R)
variable {lt : α → α → Bool} {k : Nat}
theorem Full.runs {D : List α} (h : Full lt k D) : ∀ {R : List α}, Runs lt k R → Runs lt k (D ++ R) := by
  induction h with
  | nil => intro R hR; exact hR
  | snoc h1 h2 h3 ih => intro R hR; rw [List.append_assoc]; exact ih (.cons h2 h3 hR)
theorem Runs.sorted {R : List α} (h : Runs lt k R) (hk : R.length ≤ k) (hk0 : 0 < k) : Sorted lt R := by
  cases h with
  | last h1 h2 => exact h2
  | @cons x R h1 h2 h3 =>
    rw [List.length_append] at hk
    have : R = [] := List.length_eq_zero_iff.1 (by omega)
    rw [this, List.append_nil]; exact h2
theorem Runs.two {R : List α} (h : Runs lt k R) (hk : k + k ≤ R.length) : ∃ x y R', R = x ++ (y ++ R') ∧ x.length = k ∧ y.length = k ∧ Sorted lt x ∧ Sorted lt y ∧ Runs lt k R' := by
  cases h with
  | last h1 h2 =>
    have h0 : k = 0 := by omega
    subst h0
    have : R = [] := List.length_eq_zero_iff.1 (by omega)
    subst this
    exact ⟨[], [], [], rfl, rfl, rfl, List.Pairwise.nil, List.Pairwise.nil, .last (by simp) List.Pairwise.nil⟩
  | @cons x R h1 h2 h3 =>
    rw [List.length_append] at hk
    cases h3 with
    | last h4 h5 => exact ⟨x, R, [], by simp, h1, by omega, h2, h5, .last (by simp) List.Pairwise.nil⟩
    | @cons y R' h4 h5 h6 => exact ⟨x, y, R', rfl, h1, h4, h2, h5, h6⟩
theorem Runs.one {R : List α} (h : Runs lt k R) (h1 : k < R.length) (h2 : R.length < k + k) : ∃ x y, R = x ++ y ∧ x.length = k ∧ Sorted lt x ∧ Sorted lt y := by
  cases h with
  | last h3 h4 => omega
  | @cons x R h3 h4 h5 =>
    rw [List.length_append] at h1 h2
    exact ⟨x, R, rfl, h3, h4, h5.sorted (by omega) (by omega)⟩
end
section
variable {α : Type} {cf : α → α → Int}
theorem gsymMerge_eq (hs : Swo (ltc cf)) {l P X Y S : List α} {a m b : Int} (hl : l = P ++ (X ++ (Y ++ S))) (hX : 0 < X.length) (hY : 0 < Y.length) (hSX : Sorted (ltc cf) X) (hSY : Sorted (ltc cf) Y) (hlen : l.length < 2147483648)
    (ha : a = (P.length : Int)) (hm : m = ((P.length + X.length : Nat) : Int)) (hb : b = ((P.length + X.length + Y.length : Nat) : Int)) : ∃ Z, gsymMerge cf l a m b = some (P ++ (Z ++ S)) ∧ StS (ltc cf) (X ++ Y) Z := by
  subst hl ha hm hb
  simp only [List.length_append] at hlen
  exact gsym_eq hs 4294967296 P X Y S (by omega) hX hY hSX hSY (by omega)
/-- Runs of twenty. -/
theorem gstable_first (hs : Swo (ltc cf)) (n : Int) (m : Nat) : ∀ (D0 D R : List α), R.length ≤ m → Full (ltc cf) 20 D → FE (ltc cf) D D0 → n = ((D.length + R.length : Nat) : Int) → D.length + R.length < 2147483648 →
    ∃ D' R', loopO (gstable_l25 cf n) (D ++ R, ((D.length : Nat) : Int), ((D.length + 20 : Nat) : Int)) = some (D' ++ R', ((D'.length : Nat) : Int)) ∧ R'.length < 20 ∧ Full (ltc cf) 20 D' ∧ n = ((D'.length + R'.length : Nat) : Int) ∧ FE (ltc cf) (D' ++ R') (D0 ++ R) := by
  induction m with
  | zero =>
    intro D0 D R hR hF hFE hn hl
    refine ⟨D, R, loopO_done ?_, by omega, hF, hn, hFE.append (FE.refl R)⟩
    unfold gstable_l25
    rw [show decide (((D.length + 20 : Nat) : Int) ≤ n) = false from decide_eq_false (by omega)]; rfl
  | succ m ih =>
    intro D0 D R hR hF hFE hn hl
    by_cases h20 : R.length < 20
    · refine ⟨D, R, loopO_done ?_, h20, hF, hn, hFE.append (FE.refl R)⟩
      unfold gstable_l25
      rw [show decide (((D.length + 20 : Nat) : Int) ≤ n) = false from decide_eq_false (by omega)]; rfl
    · obtain ⟨x, R, rfl, hx⟩ := split_at (Y := R) (k := 20) (by omega)
      have hxl : (x ++ R).length = x.length + R.length := List.length_append
      obtain ⟨Z, h1, h2⟩ := gins_eq (cf := cf) hs (l := D ++ (x ++ R)) (P := D) (X := x) (S := R) (a := ((D.length : Nat) : Int)) (b := ((D.length + 20 : Nat) : Int)) rfl (by rw [List.length_append]; omega) rfl (by rw [hx])
      have hZ : Z.length = 20 := FE.length hs _ hx h2.1.symm
      have hDZ : (D ++ Z).length = D.length + 20 := by rw [List.length_append, hZ]
      obtain ⟨D', R', h3, h4, h5, h6, h7⟩ := ih (D0 ++ x) (D ++ Z) R (by omega) (.snoc hF hZ h2.2) (hFE.append h2.1) (by omega) (by omega)
      refine ⟨D', R', ?_, h4, h5, h6, by simpa using h7⟩
      rw [loopO_step (s' := ((D ++ Z) ++ R, (((D ++ Z).length : Nat) : Int), (((D ++ Z).length + 20 : Nat) : Int))) (by
        unfold gstable_l25
        rw [show decide (((D.length + 20 : Nat) : Int) ≤ n) = true from decide_eq_true (by omega)]
        simp only [cond_true, h1, Option.bind_some]
        rw [wrap64 (by omega) (by omega), List.length_append, hZ, List.append_assoc]
        congr 3), h3]
/-- Runs of k are made runs of twice as many. -/
theorem gstable_merge (hs : Swo (ltc cf)) (n : Int) (k : Nat) (hk : 0 < k) (m : Nat) (s : List α × Int) (hsk : s.2 = (k : Int)) : ∀ (D R : List α), R.length ≤ m → Full (ltc cf) (2 * k) D → Runs (ltc cf) k R → n = ((D.length + R.length : Nat) : Int) → D.length + R.length + 2 * k < 8589934592 → D.length + R.length < 2147483648 →
    ∃ D' R', loopO (gstable_l95 cf n s) (D ++ R, ((D.length : Nat) : Int), ((D.length + 2 * k : Nat) : Int)) = some (D' ++ R', ((D'.length : Nat) : Int)) ∧ R'.length < 2 * k ∧ Full (ltc cf) (2 * k) D' ∧ Runs (ltc cf) k R' ∧ n = ((D'.length + R'.length : Nat) : Int) ∧ FE (ltc cf) (D' ++ R') (D ++ R) := by
  induction m with
  | zero =>
    intro D R hR hF hRr hn hl hl2
    refine ⟨D, R, loopO_done ?_, by omega, hF, hRr, hn, FE.refl _⟩
    unfold gstable_l95
    rw [show decide (((D.length + 2 * k : Nat) : Int) ≤ n) = false from decide_eq_false (by omega)]; rfl
  | succ m ih =>
    intro D R hR hF hRr hn hl hl2
    by_cases h2k : R.length < 2 * k
    · refine ⟨D, R, loopO_done ?_, h2k, hF, hRr, hn, FE.refl _⟩
      unfold gstable_l95
      rw [show decide (((D.length + 2 * k : Nat) : Int) ≤ n) = false from decide_eq_false (by omega)]; rfl
    · obtain ⟨x, y, R, rfl, hx, hy, hSx, hSy, hRr'⟩ := hRr.two (by omega)
      simp only [List.length_append] at hR hn hl hl2
      obtain ⟨Z, h1, h2⟩ := gsymMerge_eq (cf := cf) hs (l := D ++ (x ++ (y ++ R))) (P := D) (X := x) (Y := y) (S := R) (a := ((D.length : Nat) : Int)) (m := IntKind.wrap .i64 (((D.length : Nat) : Int) + s.2)) (b := ((D.length + 2 * k : Nat) : Int)) rfl (by omega) (by omega) hSx hSy (by simp only [List.length_append]; omega) rfl
        (by rw [hsk, wrap64 (by omega) (by omega)]; omega) (by omega)
      have hZ : Z.length = 2 * k := FE.length hs _ (by rw [List.length_append]; omega) h2.1.symm
      have hDZ : (D ++ Z).length = D.length + 2 * k := by rw [List.length_append, hZ]
      obtain ⟨D', R', h3, h4, h5, h6, h7, h8⟩ := ih (D ++ Z) R (by omega) (.snoc hF hZ h2.2) hRr' (by omega) (by omega) (by omega)
      refine ⟨D', R', ?_, h4, h5, h6, h7, h8.trans ?_⟩
      · rw [loopO_step (s' := ((D ++ Z) ++ R, (((D ++ Z).length : Nat) : Int), (((D ++ Z).length + 2 * k : Nat) : Int))) (by
          unfold gstable_l95
          rw [show decide (((D.length + 2 * k : Nat) : Int) ≤ n) = true from decide_eq_true (by omega)]
          simp only [cond_true, h1, Option.bind_some]
          rw [hsk, wrap64 (x := 2 * (k : Int)) (by omega) (by omega), wrap64 (by omega) (by omega), List.length_append, hZ, List.append_assoc]
          congr 3), h3]
      · have := FE.mid (P := D) (S := R) h2.1
        simpa using this
theorem gstable_rounds (hs : Swo (ltc cf)) (l0 : List α) (m : Nat) : ∀ (l : List α) (k : Nat), 0 < k → l.length - k ≤ m → Runs (ltc cf) k l → FE (ltc cf) l l0 → l.length < 2147483648 →
    ∃ z, loopO (gstable_l68 cf ((l.length : Nat) : Int)) (l, ((k : Nat) : Int)) = some z ∧ StS (ltc cf) l0 z := by
  induction m with
  | zero =>
    intro l k hk hm hR hFE hl
    refine ⟨l, loopO_done ?_, hFE, hR.sorted (by omega) hk⟩
    unfold gstable_l68
    rw [show decide (((k : Nat) : Int) < ((l.length : Nat) : Int)) = false from decide_eq_false (by omega)]; rfl
  | succ m ih =>
    intro l k hk hm hR hFE hl
    by_cases hkl : l.length ≤ k
    · refine ⟨l, loopO_done ?_, hFE, hR.sorted hkl hk⟩
      unfold gstable_l68
      rw [show decide (((k : Nat) : Int) < ((l.length : Nat) : Int)) = false from decide_eq_false (by omega)]; rfl
    · obtain ⟨D, R, h1, h2, h3, h4, h5, h6⟩ := gstable_merge (cf := cf) hs ((l.length : Nat) : Int) k hk l.length (l, ((k : Nat) : Int)) rfl [] l (Nat.le_refl _) .nil hR (by simp) (by simp; omega) (by simpa using hl)
      simp only [List.nil_append, List.length_nil, Nat.zero_add] at h1 h6
      rw [show ((0 : Nat) : Int) = 0 from rfl] at h1
      have hlen : (D ++ R).length = l.length := by rw [List.length_append]; omega
      obtain ⟨w, hw1, hw2, hw3⟩ : ∃ w, (bif (decide ((IntKind.wrap .i64 (((D.length : Nat) : Int) + ((k : Nat) : Int))) < ((l.length : Nat) : Int))) then (Option.bind (gsymMerge cf (D ++ R) ((D.length : Nat) : Int) (IntKind.wrap .i64 (((D.length : Nat) : Int) + ((k : Nat) : Int))) ((l.length : Nat) : Int)) fun (y115 : List α) => some y115) else some (D ++ R)) = some w ∧ Runs (ltc cf) (2 * k) w ∧ FE (ltc cf) w (D ++ R) := by
        by_cases hRk : k < R.length
        · obtain ⟨x, y, rfl, hx, hSx, hSy⟩ := h4.one hRk (by omega)
          simp only [List.length_append] at h5 hRk h2
          obtain ⟨Z, g1, g2⟩ := gsymMerge_eq (cf := cf) hs (l := D ++ (x ++ y)) (P := D) (X := x) (Y := y) (S := []) (a := ((D.length : Nat) : Int)) (m := IntKind.wrap .i64 (((D.length : Nat) : Int) + ((k : Nat) : Int))) (b := ((l.length : Nat) : Int)) (by simp) (by omega) (by omega) hSx hSy (by simp only [List.length_append]; omega) rfl
            (by rw [wrap64 (by omega) (by omega)]; omega) (by omega)
          refine ⟨D ++ Z, ?_, ?_, ?_⟩
          · rw [show decide ((IntKind.wrap .i64 (((D.length : Nat) : Int) + ((k : Nat) : Int))) < ((l.length : Nat) : Int)) = true from decide_eq_true (by rw [wrap64 (by omega) (by omega)]; omega)]
            rw [g1]; simp
          · refine h3.runs (.last ?_ g2.2)
            rw [FE.length hs _ rfl g2.1.symm, List.length_append]; omega
          · exact (FE.refl D).append g2.1
        · refine ⟨D ++ R, ?_, h3.runs (.last (by omega) (h4.sorted (by omega) hk)), FE.refl _⟩
          rw [show decide ((IntKind.wrap .i64 (((D.length : Nat) : Int) + ((k : Nat) : Int))) < ((l.length : Nat) : Int)) = false from decide_eq_false (by rw [wrap64 (by omega) (by omega)]; omega)]
          rfl
      have hwl : w.length = l.length := by rw [← hlen]; exact FE.length hs _ rfl hw3.symm
      obtain ⟨z, hz, hz2⟩ := ih w (2 * k) (by omega) (by omega) hw2 (hw3.trans (h6.trans hFE)) (by omega)
      refine ⟨z, ?_, hz2⟩
      rw [hwl] at hz
      rw [loopO_step (s' := (w, ((2 * k : Nat) : Int))) (by
        unfold gstable_l68
        rw [show decide (((k : Nat) : Int) < ((l.length : Nat) : Int)) = true from decide_eq_true (by omega)]
        simp only [cond_true]
        rw [wrap64 (x := 2 * ((k : Nat) : Int)) (by omega) (by omega), show (2 * ((k : Nat) : Int)) = ((2 * k : Nat) : Int) from by omega, h1]
        simp only [Option.bind_some, hw1]
        rw [wrap64 (by omega) (by omega)]
        congr 3; omega), hz]
/-- The library's stable sort is a stable sort. -/
theorem gSortStable_eq (hs : Swo (ltc cf)) (l : List α) (hl : l.length < 2147483648) : ∃ z, gSortStable cf l = some z ∧ StS (ltc cf) l z := by
  obtain ⟨D, R, h1, h2, h3, h4, h5⟩ := gstable_first (cf := cf) hs ((l.length : Nat) : Int) l.length [] [] l (Nat.le_refl _) .nil (FE.refl _) (by simp) (by simpa using hl)
  simp only [List.nil_append, List.length_nil, Nat.zero_add] at h1 h5
  obtain ⟨Z, g1, g2⟩ := gins_eq (cf := cf) hs (l := D ++ R) (P := D) (X := R) (S := []) (a := ((D.length : Nat) : Int)) (b := ((l.length : Nat) : Int)) (by simp) (by rw [List.length_append]; omega) rfl h4
  have hZ : Z.length = R.length := FE.length hs _ rfl g2.1.symm
  obtain ⟨z, e1, e2⟩ := gstable_rounds (cf := cf) hs l (D ++ Z).length (D ++ Z) 20 (by omega) (by omega) (h3.runs (.last (by omega) g2.2)) (((FE.refl D).append g2.1).trans h5) (by rw [List.length_append]; omega)
  refine ⟨z, ?_, e2⟩
  unfold gSortStable gstable
  have h0 : loopO (gstable_l25 cf ((l.length : Nat) : Int)) (l, 0, 20) = some (D ++ R, ((D.length : Nat) : Int)) := h1
  rw [h0]
  simp only [Option.bind_some, g1, List.append_nil]
  rw [show ((l.length : Nat) : Int) = (((D ++ Z).length : Nat) : Int) by rw [List.length_append, hZ]; exact h4]
  have e1' : loopO (gstable_l68 cf (((D ++ Z).length : Nat) : Int)) (D ++ Z, 20) = some z := e1
  rw [e1']; rfl
end
end Go.GB

/- Plain laws of chapter 4: lists alike, lists that are gathered, label sets that are sorted. -/
set_option linter.unusedVariables false
set_option linter.unusedSimpArgs false
set_option maxRecDepth 100000
namespace Go.Proofs.YtnlkfajnaelnnaaGreatDoor
open Go.GB Go.Lib
abbrev LB := S49
/-- A loop over a list that gathers. -/
theorem fold_up {α β ρ : Type} {body : β × Int → Option ((β × Int) ⊕ ρ)} (l : List α) (f : β → α → β) (g : β → ρ) (Inv : β → Nat → Prop)
    (h : ∀ (acc : β) (i : Nat) (hi : i < l.length), Inv acc i → body (acc, (i : Int)) = some (.inl (f acc l[i], ((i + 1 : Nat) : Int))) ∧ Inv (f acc l[i]) (i + 1))
    (he : ∀ acc, Inv acc l.length → body (acc, (l.length : Int)) = some (.inr (g acc))) :
    ∀ (d i : Nat) (acc : β), l.length - i = d → i ≤ l.length → Inv acc i → loopO body (acc, (i : Int)) = some (g ((l.drop i).foldl f acc)) := by
  intro d
  induction d with
  | zero =>
    intro i acc hd hi hI
    obtain rfl : i = l.length := by omega
    rw [List.drop_length]
    exact loopO_done (he acc hI)
  | succ d ih =>
    intro i acc hd hi hI
    have hlt : i < l.length := by omega
    obtain ⟨h1, h2⟩ := h acc i hlt hI
    rw [List.drop_eq_getElem_cons hlt, List.foldl_cons, loopO_step h1]
    exact ih (i + 1) _ (by omega) (by omega) h2
theorem fold_filter {α : Type} (p : α → Bool) : ∀ (l acc : List α), l.foldl (fun acc x => bif p x then acc ++ [x] else acc) acc = acc ++ l.filter p
  | [], acc => by simp
  | x :: l, acc => by
    rw [List.foldl_cons, fold_filter p l]
    cases h : p x <;> simp [h]
/-- A loop that gathers those of a kind. -/
theorem filter_up {α ρ : Type} {body : List α × Int → Option ((List α × Int) ⊕ ρ)} (l : List α) (p : α → Bool) (g : List α → ρ) (hl : l.length ≤ 2147483648)
    (h : ∀ (acc : List α) (i : Nat) (hi : i < l.length), acc.length ≤ i → body (acc, (i : Int)) = some (.inl ((bif p l[i] then acc ++ [l[i]] else acc), ((i + 1 : Nat) : Int))))
    (he : ∀ acc, body (acc, (l.length : Int)) = some (.inr (g acc))) : loopO body ([], 0) = some (g (l.filter p)) := by
  have := fold_up (body := body) l (fun acc x => bif p x then acc ++ [x] else acc) g (fun acc i => acc.length ≤ i) (fun acc i hi hI => ⟨h acc i hi hI, by cases p l[i] <;> simp <;> omega⟩) (fun acc _ => he acc) l.length 0 [] (by omega) (by omega) (by simp)
  rw [List.drop_zero, fold_filter, List.nil_append] at this
  exact this
theorem LB_ext {x y : LB} : ((x.f0.toList == y.f0.toList) && (x.f1.toList == y.f1.toList)) = true ↔ x = y := by
  rw [Bool.and_eq_true, toList_inj, toList_inj]
  constructor
  · rintro ⟨h1, h2⟩
    cases x; cases y; simp only at h1 h2; rw [h1, h2]
  · rintro rfl; exact ⟨rfl, rfl⟩
theorem same_eq (a b : List LB) (ha : a.length < 4294967296) : ∃ r, tocsinlaw04_same a b = some r ∧ (r = true ↔ a = b) := by
  unfold tocsinlaw04_same
  by_cases hl : a.length = b.length
  · rw [show ((a.length : Int) != (b.length : Int)) = false by rw [hl]; simp, cond_false]
    have key : ∀ d i : Nat, a.length - i = d → i ≤ a.length → ∃ r : Unit ⊕ Bool, loopO (tocsinlaw04_same_l18 a b) (i : Int) = some r ∧ ((r = .inl () ∧ a.drop i = b.drop i) ∨ (r = .inr false ∧ a.drop i ≠ b.drop i)) := by
      intro d
      induction d with
      | zero =>
        intro i hd hi
        refine ⟨.inl (), loopO_done (by
          unfold tocsinlaw04_same_l18
          rw [show decide ((i : Int) < (a.length : Int)) = false from decide_eq_false (by omega)]; rfl), .inl ⟨rfl, ?_⟩⟩
        rw [List.drop_of_length_le (by omega), List.drop_of_length_le (by omega)]
      | succ d ih =>
        intro i hd hi
        have h1 : i < a.length := by omega
        have h2 : i < b.length := by omega
        have hx : ix a (i : Int) = some a[i] := by rw [ix_nat, List.getElem?_eq_getElem h1]
        have hy : ix b (i : Int) = some b[i] := by rw [ix_nat, List.getElem?_eq_getElem h2]
        rw [List.drop_eq_getElem_cons h1, List.drop_eq_getElem_cons h2]
        cases he : ((a[i].f0.toList == b[i].f0.toList) && (a[i].f1.toList == b[i].f1.toList)) with
        | true =>
          obtain ⟨r, hr, hr'⟩ := ih (i + 1) (by omega) (by omega)
          refine ⟨r, ?_, ?_⟩
          · rw [loopO_step (s' := ((i + 1 : Nat) : Int)) (by
              unfold tocsinlaw04_same_l18
              rw [show decide ((i : Int) < (a.length : Int)) = true from decide_eq_true (by omega)]
              simp only [cond_true, hx, hy, Option.bind_some, he, Bool.not_true, cond_false, wrap_up (show i < 4294967296 by omega)])]
            exact hr
          · rw [LB_ext.1 he]
            rcases hr' with ⟨q1, q2⟩ | ⟨q1, q2⟩
            · exact .inl ⟨q1, by rw [q2]⟩
            · exact .inr ⟨q1, fun e => q2 (List.cons.inj e).2⟩
        | false =>
          refine ⟨.inr false, loopO_done (by
            unfold tocsinlaw04_same_l18
            rw [show decide ((i : Int) < (a.length : Int)) = true from decide_eq_true (by omega)]
            simp only [cond_true, hx, hy, Option.bind_some, he, Bool.not_false]), .inr ⟨rfl, fun e => ?_⟩⟩
          rw [LB_ext.2 (List.cons.inj e).1] at he; cases he
    obtain ⟨r, hr, hr'⟩ := key a.length 0 (by omega) (by omega)
    rw [show ((0 : Nat) : Int) = 0 from rfl] at hr
    rw [hr, Option.bind_some]
    rw [List.drop_zero, List.drop_zero] at hr'
    rcases hr' with ⟨rfl, e⟩ | ⟨rfl, e⟩
    · exact ⟨true, rfl, by simp [e]⟩
    · exact ⟨false, rfl, by simp [e]⟩
  · rw [show ((a.length : Int) != (b.length : Int)) = true by simp; omega, cond_true]
    exact ⟨false, rfl, by simp; intro e; exact hl (by rw [e])⟩
theorem same_self (a : List LB) (ha : a.length < 4294967296) : tocsinlaw04_same a a = some true := by
  obtain ⟨r, h1, h2⟩ := same_eq a a ha
  rw [h1, h2.2 rfl]
end Go.Proofs.YtnlkfajnaelnnaaGreatDoor

set_option linter.unusedVariables false
set_option linter.unusedSimpArgs false
set_option maxRecDepth 100000
namespace Go.Proofs.YtnlkfajnaelnnaaGreatDoor
open Go.GB Go.Lib
noncomputable abbrev ltN : LB → LB → Bool := ltc labels_sorted_1
theorem ltN_eq (x y : LB) : ltN x y = decide (cmpS x.f0 y.f0 = -1) := by
  show decide (labels_sorted_1 x y < 0) = _
  have h : labels_sorted_1 x y = cmpS x.f0 y.f0 := rfl
  rw [h]
  rcases cmpS_range x.f0 y.f0 with h | h | h <;> rw [h] <;> rfl
theorem swoN : Swo ltN := by
  refine ⟨fun a b h => ?_, fun a b c h1 h2 => ?_⟩
  · rw [ltN_eq] at h ⊢
    have h := of_decide_eq_true h
    rw [cmpS_swap a.f0 b.f0, h]; rfl
  · rw [ltN_eq] at h1 h2 ⊢
    have h1 := of_decide_eq_false h1
    have h2 := of_decide_eq_false h2
    refine decide_eq_false fun h3 => ?_
    have r1 := cmpS_range b.f0 a.f0
    have r2 := cmpS_range c.f0 b.f0
    have s1 := cmpS_swap b.f0 a.f0
    have s2 := cmpS_swap c.f0 b.f0
    have s3 := cmpS_swap c.f0 a.f0
    by_cases e1 : cmpS b.f0 a.f0 = 0
    · have := cmpS_zero e1; rw [this] at h2; exact h2 h3
    · by_cases e2 : cmpS c.f0 b.f0 = 0
      · have := cmpS_zero e2; rw [← this] at h1; exact h1 h3
      · have := cmpS_trans (a := a.f0) (b := b.f0) (c := c.f0) (by omega) (by omega)
        omega
theorem eqvN (k x : LB) : eqv ltN k x = true ↔ k.f0 = x.f0 := by
  rw [eqv_iff, ltN_eq, ltN_eq, decide_eq_false_iff_not, decide_eq_false_iff_not]
  constructor
  · rintro ⟨h1, h2⟩
    have r1 := cmpS_range k.f0 x.f0
    have s1 := cmpS_swap k.f0 x.f0
    exact cmpS_zero (by omega)
  · intro h; rw [h, cmpS_self]; constructor <;> omega
theorem stable_is : (slices_SortStableFunc : List LB → Option (List LB)) = gSortStable labels_sorted_1 := rfl
theorem stable_eq (l : List LB) (hl : l.length < 2147483648) : ∃ z, slices_SortStableFunc l = some z ∧ StS ltN l z := by
  rw [stable_is]; exact gSortStable_eq swoN l hl
theorem own_eq (l : List LB) (hl : l.length < 2147483648) : labels_own l = some l := by
  unfold labels_own mkrow
  rw [if_pos (by omega)]
  simp only [Option.bind_some, Int.toNat_natCast]
  unfold lcopy
  rw [List.length_replicate, List.take_of_length_le (Nat.le_refl _), List.drop_of_length_le (by simp), List.append_nil]
def hasV (x : LB) : Bool := !(x.f1.toList == (⟨#[]⟩ : ByteArray).toList)
/-- Two neighbours of one name. -/
def adjB (z : List LB) (n : Nat) : Bool := (List.range n).any fun i => bif decide (0 < i) then (match z[i - 1]?, z[i]? with | some x, some y => (x.f0.toList == y.f0.toList) | _, _ => false) else false
theorem adjB_succ (z : List LB) (i : Nat) (h : i < z.length) : adjB z (i + 1) = (adjB z i || (bif decide (0 < i) then (match z[i - 1]? with | some x => (x.f0.toList == z[i].f0.toList) | none => false) else false)) := by
  unfold adjB
  rw [List.range_succ, List.any_append, List.any_cons, List.any_nil, Bool.or_false, List.getElem?_eq_getElem h]
  congr 1
  cases decide (0 < i)
  · rfl
  · simp only [cond_true]
    cases z[i - 1]? <;> rfl
theorem sorted_eq (l : List LB) (hl : l.length < 2147483648) : ∃ z, labels_sorted l = some (z.filter hasV, adjB z z.length) ∧ StS ltN l z := by
  obtain ⟨z, h1, h2⟩ := stable_eq l hl
  refine ⟨z, ?_, h2⟩
  have hz : z.length = l.length := FE.length swoN _ rfl h2.1.symm
  unfold labels_sorted
  rw [own_eq l hl]
  simp only [Option.bind_some, h1]
  have key : ∀ d i : Nat, z.length - i = d → i ≤ z.length → loopO (labels_sorted_l45 z) ((z.take i).filter hasV, adjB z i, (i : Int)) = some (z.filter hasV, adjB z z.length) := by
    intro d
    induction d with
    | zero =>
      intro i hd hi
      obtain rfl : i = z.length := by omega
      rw [List.take_of_length_le (Nat.le_refl _)]
      refine loopO_done ?_
      unfold labels_sorted_l45
      rw [show decide ((z.length : Int) < (z.length : Int)) = false from decide_eq_false (by omega)]; rfl
    | succ d ih =>
      intro i hd hi
      have hlt : i < z.length := by omega
      have hx : ix z (i : Int) = some z[i] := by rw [ix_nat, List.getElem?_eq_getElem hlt]
      rw [loopO_step (s' := ((z.take (i + 1)).filter hasV, adjB z (i + 1), ((i + 1 : Nat) : Int))) (by
        unfold labels_sorted_l45
        rw [show decide ((i : Int) < (z.length : Int)) = true from decide_eq_true (by omega)]
        simp only [cond_true, hx, Option.bind_some]
        have hb : (bif adjB z i then some true else bif (decide ((i : Int) > 0)) then (Option.bind (ix z (IntKind.wrap .i64 ((i : Int) - 1))) fun (x65 : LB) => some (x65.f0.toList == z[i].f0.toList)) else some false) = some (adjB z (i + 1)) := by
          rw [adjB_succ z i hlt]
          cases adjB z i
          · by_cases h0 : 0 < i
            · rw [show decide ((i : Int) > 0) = true from decide_eq_true (by omega), show decide (0 < i) = true from decide_eq_true h0]
              rw [wrap64 (by omega) (by omega), show (i : Int) - 1 = ((i - 1 : Nat) : Int) by omega, ix_nat, List.getElem?_eq_getElem (show i - 1 < z.length by omega)]
              simp
            · rw [show decide ((i : Int) > 0) = false from decide_eq_false (by omega), show decide (0 < i) = false from decide_eq_false h0]
              rfl
          · rfl
        rw [hb]
        simp only [Option.bind_some, wrap_up (show i < 4294967296 by omega)]
        rw [show (!(z[i].f1.toList == (⟨#[]⟩ : ByteArray).toList)) = hasV z[i] from rfl]
        have ht : z.take (i + 1) = z.take i ++ [z[i]] := by rw [List.take_add_one, List.getElem?_eq_getElem hlt]; rfl
        rw [ht, List.filter_append]
        have hlen : ((z.take i).filter hasV).length ≤ i := Nat.le_trans (List.length_filter_le _ _) (by rw [List.length_take]; omega)
        cases hv : hasV z[i]
        · simp [hv]
        · rw [app_eq (by simp; omega)]
          simp [hv])]
      exact ih (i + 1) (by omega) (by omega)
  have k0 := key z.length 0 (by omega) (by omega)
  rw [List.take_zero, List.filter_nil] at k0
  have k1 : loopO (labels_sorted_l45 z) ([], false, 0) = some (z.filter hasV, adjB z z.length) := k0
  rw [k1]; rfl
end Go.Proofs.YtnlkfajnaelnnaaGreatDoor
