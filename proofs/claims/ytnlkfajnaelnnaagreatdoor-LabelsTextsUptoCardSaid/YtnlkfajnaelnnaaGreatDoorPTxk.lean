/- LabelsTexts. -/
import Derived.Test.YtnlkfajnaelnnaaGreatDoorPX9k
import Derived.Test.YtnlkfajnaelnnaaGreatDoorPX8k
import Derived.Test.YtnlkfajnaelnnaaGreatDoorPA3k
import Derived.KernelRfl
import Derived.Lib.LaidU8T
import Derived.Shelf.Unicode.ValidAny
import Derived.Shelf.Strings.OnBuilder
import Derived.Shelf.Strings.Count
/- Plain laws: Print: the program's and the document's are the text. -/
set_option linter.unusedVariables false
set_option linter.unusedSimpArgs false
set_option maxRecDepth 100000
namespace Go.Proofs.YtnlkfajnaelnnaaGreatDoor
open Go.GB Go.Lib
theorem sadd_eq {a b : ByteArray} (h : a.size + b.size ≤ 9223372036854775807) : sadd a b = some (a ++ b) := by unfold sadd; rw [if_pos h]
theorem tl_app (a b : ByteArray) : tl (a ++ b) = tl a ++ tl b := by
  show (a ++ b).data.toList = _
  rw [ByteArray.data_append, Array.toList_append]
def qText (s : ByteArray) : ByteArray := ⟨(34 :: (qBody (tl s) ++ [34])).toArray⟩
theorem quoted_eq {s : ByteArray} (h : s.size ≤ 1048576) : labels_quoted s = some (qText s) := by
  unfold labels_quoted
  rw [show Nat.ble s.size 1048576 = true from Nat.ble_eq_true_of_le h]; rfl
theorem size_tl (a : ByteArray) : a.size = (tl a).length := (tl_len a).symm
theorem qText_size (s : ByteArray) : (qText s).size ≤ 2 * s.size + 2 := by
  have := qBody_len (tl s)
  rw [tl_len] at this
  rw [size_tl]
  show (34 :: (qBody (tl s) ++ [34])).length ≤ _
  simp; omega
/-! ### the document's quotes -/
theorem bI_more (a b : List UInt8) : bI (a ++ b) = bI a ++ bI b := by simp [bI]
theorem quoted_loop {s : ByteArray} (hs : s.size ≤ 1048576) : ∀ (rest : List UInt8) (i : Nat) (P : List UInt8), (tl s).drop i = rest → P.length ≤ 2 * i + 1 → loopO (tocsinref04_Quoted_l32 s) (bI P, (i : Int)) = some (bI (P ++ qBody rest))
  | [], i, P, h, hp => by
    have h1 : s.size ≤ i := by have := List.drop_eq_nil_iff.1 h; rwa [tl_len] at this
    refine (loopO_done (r := bI P) ?_).trans (by simp [qBody])
    unfold tocsinref04_Quoted_l32
    simp only [show decide ((i : Int) < (s.size : Int)) = false from decide_eq_false (by omega), cond_false]
  | c :: rest, i, P, h, hp => by
    have h1 : i < s.size := by
      have := congrArg List.length h
      rw [List.length_drop, tl_len] at this
      simp at this; omega
    have h2 : bx s (i : Int) = some (c.toNat : Int) := by rw [bx_tl h1, gB_head h]
    have st : tocsinref04_Quoted_l32 s (bI P, (i : Int)) = some (.inl (bI (P ++ qB c), ((i + 1 : Nat) : Int))) := by
      have ap : ∀ l : List Int, l.length ≤ 2 → app (bI P) l = some (bI P ++ l) := fun l hl => app_eq (by rw [bI_len]; omega)
      have e92 : ((c.toNat : Int) == 92) = decide (c.toNat = 92) := beqN (k := 92)
      have e34 : ((c.toNat : Int) == 34) = decide (c.toNat = 34) := beqN (k := 34)
      have e10 : ((c.toNat : Int) == 10) = decide (c.toNat = 10) := beqN (k := 10)
      unfold tocsinref04_Quoted_l32
      simp only [show decide ((i : Int) < (s.size : Int)) = true from decide_eq_true (by omega), cond_true, h2, Option.bind_some, e92, e34, e10, wrap_up (show i < 4294967296 by omega)]
      rw [bI_more]
      by_cases k1 : c.toNat = 92
      · have hq : bI (qB c) = [92, ((92 : Nat) : Int)] := by unfold qB; rw [if_pos (.inl k1)]; simp [bI, k1]
        simp only [k1, decide_true, cond_true, Option.bind_some, ap [92, ((92 : Nat) : Int)] (by simp)]
        rw [hq]
      · by_cases k2 : c.toNat = 34
        · have hq : bI (qB c) = [92, ((34 : Nat) : Int)] := by unfold qB; rw [if_pos (.inr k2)]; simp [bI, k2]
          simp only [k2, decide_true, cond_true, cond_false, show decide ((34 : Nat) = 92) = false from rfl, Option.bind_some, ap [92, ((34 : Nat) : Int)] (by simp)]
          rw [hq]
        · by_cases k3 : c.toNat = 10
          · have hq : bI (qB c) = [92, 110] := by unfold qB; rw [if_neg (by omega), if_pos k3]; simp [bI]
            simp only [k3, decide_true, cond_true, cond_false, show decide ((10 : Nat) = 92) = false from rfl, show decide ((10 : Nat) = 34) = false from rfl, Option.bind_some, ap [92, 110] (by simp)]
            rw [hq]
          · have hq : bI (qB c) = [(c.toNat : Int)] := by unfold qB; rw [if_neg (by omega), if_neg k3]; simp [bI]
            simp only [k1, k2, k3, decide_false, cond_false, Option.bind_some, ap [(c.toNat : Int)] (by simp)]
            rw [hq]
    have hl : (qB c).length ≤ 2 := by rw [RQ.spec_len]; split <;> omega
    rw [loopO_step st, quoted_loop hs rest (i + 1) _ (drop_one h) (by rw [List.length_append]; omega), RQ.qc, List.append_assoc]
theorem refQuoted_eq {s : ByteArray} (hs : s.size ≤ 1048576) : tocsinref04_Quoted s = some (qText s) := by
  have h1 := quoted_loop hs (tl s) 0 [34] rfl (by simp)
  have h2 := qBody_len (tl s)
  rw [tl_len] at h2
  unfold tocsinref04_Quoted
  rw [show ([34] : List Int) = bI [34] from rfl, show (0 : Int) = ((0 : Nat) : Int) from rfl, h1]
  simp only [Option.bind_some]
  rw [app_eq (by rw [bI_len, bI_len]; simp; omega), ← bI_more]
  simp only [Option.bind_some]
  congr 1
  refine ba_ext ?_
  show (ofBytes _).data.toList = _
  rw [ofBytes_toList]
  unfold bI
  rw [List.map_map]
  show List.map _ _ = 34 :: (qBody (tl s) ++ [34])
  rw [show ([34] ++ qBody (tl s) ++ [34]) = 34 :: (qBody (tl s) ++ [34]) from rfl]
  conv => rhs; rw [← List.map_id (34 :: (qBody (tl s) ++ [34]))]
  refine List.map_congr_left fun b _ => ?_
  simp
/-! ### a label's text -/
def partB (x : LB) : ByteArray := x.f0 ++ ⟨#[61]⟩ ++ qText x.f1
theorem partB_tl (x : LB) : tl (partB x) = itemT x := by
  unfold partB itemT
  rw [tl_app, tl_app, List.append_assoc]; rfl
theorem join_body : ∀ l : List LB, Go.Lib.join ((l.map partB).map (·.data.toList)) [44] = bodyT l
  | [] => rfl
  | [x] => by
    rw [List.map_cons, List.map_nil, List.map_cons, List.map_nil, Go.Lib.join_one]
    exact partB_tl x
  | x :: y :: r => by
    have ih := join_body (y :: r)
    have h1 : tl (partB x) = itemT x := partB_tl x
    rw [bodyT, ← ih, ← h1]
    simp [Go.Lib.join, List.intercalate, List.intersperse]
theorem parts_loop {v : ByteArray} {rest : List LB} (hl : rest.length ≤ 16) (h : ∀ x ∈ rest, oneE x = 0) : loopO (labels_Print_l72 (v, rest)) ([], 0) = some (rest.map partB) := by
  have := fold_up (body := labels_Print_l72 (v, rest)) rest (fun acc x => acc ++ [partB x]) id (fun acc i => acc.length ≤ i) (fun acc i hi hI => ?_) (fun acc _ => ?_) rest.length 0 [] (by omega) (by omega) (by simp)
  · rw [List.drop_zero] at this
    have key : ∀ (l : List LB) (acc : List ByteArray), l.foldl (fun acc x => acc ++ [partB x]) acc = acc ++ l.map partB := by
      intro l
      induction l with
      | nil => intro acc; simp
      | cons x l ih => intro acc; rw [List.foldl_cons, ih]; simp
    rw [key, List.nil_append] at this
    exact this
  · obtain ⟨h1, h2, h3, _⟩ := one_parts (h rest[i] (List.getElem_mem hi))
    have h4 := (named_valid h1).1
    have h5 := qText_size rest[i].f1
    refine ⟨?_, by simp; omega⟩
    unfold labels_Print_l72
    simp only [show decide ((i : Int) < (rest.length : Int)) = true from decide_eq_true (by omega), cond_true, ix_nat, List.getElem?_eq_getElem hi, Option.bind_some, quoted_eq (show rest[i].f1.size ≤ 1048576 by omega),
      sadd_eq (a := rest[i].f0) (b := ⟨#[61]⟩) (by show _ + 1 ≤ _; omega), sadd_eq (a := rest[i].f0 ++ ⟨#[61]⟩) (b := qText rest[i].f1) (by rw [ByteArray.size_append]; show _ + 1 + _ ≤ _; omega), wrap_up (show i < 4294967296 by omega)]
    rw [app_eq (by simp; omega)]
    rfl
  · unfold labels_Print_l72
    simp only [show decide ((rest.length : Int) < (rest.length : Int)) = false from decide_eq_false (by omega), cond_false]; rfl
/-- the text itself -/
theorem whole_text {v : ByteArray} {rest : List LB} (hv : v.size ≤ 256) (hb : (bodyT rest).length ≤ 10000) (hl : rest.length ≤ 16) (h : ∀ x ∈ rest, oneE x = 0) :
    (Option.bind (loopO (labels_Print_l72 (v, rest)) ([], 0)) fun (r53 : (List ByteArray)) =>
      Option.bind (sadd v (⟨#[123]⟩ : ByteArray)) fun (s100 : ByteArray) =>
      Option.bind (strings_Join r53 (⟨#[44]⟩ : ByteArray)) fun (y102 : ByteArray) =>
      Option.bind (sadd s100 y102) fun (s104 : ByteArray) =>
      Option.bind (sadd s104 (⟨#[125]⟩ : ByteArray)) fun (s106 : ByteArray) =>
      some (s106, (0 : Int))) = some (⟨(tl v ++ 123 :: (bodyT rest ++ [125])).toArray⟩, 0) := by
  have hj : strings_Join (rest.map partB) ⟨#[44]⟩ = some ⟨(bodyT rest).toArray⟩ := by
    unfold strings_Join
    rw [show (⟨#[44]⟩ : ByteArray).data.toList = [44] from rfl, join_body, show Nat.ble (bodyT rest).length 140737488355328 = true from Nat.ble_eq_true_of_le (by omega)]; rfl
  have s1 : (⟨(bodyT rest).toArray⟩ : ByteArray).size = (bodyT rest).length := size_tl _
  rw [parts_loop hl h]
  simp only [Option.bind_some, hj, sadd_eq (a := v) (b := ⟨#[123]⟩) (by show _ + 1 ≤ _; omega)]
  rw [sadd_eq (by rw [ByteArray.size_append, s1]; show v.size + 1 + _ ≤ _; omega)]
  simp only [Option.bind_some]
  rw [sadd_eq (by rw [ByteArray.size_append, ByteArray.size_append, s1]; show v.size + 1 + _ + 1 ≤ _; omega)]
  simp only [Option.bind_some]
  congr 2
  refine ba_ext ?_
  rw [tl_app, tl_app, tl_app]
  show tl v ++ [123] ++ bodyT rest ++ [125] = tl v ++ 123 :: (bodyT rest ++ [125])
  simp
theorem nil_beq (a : ByteArray) : (a.toList == (⟨#[]⟩ : ByteArray).toList) = decide (a.size = 0) := nil_size a
theorem right_len {l : List LB} (h : (rightE l).1 = 0) : l.length ≤ 16 := (right_parts h).1
theorem rest_one {l : List LB} (h : (rightE l).1 = 0) : ∀ x ∈ restL l, oneE x = 0 := fun x hx => (right_parts h).2 x (List.mem_filter.1 hx).1
theorem Print_eq (l : List LB) (hl : l.length < 2147483640) : labels_Print l = some (if (rightE l).1 = 0 then (⟨(textL l).toArray⟩, 0) else (⟨#[]⟩, (rightE l).1)) := by
  unfold labels_Print
  rw [right_eq]
  simp only [Option.bind_some]
  by_cases h : (rightE l).1 = 0
  · have h16 := right_len h
    have hr16 : (restL l).length ≤ 16 := Nat.le_trans (List.length_filter_le _ _) h16
    have b1 := bodyT_max (right_parts h).2
    have b2 := bodyT_max (rest_one h)
    have hp : labels_pick l false [⟨#[95, 95, 110, 97, 109, 101, 95, 95]⟩] = some (restL l) := pick_eq l false [metricT] (by omega) (by simp)
    have hg : labels_Get l ⟨#[95, 95, 110, 97, 109, 101, 95, 95]⟩ = some (getE l metricT) := Get_eq l metricT (by omega)
    rw [h, if_pos rfl]
    simp only [bne_self_eq_false, cond_false, hg, Option.bind_some, Metric_eq, hp]
    unfold textL printT
    cases hv : namedB (getE l metricT) 256 true with
    | true =>
      have hv2 := named_valid hv
      simp only [cond_true, Option.bind_some, nil_beq, decide_eq_false hv2.2.1, Bool.not_false, Bool.true_and, if_true]
      by_cases hr : restL l = []
      · simp only [hr, List.length_nil, show (((0 : Nat) : Int) == 0) = true from rfl, cond_true, if_true]
      · have hr2 : (((restL l).length : Int) == 0) = false := by
          rw [beq_eq_false_iff_ne]
          have := List.length_pos_iff.2 hr
          omega
        simp only [hr2, cond_false, if_neg hr]
        exact whole_text hv2.1 (by omega) hr16 (rest_one h)
    | false =>
      simp only [cond_false, Option.bind_some, nil_beq, show decide ((⟨#[]⟩ : ByteArray).size = 0) = true from rfl, Bool.not_true, Bool.false_and, Bool.false_eq_true, if_false]
      exact whole_text (v := ⟨#[]⟩) (by show 0 ≤ 256; omega) (by omega) h16 (right_parts h).2
  · rw [if_neg h]
    rw [show ((rightE l).1 != 0) = true from by rw [bne_iff_ne]; exact h]; rfl
/-! ### the document's -/
theorem bodyT_take {l : List LB} {i : Nat} (hi : i < l.length) : bodyT (l.take (i + 1)) = if i = 0 then itemT l[i] else bodyT (l.take i) ++ 44 :: itemT l[i] := by
  have key : ∀ (l : List LB) (x : LB), bodyT (l ++ [x]) = if l = [] then itemT x else bodyT l ++ 44 :: itemT x := by
    intro l x
    induction l with
    | nil => rfl
    | cons y l ih =>
      rw [if_neg (by simp)]
      cases l with
      | nil => rfl
      | cons z r =>
        rw [if_neg (by simp)] at ih
        rw [List.cons_append, List.cons_append, bodyT, ← List.cons_append, ih, bodyT]; simp
  rw [List.take_succ_eq_append_getElem hi, key]
  by_cases h0 : i = 0
  · subst h0; simp
  · rw [if_neg h0, if_neg (fun e => by have := congrArg List.length e; rw [List.length_take, List.length_nil] at this; omega)]
theorem ref_loop {v u : ByteArray} {rest : List LB} (hu : u.size ≤ 300) (hl : rest.length ≤ 16) (h : ∀ x ∈ rest, oneE x = 0) : ∀ (d i : Nat) (a : ByteArray), rest.length - i = d → i ≤ rest.length → tl a = tl u ++ bodyT (rest.take i) →
    ∃ b, loopO (tocsinref04_Print_l57 (v, rest)) (a, (i : Int)) = some b ∧ tl b = tl u ++ bodyT rest
  | 0, i, a, hd, hi, ha => by
    obtain rfl : i = rest.length := by omega
    refine ⟨a, loopO_done ?_, by rw [ha, List.take_length]⟩
    unfold tocsinref04_Print_l57
    simp only [show decide ((rest.length : Int) < (rest.length : Int)) = false from decide_eq_false (by omega), cond_false]
  | d + 1, i, a, hd, hi, ha => by
    have hlt : i < rest.length := by omega
    obtain ⟨h1, h2, h3, _⟩ := one_parts (h rest[i] (List.getElem_mem hlt))
    have h4 := (named_valid h1).1
    have h5 := qText_size rest[i].f1
    have h6 := bodyT_max (l := rest.take i) (fun x hx => h x (List.mem_of_mem_take hx))
    rw [List.length_take] at h6
    have h7 : a.size ≤ 20000 := by rw [size_tl, ha, List.length_append, tl_len]; omega
    obtain ⟨c, hc, hc2, hc3⟩ : ∃ c : ByteArray, (bif (decide ((i : Int) > 0)) then
      (Option.bind (sadd a (⟨#[44]⟩ : ByteArray)) fun (s75 : ByteArray) =>
        some s75)
      else
      (some a)) = some c ∧ tl c = (if i = 0 then tl a else tl a ++ [44]) ∧ c.size ≤ 20001 := by
      by_cases h0 : i = 0
      · subst h0; exact ⟨a, rfl, rfl, by omega⟩
      · refine ⟨a ++ ⟨#[44]⟩, ?_, by rw [if_neg h0, tl_app], by rw [ByteArray.size_append]; show _ + 1 ≤ _; omega⟩
        rw [show decide ((i : Int) > 0) = true from decide_eq_true (by omega), sadd_eq (by show _ + 1 ≤ _; omega)]; rfl
    have st : tocsinref04_Print_l57 (v, rest) (a, (i : Int)) = some (.inl (c ++ rest[i].f0 ++ ⟨#[61]⟩ ++ qText rest[i].f1, ((i + 1 : Nat) : Int))) := by
      unfold tocsinref04_Print_l57
      simp only [show decide ((i : Int) < (rest.length : Int)) = true from decide_eq_true (by omega), cond_true, ix_nat, List.getElem?_eq_getElem hlt, Option.bind_some, hc, refQuoted_eq (show rest[i].f1.size ≤ 1048576 by omega),
        sadd_eq (a := c) (b := rest[i].f0) (by omega), sadd_eq (a := c ++ rest[i].f0) (b := ⟨#[61]⟩) (by rw [ByteArray.size_append]; show _ + 1 ≤ _; omega),
        sadd_eq (a := c ++ rest[i].f0 ++ ⟨#[61]⟩) (b := qText rest[i].f1) (by rw [ByteArray.size_append, ByteArray.size_append]; show _ + 1 + _ ≤ _; omega), wrap_up (show i < 4294967296 by omega)]
    rw [loopO_step st]
    refine ref_loop hu hl h d (i + 1) _ (by omega) (by omega) ?_
    rw [bodyT_take hlt, tl_app, tl_app, tl_app, hc2, ← partB_tl, partB, tl_app, tl_app]
    by_cases h0 : i = 0
    · subst h0
      rw [if_pos rfl, if_pos rfl, ha]
      simp [bodyT]
    · rw [if_neg h0, if_neg h0, ha]
      simp
theorem refPrint_eq (l : List LB) (hl : l.length < 2147483640) : tocsinref04_Print l = labels_Print l := by
  rw [Print_eq l hl]
  unfold tocsinref04_Print
  rw [refRight_eq]
  simp only [Option.bind_some]
  by_cases h : (rightE l).1 = 0
  · have h16 := right_len h
    have hr16 : (restL l).length ≤ 16 := Nat.le_trans (List.length_filter_le _ _) h16
    have b1 := bodyT_max (right_parts h).2
    have b2 := bodyT_max (rest_one h)
    have hp : tocsinref04_Pick l [⟨#[95, 95, 110, 97, 109, 101, 95, 95]⟩] false = some (restL l) := refPick_eq l false [metricT] (by omega) (by simp)
    have hg : tocsinref04_Get l ⟨#[95, 95, 110, 97, 109, 101, 95, 95]⟩ = some (getE l metricT) := by rw [refGet_is]; exact Get_eq l metricT (by omega)
    have whole : ∀ (v : ByteArray) (rest : List LB), v.size ≤ 256 → (bodyT rest).length ≤ 10000 → rest.length ≤ 16 → (∀ x ∈ rest, oneE x = 0) → (Option.bind (sadd v (⟨#[123]⟩ : ByteArray)) fun (s40 : ByteArray) =>
      Option.bind (loopO (tocsinref04_Print_l57 (v, rest)) (s40, 0)) fun (r46 : ByteArray) =>
      Option.bind (sadd r46 (⟨#[125]⟩ : ByteArray)) fun (s85 : ByteArray) =>
      some (s85, (0 : Int))) = some (⟨(tl v ++ 123 :: (bodyT rest ++ [125])).toArray⟩, 0) := by
      intro v rest hv hb hl h
      obtain ⟨b, e1, e2⟩ := ref_loop (v := v) (u := v ++ ⟨#[123]⟩) (rest := rest) (by rw [ByteArray.size_append]; show _ + 1 ≤ _; omega) hl h rest.length 0 (v ++ ⟨#[123]⟩) (by omega) (by omega) (by simp [bodyT])
      rw [show ((0 : Nat) : Int) = 0 from rfl] at e1
      rw [sadd_eq (by show _ + 1 ≤ _; omega)]
      simp only [Option.bind_some, e1]
      have e3 : b.size = v.size + 1 + (bodyT rest).length := by
        rw [size_tl, e2, List.length_append, tl_len, ByteArray.size_append]; rfl
      rw [sadd_eq (by rw [e3]; show _ + 1 ≤ _; omega)]
      simp only [Option.bind_some]
      congr 2
      refine ba_ext ?_
      rw [tl_app, e2, tl_app]
      show tl v ++ [123] ++ bodyT rest ++ [125] = tl v ++ 123 :: (bodyT rest ++ [125])
      simp
    rw [h, if_pos rfl]
    simp only [bne_self_eq_false, cond_false, hg, Option.bind_some, refMetric_eq, hp]
    unfold textL printT
    cases hv : namedB (getE l metricT) 256 true with
    | true =>
      have hv2 := named_valid hv
      by_cases hr : restL l = []
      · simp only [cond_true, Option.bind_some, hr, List.length_nil, show (((0 : Nat) : Int) == 0) = true from rfl, if_true]
      · have hr2 : (((restL l).length : Int) == 0) = false := by
          rw [beq_eq_false_iff_ne]
          have := List.length_pos_iff.2 hr
          omega
        simp only [cond_true, Option.bind_some, hr2, cond_false, if_neg hr, if_true]
        exact whole _ _ hv2.1 (by omega) hr16 (rest_one h)
    | false =>
      simp only [cond_false, Option.bind_some, Bool.false_eq_true, if_false]
      exact whole ⟨#[]⟩ _ (by show 0 ≤ 256; omega) (by omega) h16 (right_parts h).2
  · rw [if_neg h]
    rw [show ((rightE l).1 != 0) = true from by rw [bne_iff_ne]; exact h]; rfl
end Go.Proofs.YtnlkfajnaelnnaaGreatDoor

/- Plain laws of chapter 4: what is spoilt. -/
set_option linter.unusedVariables false
set_option linter.unusedSimpArgs false
set_option maxRecDepth 100000
namespace Go.Proofs.YtnlkfajnaelnnaaGreatDoor
open Go.GB Go.Lib
theorem Spoil_ok (l : List LB) (hl : l.length < 2147483640) : tocsinlaw04_Spoil_f28 l = some () := by
  unfold tocsinlaw04_Spoil_f28
  have key : ∀ d i : Nat, ∀ m : List LB, l.length - i = d → i ≤ l.length → m.length = l.length → ∃ z, loopO (tocsinlaw04_Spoil_f28_l25 l) (m, (i : Int)) = some z ∧ z.length = l.length := by
    intro d
    induction d with
    | zero =>
      intro i m hd hi hm
      refine ⟨m, loopO_done ?_, hm⟩
      unfold tocsinlaw04_Spoil_f28_l25
      rw [show decide ((i : Int) < (l.length : Int)) = false from decide_eq_false (by omega)]; rfl
    | succ d ih =>
      intro i m hd hi hm
      have hlt : i < m.length := by omega
      obtain ⟨z, hz, hz2⟩ := ih (i + 1) (lset m (i : Int) (⟨(⟨#[115, 112, 111, 105, 108, 116]⟩ : ByteArray), (⟨#[]⟩ : ByteArray)⟩ : LB)) (by omega) (by omega) (by rw [lset_length]; exact hm)
      refine ⟨z, ?_, hz2⟩
      rw [loopO_step ?_]
      · exact hz
      · unfold tocsinlaw04_Spoil_f28_l25
        rw [show decide ((i : Int) < (l.length : Int)) = true from decide_eq_true (by omega)]
        simp only [cond_true, ix_nat, List.getElem?_eq_getElem hlt, Option.bind_some, wrap_up (show i < 4294967296 by omega)]
  obtain ⟨z, hz, hz2⟩ := key l.length 0 l (by omega) (by omega) rfl
  have hz' : loopO (tocsinlaw04_Spoil_f28_l25 l) (l, 0) = some z := hz
  rw [hz']
  simp only [Option.bind_some]
  rw [app_eq (by simp; omega)]
  simp only [Option.bind_some]
  rw [ix_at (A := z) (B := []) (x := (⟨(⟨#[115, 112, 111, 105, 108, 116]⟩ : ByteArray), (⟨#[]⟩ : ByteArray)⟩ : LB)) rfl (by rw [List.length_append, List.length_singleton, wrap64 (by omega) (by omega)]; omega)]
  rfl
end Go.Proofs.YtnlkfajnaelnnaaGreatDoor

set_option linter.unusedVariables false
set_option linter.unusedSimpArgs false
set_option maxRecDepth 100000
namespace Go.Proofs.YtnlkfajnaelnnaaGreatDoor
open Go.GB
noncomputable def labels_named_l33_c (a2 : Bool) (l11 : List Int) : Int → Option ((Int) ⊕ ((Unit) ⊕ (Bool))) := fun s23 =>
  bif (decide (s23 < (l11.length : Int))) then
  (Option.bind (ix l11 s23) fun (x36 : Int) =>
    bif (((!(labels_letter x36)) && (!(labels_digit x36))) && (!(a2 && (x36 == 58)))) then
    (some (Sum.inr (Sum.inr false)))
    else
    (some (Sum.inl (IntKind.wrap .i64 (s23 + 1)))))
  else
  (some (Sum.inr (Sum.inl ())))
theorem labels_named_l33_ev (a2 : Bool) (l11 : List Int) (s23 : Int) : OLe (labels_named_l33_c a2 l11 s23) (labels_named_l33 a2 l11 s23) := by
  unfold labels_named_l33_c labels_named_l33
  exact (OLe.cond (OLe.bind (OLe.refl _) (fun _ => (OLe.cond (OLe.refl _) (OLe.refl _)))) (OLe.refl _))
noncomputable def labels_named_c (a0 : ByteArray) (a1 : Int) (a2 : Bool) : Option Bool :=
  Option.bind (bif (a0.toList == (⟨#[]⟩ : ByteArray).toList) then
    (some true)
    else
    (bif (decide ((a0.size : Int) > a1)) then
      (some true)
      else
      (Option.bind (bx a0 0) fun (c8 : Int) =>
        some (labels_digit c8)))) fun (j1 : Bool) =>
  bif j1 then
  (some false)
  else
  (Option.bind (sb a0) fun (l11 : List Int) =>
    Option.bind (loopF 1000000 (labels_named_l33_c a2 l11) 0) fun (r21 : (Unit) ⊕ (Bool)) =>
    match r21 with
    | Sum.inl r29 => some true
    | Sum.inr v54 => some v54)
theorem labels_named_ev (a0 : ByteArray) (a1 : Int) (a2 : Bool) : OLe (labels_named_c a0 a1 a2) (labels_named a0 a1 a2) := by
  unfold labels_named_c labels_named
  exact (OLe.bind (OLe.cond (OLe.refl _) (OLe.cond (OLe.refl _) (OLe.bind (OLe.refl _) (fun _ => (OLe.refl _))))) (fun _ => (OLe.cond (OLe.refl _) (OLe.bind (OLe.refl _) (fun _ => (OLe.bind (OLe.loop (fun _ => labels_named_l33_ev _ _ _)) (fun j => by cases j with | inl a => exact (OLe.refl _) | inr b => exact (OLe.refl _))))))))
noncomputable def labels_Name_c (a0 : ByteArray) : Option Bool :=
  Option.bind (labels_named_c a0 64 false) fun (y1 : Bool) =>
  some y1
theorem labels_Name_ev (a0 : ByteArray) : OLe (labels_Name_c a0) (labels_Name a0) := by
  unfold labels_Name_c labels_Name
  exact (OLe.bind (labels_named_ev _ _ _) (fun _ => (OLe.refl _)))
noncomputable def utf8_ValidString_c (a0 : ByteArray) : Option Bool := utf8_ValidString a0
theorem utf8_ValidString_ev (a0 : ByteArray) : OLe (utf8_ValidString_c a0) (utf8_ValidString a0) := OLe.refl _
noncomputable def labels_value_c (a0 : ByteArray) : Option Int :=
  bif (a0.toList == (⟨#[]⟩ : ByteArray).toList) then
  (some 41)
  else
  (bif (decide ((a0.size : Int) > 256)) then
    (some 4)
    else
    (Option.bind (utf8_ValidString_c a0) fun (y3 : Bool) =>
      bif (!y3) then
      (some 12)
      else
      (some 0)))
theorem labels_value_ev (a0 : ByteArray) : OLe (labels_value_c a0) (labels_value a0) := by
  unfold labels_value_c labels_value
  exact (OLe.cond (OLe.refl _) (OLe.cond (OLe.refl _) (OLe.bind (utf8_ValidString_ev _) (fun _ => (OLe.cond (OLe.refl _) (OLe.refl _))))))
noncomputable def labels_Right_l18_c (a0 : List S49) : Int → Option ((Int) ⊕ ((Unit) ⊕ (Int × Int))) := fun s8 =>
  bif (decide (s8 < (a0.length : Int))) then
  (Option.bind (ix a0 s8) fun (x21 : S49) =>
    Option.bind (labels_Name_c x21.f0) fun (y30 : Bool) =>
    bif (!y30) then
    (some (Sum.inr (Sum.inr (40, s8))))
    else
    (Option.bind (labels_value_c x21.f1) fun (y33 : Int) =>
      bif (y33 != 0) then
      (some (Sum.inr (Sum.inr (y33, s8))))
      else
      (Option.bind (bif (decide (s8 > 0)) then
          (Option.bind (ix a0 (IntKind.wrap .i64 (s8 - 1))) fun (x42 : S49) =>
            some ((Op.bytesLess x21.f0.toList x42.f0.toList) || (x21.f0.toList == x42.f0.toList)))
          else
          (some false)) fun (j36 : Bool) =>
        bif j36 then
        (some (Sum.inr (Sum.inr (3, s8))))
        else
        (some (Sum.inl (IntKind.wrap .i64 (s8 + 1)))))))
  else
  (some (Sum.inr (Sum.inl ())))
theorem labels_Right_l18_ev (a0 : List S49) (s8 : Int) : OLe (labels_Right_l18_c a0 s8) (labels_Right_l18 a0 s8) := by
  unfold labels_Right_l18_c labels_Right_l18
  exact (OLe.cond (OLe.bind (OLe.refl _) (fun _ => (OLe.bind (labels_Name_ev _) (fun _ => (OLe.cond (OLe.refl _) (OLe.bind (labels_value_ev _) (fun _ => (OLe.cond (OLe.refl _) (OLe.bind (OLe.cond (OLe.bind (OLe.refl _) (fun _ => (OLe.refl _))) (OLe.refl _)) (fun _ => (OLe.cond (OLe.refl _) (OLe.refl _)))))))))))) (OLe.refl _))
noncomputable def labels_Right_c (a0 : List S49) : Option (Int × Int) :=
  bif (decide ((a0.length : Int) > 16)) then
  (some (8, 0))
  else
  (Option.bind (loopF 1000000 (labels_Right_l18_c a0) 0) fun (r6 : (Unit) ⊕ (Int × Int)) =>
    match r6 with
    | Sum.inl r14 => some (0, 0)
    | Sum.inr v51 => some v51)
theorem labels_Right_ev (a0 : List S49) : OLe (labels_Right_c a0) (labels_Right a0) := by
  unfold labels_Right_c labels_Right
  exact (OLe.cond (OLe.refl _) (OLe.bind (OLe.loop (fun _ => labels_Right_l18_ev _ _)) (fun j => by cases j with | inl a => exact (OLe.refl _) | inr b => exact (OLe.refl _))))
noncomputable def labels_right_c (a0 : List S49) : Option Int :=
  Option.bind (labels_Right_c a0) fun (y1 : Int × Int) =>
  some y1.1
theorem labels_right_ev (a0 : List S49) : OLe (labels_right_c a0) (labels_right a0) := by
  unfold labels_right_c labels_right
  exact (OLe.bind (labels_Right_ev _) (fun _ => (OLe.refl _)))
noncomputable def labels_Get_l17_c (a0 : List S49) (a1 : ByteArray) : Int → Option ((Int) ⊕ ((Unit) ⊕ (ByteArray))) := fun s7 =>
  bif (decide (s7 < (a0.length : Int))) then
  (Option.bind (ix a0 s7) fun (x20 : S49) =>
    bif (x20.f0.toList == a1.toList) then
    (some (Sum.inr (Sum.inr x20.f1)))
    else
    (some (Sum.inl (IntKind.wrap .i64 (s7 + 1)))))
  else
  (some (Sum.inr (Sum.inl ())))
theorem labels_Get_l17_ev (a0 : List S49) (a1 : ByteArray) (s7 : Int) : OLe (labels_Get_l17_c a0 a1 s7) (labels_Get_l17 a0 a1 s7) := by
  unfold labels_Get_l17_c labels_Get_l17
  exact (OLe.cond (OLe.bind (OLe.refl _) (fun _ => (OLe.cond (OLe.refl _) (OLe.refl _)))) (OLe.refl _))
noncomputable def labels_Get_c (a0 : List S49) (a1 : ByteArray) : Option ByteArray :=
  Option.bind (loopF 1000000 (labels_Get_l17_c a0 a1) 0) fun (r5 : (Unit) ⊕ (ByteArray)) =>
  match r5 with
  | Sum.inl r13 => some (⟨#[]⟩ : ByteArray)
  | Sum.inr v30 => some v30
theorem labels_Get_ev (a0 : List S49) (a1 : ByteArray) : OLe (labels_Get_c a0 a1) (labels_Get a0 a1) := by
  unfold labels_Get_c labels_Get
  exact (OLe.bind (OLe.loop (fun _ => labels_Get_l17_ev _ _ _)) (fun j => by cases j with | inl a => exact (OLe.refl _) | inr b => exact (OLe.refl _)))
noncomputable def labels_Metric_c (a0 : ByteArray) : Option Bool :=
  Option.bind (labels_named_c a0 256 true) fun (y1 : Bool) =>
  some y1
theorem labels_Metric_ev (a0 : ByteArray) : OLe (labels_Metric_c a0) (labels_Metric a0) := by
  unfold labels_Metric_c labels_Metric
  exact (OLe.bind (labels_named_ev _ _ _) (fun _ => (OLe.refl _)))
noncomputable def slices_Index_l17_c (a0 : List ByteArray) (a1 : ByteArray) : Int → Option ((Int) ⊕ ((Unit) ⊕ (Int))) := fun s7 =>
  bif (decide (s7 < (a0.length : Int))) then
  (Option.bind (ix a0 s7) fun (x20 : ByteArray) =>
    bif (a1.toList == x20.toList) then
    (some (Sum.inr (Sum.inr s7)))
    else
    (some (Sum.inl (IntKind.wrap .i64 (s7 + 1)))))
  else
  (some (Sum.inr (Sum.inl ())))
theorem slices_Index_l17_ev (a0 : List ByteArray) (a1 : ByteArray) (s7 : Int) : OLe (slices_Index_l17_c a0 a1 s7) (slices_Index_l17 a0 a1 s7) := by
  unfold slices_Index_l17_c slices_Index_l17
  exact (OLe.cond (OLe.bind (OLe.refl _) (fun _ => (OLe.cond (OLe.refl _) (OLe.refl _)))) (OLe.refl _))
noncomputable def slices_Index_c (a0 : List ByteArray) (a1 : ByteArray) : Option Int :=
  Option.bind (loopF 1000000 (slices_Index_l17_c a0 a1) 0) fun (r5 : (Unit) ⊕ (Int)) =>
  match r5 with
  | Sum.inl r13 => some (-1)
  | Sum.inr v29 => some v29
theorem slices_Index_ev (a0 : List ByteArray) (a1 : ByteArray) : OLe (slices_Index_c a0 a1) (slices_Index a0 a1) := by
  unfold slices_Index_c slices_Index
  exact (OLe.bind (OLe.loop (fun _ => slices_Index_l17_ev _ _ _)) (fun j => by cases j with | inl a => exact (OLe.refl _) | inr b => exact (OLe.refl _)))
noncomputable def slices_Contains_c (a0 : List ByteArray) (a1 : ByteArray) : Option Bool :=
  Option.bind (slices_Index_c a0 a1) fun (y1 : Int) =>
  some (decide (y1 ≥ 0))
theorem slices_Contains_ev (a0 : List ByteArray) (a1 : ByteArray) : OLe (slices_Contains_c a0 a1) (slices_Contains a0 a1) := by
  unfold slices_Contains_c slices_Contains
  exact (OLe.bind (slices_Index_ev _ _) (fun _ => (OLe.refl _)))
noncomputable def labels_pick_l28_c (a0 : List S49) (a1 : Bool) (a2 : List ByteArray) : ((List S49) × Int) → Option (((List S49) × Int) ⊕ ((List S49))) := fun s11 =>
  bif (decide (s11.2 < (a0.length : Int))) then
  (Option.bind (ix a0 s11.2) fun (x31 : S49) =>
    Option.bind (slices_Contains_c a2 x31.f0) fun (y40 : Bool) =>
    Option.bind (bif (y40 == a1) then
      (Option.bind (app s11.1 [x31]) fun (zs56 : List S49) =>
        some zs56)
      else
      (some s11.1)) fun (j42 : (List S49)) =>
    some (Sum.inl (j42, (IntKind.wrap .i64 (s11.2 + 1)))))
  else
  (some (Sum.inr s11.1))
theorem labels_pick_l28_ev (a0 : List S49) (a1 : Bool) (a2 : List ByteArray) (s11 : (List S49) × Int) : OLe (labels_pick_l28_c a0 a1 a2 s11) (labels_pick_l28 a0 a1 a2 s11) := by
  unfold labels_pick_l28_c labels_pick_l28
  exact (OLe.cond (OLe.bind (OLe.refl _) (fun _ => (OLe.bind (slices_Contains_ev _ _) (fun _ => (OLe.bind (OLe.cond (OLe.bind (OLe.refl _) (fun _ => (OLe.refl _))) (OLe.refl _)) (fun _ => (OLe.refl _))))))) (OLe.refl _))
noncomputable def labels_pick_c (a0 : List S49) (a1 : Bool) (a2 : List ByteArray) : Option (List S49) :=
  Option.bind (loopF 1000000 (labels_pick_l28_c a0 a1 a2) ([], 0)) fun (r9 : (List S49)) =>
  some r9
theorem labels_pick_ev (a0 : List S49) (a1 : Bool) (a2 : List ByteArray) : OLe (labels_pick_c a0 a1 a2) (labels_pick a0 a1 a2) := by
  unfold labels_pick_c labels_pick
  exact (OLe.bind (OLe.loop (fun _ => labels_pick_l28_ev _ _ _ _)) (fun _ => (OLe.refl _)))
noncomputable def labels_quoted_c (a0 : ByteArray) : Option ByteArray := labels_quoted a0
theorem labels_quoted_ev (a0 : ByteArray) : OLe (labels_quoted_c a0) (labels_quoted a0) := OLe.refl _
noncomputable def strings_Join_c (a0 : List ByteArray) (a1 : ByteArray) : Option ByteArray := strings_Join a0 a1
theorem strings_Join_ev (a0 : List ByteArray) (a1 : ByteArray) : OLe (strings_Join_c a0 a1) (strings_Join a0 a1) := OLe.refl _
noncomputable def labels_Print_l72_c (j8 : ByteArray × (List S49)) : ((List ByteArray) × Int) → Option (((List ByteArray) × Int) ⊕ ((List ByteArray))) := fun s55 =>
  bif (decide (s55.2 < (j8.2.length : Int))) then
  (Option.bind (ix j8.2 s55.2) fun (x75 : S49) =>
    Option.bind (sadd x75.f0 (⟨#[61]⟩ : ByteArray)) fun (s84 : ByteArray) =>
    Option.bind (labels_quoted_c x75.f1) fun (y86 : ByteArray) =>
    Option.bind (sadd s84 y86) fun (s88 : ByteArray) =>
    Option.bind (app s55.1 [s88]) fun (zs94 : List ByteArray) =>
    some (Sum.inl (zs94, (IntKind.wrap .i64 (s55.2 + 1)))))
  else
  (some (Sum.inr s55.1))
theorem labels_Print_l72_ev (j8 : ByteArray × (List S49)) (s55 : (List ByteArray) × Int) : OLe (labels_Print_l72_c j8 s55) (labels_Print_l72 j8 s55) := by
  unfold labels_Print_l72_c labels_Print_l72
  exact (OLe.cond (OLe.bind (OLe.refl _) (fun _ => (OLe.bind (OLe.refl _) (fun _ => (OLe.bind (labels_quoted_ev _) (fun _ => (OLe.bind (OLe.refl _) (fun _ => (OLe.bind (OLe.refl _) (fun _ => (OLe.refl _))))))))))) (OLe.refl _))
noncomputable def labels_Print_c (a0 : List S49) : Option (ByteArray × Int) :=
  Option.bind (labels_right_c a0) fun (y1 : Int) =>
  bif (y1 != 0) then
  (some ((⟨#[]⟩ : ByteArray), y1))
  else
  (Option.bind (labels_Get_c a0 (⟨#[95, 95, 110, 97, 109, 101, 95, 95]⟩ : ByteArray)) fun (y4 : ByteArray) =>
    Option.bind (labels_Metric_c y4) fun (y6 : Bool) =>
    Option.bind (bif y6 then
      (Option.bind (labels_pick_c a0 false [(⟨#[95, 95, 110, 97, 109, 101, 95, 95]⟩ : ByteArray)]) fun (y25 : (List S49)) =>
        some (y4, y25))
      else
      (some ((⟨#[]⟩ : ByteArray), a0))) fun (j8 : ByteArray × (List S49)) =>
    bif ((!(j8.1.toList == (⟨#[]⟩ : ByteArray).toList)) && ((j8.2.length : Int) == 0)) then
    (some (j8.1, 0))
    else
    (Option.bind (loopF 1000000 (labels_Print_l72_c j8) ([], 0)) fun (r53 : (List ByteArray)) =>
      Option.bind (sadd j8.1 (⟨#[123]⟩ : ByteArray)) fun (s100 : ByteArray) =>
      Option.bind (strings_Join_c r53 (⟨#[44]⟩ : ByteArray)) fun (y102 : ByteArray) =>
      Option.bind (sadd s100 y102) fun (s104 : ByteArray) =>
      Option.bind (sadd s104 (⟨#[125]⟩ : ByteArray)) fun (s106 : ByteArray) =>
      some (s106, 0)))
theorem labels_Print_ev (a0 : List S49) : OLe (labels_Print_c a0) (labels_Print a0) := by
  unfold labels_Print_c labels_Print
  exact (OLe.bind (labels_right_ev _) (fun _ => (OLe.cond (OLe.refl _) (OLe.bind (labels_Get_ev _ _) (fun _ => (OLe.bind (labels_Metric_ev _) (fun _ => (OLe.bind (OLe.cond (OLe.bind (labels_pick_ev _ _ _) (fun _ => (OLe.refl _))) (OLe.refl _)) (fun _ => (OLe.cond (OLe.refl _) (OLe.bind (OLe.loop (fun _ => labels_Print_l72_ev _ _)) (fun _ => (OLe.bind (OLe.refl _) (fun _ => (OLe.bind (strings_Join_ev _ _) (fun _ => (OLe.bind (OLe.refl _) (fun _ => (OLe.bind (OLe.refl _) (fun _ => (OLe.refl _)))))))))))))))))))))
noncomputable def labels_reader_blanks_l16_c (a0 : S89) : Int → Option ((Int) ⊕ (Int)) := fun s7 =>
  Option.bind (bif (decide (s7 < (a0.f0.size : Int))) then
    (Option.bind (bx a0.f0 s7) fun (c24 : Int) =>
      bif (c24 == 32) then
      (some true)
      else
      (Option.bind (bx a0.f0 s7) fun (c27 : Int) =>
        some (c27 == 9)))
    else
    (some false)) fun (j18 : Bool) =>
  bif j18 then
  (some (Sum.inl (IntKind.wrap .i64 (s7 + 1))))
  else
  (some (Sum.inr s7))
theorem labels_reader_blanks_l16_ev (a0 : S89) (s7 : Int) : OLe (labels_reader_blanks_l16_c a0 s7) (labels_reader_blanks_l16 a0 s7) := by
  unfold labels_reader_blanks_l16_c labels_reader_blanks_l16
  exact (OLe.bind (OLe.cond (OLe.bind (OLe.refl _) (fun _ => (OLe.cond (OLe.refl _) (OLe.bind (OLe.refl _) (fun _ => (OLe.refl _)))))) (OLe.refl _)) (fun _ => (OLe.cond (OLe.refl _) (OLe.refl _))))
noncomputable def labels_reader_blanks_c (a0 : S89) : Option S89 :=
  Option.bind (loopF 1000000 (labels_reader_blanks_l16_c a0) a0.f1) fun (r5 : Int) =>
  some (⟨a0.f0, r5, a0.f2⟩ : S89)
theorem labels_reader_blanks_ev (a0 : S89) : OLe (labels_reader_blanks_c a0) (labels_reader_blanks a0) := by
  unfold labels_reader_blanks_c labels_reader_blanks
  exact (OLe.bind (OLe.loop (fun _ => labels_reader_blanks_l16_ev _ _)) (fun _ => (OLe.refl _)))
noncomputable def labels_reader_fail_c (a0 : S89) (a1 : Int) : Option S89 :=
  Option.bind (bif (decide (a0.f2 < 0)) then
    (some a1)
    else
    (some a0.f2)) fun (j1 : Int) =>
  some (⟨a0.f0, a0.f1, j1⟩ : S89)
theorem labels_reader_fail_ev (a0 : S89) (a1 : Int) : OLe (labels_reader_fail_c a0 a1) (labels_reader_fail a0 a1) := by
  unfold labels_reader_fail_c labels_reader_fail
  exact (OLe.bind (OLe.cond (OLe.refl _) (OLe.refl _)) (fun _ => (OLe.refl _)))
noncomputable def labels_reader_name_l22_c (a1 : Bool) (y2 : S89) : Int → Option ((Int) ⊕ (Int)) := fun s13 =>
  Option.bind (bif (decide (s13 < (y2.f0.size : Int))) then
    (Option.bind (bx y2.f0 s13) fun (c30 : Int) =>
      bif (labels_letter c30) then
      (some true)
      else
      (Option.bind (bx y2.f0 s13) fun (c33 : Int) =>
        bif (labels_digit c33) then
        (some true)
        else
        (bif a1 then
          (Option.bind (bx y2.f0 s13) fun (c37 : Int) =>
            some (c37 == 58))
          else
          (some false))))
    else
    (some false)) fun (j24 : Bool) =>
  bif j24 then
  (some (Sum.inl (IntKind.wrap .i64 (s13 + 1))))
  else
  (some (Sum.inr s13))
theorem labels_reader_name_l22_ev (a1 : Bool) (y2 : S89) (s13 : Int) : OLe (labels_reader_name_l22_c a1 y2 s13) (labels_reader_name_l22 a1 y2 s13) := by
  unfold labels_reader_name_l22_c labels_reader_name_l22
  exact (OLe.bind (OLe.cond (OLe.bind (OLe.refl _) (fun _ => (OLe.cond (OLe.refl _) (OLe.bind (OLe.refl _) (fun _ => (OLe.cond (OLe.refl _) (OLe.cond (OLe.bind (OLe.refl _) (fun _ => (OLe.refl _))) (OLe.refl _)))))))) (OLe.refl _)) (fun _ => (OLe.cond (OLe.refl _) (OLe.refl _))))
noncomputable def labels_reader_name_c (a0 : S89) (a1 : Bool) : Option (ByteArray × S89) :=
  bif (decide (a0.f2 ≥ 0)) then
  (some ((⟨#[]⟩ : ByteArray), a0))
  else
  (Option.bind (labels_reader_blanks_c a0) fun (y2 : S89) =>
    Option.bind (loopF 1000000 (labels_reader_name_l22_c a1 y2) y2.f1) fun (r11 : Int) =>
    Option.bind (sx y2.f0 y2.f1 r11) fun (s41 : ByteArray) =>
    Option.bind (bif a1 then
      (Option.bind (labels_Metric_c s41) fun (y48 : Bool) =>
        bif (!y48) then
        (some true)
        else
        (bif (!a1) then
          (Option.bind (labels_Name_c s41) fun (y52 : Bool) =>
            some (!y52))
          else
          (some false)))
      else
      (bif (!a1) then
        (Option.bind (labels_Name_c s41) fun (y55 : Bool) =>
          some (!y55))
        else
        (some false))) fun (j42 : Bool) =>
    Option.bind (bif j42 then
      (Option.bind (bif (s41.toList == (⟨#[]⟩ : ByteArray).toList) then
          (Option.bind (labels_reader_fail_c (⟨y2.f0, r11, y2.f2⟩ : S89) r11) fun (y69 : S89) =>
            some (y69.f0, y69.f1, y69.f2))
          else
          (some (y2.f0, r11, y2.f2))) fun (j63 : ByteArray × Int × Int) =>
        Option.bind (labels_reader_fail_c (⟨j63.1, j63.2.1, j63.2.2⟩ : S89) y2.f1) fun (y74 : S89) =>
        some (y74.f0, y74.f1, y74.f2))
      else
      (some (y2.f0, r11, y2.f2))) fun (j57 : ByteArray × Int × Int) =>
    some (s41, (⟨j57.1, j57.2.1, j57.2.2⟩ : S89)))
theorem labels_reader_name_ev (a0 : S89) (a1 : Bool) : OLe (labels_reader_name_c a0 a1) (labels_reader_name a0 a1) := by
  unfold labels_reader_name_c labels_reader_name
  exact (OLe.cond (OLe.refl _) (OLe.bind (labels_reader_blanks_ev _) (fun _ => (OLe.bind (OLe.loop (fun _ => labels_reader_name_l22_ev _ _ _)) (fun _ => (OLe.bind (OLe.refl _) (fun _ => (OLe.bind (OLe.cond (OLe.bind (labels_Metric_ev _) (fun _ => (OLe.cond (OLe.refl _) (OLe.cond (OLe.bind (labels_Name_ev _) (fun _ => (OLe.refl _))) (OLe.refl _))))) (OLe.cond (OLe.bind (labels_Name_ev _) (fun _ => (OLe.refl _))) (OLe.refl _))) (fun _ => (OLe.bind (OLe.cond (OLe.bind (OLe.cond (OLe.bind (labels_reader_fail_ev _ _) (fun _ => (OLe.refl _))) (OLe.refl _)) (fun _ => (OLe.bind (labels_reader_fail_ev _ _) (fun _ => (OLe.refl _))))) (OLe.refl _)) (fun _ => (OLe.refl _))))))))))))
noncomputable def labels_reader_next_c (a0 : S89) (a1 : Int) : Option (Bool × S89) :=
  bif (decide (a0.f2 ≥ 0)) then
  (some (false, a0))
  else
  (Option.bind (labels_reader_blanks_c a0) fun (y2 : S89) =>
    Option.bind (bif (decide (y2.f1 ≥ (y2.f0.size : Int))) then
      (some true)
      else
      (Option.bind (bx y2.f0 y2.f1) fun (c13 : Int) =>
        some (c13 != a1))) fun (j7 : Bool) =>
    bif j7 then
    (some (false, y2))
    else
    (some (true, (⟨y2.f0, (IntKind.wrap .i64 (y2.f1 + 1)), y2.f2⟩ : S89))))
theorem labels_reader_next_ev (a0 : S89) (a1 : Int) : OLe (labels_reader_next_c a0 a1) (labels_reader_next a0 a1) := by
  unfold labels_reader_next_c labels_reader_next
  exact (OLe.cond (OLe.refl _) (OLe.bind (labels_reader_blanks_ev _) (fun _ => (OLe.bind (OLe.cond (OLe.refl _) (OLe.bind (OLe.refl _) (fun _ => (OLe.refl _)))) (fun _ => (OLe.cond (OLe.refl _) (OLe.refl _)))))))
noncomputable def labels_reader_want_c (a0 : S89) (a1 : Int) : Option S89 :=
  Option.bind (labels_reader_next_c a0 a1) fun (y1 : Bool × S89) =>
  Option.bind (bif (!y1.1) then
    (Option.bind (labels_reader_fail_c y1.2 y1.2.f1) fun (y12 : S89) =>
      some (y12.f0, y12.f1, y12.f2))
    else
    (some (y1.2.f0, y1.2.f1, y1.2.f2))) fun (j6 : ByteArray × Int × Int) =>
  some (⟨j6.1, j6.2.1, j6.2.2⟩ : S89)
theorem labels_reader_want_ev (a0 : S89) (a1 : Int) : OLe (labels_reader_want_c a0 a1) (labels_reader_want a0 a1) := by
  unfold labels_reader_want_c labels_reader_want
  exact (OLe.bind (labels_reader_next_ev _ _) (fun _ => (OLe.bind (OLe.cond (OLe.bind (labels_reader_fail_ev _ _) (fun _ => (OLe.refl _))) (OLe.refl _)) (fun _ => (OLe.refl _)))))
noncomputable def strings_Builder_WriteByte_c (a0 : S127) (a1 : Int) : Option (Unit × S127) :=
  Option.bind (app ((strings_Builder_copyCheck (⟨a0.f1⟩ : S127)).f1) [a1]) fun (zs14 : List Int) =>
  some ((), (⟨zs14⟩ : S127))
theorem strings_Builder_WriteByte_ev (a0 : S127) (a1 : Int) : OLe (strings_Builder_WriteByte_c a0 a1) (strings_Builder_WriteByte a0 a1) := by
  unfold strings_Builder_WriteByte_c strings_Builder_WriteByte
  exact (OLe.bind (OLe.refl _) (fun _ => (OLe.refl _)))
noncomputable def labels_reader_value_l35_c : (ByteArray × Int × Int × Unit × (List Int)) → Option ((ByteArray × Int × Int × Unit × (List Int)) ⊕ ((ByteArray × Int × Int) ⊕ (ByteArray × S89))) := fun s19 =>
  bif ((decide (s19.2.2.1 < 0)) && (decide (s19.2.1 < (s19.1.size : Int)))) then
  (Option.bind (bx s19.1 s19.2.1) fun (c44 : Int) =>
    bif (c44 == 34) then
    (Option.bind (strings_Builder_String (⟨s19.2.2.2.2⟩ : S127)) fun (y47 : ByteArray) =>
      some (Sum.inr (Sum.inr (y47, (⟨s19.1, (IntKind.wrap .i64 (s19.2.1 + 1)), s19.2.2.1⟩ : S89)))))
    else
    (Option.bind (bif (c44 != 92) then
        (Option.bind (strings_Builder_WriteByte_c (⟨s19.2.2.2.2⟩ : S127) c44) fun (y64 : Unit × S127) =>
          some ((), y64.2.f1, s19.1, (IntKind.wrap .i64 (s19.2.1 + 1)), s19.2.2.1))
        else
        (Option.bind (bif (decide ((IntKind.wrap .i64 (s19.2.1 + 1)) ≥ (s19.1.size : Int))) then
            (Option.bind (labels_reader_fail_c (⟨s19.1, (IntKind.wrap .i64 (s19.2.1 + 1)), s19.2.2.1⟩ : S89) (IntKind.wrap .i64 (s19.2.1 + 1))) fun (y87 : S89) =>
              some ((), s19.2.2.2.2, y87.f0, y87.f1, y87.f2))
            else
            (Option.bind (bx s19.1 (IntKind.wrap .i64 (s19.2.1 + 1))) fun (c92 : Int) =>
              Option.bind (bif (c92 == 110) then
                (Option.bind (strings_Builder_WriteByte_c (⟨s19.2.2.2.2⟩ : S127) 10) fun (y106 : Unit × S127) =>
                  some ((), y106.2.f1, s19.1, (IntKind.wrap .i64 (s19.2.1 + 1)), s19.2.2.1))
                else
                (Option.bind (bif ((c92 == 92) || (c92 == 34)) then
                    (Option.bind (strings_Builder_WriteByte_c (⟨s19.2.2.2.2⟩ : S127) c92) fun (y133 : Unit × S127) =>
                      some ((), y133.2.f1, s19.1, (IntKind.wrap .i64 (s19.2.1 + 1)), s19.2.2.1))
                    else
                    (Option.bind (labels_reader_fail_c (⟨s19.1, (IntKind.wrap .i64 (s19.2.1 + 1)), s19.2.2.1⟩ : S89) (IntKind.wrap .i64 ((IntKind.wrap .i64 (s19.2.1 + 1)) - 1))) fun (y144 : S89) =>
                      some ((), s19.2.2.2.2, y144.f0, y144.f1, y144.f2))) fun (j121 : Unit × (List Int) × ByteArray × Int × Int) =>
                  some ((), j121.2.1, j121.2.2.1, j121.2.2.2.1, j121.2.2.2.2))) fun (j94 : Unit × (List Int) × ByteArray × Int × Int) =>
              some ((), j94.2.1, j94.2.2.1, (IntKind.wrap .i64 (j94.2.2.2.1 + 1)), j94.2.2.2.2))) fun (j75 : Unit × (List Int) × ByteArray × Int × Int) =>
          some ((), j75.2.1, j75.2.2.1, j75.2.2.2.1, j75.2.2.2.2))) fun (j52 : Unit × (List Int) × ByteArray × Int × Int) =>
      some (Sum.inl (j52.2.2.1, j52.2.2.2.1, j52.2.2.2.2, (), j52.2.1))))
  else
  (some (Sum.inr (Sum.inl (s19.1, s19.2.1, s19.2.2.1))))
theorem labels_reader_value_l35_ev  (s19 : ByteArray × Int × Int × Unit × (List Int)) : OLe (labels_reader_value_l35_c  s19) (labels_reader_value_l35  s19) := by
  unfold labels_reader_value_l35_c labels_reader_value_l35
  exact (OLe.cond (OLe.bind (OLe.refl _) (fun _ => (OLe.cond (OLe.bind (OLe.refl _) (fun _ => (OLe.refl _))) (OLe.bind (OLe.cond (OLe.bind (strings_Builder_WriteByte_ev _ _) (fun _ => (OLe.refl _))) (OLe.bind (OLe.cond (OLe.bind (labels_reader_fail_ev _ _) (fun _ => (OLe.refl _))) (OLe.bind (OLe.refl _) (fun _ => (OLe.bind (OLe.cond (OLe.bind (strings_Builder_WriteByte_ev _ _) (fun _ => (OLe.refl _))) (OLe.bind (OLe.cond (OLe.bind (strings_Builder_WriteByte_ev _ _) (fun _ => (OLe.refl _))) (OLe.bind (labels_reader_fail_ev _ _) (fun _ => (OLe.refl _)))) (fun _ => (OLe.refl _)))) (fun _ => (OLe.refl _)))))) (fun _ => (OLe.refl _)))) (fun _ => (OLe.refl _)))))) (OLe.refl _))
noncomputable def labels_reader_value_c (a0 : S89) : Option (ByteArray × S89) :=
  Option.bind (labels_reader_want_c a0 34) fun (y1 : S89) =>
  Option.bind (loopF 1000000 labels_reader_value_l35_c (y1.f0, y1.f1, y1.f2, (), [])) fun (r17 : (ByteArray × Int × Int) ⊕ (ByteArray × S89)) =>
  match r17 with
  | Sum.inl r31 => Option.bind (labels_reader_fail_c (⟨r31.1, r31.2.1, r31.2.2⟩ : S89) (r31.1.size : Int)) fun (y149 : S89) =>
    some ((⟨#[]⟩ : ByteArray), y149)
  | Sum.inr v154 => some v154
theorem labels_reader_value_ev (a0 : S89) : OLe (labels_reader_value_c a0) (labels_reader_value a0) := by
  unfold labels_reader_value_c labels_reader_value
  exact (OLe.bind (labels_reader_want_ev _ _) (fun _ => (OLe.bind (OLe.loop (fun _ => labels_reader_value_l35_ev  _)) (fun j => by cases j with | inl a => exact (OLe.bind (labels_reader_fail_ev _ _) (fun _ => (OLe.refl _))) | inr b => exact (OLe.refl _)))))
noncomputable def labels_reader_braces_l29_c : (ByteArray × Int × Int × (List S49)) → Option ((ByteArray × Int × Int × (List S49)) ⊕ (((List S49) × ByteArray × Int × Int) ⊕ ((List S49) × S89))) := fun s11 =>
  Option.bind (labels_reader_next_c (⟨s11.1, s11.2.1, s11.2.2.1⟩ : S89) 125) fun (y31 : Bool × S89) =>
  bif (!y31.1) then
  (Option.bind (labels_reader_name_c y31.2 false) fun (y37 : ByteArray × S89) =>
    Option.bind (labels_reader_want_c y37.2 61) fun (y43 : S89) =>
    Option.bind (labels_reader_value_c y43) fun (y48 : ByteArray × S89) =>
    bif (decide (y48.2.f2 ≥ 0)) then
    (some (Sum.inr (Sum.inr ([], y48.2))))
    else
    (Option.bind (app s11.2.2.2 [(⟨y37.1, y48.1⟩ : S49)]) fun (zs58 : List S49) =>
      Option.bind (labels_reader_next_c y48.2 44) fun (y64 : Bool × S89) =>
      bif (!y64.1) then
      (Option.bind (labels_reader_want_c y64.2 125) fun (y70 : S89) =>
        some (Sum.inr (Sum.inr (zs58, y70))))
      else
      (some (Sum.inl (y64.2.f0, y64.2.f1, y64.2.f2, zs58)))))
  else
  (some (Sum.inr (Sum.inl (s11.2.2.2, y31.2.f0, y31.2.f1, y31.2.f2))))
theorem labels_reader_braces_l29_ev  (s11 : ByteArray × Int × Int × (List S49)) : OLe (labels_reader_braces_l29_c  s11) (labels_reader_braces_l29  s11) := by
  unfold labels_reader_braces_l29_c labels_reader_braces_l29
  exact (OLe.bind (labels_reader_next_ev _ _) (fun _ => (OLe.cond (OLe.bind (labels_reader_name_ev _ _) (fun _ => (OLe.bind (labels_reader_want_ev _ _) (fun _ => (OLe.bind (labels_reader_value_ev _) (fun _ => (OLe.cond (OLe.refl _) (OLe.bind (OLe.refl _) (fun _ => (OLe.bind (labels_reader_next_ev _ _) (fun _ => (OLe.cond (OLe.bind (labels_reader_want_ev _ _) (fun _ => (OLe.refl _))) (OLe.refl _))))))))))))) (OLe.refl _))))
noncomputable def labels_reader_braces_c (a0 : S89) : Option ((List S49) × S89) :=
  Option.bind (loopF 1000000 labels_reader_braces_l29_c (a0.f0, a0.f1, a0.f2, [])) fun (r9 : ((List S49) × ByteArray × Int × Int) ⊕ ((List S49) × S89)) =>
  match r9 with
  | Sum.inl r21 => some (r21.1, (⟨r21.2.1, r21.2.2.1, r21.2.2.2⟩ : S89))
  | Sum.inr v75 => some v75
theorem labels_reader_braces_ev (a0 : S89) : OLe (labels_reader_braces_c a0) (labels_reader_braces a0) := by
  unfold labels_reader_braces_c labels_reader_braces
  exact (OLe.bind (OLe.loop (fun _ => labels_reader_braces_l29_ev  _)) (fun j => by cases j with | inl a => exact (OLe.refl _) | inr b => exact (OLe.refl _)))
noncomputable def labels_own_c (a0 : List S49) : Option (List S49) :=
  Option.bind (mkrow ((⟨(⟨#[]⟩ : ByteArray), (⟨#[]⟩ : ByteArray)⟩ : S49) : S49) (a0.length : Int) (a0.length : Int)) fun (xs1 : List S49) =>
  some (lcopy xs1 a0)
theorem labels_own_ev (a0 : List S49) : OLe (labels_own_c a0) (labels_own a0) := by
  unfold labels_own_c labels_own
  exact (OLe.bind (OLe.refl _) (fun _ => (OLe.refl _)))
noncomputable def slices_insertionSortCmpFunc_l52_c (a1 : Int) : ((List S49) × Int) → Option (((List S49) × Int) ⊕ ((List S49))) := fun s37 =>
  Option.bind (bif (decide (s37.2 > a1)) then
    (Option.bind (ix s37.1 s37.2) fun (x60 : S49) =>
      Option.bind (ix s37.1 (IntKind.wrap .i64 (s37.2 - 1))) fun (x69 : S49) =>
      some (decide ((labels_sorted_1 x60 x69) < 0)))
    else
    (some false)) fun (j54 : Bool) =>
  bif j54 then
  (Option.bind (ix s37.1 (IntKind.wrap .i64 (s37.2 - 1))) fun (x79 : S49) =>
    Option.bind (ix s37.1 s37.2) fun (x88 : S49) =>
    Option.bind (ix s37.1 s37.2) fun (x97 : S49) =>
    Option.bind (ix (lset s37.1 s37.2 x79) (IntKind.wrap .i64 (s37.2 - 1))) fun (x109 : S49) =>
    some (Sum.inl ((lset (lset s37.1 s37.2 x79) (IntKind.wrap .i64 (s37.2 - 1)) x88), (IntKind.wrap .i64 (s37.2 - 1)))))
  else
  (some (Sum.inr s37.1))
theorem slices_insertionSortCmpFunc_l52_ev (a1 : Int) (s37 : (List S49) × Int) : OLe (slices_insertionSortCmpFunc_l52_c a1 s37) (slices_insertionSortCmpFunc_l52 a1 s37) := by
  unfold slices_insertionSortCmpFunc_l52_c slices_insertionSortCmpFunc_l52
  exact (OLe.bind (OLe.cond (OLe.bind (OLe.refl _) (fun _ => (OLe.bind (OLe.refl _) (fun _ => (OLe.refl _))))) (OLe.refl _)) (fun _ => (OLe.cond (OLe.bind (OLe.refl _) (fun _ => (OLe.bind (OLe.refl _) (fun _ => (OLe.bind (OLe.refl _) (fun _ => (OLe.bind (OLe.refl _) (fun _ => (OLe.refl _))))))))) (OLe.refl _))))
noncomputable def slices_insertionSortCmpFunc_l25_c (a1 : Int) (a2 : Int) : ((List S49) × Int) → Option (((List S49) × Int) ⊕ ((List S49))) := fun s10 =>
  bif (decide (s10.2 < a2)) then
  (Option.bind (loopF 1000000 (slices_insertionSortCmpFunc_l52_c a1) (s10.1, s10.2)) fun (r35 : (List S49)) =>
    some (Sum.inl (r35, (IntKind.wrap .i64 (s10.2 + 1)))))
  else
  (some (Sum.inr s10.1))
theorem slices_insertionSortCmpFunc_l25_ev (a1 : Int) (a2 : Int) (s10 : (List S49) × Int) : OLe (slices_insertionSortCmpFunc_l25_c a1 a2 s10) (slices_insertionSortCmpFunc_l25 a1 a2 s10) := by
  unfold slices_insertionSortCmpFunc_l25_c slices_insertionSortCmpFunc_l25
  exact (OLe.cond (OLe.bind (OLe.loop (fun _ => slices_insertionSortCmpFunc_l52_ev _ _)) (fun _ => (OLe.refl _))) (OLe.refl _))
noncomputable def slices_insertionSortCmpFunc_c (a0 : List S49) (a1 : Int) (a2 : Int) : Option (List S49) :=
  Option.bind (loopF 1000000 (slices_insertionSortCmpFunc_l25_c a1 a2) (a0, (IntKind.wrap .i64 (a1 + 1)))) fun (r8 : (List S49)) =>
  some r8
theorem slices_insertionSortCmpFunc_ev (a0 : List S49) (a1 : Int) (a2 : Int) : OLe (slices_insertionSortCmpFunc_c a0 a1 a2) (slices_insertionSortCmpFunc a0 a1 a2) := by
  unfold slices_insertionSortCmpFunc_c slices_insertionSortCmpFunc
  exact (OLe.bind (OLe.loop (fun _ => slices_insertionSortCmpFunc_l25_ev _ _ _)) (fun _ => (OLe.refl _)))
noncomputable def slices_symMergeCmpFunc_c (a0 : List S49) (a1 : Int) (a2 : Int) (a3 : Int) : Option (List S49) := none
theorem slices_symMergeCmpFunc_ev (a0 : List S49) (a1 : Int) (a2 : Int) (a3 : Int) : OLe (slices_symMergeCmpFunc_c a0 a1 a2 a3) (slices_symMergeCmpFunc a0 a1 a2 a3) := by
  intro r h; cases h
noncomputable def slices_stableCmpFunc_l25_c (a1 : Int) : ((List S49) × Int × Int) → Option (((List S49) × Int × Int) ⊕ ((List S49) × Int)) := fun s10 =>
  bif (decide (s10.2.2 ≤ a1)) then
  (Option.bind (slices_insertionSortCmpFunc_c s10.1 s10.2.1 s10.2.2) fun (y28 : (List S49)) =>
    some (Sum.inl (y28, s10.2.2, (IntKind.wrap .i64 (s10.2.2 + 20)))))
  else
  (some (Sum.inr (s10.1, s10.2.1)))
theorem slices_stableCmpFunc_l25_ev (a1 : Int) (s10 : (List S49) × Int × Int) : OLe (slices_stableCmpFunc_l25_c a1 s10) (slices_stableCmpFunc_l25 a1 s10) := by
  unfold slices_stableCmpFunc_l25_c slices_stableCmpFunc_l25
  exact (OLe.cond (OLe.bind (slices_insertionSortCmpFunc_ev _ _ _) (fun _ => (OLe.refl _))) (OLe.refl _))
noncomputable def slices_stableCmpFunc_l95_c (a1 : Int) (s53 : (List S49) × Int) : ((List S49) × Int × Int) → Option (((List S49) × Int × Int) ⊕ ((List S49) × Int)) := fun s80 =>
  bif (decide (s80.2.2 ≤ a1)) then
  (Option.bind (slices_symMergeCmpFunc_c s80.1 s80.2.1 (IntKind.wrap .i64 (s80.2.1 + s53.2)) s80.2.2) fun (y98 : (List S49)) =>
    some (Sum.inl (y98, s80.2.2, (IntKind.wrap .i64 (s80.2.2 + (IntKind.wrap .i64 (2 * s53.2)))))))
  else
  (some (Sum.inr (s80.1, s80.2.1)))
theorem slices_stableCmpFunc_l95_ev (a1 : Int) (s53 : (List S49) × Int) (s80 : (List S49) × Int × Int) : OLe (slices_stableCmpFunc_l95_c a1 s53 s80) (slices_stableCmpFunc_l95 a1 s53 s80) := by
  unfold slices_stableCmpFunc_l95_c slices_stableCmpFunc_l95
  exact (OLe.cond (OLe.bind (slices_symMergeCmpFunc_ev _ _ _ _) (fun _ => (OLe.refl _))) (OLe.refl _))
noncomputable def slices_stableCmpFunc_l68_c (a1 : Int) : ((List S49) × Int) → Option (((List S49) × Int) ⊕ ((List S49))) := fun s53 =>
  bif (decide (s53.2 < a1)) then
  (Option.bind (loopF 1000000 (slices_stableCmpFunc_l95_c a1 s53) (s53.1, 0, (IntKind.wrap .i64 (2 * s53.2)))) fun (r78 : (List S49) × Int) =>
    Option.bind (bif (decide ((IntKind.wrap .i64 (r78.2 + s53.2)) < a1)) then
      (Option.bind (slices_symMergeCmpFunc_c r78.1 r78.2 (IntKind.wrap .i64 (r78.2 + s53.2)) a1) fun (y115 : (List S49)) =>
        some y115)
      else
      (some r78.1)) fun (j106 : (List S49)) =>
    some (Sum.inl (j106, (IntKind.wrap .i64 (s53.2 * 2)))))
  else
  (some (Sum.inr s53.1))
theorem slices_stableCmpFunc_l68_ev (a1 : Int) (s53 : (List S49) × Int) : OLe (slices_stableCmpFunc_l68_c a1 s53) (slices_stableCmpFunc_l68 a1 s53) := by
  unfold slices_stableCmpFunc_l68_c slices_stableCmpFunc_l68
  exact (OLe.cond (OLe.bind (OLe.loop (fun _ => slices_stableCmpFunc_l95_ev _ _ _)) (fun _ => (OLe.bind (OLe.cond (OLe.bind (slices_symMergeCmpFunc_ev _ _ _ _) (fun _ => (OLe.refl _))) (OLe.refl _)) (fun _ => (OLe.refl _))))) (OLe.refl _))
noncomputable def slices_stableCmpFunc_c (a0 : List S49) (a1 : Int) : Option (List S49) :=
  Option.bind (loopF 1000000 (slices_stableCmpFunc_l25_c a1) (a0, 0, 20)) fun (r8 : (List S49) × Int) =>
  Option.bind (slices_insertionSortCmpFunc_c r8.1 r8.2 a1) fun (y36 : (List S49)) =>
  Option.bind (loopF 1000000 (slices_stableCmpFunc_l68_c a1) (y36, 20)) fun (r51 : (List S49)) =>
  some r51
theorem slices_stableCmpFunc_ev (a0 : List S49) (a1 : Int) : OLe (slices_stableCmpFunc_c a0 a1) (slices_stableCmpFunc a0 a1) := by
  unfold slices_stableCmpFunc_c slices_stableCmpFunc
  exact (OLe.bind (OLe.loop (fun _ => slices_stableCmpFunc_l25_ev _ _)) (fun _ => (OLe.bind (slices_insertionSortCmpFunc_ev _ _ _) (fun _ => (OLe.bind (OLe.loop (fun _ => slices_stableCmpFunc_l68_ev _ _)) (fun _ => (OLe.refl _)))))))
noncomputable def slices_SortStableFunc_c (a0 : List S49) : Option (List S49) :=
  Option.bind (slices_stableCmpFunc_c a0 (a0.length : Int)) fun (y1 : (List S49)) =>
  some y1
theorem slices_SortStableFunc_ev (a0 : List S49) : OLe (slices_SortStableFunc_c a0) (slices_SortStableFunc a0) := by
  unfold slices_SortStableFunc_c slices_SortStableFunc
  exact (OLe.bind (slices_stableCmpFunc_ev _ _) (fun _ => (OLe.refl _)))
noncomputable def labels_sorted_l45_c (y10 : (List S49)) : ((List S49) × Bool × Int) → Option (((List S49) × Bool × Int) ⊕ ((List S49) × Bool)) := fun s28 =>
  bif (decide (s28.2.2 < (y10.length : Int))) then
  (Option.bind (ix y10 s28.2.2) fun (x48 : S49) =>
    Option.bind (bif s28.2.1 then
      (some true)
      else
      (bif (decide (s28.2.2 > 0)) then
        (Option.bind (ix y10 (IntKind.wrap .i64 (s28.2.2 - 1))) fun (x65 : S49) =>
          some (x65.f0.toList == x48.f0.toList))
        else
        (some false))) fun (j58 : Bool) =>
    Option.bind (bif (!(x48.f1.toList == (⟨#[]⟩ : ByteArray).toList)) then
      (Option.bind (app s28.1 [x48]) fun (zs88 : List S49) =>
        some zs88)
      else
      (some s28.1)) fun (j74 : (List S49)) =>
    some (Sum.inl (j74, j58, (IntKind.wrap .i64 (s28.2.2 + 1)))))
  else
  (some (Sum.inr (s28.1, s28.2.1)))
theorem labels_sorted_l45_ev (y10 : (List S49)) (s28 : (List S49) × Bool × Int) : OLe (labels_sorted_l45_c y10 s28) (labels_sorted_l45 y10 s28) := by
  unfold labels_sorted_l45_c labels_sorted_l45
  exact (OLe.cond (OLe.bind (OLe.refl _) (fun _ => (OLe.bind (OLe.cond (OLe.refl _) (OLe.cond (OLe.bind (OLe.refl _) (fun _ => (OLe.refl _))) (OLe.refl _))) (fun _ => (OLe.bind (OLe.cond (OLe.bind (OLe.refl _) (fun _ => (OLe.refl _))) (OLe.refl _)) (fun _ => (OLe.refl _))))))) (OLe.refl _))
noncomputable def labels_sorted_c (a0 : List S49) : Option ((List S49) × Bool) :=
  Option.bind (labels_own_c a0) fun (y1 : (List S49)) =>
  Option.bind (slices_SortStableFunc_c y1) fun (y10 : (List S49)) =>
  Option.bind (loopF 1000000 (labels_sorted_l45_c y10) ([], false, 0)) fun (r26 : (List S49) × Bool) =>
  some (r26.1, r26.2)
theorem labels_sorted_ev (a0 : List S49) : OLe (labels_sorted_c a0) (labels_sorted a0) := by
  unfold labels_sorted_c labels_sorted
  exact (OLe.bind (labels_own_ev _) (fun _ => (OLe.bind (slices_SortStableFunc_ev _) (fun _ => (OLe.bind (OLe.loop (fun _ => labels_sorted_l45_ev _ _)) (fun _ => (OLe.refl _)))))))
noncomputable def labels_Parse_c (a0 : ByteArray) : Option ((List S49) × Int × Int) :=
  bif (decide ((a0.size : Int) > 65536)) then
  (some ([], 4, 0))
  else
  (Option.bind (labels_reader_blanks_c (⟨a0, 0, (-1)⟩ : S89)) fun (y3 : S89) =>
    Option.bind (bif (decide (y3.f1 < (a0.size : Int))) then
      (Option.bind (bx a0 y3.f1) fun (c14 : Int) =>
        some (c14 == 123))
      else
      (some false)) fun (j8 : Bool) =>
    Option.bind (bif (!j8) then
      (Option.bind (labels_reader_name_c y3 true) fun (y26 : ByteArray × S89) =>
        Option.bind (app ([] : List S49) [(⟨(⟨#[95, 95, 110, 97, 109, 101, 95, 95]⟩ : ByteArray), y26.1⟩ : S49)]) fun (zs35 : List S49) =>
        Option.bind (labels_reader_blanks_c y26.2) fun (y41 : S89) =>
        some (zs35, y41.f0, y41.f1, y41.f2))
      else
      (some ([], y3.f0, y3.f1, y3.f2))) fun (j16 : (List S49) × ByteArray × Int × Int) =>
    Option.bind (labels_reader_next_c (⟨j16.2.1, j16.2.2.1, j16.2.2.2⟩ : S89) 123) fun (y46 : Bool × S89) =>
    Option.bind (bif y46.1 then
      (Option.bind (labels_reader_braces_c y46.2) fun (y61 : (List S49) × S89) =>
        Option.bind (app j16.1 y61.1) fun (zs70 : List S49) =>
        some (zs70, y61.2.f0, y61.2.f1, y61.2.f2))
      else
      (some (j16.1, y46.2.f0, y46.2.f1, y46.2.f2))) fun (j51 : (List S49) × ByteArray × Int × Int) =>
    Option.bind (labels_reader_blanks_c (⟨j51.2.1, j51.2.2.1, j51.2.2.2⟩ : S89)) fun (y76 : S89) =>
    Option.bind (bif ((decide (y76.f2 < 0)) && (decide (y76.f1 < (a0.size : Int)))) then
      (Option.bind (labels_reader_fail_c y76 y76.f1) fun (y93 : S89) =>
        some (y93.f0, y93.f1, y93.f2))
      else
      (some (y76.f0, y76.f1, y76.f2))) fun (j87 : ByteArray × Int × Int) =>
    bif (decide (j87.2.2 ≥ 0)) then
    (some ([], 3, j87.2.2))
    else
    (Option.bind (labels_sorted_c j51.1) fun (y103 : (List S49) × Bool) =>
      bif y103.2 then
      (some ([], 6, 0))
      else
      (Option.bind (labels_Right_c y103.1) fun (y113 : Int × Int) =>
        bif (y113.1 != 0) then
        (some ([], y113.1, y113.2))
        else
        (some (y103.1, 0, 0)))))
theorem labels_Parse_ev (a0 : ByteArray) : OLe (labels_Parse_c a0) (labels_Parse a0) := by
  unfold labels_Parse_c labels_Parse
  exact (OLe.cond (OLe.refl _) (OLe.bind (labels_reader_blanks_ev _) (fun _ => (OLe.bind (OLe.cond (OLe.bind (OLe.refl _) (fun _ => (OLe.refl _))) (OLe.refl _)) (fun _ => (OLe.bind (OLe.cond (OLe.bind (labels_reader_name_ev _ _) (fun _ => (OLe.bind (OLe.refl _) (fun _ => (OLe.bind (labels_reader_blanks_ev _) (fun _ => (OLe.refl _))))))) (OLe.refl _)) (fun _ => (OLe.bind (labels_reader_next_ev _ _) (fun _ => (OLe.bind (OLe.cond (OLe.bind (labels_reader_braces_ev _) (fun _ => (OLe.bind (OLe.refl _) (fun _ => (OLe.refl _))))) (OLe.refl _)) (fun _ => (OLe.bind (labels_reader_blanks_ev _) (fun _ => (OLe.bind (OLe.cond (OLe.bind (labels_reader_fail_ev _ _) (fun _ => (OLe.refl _))) (OLe.refl _)) (fun _ => (OLe.cond (OLe.refl _) (OLe.bind (labels_sorted_ev _) (fun _ => (OLe.cond (OLe.refl _) (OLe.bind (labels_Right_ev _) (fun _ => (OLe.cond (OLe.refl _) (OLe.refl _)))))))))))))))))))))))
noncomputable def labels_Hash_1_l16_c (a0 : ByteArray) : (Int × Int) → Option ((Int × Int) ⊕ (Int)) := fun s7 =>
  bif (decide (s7.2 < (a0.size : Int))) then
  (Option.bind (bx a0 s7.2) fun (c19 : Int) =>
    some (Sum.inl ((IntKind.wrap .u64 ((bitXor .u64 s7.1 (IntKind.wrap .u64 c19)) * 1099511628211)), (IntKind.wrap .i64 (s7.2 + 1)))))
  else
  (some (Sum.inr s7.1))
theorem labels_Hash_1_l16_ev (a0 : ByteArray) (s7 : Int × Int) : OLe (labels_Hash_1_l16_c a0 s7) (labels_Hash_1_l16 a0 s7) := by
  unfold labels_Hash_1_l16_c labels_Hash_1_l16
  exact (OLe.cond (OLe.bind (OLe.refl _) (fun _ => (OLe.refl _))) (OLe.refl _))
noncomputable def labels_Hash_1_c (a0 : ByteArray) (a1 : Int) : Option Int :=
  Option.bind (loopF 1000000 (labels_Hash_1_l16_c a0) (a1, 0)) fun (r5 : Int) =>
  some (IntKind.wrap .u64 ((bitXor .u64 r5 255) * 1099511628211))
theorem labels_Hash_1_ev (a0 : ByteArray) (a1 : Int) : OLe (labels_Hash_1_c a0 a1) (labels_Hash_1 a0 a1) := by
  unfold labels_Hash_1_c labels_Hash_1
  exact (OLe.bind (OLe.loop (fun _ => labels_Hash_1_l16_ev _ _)) (fun _ => (OLe.refl _)))
noncomputable def labels_Hash_l17_c (a0 : List S49) : (Int × Int) → Option ((Int × Int) ⊕ (Int)) := fun s8 =>
  bif (decide (s8.2 < (a0.length : Int))) then
  (Option.bind (ix a0 s8.2) fun (x20 : S49) =>
    Option.bind (labels_Hash_1_c x20.f0 s8.1) fun (y29 : Int) =>
    Option.bind (labels_Hash_1_c x20.f1 y29) fun (y34 : Int) =>
    some (Sum.inl (y34, (IntKind.wrap .i64 (s8.2 + 1)))))
  else
  (some (Sum.inr s8.1))
theorem labels_Hash_l17_ev (a0 : List S49) (s8 : Int × Int) : OLe (labels_Hash_l17_c a0 s8) (labels_Hash_l17 a0 s8) := by
  unfold labels_Hash_l17_c labels_Hash_l17
  exact (OLe.cond (OLe.bind (OLe.refl _) (fun _ => (OLe.bind (labels_Hash_1_ev _ _) (fun _ => (OLe.bind (labels_Hash_1_ev _ _) (fun _ => (OLe.refl _))))))) (OLe.refl _))
noncomputable def labels_Hash_c (a0 : List S49) : Option Int :=
  Option.bind (loopF 1000000 (labels_Hash_l17_c a0) (14695981039346656037, 0)) fun (r6 : Int) =>
  some r6
theorem labels_Hash_ev (a0 : List S49) : OLe (labels_Hash_c a0) (labels_Hash a0) := by
  unfold labels_Hash_c labels_Hash
  exact (OLe.bind (OLe.loop (fun _ => labels_Hash_l17_ev _ _)) (fun _ => (OLe.refl _)))
noncomputable def tocsinlaw04_awake_c : Option Bool :=
  Option.bind (labels_Parse_c (⟨#[117, 112, 32, 123, 32, 106, 111, 98, 32, 61, 32, 34, 120, 34, 32, 44, 32, 125]⟩ : ByteArray)) fun (y1 : (List S49) × Int × Int) =>
  Option.bind (labels_Print_c y1.1) fun (y10 : ByteArray × Int) =>
  Option.bind (bif (y1.2.1 == 0) then
    (bif (y10.2 == 0) then
      (bif (y10.1.toList == (⟨#[117, 112, 123, 106, 111, 98, 61, 34, 120, 34, 125]⟩ : ByteArray).toList) then
        (Option.bind (labels_Get_c y1.1 (⟨#[106, 111, 98]⟩ : ByteArray)) fun (y20 : ByteArray) =>
          bif (y20.toList == (⟨#[120]⟩ : ByteArray).toList) then
          (Option.bind (labels_Hash_c []) fun (y23 : Int) =>
            some (y23 == 14695981039346656037))
          else
          (some false))
        else
        (some false))
      else
      (some false))
    else
    (some false)) fun (j12 : Bool) =>
  some j12
theorem tocsinlaw04_awake_ev  : OLe (tocsinlaw04_awake_c ) (tocsinlaw04_awake ) := by
  unfold tocsinlaw04_awake_c tocsinlaw04_awake
  exact (OLe.bind (labels_Parse_ev _) (fun _ => (OLe.bind (labels_Print_ev _) (fun _ => (OLe.bind (OLe.cond (OLe.cond (OLe.cond (OLe.bind (labels_Get_ev _ _) (fun _ => (OLe.cond (OLe.bind (labels_Hash_ev _) (fun _ => (OLe.refl _))) (OLe.refl _)))) (OLe.refl _)) (OLe.refl _)) (OLe.refl _)) (fun _ => (OLe.refl _)))))))
end Go.Proofs.YtnlkfajnaelnnaaGreatDoor

namespace Go.Proofs.YtnlkfajnaelnnaaGreatDoor
open Go.GB
theorem awake04 : tocsinlaw04_awake = some true := tocsinlaw04_awake_ev _ (by kernel_rfl)
end Go.Proofs.YtnlkfajnaelnnaaGreatDoor

set_option linter.unusedVariables false
set_option linter.unusedSimpArgs false
set_option maxRecDepth 100000
namespace Go.Proofs.YtnlkfajnaelnnaaGreatDoor
open Go.GB Go.Lib
theorem texts_core (l : List LB) (s : ByteArray) (hl : l.length < 2147483600) : tocsinlaw04_LabelsTexts l s = some true := by
  obtain ⟨r, h1, h2, h3, _⟩ := Parse_both s
  have hp := refPrint_eq l (by omega)
  have hq := Print_eq l (by omega)
  unfold tocsinlaw04_LabelsTexts
  rw [Lent_eq l (by omega), hp]
  simp only [Option.bind_some, hq, beq_self_eq_true, Bool.not_true, cond_false, bne_self_eq_false, Kept_eq l (by omega), h1, h2, same_self r.1 (by omega), Spoil_ok r.1 (by omega), cond_true, awake04]
theorem tocsinlaw04_LabelsTexts_true {I : Imm} {c0 c1 : List Value} {n0 n1 : Nat} (a0 : List S49) (a1 : ByteArray) (h0 : (Kd.sl kS49).R I a0 c0) (h1 : Kd.str.R I a1 c1)
    (w0 : wSl wS49 a0 n0) (w1 : wStr a1 n1) (hn : n0 + n1 ≤ 1048576) : tocsinlaw04_LabelsTexts a0 a1 = some true :=
  texts_core a0 a1 (by have := w0.len; omega)
end Go.Proofs.YtnlkfajnaelnnaaGreatDoor
