/- Plain laws: LexPlaces. -/
import Derived.Test.YtlhpclfkoblnkaaDoorLX11p
import Derived.Test.YtlhpclfkoblnkaaDoorLZ2p
set_option linter.unusedVariables false
set_option maxRecDepth 100000
namespace Go.GB
open Go.Lib
def fromOf (t : Tk3) : Nat := if t.kind = 4 then t.at_ else t.at_ + t.text.length
/-- tokens that rise, and stand where they are told -/
def GoodT (L0 : List UInt8) : Nat → List Tk3 → Prop
  | f, [] => f ≤ L0.length
  | f, t :: r => f ≤ t.at_ ∧ t.at_ ≤ L0.length ∧ 1 ≤ t.kind ∧ t.kind ≤ 5 ∧ (t.kind ≠ 4 → 1 ≤ t.text.length ∧ t.text.length ≤ L0.length - t.at_ ∧ (L0.drop t.at_).take t.text.length = t.text) ∧ GoodT L0 (fromOf t) r
theorem toksL_good {L0 : List UInt8} : ∀ (m a f : Nat) (r : List Tk3), L0.length - a = m → a ≤ L0.length → f ≤ a → toksL (L0.drop a) a = .inl r → GoodT L0 f r := by
  intro m
  induction m using Nat.strongRecOn with
  | _ m ih =>
    intro a f r hm ha hf h
    by_cases he : (L0.drop a).drop (skipL (L0.drop a)) = []
    · rw [toksL_end he] at h; cases h; show f ≤ L0.length; omega
    · cases ho : oneL ((L0.drop a).drop (skipL (L0.drop a))) with
      | none => rw [toksL_bad he ho] at h; cases h
      | some ktn =>
        obtain ⟨k, x, n⟩ := ktn
        have hp := oneL_pos ho
        have hk := oneL_kind ho
        rw [toksL_cons he ho, List.drop_drop] at h
        rw [List.drop_drop] at hp hk
        rw [List.length_drop] at hp
        generalize skipL (L0.drop a) = s at *
        split at h
        · rename_i r' hr
          cases h
          refine ⟨by show f ≤ a + s; omega, by show a + s ≤ L0.length; omega, hk.1, hk.2.1, fun h4 => ?_, ?_⟩
          · have hx := hk.2.2.1 h4
            have hxl : x.length = n := by rw [hx, List.length_take, List.length_drop]; omega
            show 1 ≤ x.length ∧ x.length ≤ L0.length - (a + s) ∧ (L0.drop (a + s)).take x.length = x
            exact ⟨by omega, by omega, by rw [hxl]; exact hx.symm⟩
          · refine ih (L0.length - (a + s + n)) (by omega) (a + s + n) _ r' rfl (by omega) ?_ (by rw [← Nat.add_assoc] at hr; exact hr)
            unfold fromOf
            simp only
            split
            · omega
            · rename_i h4
              have hx := hk.2.2.1 h4
              have hxl : x.length = n := by rw [hx, List.length_take, List.length_drop]; omega
              omega
        · cases h
theorem toksL_fault {l : List UInt8} {a p : Nat} (h : toksL l a = .inr p) : p ≤ a + l.length := by
  induction hm : l.length using Nat.strongRecOn generalizing l a with
  | _ m ih =>
    have hs := skipL_le l
    by_cases he : l.drop (skipL l) = []
    · rw [toksL_end he] at h; cases h
    · cases ho : oneL (l.drop (skipL l)) with
      | none => rw [toksL_bad he ho] at h; cases h; omega
      | some ktn =>
        obtain ⟨k, x, n⟩ := ktn
        have hp := oneL_pos ho
        rw [List.length_drop] at hp
        rw [toksL_cons he ho] at h
        split at h
        · cases h
        · rename_i p' hr
          cases h
          have := ih _ (by rw [List.length_drop]; omega) hr rfl
          rw [List.length_drop] at this
          omega
end Go.GB
namespace Go.Proofs.YtlhpclfkoblnkaaDoor
open Go.GB Go.Lib
def keyT (x : S27) : Int × List UInt8 := (x.f0, tl x.f1)
theorem same_true {a b : List S27} (h : a.map keyT = b.map keyT) (hl : a.length ≤ 2147483648) : lex_Same a b = some true := by
  have hlen : a.length = b.length := by have := congrArg List.length h; simpa using this
  unfold lex_Same
  rw [hlen, show (((b.length : Nat) : Int) != ((b.length : Nat) : Int)) = false from by simp, cond_false]
  refine bind_of (a := .inl ()) ?_ rfl
  have h := up_all (body := lex_Same_l18 a b) (n := a.length) (fun _ => true) (fun i hi => by
    have hk : (a.map keyT)[i]? = (b.map keyT)[i]? := by rw [h]
    rw [List.getElem?_map, List.getElem?_map, List.getElem?_eq_getElem hi, List.getElem?_eq_getElem (show i < b.length by omega)] at hk
    simp only [Option.map_some, Option.some.injEq, keyT, Prod.mk.injEq] at hk
    unfold lex_Same_l18
    rw [decide_eq_true (by omega), cond_true, ix_nat, ix_nat, List.getElem?_eq_getElem hi, List.getElem?_eq_getElem (show i < b.length by omega)]
    simp only [Option.bind_some]
    rw [hk.1, bne_self_eq_false, cond_false, tl_inj, hk.2, beq_self_eq_true]
    simp only [Bool.not_true, Option.bind_some, cond_false, cond_true]
    rw [wrap_up (by omega)]) (by
    unfold lex_Same_l18
    rw [decide_eq_false (by omega), cond_false])
  rw [h, if_pos (by simp)]
theorem tokR_ok {s : ByteArray} {r : List Tk3} (hs : s.size ≤ 65536) (h : toksL (tl s) 0 = .inl r) (hr : r.length + 1 ≤ 4096) : tokR s = (r.map tokOf ++ [endTok s], 0, 0) := by
  unfold tokR
  rw [if_neg (by omega), h]
  simp only
  rw [if_neg (by omega)]
theorem tokR_cases (s : ByteArray) : (∃ r, s.size ≤ 65536 ∧ toksL (tl s) 0 = .inl r ∧ r.length + 1 ≤ 4096 ∧ tokR s = (r.map tokOf ++ [endTok s], 0, 0)) ∨ (∃ e p : Nat, tokR s = ([], (e : Int), (p : Int)) ∧ e ≠ 0 ∧ p ≤ s.size) := by
  have hl := tl_len s
  by_cases hs : s.size > 65536
  · exact .inr ⟨4, 0, by unfold tokR; rw [if_pos hs]; rfl, by omega, by omega⟩
  cases h : toksL (tl s) 0 with
  | inl r =>
    by_cases hr : r.length + 1 ≤ 4096
    · exact .inl ⟨r, by omega, rfl, hr, tokR_ok (by omega) h hr⟩
    · refine .inr ⟨7, 0, ?_, by omega, by omega⟩
      unfold tokR; rw [if_neg hs, h]; simp only; rw [if_pos (by omega)]; rfl
  | inr p =>
    refine .inr ⟨130, p, ?_, by omega, ?_⟩
    · unfold tokR; rw [if_neg hs, h]; rfl
    · have := toksL_fault h; omega
theorem places_loop {s : ByteArray} {r : List Tk3} (hs : s.size ≤ 65536) (hr : r.length + 1 ≤ 4096) : ∀ (d i f : Nat), i + d = r.length → GoodT (tl s) f (r.drop i) →
    loopO (tocsinlaw13_LexPlaces_l37 s (r.map tokOf ++ [endTok s], 0, 0)) ((f : Int), (i : Int)) = some (.inl ()) := by
  have hl := tl_len s
  have hlen : (r.map tokOf ++ [endTok s]).length = r.length + 1 := by simp
  intro d
  induction d with
  | zero =>
    intro i f hi hg
    have hir : i = r.length := by omega
    subst hir
    rw [List.drop_length] at hg
    have hf : f ≤ s.size := by have : f ≤ (tl s).length := hg; omega
    have hix : ix (r.map tokOf ++ [endTok s]) ((r.length : Nat) : Int) = some (endTok s) := by
      rw [ix_nat, List.getElem?_append_right (by simp)]; simp
    have hb1 : tocsinlaw13_LexPlaces_l37 s (r.map tokOf ++ [endTok s], 0, 0) ((f : Int), ((r.length : Nat) : Int)) = some (.inl ((s.size : Int), ((r.length + 1 : Nat) : Int))) := by
      unfold tocsinlaw13_LexPlaces_l37
      simp only [hlen]
      rw [decide_eq_true (by omega), cond_true, hix]
      simp only [Option.bind_some, endTok]
      rw [decide_eq_false (show ¬ ((s.size : Int) < (f : Int)) by omega), decide_eq_false (show ¬ ((s.size : Int) > (s.size : Int)) by omega), wrapN (n := r.length) (by omega) (by omega)]
      simp only [beq_self_eq_true, Bool.not_true, Bool.or_self, cond_false, Bool.or_true, cond_true, Option.bind_some]
      rw [wrapN (n := r.length + 1) (by omega) (by omega)]
    rw [loopO_step hb1]
    refine loopO_done ?_
    unfold tocsinlaw13_LexPlaces_l37
    simp only [hlen]
    rw [decide_eq_false (by omega), cond_false]
  | succ d ih =>
    intro i f hi hg
    have hir : i < r.length := by omega
    rw [List.drop_eq_getElem_cons hir] at hg
    obtain ⟨h1, h2, h3, h4, h5, h6⟩ := hg
    obtain ⟨t, ht⟩ : ∃ t, r[i] = t := ⟨_, rfl⟩
    rw [ht] at h1 h2 h3 h4 h5 h6
    rw [hl] at h2 h5
    have hix : ix (r.map tokOf ++ [endTok s]) (i : Int) = some (tokOf t) := by
      rw [ix_nat, List.getElem?_append_left (by simpa using hir), List.getElem?_map, List.getElem?_eq_getElem hir, ht]; rfl
    have hb : tocsinlaw13_LexPlaces_l37 s (r.map tokOf ++ [endTok s], 0, 0) ((f : Int), (i : Int)) = some (.inl (((fromOf t : Nat) : Int), ((i + 1 : Nat) : Int))) := by
      unfold tocsinlaw13_LexPlaces_l37
      simp only [hlen]
      rw [decide_eq_true (by omega), cond_true, hix]
      simp only [Option.bind_some, tokOf]
      rw [decide_eq_false (show ¬ ((t.at_ : Int) < (f : Int)) by omega), decide_eq_false (show ¬ ((t.at_ : Int) > (s.size : Int)) by omega), wrapN (n := r.length) (by omega) (by omega),
        show (((t.kind : Nat) : Int) == 0) = false from by rw [beq_eq_false_iff_ne]; omega, show (((i : Nat) : Int) == ((r.length : Nat) : Int)) = false from by rw [beq_eq_false_iff_ne]; omega]
      simp only [beq_self_eq_true, Bool.not_true, Bool.or_self, cond_false, Bool.or_false]
      unfold fromOf
      by_cases hk : t.kind = 4
      · rw [hk, if_pos rfl]
        simp only [show (((4 : Nat) : Int) == 4) = true from rfl, cond_true, Option.bind_some]
        rw [wrapN (n := i + 1) (by omega) (by omega)]
      · obtain ⟨g1, g2, g3⟩ := h5 hk
        rw [show (((t.kind : Nat) : Int) == 4) = false from by rw [beq_eq_false_iff_ne]; omega, if_neg hk]
        have hsz : (⟨t.text.toArray⟩ : ByteArray).size = t.text.length := by rw [← tl_len]
        rw [hsz]
        rw [show (((t.text.length : Nat) : Int) == 0) = false from by rw [beq_eq_false_iff_ne]; omega, wrapN (n := s.size - t.at_) (by omega) (by omega), decide_eq_false (show ¬ (((t.text.length : Nat) : Int) > ((s.size - t.at_ : Nat) : Int)) by omega), wrapN (n := t.at_ + t.text.length) (by omega) (by omega)]
        simp only [cond_false]
        rw [sx_tl (by omega) (by omega), Option.bind_some, Option.bind_some, extract_ba2, g3, beq_self_eq_true]
        simp only [Bool.not_true, cond_false, Option.bind_some]
        rw [wrapN (n := i + 1) (by omega) (by omega)]
    rw [loopO_step hb]
    exact ih (i + 1) (fromOf t) (by omega) h6
theorem lx_pre {α : Type} {xs : List α} {n : Nat} (h : n ≤ xs.length) : lx xs 0 (n : Int) = some (xs.take n) := by
  unfold lx
  rw [if_pos ⟨by omega, by omega, by omega⟩]
  simp
theorem cuts_loop {s : ByteArray} {r : List Tk3} (hs : s.size ≤ 65536) (hr : r.length + 1 ≤ 4096) (ht : toksL (tl s) 0 = .inl r) : loopO (tocsinlaw13_LexPlaces_l114 s (r.map tokOf ++ [endTok s], 0, 0)) 0 = some (.inl ()) := by
  have hl := tl_len s
  have hlen : (r.map tokOf ++ [endTok s]).length = r.length + 1 := by simp
  have h := up_all (body := tocsinlaw13_LexPlaces_l114 s (r.map tokOf ++ [endTok s], 0, 0)) (n := r.length + 1) (fun _ => true) (fun i hi => by
    have hat : ∃ p : Nat, p ≤ s.size ∧ (∃ x : S27, (r.map tokOf ++ [endTok s])[i]? = some x ∧ x.f2 = (p : Int)) ∧ (match r[i]? with | some t => t.at_ = 0 + p | none => p = (tl s).length) := by
      rcases Nat.lt_or_ge i r.length with h1 | h1
      · have := toksL_at ht i r[i] (List.getElem?_eq_getElem h1)
        refine ⟨r[i].at_, by omega, ⟨tokOf r[i], ?_, rfl⟩, ?_⟩
        · rw [List.getElem?_append_left (by simpa using h1), List.getElem?_map, List.getElem?_eq_getElem h1]; rfl
        · rw [List.getElem?_eq_getElem h1]; simp
      · have : i = r.length := by omega
        subst this
        refine ⟨s.size, Nat.le_refl _, ⟨endTok s, ?_, rfl⟩, ?_⟩
        · rw [List.getElem?_append_right (by simp)]; simp
        · rw [List.getElem?_eq_none (Nat.le_refl _)]; exact hl.symm
    obtain ⟨p, hp, ⟨x, hx, hx2⟩, hm⟩ := hat
    have hcut := toksL_cut _ (tl s) 0 r i p rfl ht (by omega) (by omega) hm
    have htl : tl (s.extract 0 p) = (tl s).take p := by rw [tl_extract, List.drop_zero, Nat.sub_zero]
    have hsz : (s.extract 0 p).size ≤ 65536 := by rw [← tl_len, htl, List.length_take]; omega
    have hrl : (r.take i).length = i := by rw [List.length_take]; omega
    have htok : lex_Tokens (s.extract 0 p) = some ((r.take i).map tokOf ++ [endTok (s.extract 0 p)], 0, 0) := by
      rw [lex_Tokens_eq, tokR_ok (r := r.take i) hsz (by rw [htl]; exact hcut) (by omega)]
    unfold tocsinlaw13_LexPlaces_l114
    simp only [hlen]
    rw [decide_eq_true (by omega), cond_true, ix_nat, hx]
    simp only [Option.bind_some]
    rw [hx2, show sx s 0 (p : Int) = some (s.extract 0 p) from sx_tl (a := 0) (Nat.zero_le _) hp]
    simp only [Option.bind_some, htok]
    rw [show ((0 : Int) != 0) = false from rfl, cond_false, wrapN (n := i + 1) (by omega) (by omega)]
    have hlen2 : ((r.take i).map tokOf ++ [endTok (s.extract 0 p)]).length = i + 1 := by simp; omega
    rw [hlen2, bne_self_eq_false, cond_false, lx_pre (by omega), lx_pre (by omega)]
    simp only [Option.bind_some]
    have e1 : ((r.take i).map tokOf ++ [endTok (s.extract 0 p)]).take i = (r.take i).map tokOf := by rw [List.take_left' (by simp; omega)]
    have e2 : (r.map tokOf ++ [endTok s]).take i = (r.take i).map tokOf := by rw [List.take_append_of_le_length (by simp; omega), List.map_take]
    rw [e1, e2, same_true rfl (by simp; omega)]
    rfl) (by
    unfold tocsinlaw13_LexPlaces_l114
    simp only [hlen]
    rw [decide_eq_false (by omega), cond_false])
  rw [h, if_pos (by simp)]
theorem tocsinlaw13_LexPlaces_true {I : Imm} {c0 : List Value} {n0 : Nat} (a0 : ByteArray) (h0 : Kd.str.R I a0 c0) (w0 : wStr a0 n0) (hn : n0 ≤ 1048576) : tocsinlaw13_LexPlaces a0 = some true := by
  have hl := tl_len a0
  unfold tocsinlaw13_LexPlaces
  rw [lex_Tokens_eq, Option.bind_some]
  rcases tokR_cases a0 with ⟨r, hs, ht, hr, e⟩ | ⟨e, p, he, he0, hp⟩
  · rw [e]
    have hlen : (r.map tokOf ++ [endTok a0]).length = r.length + 1 := by simp
    simp only [hlen]
    rw [show ((0 : Int) != 0) = false from rfl, cond_false]
    have hpl := places_loop (s := a0) hs hr r.length 0 0 (by omega) (toksL_good _ 0 0 r rfl (Nat.zero_le _) (Nat.le_refl _) (by rw [List.drop_zero]; exact ht))
    refine bind_of hpl ?_
    simp only
    by_cases hb : r.length + 1 > 50 ∨ a0.size > 2000
    · rw [show ((((((r.length + 1 : Nat) : Int) == 0) || decide (((r.length + 1 : Nat) : Int) > 50)) || decide ((a0.size : Int) > 2000))) = true from by
        rcases hb with h | h
        · rw [decide_eq_true (show ((r.length + 1 : Nat) : Int) > 50 by omega)]; simp
        · rw [decide_eq_true (show (a0.size : Int) > 2000 by omega)]; simp, cond_true, decide_eq_true (by omega), cond_true, known_true]
      rfl
    · rw [not_or] at hb
      rw [show ((((((r.length + 1 : Nat) : Int) == 0) || decide (((r.length + 1 : Nat) : Int) > 50)) || decide ((a0.size : Int) > 2000))) = false from by
        rw [decide_eq_false (by omega), decide_eq_false (by omega), show ((((r.length + 1 : Nat) : Int)) == 0) = false from by rw [beq_eq_false_iff_ne]; omega]; rfl, cond_false]
      refine bind_of (cuts_loop hs hr ht) ?_
      simp only
      rw [wrapN (n := r.length) (by omega) (by omega), ix_nat, List.getElem?_append_right (by simp)]
      simp [endTok, known_true]
  · rw [he]
    simp only
    rw [show (((e : Nat) : Int) != 0) = true from by rw [bne_iff_ne]; omega, cond_true]
    simp only [List.length_nil]
    rw [show ((((0 : Nat) : Int)) == 0) = true from rfl, cond_true, decide_eq_true (by omega), cond_true, decide_eq_true (by omega), cond_true, known_true]
    rfl
end Go.Proofs.YtlhpclfkoblnkaaDoor
