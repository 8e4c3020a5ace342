/- Regions that draw their order: what leaves the world as it is goes in any order, the others go one behind the other, a forced tail goes as a plain region does. -/
import Derived.Test.YtjkkmbjkndageaaDoorGB6
import Derived.StillTail
set_option linter.unusedVariables false
set_option linter.unusedSimpArgs false
namespace Go.GB

theorem Holds.imm_le {I J : Imm} {L : Own} {W : World} (h : Holds J L W) (hI : I ≤ J) : Holds I L W := by
  refine ⟨fun b o hb => h.imm b o (hI.h b o hb), h.own, h.nd, fun p hp => ?_, by rw [h.os, hI.os], by rw [h.tape, hI.tape], by rw [h.out, hI.out], by rw [← hI.dr]; exact h.dr⟩
  cases hx : I.h p.1 with
  | none => rfl
  | some o => have := hI.h _ _ hx; rw [h.dj p hp] at this; cases this

/-- From here on: nothing of I0 is lost, and the blocks of L0 stay what they are. -/
structure CC (I0 : Imm) (L0 : Own) (I : Imm) (L : Own) : Prop where
  le : I0 ≤ I
  sub : ∀ p ∈ L0, p ∈ L
theorem CC.trans {I0 I1 I : Imm} {L0 L : Own} (h : CC I1 L0 I L) (h1 : I0 ≤ I1) : CC I0 L0 I L := ⟨Imm.trans h1 h.le, h.sub⟩

section
variable {P : Program} {ops : Array Oper} {n N : Nat} {I0 : Imm} {L0 : Own}

def NoExit (Q : Exit → Act → World → Prop) : Prop := ∀ e a w, Q e a w → e = .normal
theorem noExit_lift (T : TPost) : NoExit (liftQ (normalQ T)) := fun e a w ⟨_, I, L, _, h⟩ => by cases e <;> first | rfl | exact h.elim
theorem NoExit.lets {Q : Exit → Act → World → Prop} (h : NoExit Q) : ¬ LetsOut Q := fun ⟨a, w, hq⟩ => by cases h _ _ _ hq

/-- Of what follows an operation is known: it is the state behind it. -/
theorem oper_wp_put {o : Oper} {a : Act} {w : World} {K : Act → World → Prop} {Q Q' : Exit → Act → World → Prop} (hQ : NoExit Q) (h : o.wp P a w K Q) :
    o.wp P a w (fun a' w' => K a' w' ∧ ((∃ u, a' = a.put o.dst u) ∨ ∃ d u, a' = ({ a with defers := d :: a.defers } : Act).put o.dst u)) Q' := by
  unfold Oper.wp at *
  generalize (execOp a.eval o).run P w = r at *
  cases r with
  | ok x w' =>
    cases x <;> simp only [Oper.upon] at h ⊢
    case value u => exact ⟨h, .inl ⟨u, rfl⟩⟩
    case skip => exact ⟨h, .inl ⟨_, rfl⟩⟩
    case defer d => exact ⟨h, .inr ⟨d, _, rfl⟩⟩
    case enter f args =>
      refine Calls.mono h fun e w'' he => ?_
      cases e with
      | returned u => exact ⟨he, .inl ⟨u, rfl⟩⟩
      | panicked c => cases hQ _ _ _ he
      | outgrown => exact absurd he hQ.lets
    case row row args => exact Rows.mono h fun u w'' he => ⟨he, .inl ⟨u, rfl⟩⟩
  | halt x w' =>
    cases x <;> simp only [Oper.upon] at h ⊢
    case panic u => cases hQ _ _ _ h

/-- What an operation asks of the frame. -/
def SameAt (ops : Array Oper) (o : Oper) (a a' : Act) : Prop := execOp a'.eval o = execOp a.eval o ∧ Region.wanted o (yielded ops a'.tmps) = Region.wanted o (yielded ops a.tmps)
theorem sameAt_put {o : Oper} {ds : Option Tmp} (hs : ∀ cs b, o.op ≠ .select cs b) (h : ∀ d, ds = some d → d ∉ o.looksAt ops) (a : Act) (u : Value) : SameAt ops o a (a.put ds u) :=
  ⟨execOp_put o hs a ds u h, wanted_put o a ds u h⟩
/-- Operation j, which stands apart from operation o: it may go ahead of o. -/
theorem wpOp_swap {Q : Exit → Act → World → Prop} {j : Nat} {o oj : Oper} {v : Value} (hj : ops[j]? = some oj) (hap : o.apart ops oj = true)
    (hs : ∀ cs b, o.op ≠ .select cs b) (hsj : ∀ cs b, oj.op ≠ .select cs b) (hQ : NoExit Q) {K : Act → World → Prop} {a : Act} {w : World} (h : wpOp P ops Q j K (a.put o.dst v) w) :
    wpOp P ops Q j (fun a' w' => SameAt ops o a a' ∧ K (a'.put o.dst v) w') a w := by
  obtain ⟨h1, h2, h3⟩ := Oper.apart_spec hap
  have hk := sameAt_put (a := a) (u := v) hsj h1
  have hput : ∀ u, SameAt ops o a (a.put oj.dst u) := fun u => sameAt_put hs h3 a u
  have hdef : ∀ d u, SameAt ops o a (({ a with defers := d :: a.defers } : Act).put oj.dst u) := fun d u => sameAt_put hs h3 { a with defers := d :: a.defers } u
  unfold wpOp at h ⊢
  simp only [hj] at h ⊢
  rw [hk.2] at h
  cases hw : Region.wanted oj (yielded ops a.tmps) with
  | false =>
    simp only [hw, Bool.false_eq_true, if_false] at h ⊢
    refine ⟨hput _, ?_⟩
    rw [← Act.put_comm a v undef h2]; exact h
  | true =>
    simp only [hw, if_true] at h ⊢
    have h := h.resolve_right fun hx => hQ.lets hx.2
    refine .inl ?_
    have h4 : oj.wp P a w (fun a' w' => K (a'.put o.dst v) w') Q := by
      unfold Oper.wp at h ⊢
      rw [hk.1] at h
      generalize (execOp a.eval oj).run P w = r at *
      cases r with
      | ok x w' =>
        cases x <;> simp only [Oper.upon] at h ⊢
        case value u => rw [← Act.put_comm a v u h2]; exact h
        case skip => rw [← Act.put_comm a v undef h2]; exact h
        case defer d => rw [← Act.put_comm _ v undef h2, ← Act.put_defers]; exact h
        case enter f args =>
          refine Calls.mono h fun e w'' he => ?_
          cases e with
          | returned u => show K _ _; rw [← Act.put_comm a v u h2]; exact he
          | panicked c => cases hQ _ _ _ he
          | outgrown => exact he
        case row row args => exact Rows.mono h fun u w'' he => by show K _ _; rw [← Act.put_comm a v u h2]; exact he
      | halt x w' =>
        cases x <;> simp only [Oper.upon] at h ⊢
        case panic u => cases hQ _ _ _ h
    refine Oper.wp_mono (fun a' w' hh => ⟨?_, hh.1⟩) (oper_wp_put (Q' := Q) hQ h4)
    rcases hh.2 with ⟨u, rfl⟩ | ⟨d, u, rfl⟩
    · exact hput u
    · exact hdef d u

/-- An operation that comes behind all of S may let go of what only they read. -/
def flipB (ops : Array Oper) (S : List Nat) (i : Nat) : Bool := S.all fun s => match ops[i]? with
  | some o => o.after.any fun e => Region.binds .any e && Nat.beq e.on s
  | none => false
def Goes (ops : Array Oper) (S : List Nat) (Ls Lc Lc' : Own) (i : Nat) : Prop := Lc' = Lc ∨ (Lc' = Ls ∧ flipB ops S i = true) ∨ (∀ p ∈ Lc, p ∈ Lc')
def selL (S : List Nat) (Ls Lc : Own) (i : Nat) : Own := bif S.any (Nat.beq i) then Lc else Ls
/-- The game: whatever order is picked of the first n operations. -/
def GG (P : Program) (ops : Array Oper) (Q : Exit → Act → World → Prop) (n : Nat) (F : Act → Imm → Own → Prop) (S : List Nat) (Ls : Own) : Nat → Imm → Own → Array Bool → Act → Imm → Own → Prop
  | 0, _, _, listed, a, I, L => Region.seqB .any ops (ops.size - n) n listed = true ∧ F a I L
  | f + 1, I0, L0, listed, a, I, L => ∀ W, Holds I L W → Region.ready .any ops listed ≠ [] ∧ ∀ i ∈ Region.ready .any ops listed, i < n ∧
      wpOp P ops Q i (fun a' W' => ∃ I' L' L0', Goes ops S Ls L0 L0' i ∧ CC I0 L0' I' L' ∧ Holds I' L' W' ∧ GG P ops Q n F S Ls f I0 L0' (listed.setIfInBounds i true) a' I' L') a W
theorem GG.mono {Q : Exit → Act → World → Prop} {F : Act → Imm → Own → Prop} {S : List Nat} {Ls : Own} {I1 : Imm} (hI : I0 ≤ I1) : ∀ (f : Nat) (L0 : Own) (listed : Array Bool) (a : Act) (I : Imm) (L : Own), GG P ops Q n F S Ls f I1 L0 listed a I L → GG P ops Q n F S Ls f I0 L0 listed a I L
  | 0, _, _, _, _, _, h => h
  | f + 1, _, _, _, _, _, h => fun W hW => ⟨(h W hW).1, fun i hi => ⟨((h W hW).2 i hi).1, wpOp_mono (fun a' W' ⟨I', L', L0', hgo, hc, hh, hg⟩ => ⟨I', L', L0', hgo, hc.trans hI, hh, GG.mono hI f _ _ _ _ _ hg⟩) ((h W hW).2 i hi).2⟩⟩
theorem GG.sound {Q : Exit → Act → World → Prop} {F : Act → Imm → Own → Prop} {S : List Nat} {Ls : Own} (hF : ∀ a I L W, Holds I L W → F a I L → wpList P ops Q (ops.toList.drop n) a W) (hn : n ≤ ops.size) :
    ∀ (f : Nat) (L0 : Own) (listed : Array Bool) (a : Act) (I : Imm) (L : Own) (W : World), Holds I L W → GG P ops Q n F S Ls f I0 L0 listed a I L → wpAny P .any ops Q (f + (ops.size - n)) listed a W
  | 0, L0, listed, a, I, L, W, hW, h => by
    have hl : (ops.toList.drop n).length = ops.size - n := by simp
    have := wpAny_of_seq (P := P) (md := .any) (Q' := Q) (ops.toList.drop n) n listed a W (fun j => by simp [List.getElem?_drop]) (by rw [hl]; exact h.1) (hF a I L W hW h.2)
    rwa [hl, ← Nat.zero_add (ops.size - n)] at this
  | f + 1, L0, listed, a, I, L, W, hW, h => by
    rw [show f + 1 + (ops.size - n) = (f + (ops.size - n)) + 1 from by omega]
    exact ⟨fun h0 => absurd h0 (h W hW).1, fun i hi => wpOp_mono (fun a' W' ⟨I', L', L0', _, _, hh, hg⟩ => GG.sound hF hn f L0' _ a' I' L' W' hh hg) ((h W hW).2 i hi).2⟩

/-- An operation that comes to v and leaves all that is known as it is, whatever goes ahead of it. -/
def upV (P : Program) (o : Oper) (v : Value) (R : World → Prop) : Result Next → Prop
  | .ok (.value u) W' => (u = v ∨ o.dst = none) ∧ R W'
  | .ok .skip W' => (undef = v ∨ o.dst = none) ∧ R W'
  | .ok (.enter f args) W' => Calls P f args W' fun e w'' => ∃ u, e = .returned u ∧ (u = v ∨ o.dst = none) ∧ R w''
  | .ok (.row row args) W' => Rows P row args W' fun u w'' => (u = v ∨ o.dst = none) ∧ R w''
  | _ => False
theorem put_or {o : Oper} {a : Act} {u v : Value} (h : u = v ∨ o.dst = none) : a.put o.dst u = a.put o.dst v := by
  rcases h with rfl | h
  · rfl
  · rw [h]; rfl
theorem upV_wp {o : Oper} {v : Value} {R : World → Prop} {a : Act} {W : World} {K : Act → World → Prop} {Q : Exit → Act → World → Prop} (h : upV P o v R ((execOp a.eval o).run P W)) (hk : ∀ W', R W' → K (a.put o.dst v) W') : o.wp P a W K Q := by
  unfold Oper.wp
  generalize (execOp a.eval o).run P W = r at *
  cases r with
  | ok x w' =>
    cases x <;> simp only [upV] at h <;> simp only [Oper.upon]
    case value u => rw [put_or h.1]; exact hk _ h.2
    case skip => rw [put_or h.1]; exact hk _ h.2
    case enter f args =>
      refine Calls.mono h fun e w'' ⟨u, he, h1, h2⟩ => ?_
      subst he
      show K _ _
      rw [put_or h1]; exact hk _ h2
    case row row args => exact Rows.mono h fun u w'' h => by rw [put_or h.1]; exact hk _ h.2
  | halt x w' => cases x <;> simp only [upV] at h
def QuietG (P : Program) (ops : Array Oper) (I0 : Imm) (L0 : Own) (o : Oper) (v : Value) (a : Act) : Prop :=
  (Region.wanted o (yielded ops a.tmps) = true ∧ ∀ I L, CC I0 L0 I L → ∀ W, Holds I L W → upV P o v (Holds I L) ((execOp a.eval o).run P W)) ∨
  (Region.wanted o (yielded ops a.tmps) = false ∧ v = undef)
theorem QuietG.same {o : Oper} {v : Value} {a a' : Act} (h : QuietG P ops I0 L0 o v a) (hs : SameAt ops o a a') : QuietG P ops I0 L0 o v a' := by
  unfold QuietG at *
  rw [hs.1, hs.2]; exact h
theorem QuietG.more {o : Oper} {v : Value} {a : Act} {L1 : Own} (h : QuietG P ops I0 L0 o v a) (hs : ∀ p ∈ L0, p ∈ L1) : QuietG P ops I0 L1 o v a := by
  rcases h with ⟨hw, h⟩ | h
  · exact .inl ⟨hw, fun I L hc => h I L ⟨hc.le, fun p hp => hc.sub p (hs p hp)⟩⟩
  · exact .inr h
theorem QuietG.wpOp {Q : Exit → Act → World → Prop} {i : Nat} {o : Oper} {v : Value} {a : Act} (hi : ops[i]? = some o) (h : QuietG P ops I0 L0 o v a) {I : Imm} {L : Own} (hc : CC I0 L0 I L) {W : World} (hW : Holds I L W) {K : Act → World → Prop}
    (hk : ∀ W', Holds I L W' → K (a.put o.dst v) W') : wpOp P ops Q i K a W := by
  unfold Go.wpOp
  simp only [hi]
  rcases h with ⟨hw, h⟩ | ⟨hw, rfl⟩
  · simp only [hw, if_true]; exact .inl (upV_wp (h I L hc W hW) hk)
  · simp only [hw, Bool.false_eq_true, if_false]; exact hk W hW

def tailB (ops : Array Oper) (n : Nat) : Bool := Nat.beq n ops.size || (Nat.blt n ops.size && Region.sinkB .any ops n && Region.chainB .any ops n)
theorem tailB_spec (h : tailB ops n = true) {listed : Array Bool} (inv : HeadInv .any ops n listed) {i : Nat} (hi : i < n) (hu : listed.getD i true = false) : ∀ j ∈ Region.ready .any ops listed, j < n := by
  intro j hj
  obtain ⟨_, oj, hoj, _⟩ := mem_ready.1 hj
  have hjs : j < ops.size := (Array.getElem?_eq_some_iff.1 hoj).1
  simp only [tailB, Bool.or_eq_true, Bool.and_eq_true] at h
  rcases h with h | ⟨⟨h1, h2⟩, h3⟩
  · have := Nat.eq_of_beq_eq_true h; omega
  · have h1' : n < ops.size := Nat.le_of_ble_eq_true h1
    rcases Nat.lt_or_ge j n with h | h
    · exact h
    · exact absurd hj (tail_waits h2 h3 h1' inv _ i rfl hi hu j h)

/-- What is quiet and ready may be taken first. -/
theorem GG.first {Q : Exit → Act → World → Prop} {F : Act → Imm → Own → Prop} {S : List Nat} {Ls : Own} (hQ : NoExit Q) (ht : tailB ops n = true) (hsel : Region.noSelect ops = true) {i : Nat} {o : Oper} {v : Value} (hi : ops[i]? = some o) (hin : i < n) :
    ∀ (f : Nat) (L0 : Own) (listed : Array Bool) (a : Act) (I : Imm) (L : Own), HeadInv .any ops n listed →
      (∀ j oj, ops[j]? = some oj → j ≠ i → listed.getD j true = false → (∀ e ∈ oj.after, Region.binds .any e = true → e.on ≠ i) → o.apart ops oj = true) →
      i ∈ Region.ready .any ops listed → (∀ p ∈ Ls, p ∈ L0) → QuietG P ops I0 (selL S Ls L0 i) o v a → CC I0 L0 I L →
      GG P ops Q n F S Ls f I0 L0 (listed.setIfInBounds i true) (a.put o.dst v) I L → GG P ops Q n F S Ls (f + 1) I0 L0 listed a I L := by
  have hsub : ∀ {L0 I L}, (∀ p ∈ Ls, p ∈ L0) → CC I0 L0 I L → CC I0 (selL S Ls L0 i) I L := fun {L0 I L} hs hc => by
    unfold selL
    cases S.any (Nat.beq i) with
    | true => exact hc
    | false => exact ⟨hc.le, fun p hp => hc.sub p (hs p hp)⟩
  intro f
  induction f with
  | zero =>
    intro L0 listed a I L inv _ hr hs hq hc H W hW
    have hun := (mem_ready.1 hr).1
    refine ⟨fun h => (by rw [h] at hr; cases hr), fun j hj => ⟨tailB_spec ht inv hin hun j hj, ?_⟩⟩
    by_cases hji : j = i
    · subst hji; exact hq.wpOp hi (hsub hs hc) hW fun W' hW' => ⟨I, L, L0, .inl rfl, hc, hW', H⟩
    · have := seqB_ready H.1 j (ready_mono hj hji)
      have := tailB_spec ht inv hin hun j hj
      omega
  | succ f ih =>
    intro L0 listed a I L inv hfree hr hs hq hc H W hW
    have hun := (mem_ready.1 hr).1
    refine ⟨fun h => (by rw [h] at hr; cases hr), fun j hj => ⟨tailB_spec ht inv hin hun j hj, ?_⟩⟩
    by_cases hji : j = i
    · subst hji; exact hq.wpOp hi (hsub hs hc) hW fun W' hW' => ⟨I, L, L0, .inl rfl, hc, hW', H⟩
    · have h1 := ((H W hW).2 j (ready_mono hj hji)).2
      obtain ⟨hjun, oj, hoj, hall⟩ := mem_ready.1 hj
      have hnot : ∀ e ∈ oj.after, Region.binds .any e = true → e.on ≠ i := fun e he hb heq => by
        have h2 := hall e he hb
        rw [heq, getD_both hun] at h2
        cases h2
      have h2 := wpOp_swap hoj (hfree j oj hoj hji hjun hnot) (fun cs b => Region.noSelect_spec hsel i o cs b hi) (fun cs b => Region.noSelect_spec hsel j oj cs b hoj) hQ h1
      refine wpOp_mono (fun a' W' ⟨hsm, I', L', L0', hgo, hc', hh, hg⟩ => ⟨I', L', L0', hgo, hc', hh, ?_⟩) h2
      have hkey : (∀ p ∈ Ls, p ∈ L0') ∧ (∀ p ∈ selL S Ls L0 i, p ∈ selL S Ls L0' i) := by
        rcases hgo with rfl | ⟨rfl, hfl⟩ | hgr
        · exact ⟨hs, fun p hp => hp⟩
        · refine ⟨fun p hp => hp, ?_⟩
          unfold selL
          cases hS : S.any (Nat.beq i) with
          | false => exact fun p hp => hp
          | true =>
            exfalso
            obtain ⟨s, hsS, hsi⟩ := List.any_eq_true.1 hS
            have hsi' := Nat.eq_of_beq_eq_true hsi
            subst hsi'
            have h3 := List.all_eq_true.1 hfl _ hsS
            simp only [hoj, Array.any_eq_true', Bool.and_eq_true] at h3
            obtain ⟨e, he, hb, hon⟩ := h3
            exact hnot e (by simpa using he) hb (Nat.eq_of_beq_eq_true hon)
        · refine ⟨fun p hp => hgr p (hs p hp), ?_⟩
          unfold selL
          cases hS : S.any (Nat.beq i) with
          | false => exact fun p hp => hp
          | true => exact hgr
      refine ih L0' (listed.setIfInBounds j true) a' I' L' (inv.set hj (tailB_spec ht inv hin hun j hj)) (fun k ok hk hki hun' hno => hfree k ok hk hki ?_ hno) (ready_mono hr (Ne.symm hji)) hkey.1 ((hq.same hsm).more hkey.2) hc' ?_
      · by_cases hjk : j = k
        · subst hjk; exact hjun
        · rw [getD_set_ne true hjk] at hun'; exact hun'
      · rw [Array.setIfInBounds_comm _ _ hji]; exact hg
end

/-! ### The judgement -/
def bare (ops : Array Oper) (i : Nat) : Array Oper := #[{ opAt ops i with guard := none }]
/-- The order in which the walk goes: numbers, and whether what is done is quiet. -/
def schedOk (ops : Array Oper) (n : Nat) : Array Bool → List (Nat × Bool) → Bool
  | listed, [] => Region.seqB .any ops (ops.size - n) n listed
  | listed, (i, q) :: s => Nat.blt i n && (bif q then (Region.ready .any ops listed).contains i && Region.free .any ops listed i else Region.ready .any ops listed == [i]) && schedOk ops n (listed.setIfInBounds i true) s
def drawB (ops : Array Oper) (n : Nat) (s : List (Nat × Bool)) : Bool := tailB ops n && Region.noSelect ops && Nat.ble n ops.size && schedOk ops n (Array.replicate ops.size false) s

structure Dr where
  P : Program
  ops : Array Oper
  n : Nat
  N : Nat
  T : TPost
  S : List Nat
  L0 : Own
def Dr.F (D : Dr) : Act → Imm → Own → Prop := fun a I L => a.defers = [] ∧ GL D.P D.ops D.n a.tmps I L D.T
def GDt (D : Dr) (I0 : Imm) (L0 : Own) (s : List (Nat × Bool)) (t : Array Value) (I : Imm) (L : Own) : Prop :=
  tailB D.ops D.n = true → Region.noSelect D.ops = true → (∀ p ∈ D.L0, p ∈ L0) → ∀ listed, HeadInv .any D.ops D.n listed → schedOk D.ops D.n listed s = true → GG D.P D.ops (liftQ (normalQ D.T)) D.n D.F D.S D.L0 s.length I0 L0 listed ⟨t, []⟩ I L
def GDk (D : Dr) (I0 : Imm) (L0 : Own) (s : List (Nat × Bool)) (K : KV) (I : Imm) (L : Own) : Prop := ∀ t, Knows D.N K t → GDt D I0 L0 s t I L

section
variable {P : Program} {c : Code} {N : Nat} {K : KV} {I I0 : Imm} {L L0 : Own} {Q : Post} {D : Dr} {s : List (Nat × Bool)}
theorem gk_drawS (n : Nat) (s : List (Nat × Bool)) (S : List Nat) (Ls L0 : Own) (hL : ∀ p ∈ L0, p ∈ L) (hs : ∀ p ∈ Ls, p ∈ L0) (hk : isRegion true c = true) (hm : P.follows .mixedOrders = true) (hB : drawB (cOps c) n s = true)
    (h : GDk ⟨P, cOps c, n, N, atE .normal Q, S, Ls⟩ I L0 s K I L) (hn : s.length = n) : GCk P c N K I L Q := by
  cases c <;> simp only [isRegion, Bool.false_eq_true] at hk
  rename_i id ops d
  cases d <;> simp at hk
  simp only [drawB, cOps, Bool.and_eq_true] at hB
  obtain ⟨⟨⟨h1, h2⟩, h3⟩, h4⟩ := hB
  have hle := Nat.le_of_ble_eq_true h3
  intro t ht W hW
  refine wp_mono (wp_region_any (Q := liftQ (normalQ (atE .normal Q))) hm ?_) ?_
  · have inv0 : HeadInv .any ops n (Array.replicate ops.size false) :=
      ⟨by simp, fun j oj _ hl => (by rw [getD_replicate_false] at hl; cases hl), fun t _ ht => getD_in (by simpa using ht) (getD_replicate_false _ _)⟩
    have hg := h t ht h1 h2 hs (Array.replicate ops.size false) inv0 h4
    have := GG.sound (P := P) (ops := ops) (n := n) (Q := liftQ (normalQ (atE .normal Q))) (F := Dr.F ⟨P, ops, n, N, atE .normal Q, S, Ls⟩) (fun a I L W hW ⟨hd, hF⟩ => by
      obtain ⟨tm, df⟩ := a
      cases hd
      exact hF W hW) hle _ _ _ _ _ _ _ (hW.drawn (W.drawn + 1)) hg
    rwa [hn, show n + (ops.size - n) = ops.size from by omega] at this
  · rintro e a' W' ⟨hd, I', L', hh, hQ⟩
    cases e <;> first | exact ⟨hd, I', L', hh, hQ⟩ | exact hQ.elim
theorem gk_draw (n : Nat) (s : List (Nat × Bool)) (L0 : Own) (hL : ∀ p ∈ L0, p ∈ L) (hk : isRegion true c = true) (hm : P.follows .mixedOrders = true) (hB : drawB (cOps c) n s = true)
    (h : GDk ⟨P, cOps c, n, N, atE .normal Q, [], L0⟩ I L0 s K I L) (hn : s.length = n) : GCk P c N K I L Q := gk_drawS n s [] L0 L0 hL (fun p hp => hp) hk hm hB h hn
theorem gd_done {ops : Array Oper} {n : Nat} {T : TPost} {S : List Nat} {Ls : Own} (h : GLk P ops n N K I L T) : GDk ⟨P, ops, n, N, T, S, Ls⟩ I0 L0 [] K I L := fun t ht _ _ _ listed inv hs => ⟨hs, rfl, h t ht⟩
theorem gd_pick (l : List Nat) {K' : KV} (hp : kvPick l K = some K') (k : GDk D I0 L0 s K' I L) : GDk D I0 L0 s K I L := fun t ht => k t (ht.pick hp)
theorem gd_case {b : Bool} (d : Nat) (hb : kvGet K d = some (.bool b)) (ht : b = true → GDk D I0 L0 s (kvPut K (some d) (.bool true)) I L) (hf : b = false → GDk D I0 L0 s (kvPut K (some d) (.bool false)) I L) : GDk D I0 L0 s K I L := by
  intro t hk
  have hd := hk.kv _ (kvGet_mem hb)
  have hset : ∀ c, b = c → Knows D.N (kvPut K (some d) (.bool c)) t := fun c hc => by
    refine ⟨hk.size, fun p hp => ?_⟩
    rcases List.mem_cons.1 hp with rfl | hp
    · rw [← hc]; exact hd
    · exact hk.kv p (kvDel_mem hp).1
  cases hc : b with
  | true => exact ht hc t (hset _ hc)
  | false => exact hf hc t (hset _ hc)

theorem getD_opAt {ops : Array Oper} {i : Nat} (h : i < ops.size) : ops[i]? = some (opAt ops i) := by simp [opAt, h]
/-- The step itself. -/
theorem gd_first {i : Nat} {v : Value} (hq : ∀ t, Knows D.N K t → QuietG D.P D.ops I0 (selL D.S D.L0 L0 i) (opAt D.ops i) v ⟨t, []⟩) (hd : dstOk D.N (opAt D.ops i).dst = true) (hc : CC I0 L0 I L)
    (kk : GDk D I0 L0 s (kvPut K (opAt D.ops i).dst v) I L) : GDk D I0 L0 ((i, true) :: s) K I L := by
  intro t ht h1 h2 hsb listed inv hs
  simp only [schedOk, cond_true, Bool.and_eq_true] at hs
  obtain ⟨⟨hin, hr, hf⟩, hs⟩ := hs
  have hin' : i < D.n := Nat.le_of_ble_eq_true hin
  have hr' : i ∈ Region.ready .any D.ops listed := by simpa using hr
  obtain ⟨_, o, ho, _⟩ := mem_ready.1 hr'
  have hsz : i < D.ops.size := (Array.getElem?_eq_some_iff.1 ho).1
  have ho' := getD_opAt hsz
  have hg := kk _ (ht.put _ v fun j hj => by rw [hj] at hd; exact Nat.le_of_ble_eq_true hd) h1 h2 hsb _ (inv.set hr' hin') hs
  exact GG.first (noExit_lift _) h1 h2 ho' hin' s.length L0 listed ⟨t, []⟩ I L inv (Region.free_spec ho' hf) hr' hsb (hq t ht) hc (by rw [act_put_nil]; exact hg)
/-- A quiet operation, told by a rule for plain regions. -/
theorem gd_q {i : Nat} {v : Value} (hw : kvWanted D.ops K (opAt D.ops i) = some true) (hd : dstOk D.N (opAt D.ops i).dst = true) (hc : CC I0 L0 I L)
    (hq : ∀ I' L' T, CC I0 (selL D.S D.L0 L0 i) I' L' → GLk D.P (bare D.ops i) 1 D.N (kvPut K (opAt D.ops i).dst v) I' L' T → GLk D.P (bare D.ops i) 0 D.N K I' L' T)
    (kk : GDk D I0 L0 s (kvPut K (opAt D.ops i).dst v) I L) : GDk D I0 L0 ((i, true) :: s) K I L := by
  refine gd_first (fun t ht => .inl ⟨kvWanted_sound ht hw, fun I' L' hc' W hW => ?_⟩) hd hc kk
  have h := hq I' L' (fun t' I'' L'' => I'' = I' ∧ L'' = L' ∧ Knows D.N (kvPut K (opAt D.ops i).dst v) t') hc' (gl_done (fun t' ht' => ⟨rfl, rfl, ht'⟩) rfl) t ht W hW
  have h' : (opAt D.ops i).wp D.P ⟨t, []⟩ W (wpList D.P (bare D.ops i) (liftQ (normalQ fun t' I'' L'' => I'' = I' ∧ L'' = L' ∧ Knows D.N (kvPut K (opAt D.ops i).dst v) t')) []) (liftQ (normalQ fun t' I'' L'' => I'' = I' ∧ L'' = L' ∧ Knows D.N (kvPut K (opAt D.ops i).dst v) t')) :=
    Or.resolve_right h fun hx => (noExit_lift _).lets hx.2
  have hok : ∀ {u : Value} {W' : World}, liftQ (normalQ fun t' I'' L'' => I'' = I' ∧ L'' = L' ∧ Knows D.N (kvPut K (opAt D.ops i).dst v) t') .normal ((Act.mk t []).put (opAt D.ops i).dst u) W' → (u = v ∨ (opAt D.ops i).dst = none) ∧ Holds I' L' W' := by
    rintro u W' ⟨_, I'', L'', hh, rfl, rfl, hk⟩
    refine ⟨?_, hh⟩
    cases hdd : (opAt D.ops i).dst with
    | none => exact .inr rfl
    | some d =>
      rw [hdd] at hk hd
      have := hk.kv (d, v) (by simp [kvPut])
      simp only [Act.put] at this
      rw [Array.getElem?_setIfInBounds_self_of_lt (by rw [ht.size]; exact Nat.le_of_ble_eq_true hd)] at this
      exact .inl (Option.some.inj this)
  unfold Oper.wp at h'
  generalize (execOp (Act.mk t []).eval (opAt D.ops i)).run D.P W = r at *
  have hQ := noExit_lift (fun t' I'' L'' => I'' = I' ∧ L'' = L' ∧ Knows D.N (kvPut K (opAt D.ops i).dst v) t')
  cases r with
  | ok x w' =>
    cases x <;> simp only [Oper.upon] at h' <;> simp only [upV]
    case value u => exact hok h'
    case skip => exact hok h'
    case defer d => obtain ⟨hx, _⟩ := h'; cases hdd : (opAt D.ops i).dst <;> rw [hdd] at hx <;> simp [Act.put] at hx
    case enter f args =>
      refine Calls.mono h' fun e w'' he => ?_
      cases e with
      | returned u => exact ⟨u, rfl, hok he⟩
      | panicked c => cases hQ _ _ _ he
      | outgrown => exact absurd he hQ.lets
    case row row args => exact Rows.mono h' fun u w'' he => hok he
  | halt x w' =>
    cases x <;> simp only [Oper.upon] at h' <;> simp only [upV]
    case panic u => cases hQ _ _ _ h'
theorem gd_not {i : Nat} (hw : kvWanted D.ops K (opAt D.ops i) = some false) (hd : dstOk D.N (opAt D.ops i).dst = true) (hc : CC I0 L0 I L)
    (kk : GDk D I0 L0 s (kvPut K (opAt D.ops i).dst undef) I L) : GDk D I0 L0 ((i, true) :: s) K I L :=
  gd_first (fun t ht => .inr ⟨kvWanted_sound ht hw, rfl⟩) hd hc kk
/-- Pure operations, many at once. -/
def runD (P : Program) (ops : Array Oper) (N : Nat) : Nat → List (Nat × Bool) → KV → Option (KV × List (Nat × Bool))
  | 0, s, K => some (K, s)
  | m + 1, s, K => match s with
    | (i, true) :: s => match kvWanted ops K (opAt ops i) with
      | some true => bif kvKnown K (opAt ops i) && dstOk N (opAt ops i).dst then
          match pureVal P (execOp (kvVal K) (opAt ops i)) with
          | some v => runD P ops N m s (kvPut K (opAt ops i).dst v)
          | none => none
        else none
      | some false => bif dstOk N (opAt ops i).dst then runD P ops N m s (kvPut K (opAt ops i).dst undef) else none
      | none => none
    | _ => none
theorem gd_run (m : Nat) {K' : KV} {s' : List (Nat × Bool)} (hc : CC I0 L0 I L) (h : runD D.P D.ops D.N m s K = some (K', s')) (kk : GDk D I0 L0 s' K' I L) : GDk D I0 L0 s K I L := by
  induction m generalizing s K with
  | zero => simp only [runD, Option.some.injEq, Prod.mk.injEq] at h; obtain ⟨rfl, rfl⟩ := h; exact kk
  | succ m ih =>
    unfold runD at h
    split at h <;> try (cases h; done)
    rename_i i s
    split at h
    · rename_i hw
      cases hb : (kvKnown K (opAt D.ops i) && dstOk D.N (opAt D.ops i).dst) with
      | false => rw [hb] at h; cases h
      | true =>
        rw [hb] at h
        simp only [cond_true] at h
        split at h <;> try (cases h; done)
        rename_i v hv
        simp only [Bool.and_eq_true] at hb
        refine gd_first (v := v) (fun t ht => .inl ⟨kvWanted_sound ht hw, fun I' L' _ W hW => ?_⟩) hb.2 hc (ih h)
        rw [kvKnown_exec ht hb.1, pureVal_sound hv W]
        exact ⟨.inl rfl, hW⟩
    · rename_i hw
      cases hd : dstOk D.N (opAt D.ops i).dst with
      | false => rw [hd] at h; cases h
      | true => rw [hd] at h; exact gd_not hw hd hc (ih h)
    · cases h
def runDP (P : Program) (ops : Array Oper) (N m : Nat) (s : List (Nat × Bool)) (K : KV) (l : List Nat) : Option (KV × List (Nat × Bool)) := match runD P ops N m s K with
  | some (K', s') => match kvPick l K' with
    | some K2 => some (K2, s')
    | none => none
  | none => none
theorem gd_pure (m : Nat) (l : List Nat) {K' : KV} {s' : List (Nat × Bool)} (hc : CC I0 L0 I L) (h : runDP D.P D.ops D.N m s K l = some (K', s')) (kk : GDk D I0 L0 s' K' I L) : GDk D I0 L0 s K I L := by
  unfold runDP at h
  split at h <;> try (cases h; done)
  rename_i K1 s1 h1
  split at h <;> try (cases h; done)
  rename_i K2 h2
  simp only [Option.some.injEq, Prod.mk.injEq] at h
  obtain ⟨rfl, rfl⟩ := h
  exact gd_run m hc h1 (gd_pick l h2 kk)
/-- An operation that is alone on its way. -/
def toD (D : Dr) (I0 : Imm) (L0 : Own) (s : List (Nat × Bool)) : TPost := fun t I L => CC I0 L0 I L ∧ GDt D I L0 s t I L
theorem gd_loud {i : Nat} {L1 : Own} (hgo : Goes D.ops D.S D.L0 L0 L1 i) (hw : kvWanted D.ops K (opAt D.ops i) = some true) (h : GLk D.P (bare D.ops i) 0 D.N K I L (toD D I0 L1 s)) : GDk D I0 L0 ((i, false) :: s) K I L := by
  intro t ht h1 h2 hsb listed inv hs W hW
  simp only [schedOk, cond_false, Bool.and_eq_true, beq_iff_eq] at hs
  obtain ⟨⟨hin, hr⟩, hs⟩ := hs
  have hin' : i < D.n := Nat.le_of_ble_eq_true hin
  have hsb1 : ∀ p ∈ D.L0, p ∈ L1 := by
    rcases hgo with rfl | ⟨rfl, _⟩ | hgr
    · exact hsb
    · exact fun p hp => hp
    · exact fun p hp => hgr p (hsb p hp)
  refine ⟨by rw [hr]; simp, fun j hj => ?_⟩
  have hji : j = i := by rw [hr] at hj; simpa using hj
  subst hji
  obtain ⟨_, o, ho, _⟩ := mem_ready.1 hj
  have hsz : j < D.ops.size := (Array.getElem?_eq_some_iff.1 ho).1
  have ho' := getD_opAt hsz
  refine ⟨hin', ?_⟩
  have h3 := h t ht W hW
  have h4 : (opAt D.ops j).wp D.P ⟨t, []⟩ W (wpList D.P (bare D.ops j) (liftQ (normalQ (toD D I0 L1 s))) []) (liftQ (normalQ (toD D I0 L1 s))) := Or.resolve_right h3 fun hx => (noExit_lift _).lets hx.2
  unfold wpOp
  simp only [ho', kvWanted_sound ht hw, if_true]
  refine .inl (Oper.wp_mono (fun a' W' hh => ?_) (oper_wp_put (noExit_lift _) h4))
  obtain ⟨⟨hd, I', L', hH, hc, hg⟩, _⟩ := hh
  obtain ⟨tm, df⟩ := a'
  cases hd
  exact ⟨I', L', L1, hgo, hc, hH, GG.mono hc.le _ _ _ _ _ _ (hg h1 h2 hsb1 _ (inv.set hj hin') hs)⟩
theorem gd_one {i : Nat} (hw : kvWanted D.ops K (opAt D.ops i) = some true) (h : GLk D.P (bare D.ops i) 0 D.N K I L (toD D I0 L0 s)) : GDk D I0 L0 ((i, false) :: s) K I L := gd_loud (.inl rfl) hw h
theorem gd_flip {i : Nat} (hf : flipB D.ops D.S i = true) (hw : kvWanted D.ops K (opAt D.ops i) = some true) (h : GLk D.P (bare D.ops i) 0 D.N K I L (toD D I0 D.L0 s)) : GDk D I0 L0 ((i, false) :: s) K I L := gd_loud (.inr (.inl ⟨rfl, hf⟩)) hw h
/-- Behind it more stays what it is. -/
def toG (D : Dr) (I0 : Imm) (L0 : Own) (s : List (Nat × Bool)) : TPost := fun t I L => ∃ L1, (∀ p ∈ L0, p ∈ L1) ∧ CC I0 L1 I L ∧ GDt D I L1 s t I L
theorem gd_grow {i : Nat} (hw : kvWanted D.ops K (opAt D.ops i) = some true) (h : GLk D.P (bare D.ops i) 0 D.N K I L (toG D I0 L0 s)) : GDk D I0 L0 ((i, false) :: s) K I L := by
  intro t ht h1 h2 hsb listed inv hs W hW
  simp only [schedOk, cond_false, Bool.and_eq_true, beq_iff_eq] at hs
  obtain ⟨⟨hin, hr⟩, hs⟩ := hs
  have hin' : i < D.n := Nat.le_of_ble_eq_true hin
  refine ⟨by rw [hr]; simp, fun j hj => ?_⟩
  have hji : j = i := by rw [hr] at hj; simpa using hj
  subst hji
  obtain ⟨_, o, ho, _⟩ := mem_ready.1 hj
  have hsz : j < D.ops.size := (Array.getElem?_eq_some_iff.1 ho).1
  have ho' := getD_opAt hsz
  refine ⟨hin', ?_⟩
  have h3 := h t ht W hW
  have h4 : (opAt D.ops j).wp D.P ⟨t, []⟩ W (wpList D.P (bare D.ops j) (liftQ (normalQ (toG D I0 L0 s))) []) (liftQ (normalQ (toG D I0 L0 s))) := Or.resolve_right h3 fun hx => (noExit_lift _).lets hx.2
  unfold wpOp
  simp only [ho', kvWanted_sound ht hw, if_true]
  refine .inl (Oper.wp_mono (fun a' W' hh => ?_) (oper_wp_put (noExit_lift _) h4))
  obtain ⟨⟨hd, I', L', hH, L1, hgr, hc, hg⟩, _⟩ := hh
  obtain ⟨tm, df⟩ := a'
  cases hd
  exact ⟨I', L', L1, .inr (.inr hgr), hc, hH, GG.mono hc.le _ _ _ _ _ _ (hg h1 h2 (fun p hp => hgr p (hsb p hp)) _ (inv.set hj hin') hs)⟩
theorem gl_toG {ops : Array Oper} {k : Nat} (L1 : Own) (hg : ∀ p ∈ L0, p ∈ L1) (hk : Nat.ble ops.size k = true) (hc : CC I0 L1 I L) (h : GDk D I L1 s K I L) : GLk D.P ops k D.N K I L (toG D I0 L0 s) := gl_done (fun t ht => ⟨L1, hg, hc, h t ht⟩) hk
theorem gl_toD {ops : Array Oper} {k : Nat} (hk : Nat.ble ops.size k = true) (hc : CC I0 L0 I L) (h : GDk D I L0 s K I L) : GLk D.P ops k D.N K I L (toD D I0 L0 s) := gl_done (fun t ht => ⟨hc, h t ht⟩) hk
theorem CC.refl {I : Imm} {L0 L : Own} (h : ∀ p ∈ L0, p ∈ L) : CC I L0 I L := ⟨Imm.refl I, h⟩
end
end Go.GB
