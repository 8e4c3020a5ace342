/- strings.Builder: copyCheck and String, as calls over owned blocks. -/
import Derived.Test.YtlhpclfkoblnkaaDoorGB16s
import Derived.Below
import Derived.Shelf.SlSortCmp.NoneTotal
import Derived.Lib.UnsafeStr
import Derived.WideLaws
import Derived.Shelf.Strconv.Itoa4
import Derived.Scope
import Derived.Shelf.Abstract
import Derived.Shelf.RegionOpen
import Derived.Shelf.RegionOpenPlain
import Derived.WalkKit
import Derived.OwnWalkIn
import Derived.TacticsInMore
import Derived.Lib.Builder
import Derived.RangeFuncOwn
import Derived.Laws.Externs
import Derived.Test.YtlhpclfkoblnkaaDoorChecked
/- Shifts and divisions by what is not known ahead. -/
set_option linter.unusedVariables false
namespace Go.GB
def shlx (k : IntKind) (x y : Int) : Option Int := if 0 ≤ y then some (shl k x y) else none
def quox (k : IntKind) (x y : Int) : Option Int := if y ≠ 0 then some (IntKind.wrap k (Int.tdiv x y)) else none
def remx (k : IntKind) (x y : Int) : Option Int := if y ≠ 0 then some (Int.tmod x y) else none
section
variable {P : Program} {ops : Array Oper} {k N : Nat} {K : KV} {I : Imm} {L : Own} {T : TPost}
theorem gl_binv {b : BinOp} {t t' : TypeId} {x y : Operand} {u v r : Value} (ho : (opAt ops k).op = .binOp b t x y t') (h : readyKV ops k N K = true)
    (hx : kvOp K x = some u) (hy : kvOp K y = some v) (hb : (match b with | .eql => true | .neq => true | _ => false) = false) (hr : ∀ W, (binOp b t u v).run P W = .ok r W)
    (kk : GLk P ops (k + 1) N (kvPut K (opAt ops k).dst r) I L T) : GLk P ops k N K I L T := by
  refine gl_step h (fun tm ht W hW => ?_) kk
  have h2 : (eqGuard b t x y u v).run P W = .ok () W := by cases b <;> simp at hb <;> simp [eqGuard]
  simp only [execOp, ho, ht.op hx, ht.op hy, Sem.run_bind, h2, hr, Result.andThen_ok, Sem.run_pure]
theorem gl_shl {t t' : TypeId} {x y : Operand} {kx ky : IntKind} {a b r : Int} (hr : shlx kx a b = some r) (ho : (opAt ops k).op = .binOp .shl t x y t') (h : readyKV ops k N K = true)
    (hx : kvOp K x = some (.int kx a)) (hy : kvOp K y = some (.int ky b)) (kk : GLk P ops (k + 1) N (kvPut K (opAt ops k).dst (.int kx r)) I L T) : GLk P ops k N K I L T := by
  unfold shlx at hr
  split at hr <;> cases hr
  rename_i h0
  exact gl_binv ho h hx hy rfl (fun W => by simp [binOp, Op.shift, show ¬ b < 0 by omega, shl]) kk
theorem gl_quo {t t' : TypeId} {x y : Operand} {kx : IntKind} {a b r : Int} (hr : quox kx a b = some r) (ho : (opAt ops k).op = .binOp .quo t x y t') (h : readyKV ops k N K = true)
    (hx : kvOp K x = some (.int kx a)) (hy : kvOp K y = some (.int kx b)) (kk : GLk P ops (k + 1) N (kvPut K (opAt ops k).dst (.int kx r)) I L T) : GLk P ops k N K I L T := by
  unfold quox at hr
  split at hr <;> cases hr
  rename_i h0
  exact gl_binv ho h hx hy rfl (fun W => by simp [binOp, Op.intDiv, h0]) kk
theorem gl_rem {t t' : TypeId} {x y : Operand} {kx : IntKind} {a b r : Int} (hr : remx kx a b = some r) (ho : (opAt ops k).op = .binOp .rem t x y t') (h : readyKV ops k N K = true)
    (hx : kvOp K x = some (.int kx a)) (hy : kvOp K y = some (.int kx b)) (kk : GLk P ops (k + 1) N (kvPut K (opAt ops k).dst (.int kx r)) I L T) : GLk P ops k N K I L T := by
  unfold remx at hr
  split at hr <;> cases hr
  rename_i h0
  exact gl_binv ho h hx hy rfl (fun W => by simp [binOp, Op.intDiv, h0]) kk
end
end Go.GB

/- Arrays that are compared. -/
set_option linter.unusedVariables false
namespace Go.GB
section
variable {P : Program} {ops : Array Oper} {k N : Nat} {K : KV} {I : Imm} {L : Own} {T : TPost}
end
end Go.GB

/- The kit's contracts, brought to the form of the walks. -/
set_option linter.unusedVariables false
namespace Go.GB
open Go.RowKit
/-- A call that only lays new blocks: what is known stays. -/
theorem Holds.below {I : Imm} {L : Own} {W W' : World} (h : Holds I L W) (hb : Below W.heap.size W W') (hd : I.dr ≤ W'.drawn) : Holds I L W' :=
  ⟨fun b o hI => by have := h.imm b o hI; rw [hb.block b (lt_of_heap this)]; exact this, fun p hp => by have := h.own p hp; rw [hb.block p.1 (lt_of_heap this)]; exact this, h.nd, h.dj,
    by rw [hb.os, h.os], by rw [hb.tape, h.tape], by rw [hb.output, h.out], hd⟩
theorem callsTo_below {P : Program} {f : FuncId} {args : Array Value} {I : Imm} {L : Own} {v : Value} (h0 : I.dr = 0) (h : ∀ W, Holds I L W → Calls P f args W fun e W' => e = .returned v ∧ Below W.heap.size W W') :
    CallsTo P f args I L (fun v' I' L' => v' = v ∧ L = L') := fun W hW =>
  (h W hW).mono fun e W' ⟨he, hb⟩ => ⟨v, I, L, he, Imm.refl I, hW.below hb (by rw [h0]; exact Nat.zero_le _), rfl, rfl⟩
end Go.GB

/- How data that are read are bounded. -/
set_option linter.unusedVariables false
namespace Go.GB
def wInt (k : IntKind) (x : Int) (n : Nat) : Prop := k.min ≤ x ∧ x ≤ k.max
def wStr (s : ByteArray) (n : Nat) : Prop := s.size + 1 ≤ n
def wSl {α : Type} (w : α → Nat → Prop) : List α → Nat → Prop
  | [], _ => True
  | x :: r, n => ∃ a b, w x a ∧ wSl w r b ∧ a + b ≤ n ∧ 1 ≤ a
theorem wSl.len {α : Type} {w : α → Nat → Prop} : ∀ {l : List α} {n : Nat}, wSl w l n → l.length ≤ n
  | [], n, _ => Nat.zero_le _
  | x :: r, n, ⟨a, b, _, h, hab, ha⟩ => by have := wSl.len h; simp; omega
theorem wSl.mem {α : Type} {w : α → Nat → Prop} {x : α} : ∀ {l : List α} {n : Nat}, wSl w l n → x ∈ l → ∃ a, w x a ∧ a ≤ n
  | [], _, _, h => by cases h
  | y :: r, n, ⟨a, b, hw, h, hab, _⟩, hx => by
    rcases List.mem_cons.1 hx with rfl | hx
    · exact ⟨a, hw, by omega⟩
    · obtain ⟨c, h1, h2⟩ := wSl.mem h hx
      exact ⟨c, h1, by omega⟩
theorem wSl.le {α : Type} {w : α → Nat → Prop} : ∀ {l : List α} {n m : Nat}, wSl w l n → n ≤ m → wSl w l m
  | [], _, _, _, _ => trivial
  | x :: r, n, m, ⟨a, b, h1, h2, h3, h4⟩, hm => ⟨a, b, h1, h2, by omega, h4⟩
end Go.GB

/- slices.SortFunc by the kit's contract, at an order that parts whatever two are not one. -/
set_option linter.unusedVariables false
namespace Go.GB
open Go.RowKit
/-! ### What it makes of a list -/
structure SortOk {α : Type} (Q : α → Prop) (cmp : α → α → Option Int) (k : α → α → Int) : Prop where
  eq : ∀ x y, Q x → Q y → cmp x y = some (k x y)
  swo : Go.Sort.SWO (fun x y => decide (k x y < 0))
  anti : ∀ x y, ¬ k x y < 0 → ¬ k y x < 0 → x = y
def SortR {α : Type} (Q : α → Prop) (cmp : α → α → Option Int) (xs r : List α) : Prop := (∀ x ∈ xs, Q x) ∧ ∃ k, SortOk Q cmp k ∧ r.Perm xs ∧ r.Pairwise (fun x y => ¬ k y x < 0)
theorem SortR.unique {α : Type} {Q : α → Prop} {cmp : α → α → Option Int} {xs r r' : List α} (h : SortR Q cmp xs r) (h' : SortR Q cmp xs r') : r = r' := by
  obtain ⟨hq, k, hk, hp, hs⟩ := h
  obtain ⟨_, k', hk', hp', hs'⟩ := h'
  have e : ∀ x y, x ∈ xs → y ∈ xs → k x y = k' x y := fun x y hx hy => by
    have := hk.eq x y (hq x hx) (hq y hy)
    rw [hk'.eq x y (hq x hx) (hq y hy)] at this
    exact (Option.some.inj this).symm
  refine List.Perm.eq_of_pairwise (le := fun x y => ¬ k y x < 0) ?_ hs ?_ (hp.trans hp'.symm)
  · intro a b _ _ h1 h2; exact hk.anti a b h2 h1
  · refine hs'.imp_of_mem fun {a b} ha hb hab => ?_
    rw [e b a (hp'.mem_iff.1 hb) (hp'.mem_iff.1 ha)]; exact hab
/-! ### A world as it is, read -/
theorem Holds.grow {I : Imm} {L : Own} {W : World} (h : Holds I L W) (os : Array Obj) : Holds I L (Go.Sort.grow W os) := by
  have e : ∀ (b : Nat) (o : Obj), W.heap[b]? = some o → (Go.Sort.grow W os).heap[b]? = some o := fun b o hb => by
    show (W.heap ++ os)[b]? = _
    rw [Array.getElem?_append, if_pos (lt_of_heap hb)]; exact hb
  exact ⟨fun b o hI => e b o (h.imm b o hI), fun p hp => e p.1 p.2 (h.own p hp), h.nd, h.dj, h.os, h.tape, h.out, h.dr⟩
/-! ### A row of one cell each, with its cells -/
end Go.GB

/- Rows of the call's own: read while order is drawn; their tails; clear. -/
set_option linter.unusedVariables false
namespace Go.GB
open Go.RowKit
theorem OwnS.ixAt {α : Type} {d : Kd α} {e : TypeId} {I : Imm} {A : Option Addr} {c : Nat} {l : List α} {x : α} {i : Int} {C : Own} (hx : ix l i = some x) (hO : OwnS d e I A c l C) :
    ∃ p cs, d.R I x cs ∧ (∀ I' L', (∀ q ∈ C, q ∈ L') → AtL I' L' p cs) ∧ ∃ a, A = some a ∧ p = a.add (i.toNat * d.n) := by
  obtain ⟨h0, h1, h2⟩ := ix_some hx
  rcases hO with ⟨rfl, _, _⟩ | ⟨g, cells, fz, rfl, rfl, _, h4, h5, h6, _⟩
  · simp at h2
  · obtain ⟨cs, hR, hr⟩ := h6.at_ _ x h2
    refine ⟨_, cs, hR, fun I' L' hC W hW j v hj => ?_, _, rfl, rfl⟩
    have hg : W.heap[g]? = some (.cells cells e fz) := hW.own (g, .cells cells e fz) (hC _ (by simp))
    rw [addr_add]
    simp only [World.cell?, hg]
    simpa using hr j v hj
/-- A' is where the tail from k on of a slice at A lies, m elements of it. -/
def ViewS (n : Nat) (A A' : Option Addr) (k : Int) (m : Nat) : Prop := 0 ≤ k ∧ ∀ i : Int, 0 ≤ i → i < (m : Int) → ∃ a, A = some a ∧ ∃ a', A' = some a' ∧ a' = a.add (k.toNat * n)
def viewA (A : Option Addr) (b : Int) (n c : Nat) : Option Addr := if c = b.toNat then A else A.map (·.add (b.toNat * n))
theorem OwnS.view {α : Type} {d : Kd α} {e : TypeId} {I : Imm} {A : Option Addr} {c : Nat} {l l' : List α} {b : Int} {C : Own} (hx : lx l b (l.length : Int) = some l') (hO : OwnS d e I A c l C) : ViewS d.n A (viewA A b d.n c) b l'.length := by
  unfold lx at hx
  split at hx <;> try (cases hx; done)
  rename_i hb
  obtain ⟨h0, h1, h2⟩ := hb
  simp only [Option.some.injEq] at hx
  have hlc := hO.lenc
  have hlen : l'.length = l.length - b.toNat := by rw [← hx, List.length_drop, List.length_take]; omega
  refine ⟨h0, fun i hi0 hi1 => ?_⟩
  unfold viewA
  rw [if_neg (by omega)]
  rcases hO with ⟨rfl, _, _⟩ | ⟨g, cells, fz, rfl, rfl, _, h4, h5, h6, _⟩
  · have h3 : l'.length = 0 := by rw [hlen]; simp
    omega
  · exact ⟨_, rfl, _, rfl, rfl⟩
theorem OwnS.head {α : Type} {d : Kd α} {e : TypeId} {I : Imm} {A : Option Addr} {c : Nat} {l l' : List α} {n : Nat} {C : Own} (hd : l' = l.take n) (h : OwnS d e I A c l C) : OwnS d e I A c l' C := by rw [hd]; exact h.take n
theorem RepS.head {α : Type} {d : Kd α} {I : Imm} {A : Option Addr} {c : Nat} {l l' : List α} {n : Nat} (hd : l' = l.take n) (h : RepS d I A c l) : RepS d I A c l' := by rw [hd]; exact h.take n
section
variable {P : Program} {ops : Array Oper} {k N : Nat} {K : KV} {I : Imm} {L : Own} {T : TPost}
end
end Go.GB

/- Strings gone through rune by rune; heads of rows; what a builder holds. -/
set_option linter.unusedVariables false
namespace Go.GB
open Go.RowKit
def runeAt (s : ByteArray) (pos : Nat) : Int := ((Utf8.decode s pos).1 : Int)
def runeW (s : ByteArray) (pos : Nat) : Nat := (Utf8.decode s pos).2
section
variable {P : Program} {ops : Array Oper} {k N : Nat} {K : KV} {I : Imm} {L : Own} {T : TPost}
theorem gl_range {T' : TypeId} {x : Operand} {s : ByteArray} (ho : (opAt ops k).op = .range T' x) (h : readyKV ops k N K = true) (hx : kvOp K x = some (.string s)) (hu : P.underlying T' = some .string)
    (kk : ∀ g, GLk P ops (k + 1) N (kvPut K (opAt ops k).dst (.pointer (some ⟨g, 0, none⟩))) I ((g, .stringIter s 0) :: L) T) : GLk P ops k N K I L T := by
  refine gl_gen h fun t ht W hW => ⟨_, I, _, _, ?_, hW.new (.stringIter s 0), kk W.heap.size⟩
  simp [execOp, ho, ht.op hx, Instr.range, run_underlying' hu, run_newObj']
theorem gl_next {x : Operand} {s : ByteArray} {pos g : Nat} {L' : Own} (ho : (opAt ops k).op = .next x true) (h : readyKV ops k N K = true) (hx : kvOp K x = some (.pointer (some ⟨g, 0, none⟩)))
    (hU : Upd L [(g, .stringIter s pos)] [(g, .stringIter s (pos + runeW s pos))] L') (hS : Upd L [(g, .stringIter s pos)] [(g, .stringIter s pos)] L)
    (k1 : decide (pos < s.size) = true → GLk P ops (k + 1) N (kvPut K (opAt ops k).dst (.tuple #[.bool true, .int .i64 (pos : Int), .int .i32 (runeAt s pos)])) I L' T)
    (k2 : decide (pos < s.size) = false → GLk P ops (k + 1) N (kvPut K (opAt ops k).dst (.tuple #[.bool false])) I L T) : GLk P ops k N K I L T := by
  by_cases hp : pos < s.size
  · refine gl_gen h fun t ht W hW => ?_
    obtain ⟨R, h1, h2⟩ := hW.upd hU
    have hg : W.heap[g]? = some (.stringIter s pos) := h1.mem (by simp)
    have hget : (getObj g).run P W = .ok (.stringIter s pos) W := by simp [getObj, Sem.run, hg]
    have hset : (setObj g (.stringIter s (pos + (Utf8.decode s pos).2))).run P W = .ok () { W with heap := W.heap.setIfInBounds g (.stringIter s (pos + (Utf8.decode s pos).2)) } := by simp [setObj, Sem.run, hg]
    have hlt : g < W.heap.size := lt_of_heap hg
    refine ⟨_, I, L', { W with heap := W.heap.setIfInBounds g (.stringIter s (pos + runeW s pos)) }, ?_, h2 I _ (Holds.set (A := []) h1 (.stringIter s (pos + runeW s pos)) ?_ (fun b hb => ?_) rfl rfl ⟨rfl, Nat.le_refl _⟩), k1 (decide_eq_true hp)⟩
    · simp [execOp, ho, ht.op hx, Instr.next, hget, hp, hset, goInt, runeAt, runeW]
    · simp [hlt]
    · exact Array.getElem?_setIfInBounds_ne (Ne.symm hb)
  · refine gl_gen h fun t ht W hW => ?_
    obtain ⟨R, h1, h2⟩ := hW.upd hS
    have hg : W.heap[g]? = some (.stringIter s pos) := h1.mem (by simp)
    have hget : (getObj g).run P W = .ok (.stringIter s pos) W := by simp [getObj, Sem.run, hg]
    refine ⟨_, I, L, W, ?_, hW, k2 (decide_eq_false hp)⟩
    simp [execOp, ho, ht.op hx, Instr.next, hget, hp]
/-- The nil of an interface is compared with the word nil. -/
theorem gl_eqNilI {t t' : TypeId} {x : Operand} {neg : Bool} (ho : (opAt ops k).op = .binOp (if neg then .neq else .eql) t x (.const .nilIface) t') (h : readyKV ops k N K = true) (hx : kvOp K x = some .nilIface)
    (hu : P.underlying t = some (.interface (P.methodsAt t))) (kk : GLk P ops (k + 1) N (kvPut K (opAt ops k).dst (.bool (!neg))) I L T) : GLk P ops k N K I L T := by
  refine gl_step h (fun tt ht W hW => ?_) kk
  have h1 := run_eql_nil_nil (w := W) t hu
  have h2 := run_neq_nil_nil (w := W) t hu
  have hc : (Act.mk tt []).eval (.const .nilIface) = .nilIface := rfl
  cases neg with
  | false =>
    simp only [Bool.false_eq_true, if_false] at ho
    simp [execOp, ho, ht.op hx, hc, eqGuard, h1]
  | true =>
    simp only [if_true] at ho
    simp [execOp, ho, ht.op hx, hc, eqGuard, h2]
end
/-- What a strings.Builder at block g holds: its bytes xs; B: its blocks. -/
def BldS (T e : TypeId) (I : Imm) (g : Nat) (xs : List Int) (B : Own) : Prop :=
  ∃ p A c C, (p = none ∨ p = some (⟨g, 0, none⟩ : Addr)) ∧ OwnS (Kd.int .u8) e I A c xs C ∧ B = (g, .cells #[.pointer p, .slice A xs.length c] T) :: C
theorem BldS.mono {T e : TypeId} {I J : Imm} {g : Nat} {xs : List Int} {B : Own} (h : BldS T e I g xs B) (hI : I ≤ J) : BldS T e J g xs B := by
  obtain ⟨p, A, c, C, h1, h2, h3⟩ := h
  exact ⟨p, A, c, C, h1, h2.mono hI, h3⟩
theorem BldS.new (T e : TypeId) (I : Imm) (g : Nat) : BldS T e I g [] [(g, .cells #[.pointer none, .slice none 0 0] T)] :=
  ⟨none, none, 0, [], .inl rfl, OwnS.nil _ _ _ _, rfl⟩
end Go.GB

/- Decimal numerals, by a number of rounds. -/
set_option linter.unusedVariables false
namespace Go.GB
/-! ### Labels that are gone to from nowhere -/
def isScope : Code → Bool | .scope .. => true | _ => false
def scopeQ (Q : Post) : Post := fun e t I L => match e with | .goto _ => False | e => Q e t I L
section
variable {P : Program} {c : Code} {N : Nat} {K : KV} {I : Imm} {L : Own} {Q : Post}
theorem gk_scope (hk : isScope c = true) (h : GCk P (c1 c) N K I L (scopeQ Q)) : GCk P c N K I L Q := by
  cases c <;> simp only [isScope, Bool.false_eq_true] at hk
  rename_i b
  intro t hK W hW
  refine wp_scope_straight (wp_mono (h t hK W hW) ?_)
  rintro e a' W' ⟨hd, I', L', hh, hQ⟩
  cases e with
  | goto l => exact hQ.elim
  | _ => exact ⟨hd, I', L', hh, hQ⟩
theorem ge_scope_ret (h : GE .ret N K I L Q) : GE .ret N K I L (scopeQ Q) := h
end
def decF : Nat → Nat → List UInt8
  | 0, _ => []
  | f + 1, u => bif Nat.blt u 10 then [UInt8.ofNat (48 + u)] else decF f (u / 10) ++ [UInt8.ofNat (48 + u % 10)]
theorem decF_eq : ∀ (f u : Nat), u < 10 ^ (f + 1) → decF (f + 1) u = Go.Lib.decDigits u
  | 0, u, h => by
    rw [Go.Lib.decDigits, dif_pos (by omega)]
    have : Nat.blt u 10 = true := by simpa [Nat.blt_eq] using h
    simp [decF, this]
  | f + 1, u, h => by
    rw [Go.Lib.decDigits]
    by_cases hu : u < 10
    · have : Nat.blt u 10 = true := by simpa [Nat.blt_eq] using hu
      rw [dif_pos hu]; rw [decF]; simp [this]
    · have : Nat.blt u 10 = false := by
        cases hb : Nat.blt u 10 with
        | false => rfl
        | true => rw [Nat.blt_eq] at hb; exact absurd hb hu
      rw [dif_neg hu, decF, this, cond_false, decF_eq f (u / 10) (by rw [Nat.pow_succ] at h; omega)]
def itoaF (n : Int) : List UInt8 := bif decide (n < 0) then 45 :: decF 20 n.natAbs else decF 20 n.toNat
theorem itoaF_eq {n : Int} (h0 : -9223372036854775808 ≤ n) (h1 : n ≤ 9223372036854775807) : itoaF n = Go.Lib.itoa n := by
  unfold itoaF Go.Lib.itoa
  by_cases hn : n < 0
  · rw [if_pos hn, decide_eq_true hn, cond_true, decF_eq 19 _ (by omega)]
  · rw [if_neg hn, decide_eq_false hn, cond_false, decF_eq 19 _ (by omega)]
end Go.GB

/- strings.Builder: copyCheck, in a world where the builder's block is known. -/
set_option linter.unusedVariables false
namespace Go.Proofs
open Go.RowKit Go.Shelf
set_option maxRecDepth 100000 in
set_option maxHeartbeats 2000000 in
theorem bcopy_none (g : Nat) (w : World) (hc : w.cell? ⟨g, 0, none⟩ = some (.pointer none)) (hsh : w.shape? g = some (51, 2)) (hf : w.frozen? ⟨g, 0, none⟩ = false) :
    Calls Tryd.prog 49 #[.pointer (some ⟨g, 0, none⟩)] w fun e w' => e = .returned (.tuple #[]) ∧ w' = w.setCell ⟨g, 0, none⟩ (.pointer (some ⟨g, 0, none⟩)) := by
  obtain ⟨j, hj, hjs⟩ : ∃ j, Tryd.prog.info? 51 = some j ∧ j.size = 2 := Option.map_eq_some_iff.1 (show (Tryd.prog.info? 51).map (·.size) = some 2 by kernel_rfl)
  refine (callsIn_wide (n := 3)).1 (callsIn_of_wp Tryd.func49 rfl trivial ?_ rfl)
  simp only [Tryd.ntmps49, List.size_toArray, List.length_cons, List.length_nil, Nat.reduceAdd, Nat.reduceSub, Array.replicate_succ, Array.replicate_zero, List.push_toArray, List.append_toArray, List.nil_append, List.cons_append]
  gi_wp2
  rw [Lib.run_to_unsafe w ⟨g, 0, none⟩ Tryd.underlying49 Tryd.underlying97 hj (by rw [hjs]; decide) hsh (Nat.zero_lt_succ 1)]
  simp only [Result.andThen]
  gi_wp2
  refine ⟨trivial, ?_⟩
  rw [run_callFunc_extern Tryd.func65 (by kernel_rfl) (by kernel_rfl) (by kernel_rfl) (e := Extern.AbiNoEscape.same) (by kernel_rfl)]
  rw [Lib.run_noEscape]
  simp only [Result.andThen]
  gi_wp2
  rw [Lib.run_from_unsafe w ⟨g, 0, none⟩ Tryd.underlying97 Tryd.underlying49 hj hsh (show liesAt Tryd.prog Tryd.prog.depth 51 (2 / Tryd.prog.cellsOf 51) 0 51 1 = true by kernel_rfl)]
  simp only [Result.andThen]
  gi_wp2
  go_end0
  exact ⟨rfl, rfl⟩
set_option maxRecDepth 100000 in
set_option maxHeartbeats 2000000 in
theorem bcopy_self (g : Nat) (w : World) (hc : w.cell? ⟨g, 0, none⟩ = some (.pointer (some ⟨g, 0, none⟩))) :
    Calls Tryd.prog 49 #[.pointer (some ⟨g, 0, none⟩)] w fun e w' => e = .returned (.tuple #[]) ∧ w' = w := by
  refine (callsIn_wide (n := 3)).1 (callsIn_of_wp Tryd.func49 rfl trivial ?_ rfl)
  simp only [Tryd.ntmps49, List.size_toArray, List.length_cons, List.length_nil, Nat.reduceAdd, Nat.reduceSub, Array.replicate_succ, Array.replicate_zero, List.push_toArray, List.append_toArray, List.nil_append, List.cons_append]
  gi_wp2
  obtain ⟨j, hj, _⟩ : ∃ j, Tryd.prog.info? 51 = some j ∧ j.size = 2 := Option.map_eq_some_iff.1 (show (Tryd.prog.info? 51).map (·.size) = some 2 by kernel_rfl)
  rw [Lib.run_neq_ptr_same w _ Tryd.underlying49 hj]
  simp only [Result.andThen]
  gi_wp2
  go_end0
  exact ⟨rfl, rfl⟩
set_option maxRecDepth 100000 in
set_option maxHeartbeats 2000000 in
theorem bstr_none (g : Nat) (T : TypeId) (p : Value) (w : World) (hb : w.heap[g]? = some (.cells #[p, .slice none 0 0] T (0, 0))) :
    Calls Tryd.prog 28 #[.pointer (some ⟨g, 0, none⟩)] w fun e w' => e = .returned (.string ⟨#[]⟩) ∧ w' = w.drew := by
  have c1 : w.drew.cell? ⟨g, 1, none⟩ = some (.slice none 0 0) := by
    have : w.drew.heap[g]? = some (.cells #[p, .slice none 0 0] T (0, 0)) := hb
    rw [Lib.cell_of_heap this]; rfl
  have hSD : (Builtin.unsafeSliceData_ #[41] 76 #[.slice none 0 0]).run Tryd.prog w.drew = .ok (.pointer none) w.drew := rfl
  have hUS : (Builtin.unsafeString_ #[76, 3] 9 #[.pointer none, .int .i64 0]).run Tryd.prog w.drew = .ok (.string ⟨#[]⟩) w.drew := Lib.run_unsafeString_none _ _ _ _ _
  refine calls_of_wp Tryd.func28 rfl ?_
  simp only [Tryd.ntmps28, List.size_toArray, List.length_cons, List.length_nil, Nat.reduceAdd, Nat.reduceSub, Array.replicate_succ, Array.replicate_zero, List.push_toArray, List.append_toArray, List.nil_append, List.cons_append]
  have mixed : Tryd.prog.follows .mixedOrders = true := by kernel_rfl
  go_wp2
  go_region_o
  all_goals (go_wp2; go_ret; exact ⟨rfl, rfl⟩)
set_option maxRecDepth 100000 in
set_option maxHeartbeats 2000000 in
theorem bstr_some (g gb c : Nat) (T : TypeId) (p : Value) (cur : Array Value) (fz : Nat × Nat) (l : List UInt8) (w : World) (h0 : l ≠ []) (hb : w.heap[g]? = some (.cells #[p, .slice (some ⟨gb, 0, none⟩) l.length c] T (0, 0)))
    (hg : w.heap[gb]? = some (.cells cur 5 fz)) (hc : c ≠ 0) (hn : l.length ≤ cur.size) (hm : l.length ≤ 2147483648) (hx : ∀ (j : Nat) (x : UInt8), l[j]? = some x → cur[j]? = some (Value.int .u8 (x.toNat : Int))) :
    Calls Tryd.prog 28 #[.pointer (some ⟨g, 0, none⟩)] w fun e w' => e = .returned (.string ⟨l.toArray⟩) ∧ w' = w.drew.freeze ⟨gb, 0, none⟩ l.length := by
  have c1 : w.drew.cell? ⟨g, 1, none⟩ = some (.slice (some ⟨gb, 0, none⟩) l.length c) := by
    have : w.drew.heap[g]? = some (.cells #[p, .slice (some ⟨gb, 0, none⟩) l.length c] T (0, 0)) := hb
    rw [Lib.cell_of_heap this]; rfl
  have hSD : (Builtin.unsafeSliceData_ #[41] 76 #[.slice (some ⟨gb, 0, none⟩) l.length c]).run Tryd.prog w.drew = .ok (.pointer (some ⟨gb, 0, none⟩)) w.drew :=
    Lib.run_unsafeSliceData_row _ _ _ _ _ _ hc
  have hUS : (Builtin.unsafeString_ #[76, 3] 9 #[.pointer (some ⟨gb, 0, none⟩), .int .i64 l.length]).run Tryd.prog w.drew = .ok (.string ⟨l.toArray⟩) (w.drew.freeze ⟨gb, 0, none⟩ l.length) := by
    refine Lib.run_unsafeString_row w.drew 76 3 9 5 Tryd.underlying76 (by kernel_rfl) gb cur.size (by have hg' : w.drew.heap[gb]? = some (.cells cur 5 fz) := hg; simp [World.shape?, hg']) l h0 hn (by omega) ?_
    intro j x hj
    have hg' : w.drew.heap[gb]? = some (.cells cur 5 fz) := hg
    have := hx j x hj
    have e : (⟨gb, 0, none⟩ : Addr).add j = ⟨gb, j, none⟩ := by unfold Addr.add; split <;> simp_all
    rw [e]
    simp [World.cell?, hg', this]
  refine calls_of_wp Tryd.func28 rfl ?_
  simp only [Tryd.ntmps28, List.size_toArray, List.length_cons, List.length_nil, Nat.reduceAdd, Nat.reduceSub, Array.replicate_succ, Array.replicate_zero, List.push_toArray, List.append_toArray, List.nil_append, List.cons_append]
  have mixed : Tryd.prog.follows .mixedOrders = true := by kernel_rfl
  go_wp2
  go_region_o
  all_goals (go_wp2; go_ret; exact ⟨rfl, rfl⟩)
set_option maxRecDepth 100000 in
set_option maxHeartbeats 2000000 in
theorem bstr_empty (g gb c : Nat) (T : TypeId) (p : Value) (cur : Array Value) (fz : Nat × Nat) (w : World) (hb : w.heap[g]? = some (.cells #[p, .slice (some ⟨gb, 0, none⟩) 0 c] T (0, 0))) (hg : w.heap[gb]? = some (.cells cur 5 fz)) (hc : c ≠ 0) :
    Calls Tryd.prog 28 #[.pointer (some ⟨g, 0, none⟩)] w fun e w' => e = .returned (.string ⟨#[]⟩) ∧ w' = w.drew := by
  have c1 : w.drew.cell? ⟨g, 1, none⟩ = some (.slice (some ⟨gb, 0, none⟩) 0 c) := by
    have : w.drew.heap[g]? = some (.cells #[p, .slice (some ⟨gb, 0, none⟩) 0 c] T (0, 0)) := hb
    rw [Lib.cell_of_heap this]; rfl
  have hSD : (Builtin.unsafeSliceData_ #[41] 76 #[.slice (some ⟨gb, 0, none⟩) 0 c]).run Tryd.prog w.drew = .ok (.pointer (some ⟨gb, 0, none⟩)) w.drew := Lib.run_unsafeSliceData_row _ _ _ _ _ _ hc
  have hUS : (Builtin.unsafeString_ #[76, 3] 9 #[.pointer (some ⟨gb, 0, none⟩), .int .i64 0]).run Tryd.prog w.drew = .ok (.string ⟨#[]⟩) w.drew := Lib.run_unsafeString_none _ _ _ _ _
  refine calls_of_wp Tryd.func28 rfl ?_
  simp only [Tryd.ntmps28, List.size_toArray, List.length_cons, List.length_nil, Nat.reduceAdd, Nat.reduceSub, Array.replicate_succ, Array.replicate_zero, List.push_toArray, List.append_toArray, List.nil_append, List.cons_append]
  have mixed : Tryd.prog.follows .mixedOrders = true := by kernel_rfl
  go_wp2
  go_region_o
  all_goals (go_wp2; go_ret; exact ⟨rfl, rfl⟩)
set_option maxRecDepth 100000 in
set_option maxHeartbeats 2000000 in
theorem bstr_zero (g gb : Nat) (T : TypeId) (p : Value) (cur : Array Value) (fz : Nat × Nat) (w : World) (hb : w.heap[g]? = some (.cells #[p, .slice (some ⟨gb, 0, none⟩) 0 0] T (0, 0))) (hg : w.heap[gb]? = some (.cells cur 5 fz)) :
    Calls Tryd.prog 28 #[.pointer (some ⟨g, 0, none⟩)] w fun e w' => e = .returned (.string ⟨#[]⟩) ∧ w' = (w.alloc (.view ⟨gb, 0, none⟩ 5)).drew := by
  have c1 : w.drew.cell? ⟨g, 1, none⟩ = some (.slice (some ⟨gb, 0, none⟩) 0 0) := by
    have : w.drew.heap[g]? = some (.cells #[p, .slice (some ⟨gb, 0, none⟩) 0 0] T (0, 0)) := hb
    rw [Lib.cell_of_heap this]; rfl
  have c2 : (w.alloc (.view ⟨gb, 0, none⟩ 5)).cell? ⟨g, 1, none⟩ = some (.slice (some ⟨gb, 0, none⟩) 0 0) := cell_kept (W := w) c1 (World.grownBy_alloc w _ none) (fun r e => by cases e)
  have hSD : (Builtin.unsafeSliceData_ #[41] 76 #[.slice (some ⟨gb, 0, none⟩) 0 0]).run Tryd.prog w.drew = .ok (.pointer (some ⟨w.heap.size, 0, none⟩)) (w.alloc (.view ⟨gb, 0, none⟩ 5)).drew :=
    Lib.run_unsafeSliceData_zero _ _ _ _ Tryd.underlying76 _ _ (5, cur.size) (by have hg' : w.drew.heap[gb]? = some (.cells cur 5 fz) := hg; simp [World.shape?, hg'])
  have hUS : (Builtin.unsafeString_ #[76, 3] 9 #[.pointer (some ⟨w.heap.size, 0, none⟩), .int .i64 0]).run Tryd.prog (w.alloc (.view ⟨gb, 0, none⟩ 5)).drew = .ok (.string ⟨#[]⟩) (w.alloc (.view ⟨gb, 0, none⟩ 5)).drew := Lib.run_unsafeString_none _ _ _ _ _
  refine calls_of_wp Tryd.func28 rfl ?_
  simp only [Tryd.ntmps28, List.size_toArray, List.length_cons, List.length_nil, Nat.reduceAdd, Nat.reduceSub, Array.replicate_succ, Array.replicate_zero, List.push_toArray, List.append_toArray, List.nil_append, List.cons_append]
  have mixed : Tryd.prog.follows .mixedOrders = true := by kernel_rfl
  go_wp2
  go_region_o
  all_goals (go_wp2; go_ret; exact ⟨rfl, rfl⟩)
end Go.Proofs

set_option linter.unusedVariables false
namespace Go.GB
open Go.RowKit Go.Proofs
theorem bld_copyCheck {g : Nat} {p : Option Addr} {x : Value} {I : Imm} (hp : p = none ∨ p = some (⟨g, 0, none⟩ : Addr)) (L : Own) :
    CallsTo Tryd.prog 49 #[.pointer (some ⟨g, 0, none⟩)] I ((g, .cells #[.pointer p, x] 51) :: L) (fun v I' L' => v = .tuple #[] ∧ (g, .cells #[.pointer (some ⟨g, 0, none⟩), x] 51) :: L = L') := by
  intro W hW
  have hg : W.heap[g]? = some (.cells #[.pointer p, x] 51) := hW.own (g, .cells #[.pointer p, x] 51) (by simp)
  rcases hp with rfl | rfl
  · refine (bcopy_none g W (by simp [World.cell?, hg]) (by simp [World.shape?, hg]) (by simp [World.frozen?, hg])).mono ?_
    rintro e W' ⟨rfl, rfl⟩
    refine ⟨_, I, _, rfl, Imm.refl I, Holds.set (A := []) hW (.cells #[.pointer (some ⟨g, 0, none⟩), x] 51) ?_ (fun b hb => ?_) rfl rfl ⟨rfl, Nat.le_refl _⟩, rfl, rfl⟩
    · simp only [World.setCell, Array.getElem?_modify, if_true, hg, Option.map_some]; rfl
    · simp only [World.setCell, Array.getElem?_modify]
      rw [if_neg (fun e => hb e.symm)]
  · refine (bcopy_self g W (by simp [World.cell?, hg])).mono ?_
    rintro e W' ⟨rfl, rfl⟩
    exact ⟨_, I, _, rfl, Imm.refl I, hW, rfl, rfl⟩
open Classical in
noncomputable def strO (xs : List Int) : Option ByteArray := if ∀ x ∈ xs, 0 ≤ x ∧ x < 256 then some ⟨(xs.map (fun x => UInt8.ofNat x.toNat)).toArray⟩ else none
theorem bld_String {g : Nat} {p : Option Addr} {A : Option Addr} {c : Nat} {xs : List Int} {C : Own} {I : Imm} {r : ByteArray} (hO : OwnS (Kd.int .u8) 5 I A c xs C) (hr : strO xs = some r) (L : Own) :
    CallsTo Tryd.prog 28 #[.pointer (some ⟨g, 0, none⟩)] I ((g, .cells #[.pointer p, .slice A xs.length c] 51) :: (C ++ L)) (fun v I' L' => v = .string r ∧ L = L') := by
  intro W hW
  unfold strO at hr
  split at hr <;> cases hr
  rename_i hx
  have hg : W.heap[g]? = some (.cells #[.pointer p, .slice A xs.length c] 51) := hW.own (g, .cells #[.pointer p, .slice A xs.length c] 51) (by simp)
  rcases hO with ⟨rfl, rfl, rfl, rfl⟩ | ⟨gb, cells, fz, rfl, rfl, hfz, h4, h5, h6, h7⟩
  · refine (bstr_none g 51 _ W hg).mono ?_
    rintro e W' ⟨rfl, rfl⟩
    have h2 : Holds I L W := Holds.drop (C := [(g, .cells #[.pointer p, .slice none ([] : List Int).length 0] 51)]) hW
    exact ⟨_, I, L, rfl, Imm.refl I, h2.drawn (W.drawn + 1), rfl, rfl⟩
  · have hgb : W.heap[gb]? = some (.cells cells 5 fz) := hW.own (gb, .cells cells 5 fz) (by simp)
    have hn1 : (Kd.int .u8).n = 1 := rfl
    rw [hn1, Nat.mul_one] at h5
    have h7' : xs.length ≤ 2147483648 := h7
    by_cases h0 : xs = []
    · subst h0
      have h2 : Holds I L W := (Holds.drop (C := [(g, .cells #[.pointer p, .slice (some ⟨gb, 0, none⟩) ([] : List Int).length c] 51)]) hW).sub (List.sublist_cons_self _ _)
      by_cases hc : c = 0
      · subst hc
        refine (bstr_zero g gb 51 (.pointer p) cells fz W hg hgb).mono ?_
        rintro e W' ⟨rfl, rfl⟩
        exact ⟨_, I, L, rfl, Imm.refl I, ((h2.drawn (W.drawn + 1)).new (.view ⟨gb, 0, none⟩ 5)).sub (List.sublist_cons_self _ _), rfl, rfl⟩
      · refine (bstr_empty g gb c 51 (.pointer p) cells fz W hg hgb hc).mono ?_
        rintro e W' ⟨rfl, rfl⟩
        exact ⟨_, I, L, rfl, Imm.refl I, h2.drawn (W.drawn + 1), rfl, rfl⟩
    · have hl0 : xs.map (fun x => UInt8.ofNat x.toNat) ≠ [] := by simpa using h0
      have hpos : 0 < xs.length := List.length_pos_iff.2 h0
      have hll : (xs.map (fun x => UInt8.ofNat x.toNat)).length = xs.length := by simp
      refine (bstr_some g gb c 51 (.pointer p) cells fz (xs.map (fun x => UInt8.ofNat x.toNat)) W hl0 (by rw [hll]; exact hg) hgb (by omega) (by rw [hll]; omega) (by rw [hll]; omega) (fun j y hj => ?_)).mono ?_
      · rw [List.getElem?_map] at hj
        cases hxj : xs[j]? with
        | none => rw [hxj] at hj; cases hj
        | some z =>
          rw [hxj] at hj
          simp only [Option.map_some, Option.some.injEq] at hj
          obtain ⟨l, hl, hc⟩ := h6.at_ j z hxj
          obtain rfl : l = [.int .u8 z] := hl
          have h8 := hc 0 (.int .u8 z) rfl
          rw [hn1, Nat.mul_one, Nat.add_zero] at h8
          have h9 := hx z (List.mem_of_getElem? hxj)
          rw [h8, ← hj]
          congr 2
          rw [UInt8.toNat_ofNat']
          omega
      · rintro e W' ⟨rfl, rfl⟩
        rw [hll]
        obtain ⟨o', ho'⟩ : ∃ o', W.drew.freeze ⟨gb, 0, none⟩ xs.length = { W with drawn := W.drawn + 1, heap := W.heap.modify gb o' } ∧ ∃ fz', o' (.cells cells 5 fz) = .cells cells 5 fz' := by
          unfold World.freeze
          rw [if_neg (by omega)]
          exact ⟨_, rfl, _, rfl⟩
        obtain ⟨ew, fz', hf'⟩ := ho'
        rw [ew]
        have h2 := Holds.set (A := [(g, .cells #[.pointer p, .slice (some ⟨gb, 0, none⟩) xs.length c] 51)]) (L := L) hW (W' := { W with drawn := W.drawn + 1, heap := W.heap.modify gb o' }) (.cells cells 5 fz') (by
          show (W.heap.modify gb o')[gb]? = _
          rw [Array.getElem?_modify, if_pos rfl, hgb, Option.map_some, hf']) (fun b hb => by
          show (W.heap.modify gb o')[b]? = _
          rw [Array.getElem?_modify, if_neg (Ne.symm hb)]) rfl rfl ⟨rfl, Nat.le_succ _⟩
        exact ⟨_, I, L, rfl, Imm.refl I, (Holds.drop (C := [(g, .cells #[.pointer p, .slice (some ⟨gb, 0, none⟩) xs.length c] 51)]) h2).sub (List.sublist_cons_self _ _), rfl, rfl⟩
end Go.GB
namespace Go.Proofs.YtlhpclfkoblnkaaDoor
/-- The kit has an Own of another meaning. -/
abbrev Own := Go.GB.Own
end Go.Proofs.YtlhpclfkoblnkaaDoor
