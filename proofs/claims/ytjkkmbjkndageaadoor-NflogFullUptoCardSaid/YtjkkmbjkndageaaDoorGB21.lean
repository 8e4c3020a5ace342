/- Strings gone through rune by rune; heads of rows; what a builder holds. -/
import Derived.Test.YtjkkmbjkndageaaDoorGB23
import Derived.Lib.UnsafeStr
import Derived.WideLaws
set_option linter.unusedVariables false
set_option linter.unusedSimpArgs false
namespace Go.GB
open Go.RowKit
def runeAt (s : ByteArray) (pos : Nat) : Int := ((Utf8.decode s pos).1 : Int)
def runeW (s : ByteArray) (pos : Nat) : Nat := (Utf8.decode s pos).2
section
variable {P : Program} {ops : Array Oper} {k N : Nat} {K : KV} {I : Imm} {L : Own} {T : TPost}
theorem gl_range {T' : TypeId} {x : Operand} {s : ByteArray} (ho : (opAt ops k).op = .range T' x) (h : readyKV ops k N K = true) (hx : kvOp K x = some (.string s)) (hu : P.underlying T' = some .string)
    (kk : ∀ g, GLk P ops (k + 1) N (kvPut K (opAt ops k).dst (.pointer (some ⟨g, 0, none⟩))) I ((g, .stringIter s 0) :: L) T) : GLk P ops k N K I L T := by
  refine gl_gen h fun t ht W hW => ⟨_, I, _, _, ?_, hW.new (.stringIter s 0), kk W.heap.size⟩
  simp [execOp, ho, ht.op hx, Instr.range, run_underlying' hu, run_newObj']
theorem gl_next {x : Operand} {s : ByteArray} {pos g : Nat} {L' : Own} (ho : (opAt ops k).op = .next x true) (h : readyKV ops k N K = true) (hx : kvOp K x = some (.pointer (some ⟨g, 0, none⟩)))
    (hU : Upd L [(g, .stringIter s pos)] [(g, .stringIter s (pos + runeW s pos))] L') (hS : Upd L [(g, .stringIter s pos)] [(g, .stringIter s pos)] L)
    (k1 : decide (pos < s.size) = true → GLk P ops (k + 1) N (kvPut K (opAt ops k).dst (.tuple #[.bool true, .int .i64 (pos : Int), .int .i32 (runeAt s pos)])) I L' T)
    (k2 : decide (pos < s.size) = false → GLk P ops (k + 1) N (kvPut K (opAt ops k).dst (.tuple #[.bool false])) I L T) : GLk P ops k N K I L T := by
  by_cases hp : pos < s.size
  · refine gl_gen h fun t ht W hW => ?_
    obtain ⟨R, h1, h2⟩ := hW.upd hU
    have hg : W.heap[g]? = some (.stringIter s pos) := h1.mem (by simp)
    have hget : (getObj g).run P W = .ok (.stringIter s pos) W := by simp [getObj, Sem.run, hg]
    have hset : (setObj g (.stringIter s (pos + (Utf8.decode s pos).2))).run P W = .ok () { W with heap := W.heap.setIfInBounds g (.stringIter s (pos + (Utf8.decode s pos).2)) } := by simp [setObj, Sem.run, hg]
    have hlt : g < W.heap.size := lt_of_heap hg
    refine ⟨_, I, L', { W with heap := W.heap.setIfInBounds g (.stringIter s (pos + runeW s pos)) }, ?_, h2 I _ (Holds.set (A := []) h1 (.stringIter s (pos + runeW s pos)) ?_ (fun b hb => ?_) rfl rfl ⟨rfl, Nat.le_refl _⟩), k1 (decide_eq_true hp)⟩
    · simp [execOp, ho, ht.op hx, Instr.next, hget, hp, hset, goInt, runeAt, runeW]
    · simp [hlt]
    · exact Array.getElem?_setIfInBounds_ne (Ne.symm hb)
  · refine gl_gen h fun t ht W hW => ?_
    obtain ⟨R, h1, h2⟩ := hW.upd hS
    have hg : W.heap[g]? = some (.stringIter s pos) := h1.mem (by simp)
    have hget : (getObj g).run P W = .ok (.stringIter s pos) W := by simp [getObj, Sem.run, hg]
    refine ⟨_, I, L, W, ?_, hW, k2 (decide_eq_false hp)⟩
    simp [execOp, ho, ht.op hx, Instr.next, hget, hp]
/-- The nil of an interface is compared with the word nil. -/
theorem gl_eqNilI {t t' : TypeId} {x : Operand} {neg : Bool} (ho : (opAt ops k).op = .binOp (if neg then .neq else .eql) t x (.const .nilIface) t') (h : readyKV ops k N K = true) (hx : kvOp K x = some .nilIface)
    (hu : P.underlying t = some (.interface (P.methodsAt t))) (kk : GLk P ops (k + 1) N (kvPut K (opAt ops k).dst (.bool (!neg))) I L T) : GLk P ops k N K I L T := by
  refine gl_step h (fun tt ht W hW => ?_) kk
  have h1 := run_eql_nil_nil (w := W) t hu
  have h2 := run_neq_nil_nil (w := W) t hu
  have hc : (Act.mk tt []).eval (.const .nilIface) = .nilIface := rfl
  cases neg with
  | false =>
    simp only [Bool.false_eq_true, if_false] at ho
    simp [execOp, ho, ht.op hx, hc, eqGuard, h1]
  | true =>
    simp only [if_true] at ho
    simp [execOp, ho, ht.op hx, hc, eqGuard, h2]
end
/-- What a strings.Builder at block g holds: its bytes xs; B: its blocks. -/
def BldS (T e : TypeId) (I : Imm) (g : Nat) (xs : List Int) (B : Own) : Prop :=
  ∃ p A c C, (p = none ∨ p = some (⟨g, 0, none⟩ : Addr)) ∧ OwnS (Kd.int .u8) e I A c xs C ∧ B = (g, .cells #[.pointer p, .slice A xs.length c] T) :: C
theorem BldS.mono {T e : TypeId} {I J : Imm} {g : Nat} {xs : List Int} {B : Own} (h : BldS T e I g xs B) (hI : I ≤ J) : BldS T e J g xs B := by
  obtain ⟨p, A, c, C, h1, h2, h3⟩ := h
  exact ⟨p, A, c, C, h1, h2.mono hI, h3⟩
theorem BldS.new (T e : TypeId) (I : Imm) (g : Nat) : BldS T e I g [] [(g, .cells #[.pointer none, .slice none 0 0] T)] :=
  ⟨none, none, 0, [], .inl rfl, OwnS.nil _ _ _ _, rfl⟩
end Go.GB
