/- Plain laws: one token and all tokens, as the document has them. -/
import Derived.Test.YtlhpclfkoblnkaaDoorLX10p
set_option linter.unusedVariables false
set_option maxRecDepth 100000
namespace Go.Proofs.YtlhpclfkoblnkaaDoor
open Go.GB Go.Lib
def roneOk (l : List UInt8) (a : Nat) (r : S27 × Int × Bool) : Prop := match oneL l with
  | none => r.2.2 = false
  | some (k, t, n) => r = (⟨(k : Int), ⟨t.toArray⟩, (a : Int)⟩, ((a + n : Nat) : Int), true)
theorem extract_ba2 {s : ByteArray} {a n : Nat} : s.extract a (a + n) = ⟨(((tl s).drop a).take n).toArray⟩ := by
  apply ba_eq
  show tl (s.extract a (a + n)) = ((tl s).drop a).take n
  rw [tl_extract, show a + n - a = n from by omega]
theorem tokR_len (s : ByteArray) : (tokR s).1.length ≤ 4096 := by
  unfold tokR
  split
  · simp
  · split
    · split
      · simp
      · simp; omega
    · simp
theorem known_true : tocsinlaw13_known = some true := tocsinlaw13_known_ev _ (by kernel_rfl)
end Go.Proofs.YtlhpclfkoblnkaaDoor
