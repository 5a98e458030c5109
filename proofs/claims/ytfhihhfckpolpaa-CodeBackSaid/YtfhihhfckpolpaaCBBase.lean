/- What the law's proof needs: Base. -/
import Derived.Test.YtfhihhfckpolpaaCBPx0
namespace Go.Proofs.Ytfhihhfckpolpaa.Pure
open Go.RowKit Go.Proofs.YtfhihhfckpolpaaW.PrintWords Go.Proofs.YtfhihhfckpolpaaW.PrintLast Go.Proofs.YtfhihhfckpolpaaW.PrintMore
set_option linter.unusedVariables false
set_option linter.unusedSimpArgs false
theorem w64 {x : Int} (h : -9223372036854775808 ≤ x) (h2 : x ≤ 9223372036854775807) : wrap64 x = x := by unfold wrap64; omega
theorem wadd1 (a : Nat) (h : a < 4611686018427387904) : wrap64 ((a : Int) + 1) = ((a + 1 : Nat) : Int) := by unfold wrap64; omega
theorem wnat (a : Nat) (h : a < 4611686018427387904) : wrap64 (a : Int) = (a : Int) := by unfold wrap64; omega
theorem wmul (a b : Nat) (h : a * b < 4611686018427387904) : wrap64 ((a : Int) * (b : Int)) = ((a * b : Nat) : Int) := by
  rw [← Int.natCast_mul]; exact wnat _ h
theorem rd_get (xs : List Int) (i : Nat) (h : i < xs.length) : rd xs (i : Int) = xs[i] := by
  simp [rd, h]
end Go.Proofs.Ytfhihhfckpolpaa.Pure
