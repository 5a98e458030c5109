/- A part of the proof that EmitRoundsSaid of the given program holds (VsA); no conditions but the statement's own. -/
import Derived.Test.YtekojicaeadepaaVsFa
import Derived.Test.YtekojicaeadepaaVmZ
namespace Go.Proofs.Ytekojicaeadepaa.Vm
open Go.Vm Go.Proofs
set_option linter.unusedSimpArgs false
-- short

def mixI (x : Int) : Int :=
  let a := IntKind.u32.wrap (xorI .u32 x (shrI .u32 x 16) * 2146121005)
  let b := IntKind.u32.wrap (xorI .u32 a (shrI .u32 a 15) * 2221713035)
  xorI .u32 b (shrI .u32 b 16)
instance Mix_fn (x : Int) : Fu Try.prog 70 [.int .u32 x] (.int .u32 (mixI x)) := ⟨by
  refine Does.of Try.func70 rfl Try.ntmps70 fun C hC => ?_
  refine vx (hq := ?_)
  exact Out.o0⟩
instance Begin_fn : Fu Try.prog 66 [] (.int .u32 2654435769) := ⟨by
  refine Does.of Try.func66 rfl Try.ntmps66 fun C hC => ?_
  refine vx (hq := ?_)
  exact Out.o0⟩
def stI (s x : Int) : Int := mixI (xorI .u32 s (IntKind.u32.wrap x))
theorem Step_fn (s : Int) {x : Int} (h0 : 0 ≤ x) (h1 : x < 16) : Does Try.prog 67 [.int .u32 s, .int .i64 x] (.tup [.int .u32 (stI s x), .int .i64 0]) [] := by
  refine Does.of Try.func67 rfl Try.ntmps67 fun C hC => ?_
  refine vx (hq := ?_)
  rw [show decide (x < 0) = false by simp; omega]
  refine vx (hq := ?_)
  rw [show decide (x ≥ 16) = false by simp; omega]
  refine vx (hq := ?_)
  exact Out.t0
end Go.Proofs.Ytekojicaeadepaa.Vm
