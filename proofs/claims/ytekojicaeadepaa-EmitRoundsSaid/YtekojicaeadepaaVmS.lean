/- A machine of values: the lesser of two numbers. -/
import Derived.Test.YtekojicaeadepaaVmQ
namespace Go.Vm
open Go.RowKit
section
variable {P : Program} {st : St} {d : Option Tmp}
theorem Stp.min {x y : Operand} {k : IntKind} {a b : Int} {ts : Array TypeId} (hx : st.evo x = some (.int k a) := by rfl) (hy : st.evo y = some (.int k b) := by rfl) :
    Stp P (.call { callee := .builtin .min, args := #[x, y], argTypes := ts }) d st (st.put d (.int k (if b < a then b else a))) := by
  intro o ho hd C N hN
  subst hd
  refine OpS.val hN fun a' w μ Z R => ?_
  have h1 := R.ev x
  have h2 := R.ev y
  rw [evo_ev hx] at h1
  rw [evo_ev hy] at h2
  have h1 := h1.int
  have h2 := h2.int
  refine ⟨_, ?_, UR.of_int _ _⟩
  simp [execOp, ho, resolve, invoke, builtin, h1, h2, Builtin.min_, Builtin.min2]
  try (split <;> rfl)
end
end Go.Vm
