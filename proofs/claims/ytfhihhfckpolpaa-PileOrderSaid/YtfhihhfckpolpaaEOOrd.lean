/- What the law's proof needs: Ord. -/
import Derived.RangeFuncNested
import Derived.RangeFuncBound
import Derived.RangeFuncCalls
import Derived.RangeFuncLeaves
import Derived.RangeFuncBox
import Derived.Shelf.Abstract
import Derived.Shelf.RegionOpen
import Derived.WalkKit
import Derived.OwnWalkIn
import Derived.TacticsInMore
import Derived.LoopNIn
import Derived.LoopIn
import Derived.Lib.BufferOwn
import Derived.Maps.AppendAt
import Derived.Lib.Hide
import Derived.Deep.RegionHeld3
import Derived.Test.YtfhihhfckpolpaaProg
namespace Go.Proofs.Ytfhihhfckpolpaa.P
open Go.RowKit Go.Shelf
attribute [local go_sem] Oper.semAt_some
set_option linter.unusedSimpArgs false
set_option linter.unusedVariables false
def KeepsAt (B : Nat) (W W' : World) : Prop := ∀ v, W.cell? ⟨B, 0, none⟩ = some v → W'.cell? ⟨B, 0, none⟩ = some v
theorem KeepsAt.t {Bx : Nat} {A B C : World} (h : KeepsAt Bx A B) (k : KeepsAt Bx B C) : KeepsAt Bx A C := fun v hv => k v (h v hv)
theorem KeepsAt.b {Bx : Nat} (W : World) (l : Nat) (o o' : Obj) (ho : W.heap[l]? = some o) (hc : o.isCells = false) : KeepsAt Bx W (W.putObj l o') := fun v hv =>
  cell_kept hv (grownBy_putObj' W l o') (fun r e => by cases e; exact ⟨o, ho, hc⟩)
theorem KeepsAt.below {Bx n₀ : Nat} {W W' : World} (h : Below n₀ W W') (hb : Bx < n₀) : KeepsAt Bx W W' := fun u hu => (h.cell (p := ⟨Bx, 0, none⟩) hb).trans hu
theorem KeepsAt.refl (Bx : Nat) (W : World) : KeepsAt Bx W W := fun _ h => h
def mayB (n : Int) : Bool := decide (1 ≤ n ∧ n ≤ 64)
end Go.Proofs.Ytfhihhfckpolpaa.P
