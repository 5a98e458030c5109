/- Wherever a pass is broken off, of each eight segments side by side as many were sent, but for one, as of each other eight; no conditions. -/
import Derived.Test.YtmihnicknicckaaPxVolutelaw07Schedspread
import Derived.Test.YtmihnicknicckaaBase
namespace Go.Proofs.Ytmihnicknicckaa.Pure
open Go.RowKit Go.Proofs.Ytmihnicknicckaa.P Go.Proofs.YtmihnicknicckaaW.PrintWords Go.Proofs.YtmihnicknicckaaW.PrintLast Go.Proofs.YtmihnicknicckaaW.PrintMore
set_option linter.unusedVariables false
set_option linter.unusedSimpArgs false

theorem spread_all : ∀ m : Nat, m < 8 → ∀ c : Nat, c < 8 * (1 + m) + 1 → (sched_Order.f (8 * (1 + (m : Int)))).bind (fun b => if b.2 = 0 then volutelaw07_SchedSpread.j0 300 (8 * (1 + (m : Int))) (c : Int) b.1 ((b.1.length : Int) != 8 * (1 + (m : Int))) else volutelaw07_SchedSpread.j0 300 (8 * (1 + (m : Int))) (c : Int) b.1 true) = some true := by
  decide +kernel

theorem SchedSpread : volutelaw07_SchedSpread.Pure := by
  intro a0 a1 _ _
  refine ⟨300, ?_⟩
  unfold volutelaw07_SchedSpread.f
  obtain ⟨h0, h1⟩ := umod a0 8 (by omega) (by omega)
  generalize wrap64 (Int.tmod (IntKind.u64.wrap a0) 8) = x at *
  obtain ⟨m, rfl⟩ := Int.eq_ofNat_of_zero_le h0
  have hm : m < 8 := by omega
  have e1 : wrap64 (8 * wrap64 (1 + (m : Int))) = 8 * (1 + (m : Int)) := by
    rw [w64 (x := 1 + (m : Int)) (by omega) (by omega), w64 (by omega) (by omega)]
  have e2 : IntKind.u64.wrap (wrap64 (8 * (1 + (m : Int)) + 1)) = 8 * (1 + (m : Int)) + 1 := by
    rw [w64 (by omega) (by omega), u64_id (by omega) (by omega)]
  rw [e1, e2]
  obtain ⟨g0, g1⟩ := umod a1 (8 * (1 + (m : Int)) + 1) (by omega) (by omega)
  generalize wrap64 (Int.tmod (IntKind.u64.wrap a1) (8 * (1 + (m : Int)) + 1)) = y at *
  obtain ⟨c, rfl⟩ := Int.eq_ofNat_of_zero_le g0
  rw [if_neg (by omega)]
  exact spread_all m hm c (by omega)
end Go.Proofs.Ytmihnicknicckaa.Pure
