/- A pass goes through the eighths in order, for every number of segments; no conditions. -/
import Derived.Test.YtmihnicknicckaaPxVolutelaw07Schedeighths
import Derived.Test.YtmihnicknicckaaBase
namespace Go.Proofs.Ytmihnicknicckaa.Pure
open Go.RowKit Go.Proofs.Ytmihnicknicckaa.P Go.Proofs.YtmihnicknicckaaW.PrintWords Go.Proofs.YtmihnicknicckaaW.PrintLast Go.Proofs.YtmihnicknicckaaW.PrintMore
set_option linter.unusedVariables false
set_option linter.unusedSimpArgs false

set_option maxRecDepth 100000 in
theorem SchedEighths : volutelaw07_SchedEighths.Pure := by
  intro a0 _
  refine ⟨300, ?_⟩
  unfold volutelaw07_SchedEighths.f
  obtain ⟨h0, h1⟩ := umod a0 64 (by omega) (by omega)
  generalize wrap64 (Int.tmod (IntKind.u64.wrap a0) 64) = x at *
  obtain ⟨m, rfl⟩ := Int.eq_ofNat_of_zero_le h0
  have hm : m < 64 := by omega
  clear h0 h1
  revert m
  decide +kernel
end Go.Proofs.Ytmihnicknicckaa.Pure
