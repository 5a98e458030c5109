/- What two numbers make in a counter is what the reference makes of them, for all numbers; no conditions. -/
import Derived.Test.YtmihnicknicckaaPSatExactx1
namespace Go.Proofs.Ytmihnicknicckaa.Pure
open Go.RowKit Go.Proofs.Ytmihnicknicckaa.PSatExact Go.Proofs.YtmihnicknicckaaW.PrintWords Go.Proofs.YtmihnicknicckaaW.PrintLast Go.Proofs.YtmihnicknicckaaW.PrintMore

abbrev M : Int := 1073741824
def sa (a b : Int) : Int := mn (mn (mx a 0) M + mn (mx b 0) M) M
theorem w64 {x : Int} (h : -9223372036854775808 ≤ x) (h2 : x ≤ 9223372036854775807) : wrap64 x = x := by unfold wrap64; omega
theorem add_f (a b : Int) : sat_Add.f a b = some (sa a b) := by
  have hw : wrap64 (mn (mx a 0) M + mn (mx b 0) M) = mn (mx a 0) M + mn (mx b 0) M := by
    apply w64 <;> (unfold mn mx M; repeat' split) <;> omega
  have h2 : mn (mx (mn (mx a 0) M + mn (mx b 0) M) 0) M = mn (mn (mx a 0) M + mn (mx b 0) M) M := by
    unfold mn mx M; repeat' split
    all_goals omega
  unfold sat_Add.f sat_within.f
  simp only [Option.bind_some]
  show some (mn (mx (wrap64 (mn (mx a 0) M + mn (mx b 0) M)) 0) M) = some (sa a b)
  rw [hw, h2]; rfl
theorem wakes_f : volutelaw16_wakes.f = some true := by
  unfold volutelaw16_wakes.f
  simp only [add_f, Option.bind_some]
  decide

theorem SatExact : volutelaw16_SatExact.Pure := by
  intro a b _ _
  unfold volutelaw16_SatExact.f
  rw [add_f, wakes_f]
  simp only [Option.bind_some, voluteref13_Sat.f]
  exact if_pos rfl

end Go.Proofs.Ytmihnicknicckaa.Pure
