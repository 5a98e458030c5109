/- A counter never falls, never passes its bound, hangs on no order, and stays when nothing more is counted, for all numbers; no conditions. -/
import Derived.Test.YtmihnicknicckaaPSatStaysx1
namespace Go.Proofs.Ytmihnicknicckaa.Pure
open Go.RowKit Go.Proofs.Ytmihnicknicckaa.PSatStays Go.Proofs.YtmihnicknicckaaW.PrintWords Go.Proofs.YtmihnicknicckaaW.PrintLast Go.Proofs.YtmihnicknicckaaW.PrintMore

abbrev M : Int := 1073741824
def sa (a b : Int) : Int := mn (mn (mx a 0) M + mn (mx b 0) M) M
theorem w64 {x : Int} (h : -9223372036854775808 ≤ x) (h2 : x ≤ 9223372036854775807) : wrap64 x = x := by unfold wrap64; omega
theorem u64_nn (a : Int) : 0 ≤ IntKind.u64.wrap a := by
  simp only [IntKind.wrap, IntKind.signed, IntKind.bits, Bool.false_and, Bool.false_eq_true, if_false]
  omega
theorem add_f (a b : Int) : sat_Add.f a b = some (sa a b) := by
  have hw : wrap64 (mn (mx a 0) M + mn (mx b 0) M) = mn (mx a 0) M + mn (mx b 0) M := by
    apply w64 <;> (unfold mn mx M; repeat' split) <;> omega
  have h2 : mn (mx (mn (mx a 0) M + mn (mx b 0) M) 0) M = mn (mn (mx a 0) M + mn (mx b 0) M) M := by
    unfold mn mx M; repeat' split
    all_goals omega
  unfold sat_Add.f sat_within.f
  simp only [Option.bind_some]
  show some (mn (mx (wrap64 (mn (mx a 0) M + mn (mx b 0) M)) 0) M) = some (sa a b)
  rw [hw, h2]; rfl
theorem wakes_f : volutelaw16_wakes.f = some true := by
  unfold volutelaw16_wakes.f
  simp only [add_f, Option.bind_some]
  decide

theorem sa_lo (n a : Int) (h0 : 0 ≤ n) (h1 : n ≤ M) : n ≤ sa n a ∧ sa n a ≤ M := by
  unfold sa mn mx M at *; repeat' split
  all_goals omega
theorem sa_zero (n : Int) (h0 : 0 ≤ n) (h1 : n ≤ M) : sa n 0 = n := by
  unfold sa mn mx M at *; repeat' split
  all_goals omega
theorem sa_comm (n a : Int) : sa n a = sa a n := by
  unfold sa; rw [Int.add_comm]
def cl (a : Int) : Int := mn (mx a 0) M
theorem sa_cl (n a : Int) : sa n a = mn (cl n + cl a) M := rfl
theorem cl_rng (a : Int) : 0 ≤ cl a ∧ cl a ≤ M := by
  unfold cl mn mx M; repeat' split
  all_goals omega
theorem cl_sa (n a : Int) : cl (sa n a) = mn (cl n + cl a) M := by
  have h1 := cl_rng n
  have h2 := cl_rng a
  rw [sa_cl]
  generalize cl n = x at *
  generalize cl a = y at *
  unfold cl mn mx M at *; repeat' split
  all_goals omega
theorem sa_swap (n a b : Int) : sa (sa n a) b = sa (sa n b) a := by
  rw [sa_cl, sa_cl (sa n b) a, cl_sa, cl_sa]
  have h1 := cl_rng n
  have h2 := cl_rng a
  have h3 := cl_rng b
  generalize cl n = x at *
  generalize cl a = y at *
  generalize cl b = z at *
  unfold mn M at *; repeat' split
  all_goals omega
theorem sa_full (a : Int) : sa M a = M := by
  have h := sa_lo M a (by decide) (Int.le_refl _); omega
theorem nrng (a : Int) : 0 ≤ wrap64 (Int.tmod (IntKind.u64.wrap a) 1073741825) ∧ wrap64 (Int.tmod (IntKind.u64.wrap a) 1073741825) ≤ M := by
  have h : 0 ≤ IntKind.u64.wrap a := u64_nn a
  rw [Int.tmod_eq_emod_of_nonneg h]
  generalize IntKind.u64.wrap a = x at *
  rw [w64 (by omega) (by omega)]
  unfold M; omega
theorem SatStays : volutelaw16_SatStays.Pure := by
  intro n a b _ _ _
  refine ⟨1, ?_⟩
  unfold volutelaw16_SatStays.f
  obtain ⟨h0, h1⟩ := nrng n
  generalize wrap64 (Int.tmod (IntKind.u64.wrap n) 1073741825) = x at *
  have hl := sa_lo x a h0 h1
  simp only [add_f, Option.bind_some]
  rw [if_neg (by omega), if_neg (by unfold M at hl; omega), sa_zero x h0 h1, if_pos rfl]
  simp only [volutelaw16_SatStays.j0, add_f, Option.bind_some, wakes_f]
  rw [if_neg (by rw [sa_comm x a]; simp), if_pos (sa_swap x a b), if_pos (sa_full a)]

end Go.Proofs.Ytmihnicknicckaa.Pure
