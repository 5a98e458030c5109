/- Counting one by one and counting in one leap make the same, and the bound is never passed, for all numbers; no conditions. -/
import Derived.Test.YtmihnicknicckaaPSatManyx1
namespace Go.Proofs.Ytmihnicknicckaa.Pure
open Go.RowKit Go.Proofs.Ytmihnicknicckaa.PSatMany Go.Proofs.YtmihnicknicckaaW.PrintWords Go.Proofs.YtmihnicknicckaaW.PrintLast Go.Proofs.YtmihnicknicckaaW.PrintMore

abbrev M : Int := 1073741824
def sa (a b : Int) : Int := mn (mn (mx a 0) M + mn (mx b 0) M) M
theorem w64 {x : Int} (h : -9223372036854775808 ≤ x) (h2 : x ≤ 9223372036854775807) : wrap64 x = x := by unfold wrap64; omega
theorem u64_nn (a : Int) : 0 ≤ IntKind.u64.wrap a := by
  simp only [IntKind.wrap, IntKind.signed, IntKind.bits, Bool.false_and, Bool.false_eq_true, if_false]
  omega
theorem add_f (a b : Int) : sat_Add.f a b = some (sa a b) := by
  have hw : wrap64 (mn (mx a 0) M + mn (mx b 0) M) = mn (mx a 0) M + mn (mx b 0) M := by
    apply w64 <;> (unfold mn mx M; repeat' split) <;> omega
  have h2 : mn (mx (mn (mx a 0) M + mn (mx b 0) M) 0) M = mn (mn (mx a 0) M + mn (mx b 0) M) M := by
    unfold mn mx M; repeat' split
    all_goals omega
  unfold sat_Add.f sat_within.f
  simp only [Option.bind_some]
  show some (mn (mx (wrap64 (mn (mx a 0) M + mn (mx b 0) M)) 0) M) = some (sa a b)
  rw [hw, h2]; rfl
theorem wakes_f : volutelaw16_wakes.f = some true := by
  unfold volutelaw16_wakes.f
  simp only [add_f, Option.bind_some]
  decide

theorem sa_small (x y : Int) (h0 : 0 ≤ x) (h1 : x ≤ M) (h2 : 0 ≤ y) (h3 : y ≤ M) : sa x y = mn (x + y) M := by
  unfold sa mn mx M at *; repeat' split
  all_goals omega
theorem rng (a m : Int) (h : 0 < m) (hm : m ≤ 4000) : 0 ≤ wrap64 (Int.tmod (IntKind.u64.wrap a) m) ∧ wrap64 (Int.tmod (IntKind.u64.wrap a) m) < m := by
  have h : 0 ≤ IntKind.u64.wrap a := u64_nn a
  rw [Int.tmod_eq_emod_of_nonneg h]
  generalize IntKind.u64.wrap a = x at *
  have h1 := Int.emod_nonneg x (by omega : m ≠ 0)
  have h2 := Int.emod_lt_of_pos x (by omega : 0 < m)
  rw [w64 (by omega) (by omega)]
  exact ⟨h1, h2⟩
theorem loop (f n : Int) (hf0 : 1073737824 ≤ f) (hf1 : f ≤ M) (hn0 : 0 ≤ n) (hn : n ≤ 2000) (d : Nat) : ∀ (k : Nat) (i x : Int), 0 ≤ i → i ≤ n → n - i = d → x = mn (f + i) M → d < k →
    volutelaw16_SatMany.l0 k f n x i = some true := by
  induction d with
  | zero =>
    intro k i x h0 h1 hd hx hk
    obtain ⟨k, rfl⟩ : ∃ m, k = m + 1 := ⟨k - 1, by omega⟩
    obtain rfl : i = n := by omega
    simp only [volutelaw16_SatMany.l0, add_f, Option.bind_some, wakes_f]
    unfold M at hf1
    rw [if_neg (by omega), sa_small f i (by omega) (by unfold M; omega) (by omega) (by unfold M; omega), if_pos hx, w64 (by omega) (by omega), if_pos hx]
  | succ d ih =>
    intro k i x h0 h1 hd hx hk
    obtain ⟨k, rfl⟩ : ∃ m, k = m + 1 := ⟨k - 1, by omega⟩
    simp only [volutelaw16_SatMany.l0]
    rw [if_pos (by omega), add_f, w64 (by omega) (by omega)]
    simp only [Option.bind_some]
    refine ih k (i + 1) _ (by omega) (by omega) (by omega) ?_ (by omega)
    subst hx
    rw [sa_small _ 1 (by unfold mn M; split <;> omega) (by unfold mn M; split <;> omega) (by omega) (by unfold M; omega)]
    unfold mn M; repeat' split
    all_goals omega
theorem SatMany : volutelaw16_SatMany.Pure := by
  intro a b _ _
  refine ⟨3000, ?_⟩
  unfold volutelaw16_SatMany.f
  obtain ⟨h0, h1⟩ := rng a 4000 (by omega) (by omega)
  obtain ⟨g0, g1⟩ := rng b 2000 (by omega) (by omega)
  generalize wrap64 (Int.tmod (IntKind.u64.wrap a) 4000) = x at *
  generalize wrap64 (Int.tmod (IntKind.u64.wrap b) 2000) = y at *
  rw [w64 (by omega) (by omega)]
  exact loop _ y (by omega) (by unfold M; omega) g0 (by omega) y.toNat 3000 0 _ (by omega) g0 (by omega) (by unfold mn M; split <;> omega) (by omega)

end Go.Proofs.Ytmihnicknicckaa.Pure
