/- What the law's proof needs: OrdFacts. -/
import Derived.Test.YtlolfijadcflaaaEtSched
import Derived.Test.YtlolfijadcflaaaEtBase
namespace Go.Proofs.Ytlolfijadcflaaa.Pure
open Go.RowKit Go.Proofs.Ytlolfijadcflaaa.P Go.Proofs.YtlolfijadcflaaaW.PrintWords Go.Proofs.YtlolfijadcflaaaW.PrintLast Go.Proofs.YtlolfijadcflaaaW.PrintMore
set_option linter.unusedVariables false
set_option linter.unusedSimpArgs false
theorem ord_rng : ∀ n : Nat, n < 65 → ∀ i : Nat, i < n → 0 ≤ (ord n).getD i 0 ∧ (ord n).getD i 0 < n := by decide +kernel
theorem at_pass (n p i : Nat) (h1 : 1 ≤ n) (hn : n < 65) (hp : p < 16) (hi : i < n) :
    sched_At.f (n : Int) (((p * n + i : Nat) : Int)) = some ((ord n).getD i 0, (p : Int), 0) := by
  have hb : p * n + i < n * 16 := by
    have : p * n ≤ 15 * n := Nat.mul_le_mul_right _ (by omega)
    omega
  unfold sched_At.f
  rw [if_pos ⟨by omega, by omega, by omega, by omega⟩]
  have e1 : (((p * n + i : Nat) : Int) % (n : Int)).toNat = i := by
    rw [← Int.natCast_emod, Nat.mul_add_mod_self_right, Nat.mod_eq_of_lt hi]; rfl
  have e2 : ((p * n + i : Nat) : Int) / (n : Int) = p := by
    rw [← Int.natCast_ediv]
    congr 1
    rw [Nat.mul_comm, Nat.mul_add_div (by omega), Nat.div_eq_of_lt hi]; rfl
  rw [e1, e2]; simp
end Go.Proofs.Ytlolfijadcflaaa.Pure
