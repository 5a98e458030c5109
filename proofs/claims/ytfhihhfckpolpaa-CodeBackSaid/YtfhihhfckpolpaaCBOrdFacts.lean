/- What the law's proof needs: OrdFacts. -/
import Derived.Test.YtfhihhfckpolpaaCBPxVoluteref04
import Derived.Test.YtfhihhfckpolpaaCBPxVolutekeep
import Derived.Test.YtfhihhfckpolpaaCBSched
import Derived.Test.YtfhihhfckpolpaaCBBase
namespace Go.Proofs.Ytfhihhfckpolpaa.Pure
open Go.RowKit Go.Proofs.Ytfhihhfckpolpaa.P Go.Proofs.YtfhihhfckpolpaaW.PrintWords Go.Proofs.YtfhihhfckpolpaaW.PrintLast Go.Proofs.YtfhihhfckpolpaaW.PrintMore
set_option linter.unusedVariables false
set_option linter.unusedSimpArgs false
theorem ord_len : ∀ n : Nat, n < 65 → (ord n).length = n := by decide +kernel
theorem ord_rng : ∀ n : Nat, n < 65 → ∀ i : Nat, i < n → 0 ≤ (ord n).getD i 0 ∧ (ord n).getD i 0 < n := by decide +kernel
theorem ord_idx : ∀ n : Nat, n < 65 → ∀ i : Nat, i < n → (ord n).idxOf ((ord n).getD i 0) = i := by decide +kernel
theorem at_pass (n p i : Nat) (h1 : 1 ≤ n) (hn : n < 65) (hp : p < 16) (hi : i < n) :
    sched_At.f (n : Int) (((p * n + i : Nat) : Int)) = some ((ord n).getD i 0, (p : Int), 0) := by
  have hb : p * n + i < n * 16 := by
    have : p * n ≤ 15 * n := Nat.mul_le_mul_right _ (by omega)
    omega
  unfold sched_At.f
  rw [if_pos ⟨by omega, by omega, by omega, by omega⟩]
  have e1 : (((p * n + i : Nat) : Int) % (n : Int)).toNat = i := by
    rw [← Int.natCast_emod, Nat.mul_add_mod_self_right, Nat.mod_eq_of_lt hi]; rfl
  have e2 : ((p * n + i : Nat) : Int) / (n : Int) = p := by
    rw [← Int.natCast_ediv]
    congr 1
    rw [Nat.mul_comm, Nat.mul_add_div (by omega), Nat.div_eq_of_lt hi]; rfl
  rw [e1, e2]; simp
theorem place_pass (n p i : Nat) (h1 : 1 ≤ n) (hn : n < 65) (hp : p < 16) (hi : i < n) :
    sched_Place.f (n : Int) ((ord n).getD i 0) (p : Int) = some (((p * n + i : Nat) : Int), 0) := by
  obtain ⟨r0, r1⟩ := ord_rng n hn i hi
  unfold sched_Place.f
  rw [if_pos ⟨by omega, by omega, r0, r1, by omega, by omega⟩]
  simp only [Int.toNat_natCast, ord_idx n hn i hi]
  push_cast; rfl
end Go.Proofs.Ytfhihhfckpolpaa.Pure
