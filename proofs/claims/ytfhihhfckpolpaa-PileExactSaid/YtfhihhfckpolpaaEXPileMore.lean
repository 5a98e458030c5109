/- What the law's proof needs: PileMore. -/
import Derived.Test.YtfhihhfckpolpaaEXPileFacts
import Derived.Test.YtfhihhfckpolpaaEXPxVolutekeep
import Derived.Test.YtfhihhfckpolpaaEXPxVolutelaw09
namespace Go.Proofs.Ytfhihhfckpolpaa.Pure
open Go.RowKit Go.Proofs.Ytfhihhfckpolpaa.P Go.Proofs.YtfhihhfckpolpaaW.PrintWords Go.Proofs.YtfhihhfckpolpaaW.PrintLast Go.Proofs.YtfhihhfckpolpaaW.PrintMore
set_option linter.unusedVariables false
set_option linter.unusedSimpArgs false
theorem syms_l0 (l : List Sy) (hl : l.length < 4611686018427387904) (d : Nat) : ∀ (k i : Nat), i ≤ l.length → l.length - i = d → d < k → volutekeep_Syms.l0 k l l (i : Int) = some true := by
  induction d with
  | zero =>
    intro k i hi hd hk
    obtain ⟨k, rfl⟩ : ∃ m, k = m + 1 := ⟨k - 1, by omega⟩
    rw [volutekeep_Syms.l0, if_neg (by omega)]
  | succ d ih =>
    intro k i hi hd hk
    obtain ⟨k, rfl⟩ : ∃ m, k = m + 1 := ⟨k - 1, by omega⟩
    rw [volutekeep_Syms.l0, if_pos (by omega), if_pos (by omega), if_pos (by omega), if_pos rfl, if_pos rfl, wadd1 i (by omega)]
    exact ih k (i + 1) (by omega) (by omega) (by omega)
theorem syms_refl (l : List Sy) (hl : l.length < 4611686018427387904) (k : Nat) (hk : l.length < k) : volutekeep_Syms.f k l l = some true := by
  unfold volutekeep_Syms.f
  rw [if_pos rfl]
  exact syms_l0 l hl l.length k 0 (by omega) (by omega) hk
theorem keepPile (n p : Int) (l : List Sy) (hl : l.length < 4611686018427387904) (k : Nat) (hk : l.length < k) : volutekeep_Pile.f k n p l n p l = some true := by
  unfold volutekeep_Pile.f
  rw [if_pos rfl, if_pos rfl, syms_refl l hl k hk]; rfl
theorem new_f (n p : Int) (h : mayB n p = true) : pile_New.f n p = some (n, p, [], 0) := by
  unfold pile_New.f
  rw [may_f, h, Option.bind_some, if_pos rfl]
theorem wakes09 (k : Nat) (hk : 1100 ≤ k) : volutelaw09_wakes.f k = some true := by
  unfold volutelaw09_wakes.f
  have h0 : pileB 3 4 [] = true := rfl
  have p1 := put_f h0 5 77 (by omega) rfl k hk
  have e1 : freshB (3 * 4) 5 [] = true := rfl
  rw [e1] at p1
  have e2 : ins 5 77 [] = [⟨5, 77⟩] := rfl
  rw [if_pos rfl, e2] at p1
  have h1 : pileB 3 4 [⟨5, 77⟩] = true := rfl
  have p2 := put_f h1 5 78 (by omega) rfl k hk
  have e3 : freshB (3 * 4) 5 [⟨5, 77⟩] = false := rfl
  rw [e3, if_neg (by decide)] at p2
  rw [new_f 3 4 rfl, Option.bind_some]
  dsimp only
  rw [p1, Option.bind_some]
  dsimp only
  rw [p2, Option.bind_some]
  rfl
end Go.Proofs.Ytfhihhfckpolpaa.Pure
