/- What the law's proof needs: Sched. -/
import Derived.Deep.QuietTactic
import Derived.BigQuiet
import Derived.RegionIn
import Derived.BigRegionIn
import Derived.Test.YtfhihhfckpolpaaEOOrd
import Derived.Test.YtfhihhfckpolpaaEOV
namespace Go.Proofs.Ytfhihhfckpolpaa.P
open Go.RowKit Go.Shelf Go.Proofs.YtfhihhfckpolpaaW.PrintWords
attribute [local go_sem] Oper.semAt_some
set_option linter.unusedSimpArgs false
set_option linter.unusedVariables false
def AtI (B n k : Nat) (pre : List Int) (W : World) : Prop :=
  (((((Boxed W B 3 (.int .i64 n) ∧ Boxed W (B + 1) 3 (.int .i64 k)) ∧ Boxed W (B + 2) 3 (.int .i64 0)) ∧ Boxed W (B + 3) 3 (.int .i64 0)) ∧ Boxed W (B + 4) 25 (.int .i64 0)) ∧ Boxed W (B + 5) 3 (.int .i64 (((k % n : Nat) : Int) - (pre.length : Int)))) ∧ pre.length ≤ k % n
def AtX (B n k : Nat) (c : Code) (pre : List Int) (W : World) : Prop :=
  (((c = .ret ∧ ∃ ini x, pre = ini ++ [x] ∧ ini.length = k % n ∧ Boxed W (B + 2) 3 (.int .i64 x)) ∧ Boxed W (B + 3) 3 (.int .i64 ((k / n : Nat) : Int))) ∧ Boxed W (B + 4) 25 (.int .i64 0))
theorem own_pure {β : Type} {p : β → Prop} : Own (fun (s : β) (_ : World) => p s) := fun _ _ _ _ hs _ _ => hs
theorem own_and {β : Type} {I I' : β → World → Prop} (h : Own I) (h' : Own I') : Own (fun s W => I s W ∧ I' s W) := fun s W W' row hs hg hr => ⟨h s W W' row hs.1 hg hr, h' s W W' row hs.2 hg hr⟩
theorem own_ex {β γ : Type} {I : γ → β → World → Prop} (h : ∀ x, Own (I x)) : Own (fun s W => ∃ x, I x s W) := fun s W W' row ⟨x, hs⟩ hg hr => ⟨x, h x s W W' row hs hg hr⟩
theorem AtI.own (B n k : Nat) : Own (AtI B n k) :=
  own_and (own_and (own_and (own_and (own_and (own_and (boxed_own _ _ _) (boxed_own _ _ _)) (boxed_own _ _ _)) (boxed_own _ _ _)) (boxed_own _ _ _)) (boxed_own _ _ _)) own_pure
theorem AtX.own (B n k : Nat) (c : Code) : Own (AtX B n k c) :=
  own_and (own_and (own_and own_pure (own_ex fun i => own_ex fun x => own_and own_pure (own_and own_pure (boxed_own _ _ _)))) (boxed_own _ _ _)) (boxed_own _ _ _)
def PlI (B s : Nat) (pre : List Int) (W : World) : Prop := (Boxed W B 3 (.int .i64 s) ∧ Boxed W (B + 1) 3 (.int .i64 (pre.length : Int))) ∧ (s : Int) ∉ pre
def PlX (B s : Nat) (c : Code) (pre : List Int) (W : World) : Prop := c = .exit 0 ∧ ∃ ini, pre = ini ++ [(s : Int)] ∧ (s : Int) ∉ ini ∧ Boxed W (B + 1) 3 (.int .i64 (ini.length : Int))
theorem PlI.own (B s : Nat) : Own (PlI B s) := own_and (own_and (boxed_own _ _ _) (boxed_own _ _ _)) own_pure
theorem PlX.own (B s : Nat) (c : Code) : Own (PlX B s c) := own_and own_pure (own_ex fun i => own_and own_pure (own_and own_pure (boxed_own _ _ _)))
end Go.Proofs.Ytfhihhfckpolpaa.P
