/- A part of the proof that LinkOthersSaid of the given program holds (VmR8f); no conditions but the statement's own. -/
import Derived.Test.YtdgpcjifhhjnaaaVmR8e
namespace Go.Proofs.Ytdgpcjifhhjnaaa.Vm
open Go.Vm Go.Proofs Go.RowKit
set_option linter.unusedSimpArgs false

theorem of_true : Tells Try.prog 49 true 1 := by
  intro B o w
  go_enter Try.func49, Try.ntmps49
  go_wp2
  all_goals (go_ret; exact ⟨rfl, rfl⟩)
theorem of_false : Tells Try.prog 49 false 0 := by
  intro B o w
  go_enter Try.func49, Try.ntmps49
  go_wp2
  all_goals (go_ret; exact ⟨rfl, rfl⟩)
end Go.Proofs.Ytdgpcjifhhjnaaa.Vm
