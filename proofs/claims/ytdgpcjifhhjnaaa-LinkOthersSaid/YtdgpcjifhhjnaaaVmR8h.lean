/- A part of the proof that LinkOthersSaid of the given program holds (VmR8h); no conditions but the statement's own. -/
import Derived.Test.YtdgpcjifhhjnaaaVmR8g
namespace Go.Proofs.Ytdgpcjifhhjnaaa.Vm
open Go.Vm Go.Proofs
set_option linter.unusedSimpArgs false

/-- rows of a packet's size, not too many -/
def Fit (n : Nat) (l : List (List Int)) : Prop := l.length ≤ n ∧ ∀ r ∈ l, r.length ≤ 4096
theorem Fit.len {n : Nat} {l : List (List Int)} (h : Fit n l) (hn : n ≤ 5864062014805 := by decide) : l.length ≤ 5864062014805 := Nat.le_trans h.1 hn
theorem Fit.len' {n : Nat} {l : List (List Int)} (h : Fit n l) (hn : n ≤ 140737488355328 := by decide) : l.length ≤ 140737488355328 := Nat.le_trans h.1 hn
theorem Fit.row {n : Nat} {l : List (List Int)} (h : Fit n l) : ∀ r ∈ l, r.length ≤ 140737488355328 := fun r hr => Nat.le_trans (h.2 r hr) (by decide)

theorem Rows_t {a b : List (List Int)} (ha : a.length ≤ 140737488355328) (hr : ∀ r ∈ a, r.length ≤ 140737488355328) (h : a = b) : Does Try.prog 11 [.sl (rowsA a), .sl (rowsA b)] (.bool true) [] := by
  have := Rows_fn a b ha hr
  rwa [decide_eq_true h] at this
theorem Rows_f {a b : List (List Int)} (ha : a.length ≤ 140737488355328) (hr : ∀ r ∈ a, r.length ≤ 140737488355328) (h : a ≠ b) : Does Try.prog 11 [.sl (rowsA a), .sl (rowsA b)] (.bool false) [] := by
  have := Rows_fn a b ha hr
  rwa [decide_eq_false h] at this
theorem Bytes_t {a b : List Int} (ha : a.length ≤ 140737488355328) (h : a = b) : Does Try.prog 12 [.sl (ints .u8 a), .sl (ints .u8 b)] (.bool true) [] := by
  have := Bytes_fn a b ha
  rwa [decide_eq_true h] at this

set_option maxRecDepth 10000 in
theorem Link_t {d a d' a' : List (List Int)} (hd : d.length ≤ 140737488355328) (hdl : ∀ r ∈ d, r.length ≤ 140737488355328) (ha : a.length ≤ 140737488355328) (hal : ∀ r ∈ a, r.length ≤ 140737488355328) (e1 : d = d') (e2 : a = a') :
    Does Try.prog 14 [lk d a, lk d' a'] (.bool true) [] := by
  refine Does.of Try.func14 rfl Try.ntmps14 fun C hC => ?_
  repeat (first | refine go_seq ?_ | refine go_reg ?_ | refine go_blk ?_ | refine o_g1 (h := ?_) | refine o_g0 (h := ?_) | refine o_gs (h := ?_) | refine o_step Stp.move (h := ?_) | refine o_step Stp.assign (h := ?_) | refine o_step Stp.len (h := ?_) | refine o_step Stp.bin (h := ?_) | refine o_step Stp.load (h := ?_) | refine o_step Stp.field (h := ?_) | refine o_step Stp.extract (h := ?_) | refine o_step Stp.nilCheck (h := ?_) | refine o_step Stp.fieldAddr (h := ?_) | refine o_step Stp.pick (h := ?_) | refine o_step Stp.un (h := ?_) | refine o_step Stp.conv (h := ?_) | refine o_step Stp.build (h := ?_) | refine o_step Stp.eqb (h := ?_) | refine o_step Stp.neb (h := ?_) | refine o_nil rfl ?_ | refine k_seq ?_ | refine k_blk ?_ | refine k_ret ?_ | refine k_bret ?_ | refine k_exit ?_ | refine k_bexit ?_ | refine k_bexit' (h := ?_) | refine CodeS.skip ?_ | refine CodeS.exit ?_ | refine CodeS.ret ?_)
  refine o_stepH Stp.box (h := ?_)
  refine o_stepH Stp.box (h := ?_)
  repeat (first | refine go_seq ?_ | refine go_reg ?_ | refine go_blk ?_ | refine o_g1 (h := ?_) | refine o_g0 (h := ?_) | refine o_gs (h := ?_) | refine o_step Stp.move (h := ?_) | refine o_step Stp.assign (h := ?_) | refine o_step Stp.len (h := ?_) | refine o_step Stp.bin (h := ?_) | refine o_step Stp.load (h := ?_) | refine o_step Stp.field (h := ?_) | refine o_step Stp.extract (h := ?_) | refine o_step Stp.nilCheck (h := ?_) | refine o_step Stp.fieldAddr (h := ?_) | refine o_step Stp.pick (h := ?_) | refine o_step Stp.un (h := ?_) | refine o_step Stp.conv (h := ?_) | refine o_step Stp.build (h := ?_) | refine o_step Stp.eqb (h := ?_) | refine o_step Stp.neb (h := ?_) | refine o_nil rfl ?_ | refine k_seq ?_ | refine k_blk ?_ | refine k_ret ?_ | refine k_bret ?_ | refine k_exit ?_ | refine k_bexit ?_ | refine k_bexit' (h := ?_) | refine CodeS.skip ?_ | refine CodeS.exit ?_ | refine CodeS.ret ?_)
  refine o_stepH (Stp.callk (hF := Rows_t hd hdl e1)) (h := ?_)
  repeat (first | refine go_seq ?_ | refine go_reg ?_ | refine go_blk ?_ | refine o_g1 (h := ?_) | refine o_g0 (h := ?_) | refine o_gs (h := ?_) | refine o_step Stp.move (h := ?_) | refine o_step Stp.assign (h := ?_) | refine o_step Stp.len (h := ?_) | refine o_step Stp.bin (h := ?_) | refine o_step Stp.load (h := ?_) | refine o_step Stp.field (h := ?_) | refine o_step Stp.extract (h := ?_) | refine o_step Stp.nilCheck (h := ?_) | refine o_step Stp.fieldAddr (h := ?_) | refine o_step Stp.pick (h := ?_) | refine o_step Stp.un (h := ?_) | refine o_step Stp.conv (h := ?_) | refine o_step Stp.build (h := ?_) | refine o_step Stp.eqb (h := ?_) | refine o_step Stp.neb (h := ?_) | refine o_nil rfl ?_ | refine k_seq ?_ | refine k_blk ?_ | refine k_ret ?_ | refine k_bret ?_ | refine k_exit ?_ | refine k_bexit ?_ | refine k_bexit' (h := ?_) | refine CodeS.skip ?_ | refine CodeS.exit ?_ | refine CodeS.ret ?_)
  refine o_stepH (Stp.callk (hF := Rows_t ha hal e2)) (h := ?_)
  repeat (first | refine go_seq ?_ | refine go_reg ?_ | refine go_blk ?_ | refine o_g1 (h := ?_) | refine o_g0 (h := ?_) | refine o_gs (h := ?_) | refine o_step Stp.move (h := ?_) | refine o_step Stp.assign (h := ?_) | refine o_step Stp.len (h := ?_) | refine o_step Stp.bin (h := ?_) | refine o_step Stp.load (h := ?_) | refine o_step Stp.field (h := ?_) | refine o_step Stp.extract (h := ?_) | refine o_step Stp.nilCheck (h := ?_) | refine o_step Stp.fieldAddr (h := ?_) | refine o_step Stp.pick (h := ?_) | refine o_step Stp.un (h := ?_) | refine o_step Stp.conv (h := ?_) | refine o_step Stp.build (h := ?_) | refine o_step Stp.eqb (h := ?_) | refine o_step Stp.neb (h := ?_) | refine o_nil rfl ?_ | refine k_seq ?_ | refine k_blk ?_ | refine k_ret ?_ | refine k_bret ?_ | refine k_exit ?_ | refine k_bexit ?_ | refine k_bexit' (h := ?_) | refine CodeS.skip ?_ | refine CodeS.exit ?_ | refine CodeS.ret ?_)
  refine Out.one (y := .bool true) rfl [] (by decide) trivial rfl rfl
end Go.Proofs.Ytdgpcjifhhjnaaa.Vm
