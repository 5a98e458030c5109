/- A part of the proof that LinkOthersSaid of the given program holds (VmR8g); no conditions but the statement's own. -/
import Derived.Test.YtdgpcjifhhjnaaaVmR8f
namespace Go.Proofs.Ytdgpcjifhhjnaaa.Vm
open Go.Vm Go.Proofs
set_option linter.unusedSimpArgs false
/-- what is under way, in words -/
def lk (d a : List (List Int)) : A := .agg [.sl (rowsA d), .sl (rowsA a)]

set_option maxRecDepth 10000 in
theorem Twin48_fn (d a : List (List Int)) (hd : d.length ≤ 5864062014805) (hdl : ∀ r ∈ d, r.length ≤ 140737488355328) (ha : a.length ≤ 5864062014805) (hal : ∀ r ∈ a, r.length ≤ 140737488355328) :
    Does Try.prog 48 [lk d a] (.agg [.ref 0 0, .ref 1 0]) [.row 25 0 (rowsA d), .row 25 0 (rowsA a)] := by
  refine Does.of Try.func48 rfl Try.ntmps48 fun C hC => ?_
  repeat (first | refine go_seq ?_ | refine go_reg ?_ | refine go_blk ?_ | refine o_g1 (h := ?_) | refine o_g0 (h := ?_) | refine o_gs (h := ?_) | refine o_step Stp.move (h := ?_) | refine o_step Stp.assign (h := ?_) | refine o_step Stp.len (h := ?_) | refine o_step Stp.bin (h := ?_) | refine o_step Stp.load (h := ?_) | refine o_step Stp.field (h := ?_) | refine o_step Stp.extract (h := ?_) | refine o_step Stp.nilCheck (h := ?_) | refine o_step Stp.fieldAddr (h := ?_) | refine o_step Stp.pick (h := ?_) | refine o_step Stp.un (h := ?_) | refine o_step Stp.conv (h := ?_) | refine o_step Stp.build (h := ?_) | refine o_step Stp.eqb (h := ?_) | refine o_step Stp.neb (h := ?_) | refine o_nil rfl ?_ | refine k_seq ?_ | refine k_blk ?_ | refine k_ret ?_ | refine k_bret ?_ | refine k_exit ?_ | refine k_bexit ?_ | refine k_bexit' (h := ?_) | refine CodeS.skip ?_ | refine CodeS.exit ?_ | refine CodeS.ret ?_)
  refine o_stepH Stp.box (h := ?_)
  refine o_stepH Stp.alloc (h := ?_)
  repeat (first | refine go_seq ?_ | refine go_reg ?_ | refine go_blk ?_ | refine o_g1 (h := ?_) | refine o_g0 (h := ?_) | refine o_gs (h := ?_) | refine o_step Stp.move (h := ?_) | refine o_step Stp.assign (h := ?_) | refine o_step Stp.len (h := ?_) | refine o_step Stp.bin (h := ?_) | refine o_step Stp.load (h := ?_) | refine o_step Stp.field (h := ?_) | refine o_step Stp.extract (h := ?_) | refine o_step Stp.nilCheck (h := ?_) | refine o_step Stp.fieldAddr (h := ?_) | refine o_step Stp.pick (h := ?_) | refine o_step Stp.un (h := ?_) | refine o_step Stp.conv (h := ?_) | refine o_step Stp.build (h := ?_) | refine o_step Stp.eqb (h := ?_) | refine o_step Stp.neb (h := ?_) | refine o_nil rfl ?_ | refine k_seq ?_ | refine k_blk ?_ | refine k_ret ?_ | refine k_bret ?_ | refine k_exit ?_ | refine k_bexit ?_ | refine k_bexit' (h := ?_) | refine CodeS.skip ?_ | refine CodeS.exit ?_ | refine CodeS.ret ?_)
  refine go_draw (Hs := [[.box 24 [.sl (rowsA d), .sl (rowsA a)], .box 24 [.nil, .nil]], [.box 24 [.sl (rowsA d), .sl (rowsA a)], .box 24 [.nil, .nil], .row 25 0 (rowsA d)],
    [.box 24 [.sl (rowsA d), .sl (rowsA a)], .box 24 [.nil, .nil], .row 25 0 (rowsA d), .row 25 0 (rowsA a)], [.box 24 [.sl (rowsA d), .sl (rowsA a)], .box 24 [.ref 2 0, .ref 3 0], .row 25 0 (rowsA d), .row 25 0 (rowsA a)]])
    (eff := [false, false, true, false, false, true, false, true]) (R := [[0], [0], [0], [0, 1], [0, 1], [1], [2], [2]]) (Mixed.h) (by kernel_rfl) (by kernel_rfl) rfl rfl ?_
  refine d_step (s := Stp.fieldAddr) (h := ?_)
  refine d_step (s := Stp.load) (h := ?_)
  refine d_stepH (s := (Stp.callk (hF := rows_fn _ hd hdl))) (h2 := by exact rfl) (h := ?_)
  refine d_step2 (s := Stp.fieldAddr) (s2 := Stp.fieldAddr) (h := ?_)
  refine d_step2 (s := Stp.load) (s2 := Stp.load) (h := ?_)
  refine d_stepH (s := (Stp.callk (hF := rows_fn _ ha hal))) (h2 := by exact rfl) (h := ?_)
  refine d_step (s := Stp.build) (h := ?_)
  refine d_stepH (s := Stp.store) (h2 := by exact rfl) (h := ?_)
  refine d_nil ?_
  repeat (first | refine go_seq ?_ | refine go_reg ?_ | refine go_blk ?_ | refine o_g1 (h := ?_) | refine o_g0 (h := ?_) | refine o_gs (h := ?_) | refine o_step Stp.move (h := ?_) | refine o_step Stp.assign (h := ?_) | refine o_step Stp.len (h := ?_) | refine o_step Stp.bin (h := ?_) | refine o_step Stp.load (h := ?_) | refine o_step Stp.field (h := ?_) | refine o_step Stp.extract (h := ?_) | refine o_step Stp.nilCheck (h := ?_) | refine o_step Stp.fieldAddr (h := ?_) | refine o_step Stp.pick (h := ?_) | refine o_step Stp.un (h := ?_) | refine o_step Stp.conv (h := ?_) | refine o_step Stp.build (h := ?_) | refine o_step Stp.eqb (h := ?_) | refine o_step Stp.neb (h := ?_) | refine o_nil rfl ?_ | refine k_seq ?_ | refine k_blk ?_ | refine k_ret ?_ | refine k_bret ?_ | refine k_exit ?_ | refine k_bexit ?_ | refine k_bexit' (h := ?_) | refine CodeS.skip ?_ | refine CodeS.exit ?_ | refine CodeS.ret ?_)
  refine Out.one (y := .agg [.ref 0 0, .ref 1 0]) rfl [some 2, some 3] (by decide) ?_ ?_ rfl
  · simp [VOs, VO, names]
  · show VCs (names [some 2, some 3]) _ _ [A.ref 2 0, A.ref 3 0] _
    simp [V1, names, VCs, VC]
end Go.Proofs.Ytdgpcjifhhjnaaa.Vm
