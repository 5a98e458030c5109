/- A part of the proof that EmitRoundsSaid of the given program holds (VsL); no conditions but the statement's own. -/
import Derived.Test.YtekojicaeadepaaVsK
import Derived.Test.YtekojicaeadepaaVmU
namespace Go.Proofs.Ytekojicaeadepaa.Vm
open Go.Vm Go.Proofs
set_option linter.unusedSimpArgs false
set_option maxRecDepth 10000
-- short

def cfgW : Cfg := ⟨1, 1, 1, 1, 1, 1, 4, 4, 0, 0⟩
instance : CfgOk cfgW := ⟨by decide⟩
def emW : Em := ⟨0, 0, 0, false, List.replicate 11 0⟩
instance : EmOk cfgW emW := ⟨by decide, by unfold byteL; decide, by decide, by decide, by decide⟩
set_option maxHeartbeats 1000000 in
instance Wakes_fn : Fu Try.prog 19 [] (.bool true) := ⟨by
  refine Does.of Try.func19 rfl Try.ntmps19 fun C hC => ?_
  refine vx (hq := ?_)
  refine chp [.box 23 cfgW.A] ?_
  refine go_draw (Hs := [[.box 23 cfgW.A], [.box 23 cfgW.A, .box 28 [.int .i64 0, .int .i64 0, .int .i64 0, .bool false, .nil]], [.box 23 cfgW.A, .box 28 emW.A]])
    (eff := [false, false, false, false, false, false, true, true, false]) (R := [[0, 1], [0, 1], [0, 1], [0, 1], [0, 1], [0, 1, 2], [0], [1], [2]]) (Mixed.h) (by kernel_rfl) (by kernel_rfl) rfl rfl ?_
  refine d_step2 (s := Stp.loadB) (s2 := Stp.loadB) (h := ?_)
  refine d_step2 (s := Stp.makeS (h0 := by decide) (hb := by decide) (h63 := by decide)) (s2 := Stp.makeS (h0 := by decide) (hb := by decide) (h63 := by decide)) (h := ?_)
  refine d_step2 (s := Stp.callv (hF := New_fn (c := cfgW) (seq := 0) (b := List.replicate 11 0) (by decide) (by unfold byteL; decide) (by decide))) (s2 := Stp.callv (hF := New_fn (c := cfgW) (seq := 0) (b := List.replicate 11 0) (by decide) (by unfold byteL; decide) (by decide))) (h := ?_)
  refine d_step2 (s := Stp.move) (s2 := Stp.move) (h := ?_)
  refine d_step2 (s := Stp.extract) (s2 := Stp.extract) (h := ?_)
  refine d_step3 (s0 := Stp.extract) (s1 := Stp.extract) (s2 := Stp.extract) (h := ?_)
  refine d_stepH (s := Stp.alloc) (h2 := by exact rfl) (h := ?_)
  refine d_stepH (s := Stp.store) (h2 := by exact rfl) (h := ?_)
  refine d_step (s := Stp.assign) (h := ?_)
  refine d_nil ?_
  refine vx (hq := ?_)
  refine o_stepH (Stp.callv (hF := Tick_fn cfgW emW)) (h := ?_)
  refine vx (hq := ?_)
  exact Out.o0⟩
end Go.Proofs.Ytekojicaeadepaa.Vm
