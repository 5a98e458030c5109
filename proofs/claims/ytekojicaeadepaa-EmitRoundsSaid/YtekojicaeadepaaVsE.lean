/- A part of the proof that EmitRoundsSaid of the given program holds (VsE); no conditions but the statement's own. -/
import Derived.Test.YtekojicaeadepaaVsD
namespace Go.Proofs.Ytekojicaeadepaa.Vm
open Go.Vm Go.Proofs
set_option linter.unusedSimpArgs false
-- short

structure Cfg where
  (bytes beam depth window qs qr batch passes msg seqs : Int)
def Cfg.A (c : Cfg) : List A := [.int .i64 c.bytes, .int .i64 c.beam, .int .i64 c.depth, .int .i64 c.window, .int .i64 c.qs, .int .i64 c.qr, .int .i64 c.batch, .int .i64 c.passes, .int .i64 c.msg, .int .i64 c.seqs]
def inB (n a b : Int) : Bool := decide (a ≤ n) && decide (n ≤ b)
theorem inB_iff {n a b : Int} : inB n a b = true ↔ a ≤ n ∧ n ≤ b := by simp [inB]
def cfgB (c : Cfg) : Bool := inB c.bytes 1 16 && inB c.beam 1 16 && inB c.depth 1 3 && inB c.window 1 16 && inB c.qs 1 16 && inB c.qr 1 16 && inB c.batch 1 64 && inB c.passes 4 16 && inB c.msg 0 200 && inB c.seqs 0 1073741824
instance In_fn (n a b : Int) : Fu Try.prog 71 [.int .i64 n, .int .i64 a, .int .i64 b] (.bool (inB n a b)) := ⟨by
  refine Does.of Try.func71 rfl Try.ntmps71 fun C hC => ?_
  refine vx (hq := ?_)
  cases h : decide (n ≥ a)
  · refine vx (hq := ?_)
    exact Out.o0 rfl (by simp at h; simp [V1, VC, Vm.pick, inB]; omega)
  · refine vx (hq := ?_)
    exact Out.o0 rfl (by simp at h; simp [V1, VC, Vm.pick, inB]; omega)⟩
set_option maxHeartbeats 1000000 in
theorem Check_fn (c : Cfg) : Fu Try.prog 42 [.agg c.A] (.int .i64 (if cfgB c then 0 else 1)) := ⟨by
  refine Does.of Try.func42 rfl Try.ntmps42 fun C hC => ?_
  refine vx (hq := ?_)
  cases h0 : inB c.bytes 1 16
  · refine vx (hq := ?_)
    exact Out.o0 rfl ⟨rfl, by simp [cfgB, h0]⟩
  refine vx (hq := ?_)
  cases h1 : inB c.beam 1 16
  · refine vx (hq := ?_)
    exact Out.o0 rfl ⟨rfl, by simp [cfgB, h1]⟩
  refine vx (hq := ?_)
  cases h2 : inB c.depth 1 3
  · refine vx (hq := ?_)
    exact Out.o0 rfl ⟨rfl, by simp [cfgB, h2]⟩
  refine vx (hq := ?_)
  cases h3 : inB c.window 1 16
  · refine vx (hq := ?_)
    exact Out.o0 rfl ⟨rfl, by simp [cfgB, h3]⟩
  refine vx (hq := ?_)
  cases h4 : inB c.qs 1 16
  · refine vx (hq := ?_)
    exact Out.o0 rfl ⟨rfl, by simp [cfgB, h4]⟩
  refine vx (hq := ?_)
  cases h5 : inB c.qr 1 16
  · refine vx (hq := ?_)
    exact Out.o0 rfl ⟨rfl, by simp [cfgB, h5]⟩
  refine vx (hq := ?_)
  cases h6 : inB c.batch 1 64
  · refine vx (hq := ?_)
    exact Out.o0 rfl ⟨rfl, by simp [cfgB, h6]⟩
  refine vx (hq := ?_)
  cases h7 : inB c.passes 4 16
  · refine vx (hq := ?_)
    exact Out.o0 rfl ⟨rfl, by simp [cfgB, h7]⟩
  refine vx (hq := ?_)
  cases h8 : inB c.msg 0 200
  · refine vx (hq := ?_)
    exact Out.o0 rfl ⟨rfl, by simp [cfgB, h8]⟩
  refine vx (hq := ?_)
  cases h9 : inB c.seqs 0 1073741824
  · refine vx (hq := ?_)
    exact Out.o0 rfl ⟨rfl, by simp [cfgB, h9]⟩
  refine vx (hq := ?_)
  exact Out.o0 rfl ⟨rfl, by simp [cfgB, h0, h1, h2, h3, h4, h5, h6, h7, h8, h9]⟩⟩
end Go.Proofs.Ytekojicaeadepaa.Vm
