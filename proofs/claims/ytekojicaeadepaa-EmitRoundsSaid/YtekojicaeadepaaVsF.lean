/- A part of the proof that EmitRoundsSaid of the given program holds (VsF); no conditions but the statement's own. -/
import Derived.Test.YtekojicaeadepaaVsE
import Derived.Test.YtekojicaeadepaaVmBits
namespace Go.Proofs.Ytekojicaeadepaa.Vm
open Go.Vm Go.Proofs
set_option linter.unusedSimpArgs false
-- short

theorem nil_of {α : Type} {l : List α} {b : Bool} (hb : b = true → l.length = 0) (hc : b = true) : l = [] := List.eq_nil_of_length_eq_zero (hb hc)
set_option maxRecDepth 10000 in
theorem Clone_fn (l : List Int) (h : l.length ≤ 140737488355328) : Does Try.prog 46 [.sl (ints .u8 l)] (.ref 0 0) [.row 5 0 (ints .u8 l)] := by
  refine Does.of Try.func46 rfl Try.ntmps46 fun C hC => ?_
  refine vx (hq := ?_)
  refine o_eqnil (h := fun b hb => ?_)
  refine vx (hq := ?_)
  refine go_cond (fun hc => ?_) (fun hc => ?_)
  · have hl : l = [] := nil_of (fun e => by simpa using hb e) hc
    subst hl
    refine vx (hq := ?_)
    exact Out.oh [none] (by decide) rfl (by simp [VOs, VO, names, ints, (inferInstance : Sz Try.prog 5 1).h]) (by simp [V1, names, VC, ints])
  · refine vx (hq := ?_)
    refine o_stepH (Stp.append (hys := ints_one _ _) (hb := by simp; omega) (h63 := by simp [maxLen]; omega)) (h := ?_)
    refine vx (hq := ?_)
    exact Out.oh [some 0]
theorem Clone_sl (l : List Int) (h : l.length ≤ 140737488355328) : Does Try.prog 46 [.sl (ints .u8 l)] (.sl (ints .u8 l)) [] := (Clone_fn l h).sl

class CfgOk (c : Cfg) : Prop where h : cfgB c = true
theorem CfgOk.nums (c : Cfg) [h : CfgOk c] : (1 ≤ c.bytes ∧ c.bytes ≤ 16) ∧ (1 ≤ c.beam ∧ c.beam ≤ 16) ∧ (1 ≤ c.depth ∧ c.depth ≤ 3) ∧ (1 ≤ c.window ∧ c.window ≤ 16) ∧ (1 ≤ c.qs ∧ c.qs ≤ 16) ∧ (1 ≤ c.qr ∧ c.qr ≤ 16) ∧ (1 ≤ c.batch ∧ c.batch ≤ 64) ∧ (4 ≤ c.passes ∧ c.passes ≤ 16) ∧ (0 ≤ c.msg ∧ c.msg ≤ 200) ∧ (0 ≤ c.seqs ∧ c.seqs ≤ 1073741824) := by
  have := h.h
  simp only [cfgB, Bool.and_eq_true, inB_iff] at this
  obtain ⟨⟨⟨⟨⟨⟨⟨⟨⟨h0, h1⟩, h2⟩, h3⟩, h4⟩, h5⟩, h6⟩, h7⟩, h8⟩, h9⟩ := this
  exact ⟨h0, h1, h2, h3, h4, h5, h6, h7, h8, h9⟩
instance Check_ok (c : Cfg) [h : CfgOk c] : Fu Try.prog 42 [.agg c.A] (.int .i64 0) := ⟨by
  have := (Check_fn c).h
  rwa [if_pos h.h] at this⟩
instance SegsC_fn (c : Cfg) [h : CfgOk c] : Fu Try.prog 43 [.agg c.A] (.int .i64 (2 * (c.bytes + 10))) := ⟨by
  have hn := (CfgOk.nums c).1
  have hw : IntKind.i64.wrap (c.bytes + 10) = c.bytes + 10 := wrap_le (by omega) (by omega)
  refine Does.of Try.func43 rfl Try.ntmps43 fun C hC => ?_
  refine vx (hq := ?_)
  rw [hw]
  refine o_step (Stp.call (hF := Segs_fn (n := c.bytes + 10) (by omega) (by omega))) (h := ?_)
  refine vx (hq := ?_)
  exact Out.o0⟩
def mostI (c : Cfg) : Int := 2 * (c.bytes + 10) * c.passes
theorem mul_small {a b : Int} (ha : 1 ≤ a ∧ a ≤ 16) (hb : 4 ≤ b ∧ b ≤ 16) : 88 ≤ 2 * (a + 10) * b ∧ 2 * (a + 10) * b ≤ 832 := by
  have h1 : 2 * (a + 10) * 4 ≤ 2 * (a + 10) * b := Int.mul_le_mul_of_nonneg_left hb.1 (by omega)
  have h2 : 2 * (a + 10) * b ≤ 2 * (a + 10) * 16 := Int.mul_le_mul_of_nonneg_left hb.2 (by omega)
  omega
theorem most_le (c : Cfg) [h : CfgOk c] : 88 ≤ mostI c ∧ mostI c ≤ 832 := by
  obtain ⟨h0, _, _, _, _, _, _, h7, _⟩ := CfgOk.nums c
  exact mul_small h0 h7
instance Most_fn (c : Cfg) [h : CfgOk c] : Fu Try.prog 12 [.agg c.A] (.int .i64 (mostI c)) := ⟨by
  have hm := most_le c
  have hw : IntKind.i64.wrap (2 * (c.bytes + 10) * c.passes) = mostI c := wrap_le (by unfold mostI at hm; omega) (by unfold mostI at hm; omega)
  refine Does.of Try.func12 rfl Try.ntmps12 fun C hC => ?_
  refine vx (hq := ?_)
  refine go_draw0 (by kernel_rfl) (by kernel_rfl) ?_
  refine dx (hq := ?_)
  refine vx (hq := ?_)
  rw [hw]
  exact Out.o0⟩
end Go.Proofs.Ytekojicaeadepaa.Vm
