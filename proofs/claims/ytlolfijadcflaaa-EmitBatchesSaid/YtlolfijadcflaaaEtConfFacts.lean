/- What the law's proof needs: ConfFacts. -/
import Derived.Test.YtlolfijadcflaaaEtPxConf
import Derived.Test.YtlolfijadcflaaaEtPxVoluteref13
import Derived.Test.YtlolfijadcflaaaEtCodeFacts
namespace Go.Proofs.Ytlolfijadcflaaa.Pure
open Go.RowKit Go.Proofs.Ytlolfijadcflaaa.P Go.Proofs.YtlolfijadcflaaaW.PrintWords Go.Proofs.YtlolfijadcflaaaW.PrintLast Go.Proofs.YtlolfijadcflaaaW.PrintMore
set_option linter.unusedVariables false
set_option linter.unusedSimpArgs false
def inB (a lo hi : Int) : Bool := decide (lo ≤ a) && decide (a ≤ hi)
theorem in_f (a lo hi : Int) : conf_in.f a lo hi = some (inB a lo hi) := by
  unfold conf_in.f inB
  by_cases h : a ≥ lo
  · rw [if_pos h]; simp [h]
  · rw [if_neg h]; simp [h]
theorem rin_f (a lo hi : Int) : voluteref13_in.f a lo hi = some (inB a lo hi) := in_f a lo hi
theorem inB_iff {a lo hi : Int} : inB a lo hi = true ↔ lo ≤ a ∧ a ≤ hi := by simp [inB]
def cfgB (a0 a1 a2 a3 a4 a5 a6 a7 a8 a9 : Int) : Bool :=
  inB a0 1 16 && (inB a1 1 16 && (inB a2 1 3 && (inB a3 1 16 && (inB a4 1 16 && (inB a5 1 16 && (inB a6 1 64 && (inB a7 4 16 && (inB a8 0 200 && inB a9 0 1073741824))))))))
theorem check_f (a0 a1 a2 a3 a4 a5 a6 a7 a8 a9 : Int) : conf_Check.f a0 a1 a2 a3 a4 a5 a6 a7 a8 a9 = some (if cfgB a0 a1 a2 a3 a4 a5 a6 a7 a8 a9 = true then 0 else 1) := by
  unfold conf_Check.f cfgB
  simp only [in_f, Option.bind_some]
  cases inB a0 1 16; · rfl
  cases inB a1 1 16; · rfl
  cases inB a2 1 3; · rfl
  cases inB a3 1 16; · rfl
  cases inB a4 1 16; · rfl
  cases inB a5 1 16; · rfl
  cases inB a6 1 64; · rfl
  cases inB a7 4 16; · rfl
  cases inB a8 0 200; · rfl
  cases inB a9 0 1073741824 <;> rfl
theorem rconfig_f (a0 a1 a2 a3 a4 a5 a6 a7 a8 a9 : Int) : voluteref13_Config.f a0 a1 a2 a3 a4 a5 a6 a7 a8 a9 = some (cfgB a0 a1 a2 a3 a4 a5 a6 a7 a8 a9) := by
  unfold voluteref13_Config.f cfgB
  simp only [rin_f, Option.bind_some]
  cases inB a0 1 16; · rfl
  cases inB a1 1 16; · rfl
  cases inB a2 1 3; · rfl
  cases inB a3 1 16; · rfl
  cases inB a4 1 16; · rfl
  cases inB a5 1 16; · rfl
  cases inB a6 1 64; · rfl
  cases inB a7 4 16; · rfl
  cases inB a8 0 200; · rfl
  cases inB a9 0 1073741824 <;> rfl
theorem cfg_nums {a0 a1 a2 a3 a4 a5 a6 a7 a8 a9 : Int} (h : cfgB a0 a1 a2 a3 a4 a5 a6 a7 a8 a9 = true) :
    (1 ≤ a0 ∧ a0 ≤ 16) ∧ (1 ≤ a1 ∧ a1 ≤ 16) ∧ (1 ≤ a2 ∧ a2 ≤ 3) ∧ (1 ≤ a3 ∧ a3 ≤ 16) ∧ (1 ≤ a4 ∧ a4 ≤ 16) ∧ (1 ≤ a5 ∧ a5 ≤ 16) ∧ (1 ≤ a6 ∧ a6 ≤ 64) ∧ (4 ≤ a7 ∧ a7 ≤ 16) ∧ (0 ≤ a8 ∧ a8 ≤ 200) ∧ (0 ≤ a9 ∧ a9 ≤ 1073741824) := by
  simpa only [cfgB, Bool.and_eq_true, inB_iff] using h
theorem two10 (n : Nat) : ((2 * (n + 10) : Nat) : Int) = 2 * ((n : Int) + 10) := by omega
theorem csegs_f {a0 a1 a2 a3 a4 a5 a6 a7 a8 a9 : Int} (h : cfgB a0 a1 a2 a3 a4 a5 a6 a7 a8 a9 = true) : conf_Segs.f a0 a1 a2 a3 a4 a5 a6 a7 a8 a9 = some (2 * (a0 + 10)) := by
  obtain ⟨h0, _⟩ := cfg_nums h
  obtain ⟨n, rfl⟩ := Int.eq_ofNat_of_zero_le (show 0 ≤ a0 by omega)
  unfold conf_Segs.f
  have e : wrap64 ((n : Int) + 10) = ((n + 10 : Nat) : Int) := wadd n 10 (by omega)
  have hn : n + 10 ≤ 32 := by clear e; omega
  rw [check_f, h, if_pos rfl, Option.bind_some, if_pos rfl, e, segs_f (n + 10) hn, Option.bind_some, two10]
theorem mul_small {a0 a7 : Int} (h0 : 1 ≤ a0 ∧ a0 ≤ 16) (h7 : 4 ≤ a7 ∧ a7 ≤ 16) : 88 ≤ 2 * (a0 + 10) * a7 ∧ 2 * (a0 + 10) * a7 ≤ 832 := by
  constructor
  · calc (88 : Int) = 22 * 4 := by decide
      _ ≤ 2 * (a0 + 10) * a7 := Int.mul_le_mul (by omega) h7.1 (by decide) (by omega)
  · calc 2 * (a0 + 10) * a7 ≤ 52 * 16 := Int.mul_le_mul (by omega) h7.2 (by omega) (by decide)
      _ = 832 := by decide
theorem cmost_f {a0 a1 a2 a3 a4 a5 a6 a7 a8 a9 : Int} (h : cfgB a0 a1 a2 a3 a4 a5 a6 a7 a8 a9 = true) : conf_Most.f a0 a1 a2 a3 a4 a5 a6 a7 a8 a9 = some (2 * (a0 + 10) * a7) := by
  obtain ⟨h0, _, _, _, _, _, _, h7, _⟩ := cfg_nums h
  have hm := mul_small h0 h7
  unfold conf_Most.f
  rw [check_f, h, if_pos rfl, Option.bind_some, if_pos rfl, csegs_f h, Option.bind_some, w64 (by omega) (by omega)]
theorem rmost_f {a0 a1 a2 a3 a4 a5 a6 a7 a8 a9 : Int} (h : cfgB a0 a1 a2 a3 a4 a5 a6 a7 a8 a9 = true) : voluteref13_Most.f a0 a1 a2 a3 a4 a5 a6 a7 a8 a9 = some (2 * (a0 + 10) * a7) := by
  obtain ⟨h0, _, _, _, _, _, _, h7, _⟩ := cfg_nums h
  have hm := mul_small h0 h7
  unfold voluteref13_Most.f voluteref13_Segs.f
  rw [w64 (x := a0 + 10) (by omega) (by omega), w64 (x := 2 * (a0 + 10)) (by omega) (by omega), Option.bind_some, w64 (by omega) (by omega)]
end Go.Proofs.Ytlolfijadcflaaa.Pure
