/- What the law's proof needs: PxVolutekeep. -/
import Derived.Test.YtlolfijadcflaaaBfPx0
namespace Go.Proofs.Ytlolfijadcflaaa.P
open Go.RowKit Go.Proofs.YtlolfijadcflaaaW.PrintWords Go.Proofs.YtlolfijadcflaaaW.PrintLast Go.Proofs.YtlolfijadcflaaaW.PrintMore
attribute [local go_sem] max2_int min2_int max_two min_two max_three min_three max_four min_four   -- for this text's walks alone
set_option linter.unusedVariables false
set_option linter.unusedSimpArgs false
def volutekeep_Ints.l0 : Nat → List Int → List Int → Int → Option (Bool)
  | 0, _, _, _ => none
  | k + 1, x0, x1, x5 => if x5 < (x0.length : Int) then (if 0 ≤ x5 then (if x5 < (x1.length : Int) then (if (rd x0 x5) = (rd x1 x5) then (volutekeep_Ints.l0 k x0 x1 (wrap64 (x5 + 1))) else (some false)) else (none)) else (none)) else (some true)
def volutekeep_Ints.f (k : Nat) (l0 : List Int) (l1 : List Int) : Option (Bool) := if (l0.length : Int) = (l1.length : Int) then (volutekeep_Ints.l0 k l0 l1 0) else (some false)
set_option maxHeartbeats 8000000 in
set_option maxRecDepth 100000 in
theorem volutekeep_Ints.calls (k : Nat) (A0 : Option Addr) (c0 : Nat) (l0 : List Int) (A1 : Option Addr) (c1 : Nat) (l1 : List Int) (r : Bool) (w : World) (hr0 : Kd.C (Kd.int .i64) w A0 l0.length l0) (hc0 : l0.length ≤ c0) (hr1 : Kd.C (Kd.int .i64) w A1 l1.length l1) (hc1 : l1.length ≤ c1) (h : volutekeep_Ints.f k l0 l1 = some r) :
    Calls Try.prog 35 #[.slice A0 l0.length c0, .slice A1 l1.length c1] w fun e w' => e = .returned (.bool r) ∧ Drawn0 w w' := by
 have HRq0 := Aside0.mk hr0
 have HCq0 := Aside0.mk hc0
 clear hr0 hc0
 have HRq1 := Aside0.mk hr1
 have HCq1 := Aside0.mk hc1
 clear hr1 hc1
 have H : (if (l0.length : Int) = (l1.length : Int) then (volutekeep_Ints.l0 k l0 l1 0) else (some false)) = some r := h
 clear h
 by_cases cq0 : (l0.length : Int) = (l1.length : Int)
 rotate_left
 · rw [if_neg cq0] at H
   have c3b0 : ((l0.length : Int) == (l1.length : Int)) = false := beq_eq_false_iff_ne.mpr cq0
   have c3b1 : ((l0.length : Int) != (l1.length : Int)) = true := bne_iff_ne.mpr cq0
   have c3b2 : (l0.length == l1.length) = false := by first | simpa using cq0 | (simp at cq0 ⊢; omega)
   obtain rfl := Option.some.inj H
   go_enter Try.func35, Try.ntmps35
   go_wp2
   repeat (go_quiet (fail); try go_wp2)
   go_ret
   exact ⟨by first | rfl | (simp; done) | (simp [*]; done), by repeat (first | exact Drawn0.refl _ | apply Drawn0.step)⟩
 rw [if_pos cq0] at H
 have c3b0 : ((l0.length : Int) == (l1.length : Int)) = true := beq_iff_eq.mpr cq0
 have c3b1 : ((l0.length : Int) != (l1.length : Int)) = false := bne_eq_false_iff_eq.mpr cq0
 have c3b2 : (l0.length == l1.length) = true := by first | simpa using cq0 | (simp at cq0 ⊢; omega)
 clear cq0
 have H' := Aside0.mk H
 clear H
 go_enter Try.func35, Try.ntmps35
 go_wp2
 repeat (go_quiet (fail); try go_wp2)
 go_loopg [5] k (fun kq v5 w' => ∃ (x5_1 : Int), v5 = .int .i64 x5_1 ∧ Aside0 (volutekeep_Ints.l0 kq l0 l1 x5_1 = some r) ∧ Aside0 (kq ≤ k) ∧ Drawn0 w w')
 case atStart => exact ⟨(0), (by first | rfl | (simp; done) | (simp [*]; done)), H', ⟨Nat.le_refl _⟩, by repeat (first | exact Drawn0.refl _ | apply Drawn0.step)⟩
 case round =>
  clear H'
  try clear c1
  try clear cq0
  try clear c3b0
  try clear c3b1
  try clear c3b2
  obtain ⟨x5_1, rfl, HA, HKq0, ⟨mq0, rfl⟩⟩ := hrel
  cases gk with
  | zero => exact absurd HA.out (by simp [volutekeep_Ints.l0])
  | succ k1 => ?_
  have H := HA.out
  clear HA
  simp only [volutekeep_Ints.l0] at H
  by_cases cq1 : x5_1 < (l0.length : Int)
  rotate_left
  · rw [if_neg cq1] at H
    have c4b0 : decide (x5_1 < (l0.length : Int)) = false := decide_eq_false cq1
    clear cq1
    obtain rfl := Option.some.inj H
    go_wp2
    repeat (go_quiet (fail); try go_wp2)
    go_ret
    exact ⟨by first | rfl | (simp; done) | (simp [*]; done), by repeat (first | exact Drawn0.refl _ | apply Drawn0.step)⟩
  rw [if_pos cq1] at H
  have c4b0 : decide (x5_1 < (l0.length : Int)) = true := decide_eq_true cq1
  clear cq1
  by_cases cq2 : 0 ≤ x5_1
  rotate_left
  · rw [if_neg cq2] at H
    exact absurd H (by simp)
  rw [if_pos cq2] at H
  have cq2b0 : decide (0 ≤ x5_1) = true := decide_eq_true cq2
  clear cq2
  by_cases cq3 : x5_1 < (l1.length : Int)
  rotate_left
  · rw [if_neg cq3] at H
    exact absurd H (by simp)
  rw [if_pos cq3] at H
  have cq3b0 : decide (x5_1 < (l1.length : Int)) = true := decide_eq_true cq3
  clear cq3
  by_cases cq4 : (rd l0 x5_1) = (rd l1 x5_1)
  rotate_left
  · rw [if_neg cq4] at H
    have c7b0 : ((rd l0 x5_1) == (rd l1 x5_1)) = false := beq_eq_false_iff_ne.mpr cq4
    have c7b1 : ((rd l0 x5_1) != (rd l1 x5_1)) = true := bne_iff_ne.mpr cq4
    obtain rfl := Option.some.inj H
    have p458 : 0 ≤ (x5_1 : Int) := zod
    have q458 : x5_1 < (l0.length : Int) := zod
    obtain ⟨ad458, e458, hx458_0⟩ := Kd.at_int HRq0.out x5_1 p458 q458
    cases e458
    replace p458 := eq_true p458
    replace q458 := eq_true q458
    have p459 : 0 ≤ (x5_1 : Int) := zod
    have q459 : x5_1 < (l1.length : Int) := zod
    obtain ⟨ad459, e459, hx459_0⟩ := Kd.at_int HRq1.out x5_1 p459 q459
    cases e459
    replace p459 := eq_true p459
    replace q459 := eq_true q459
    go_wp2
    repeat (go_quiet (fail); try go_wp2)
    go_ret
    exact ⟨by first | rfl | (simp; done) | (simp [*]; done), by repeat (first | exact Drawn0.refl _ | apply Drawn0.step)⟩
  rw [if_pos cq4] at H
  have c7b0 : ((rd l0 x5_1) == (rd l1 x5_1)) = true := beq_iff_eq.mpr cq4
  have c7b1 : ((rd l0 x5_1) != (rd l1 x5_1)) = false := bne_eq_false_iff_eq.mpr cq4
  clear cq4
  have H' := Aside0.mk H
  clear H
  have p458 : 0 ≤ (x5_1 : Int) := zod
  have q458 : x5_1 < (l0.length : Int) := zod
  obtain ⟨ad458, e458, hx458_0⟩ := Kd.at_int HRq0.out x5_1 p458 q458
  cases e458
  replace p458 := eq_true p458
  replace q458 := eq_true q458
  have p459 : 0 ≤ (x5_1 : Int) := zod
  have q459 : x5_1 < (l1.length : Int) := zod
  obtain ⟨ad459, e459, hx459_0⟩ := Kd.at_int HRq1.out x5_1 p459 q459
  cases e459
  replace p459 := eq_true p459
  replace q459 := eq_true q459
  go_wp2
  repeat (go_quiet (fail); try go_wp2)
  go_roundg k1
  case measure => have := HKq0.out; omega
  case rel => exact ⟨(wrap64 (x5_1 + 1)), (by first | rfl | (simp; done) | (simp [*]; done)), H', ⟨by have := HKq0.out; omega⟩, by repeat (first | exact Drawn0.refl _ | apply Drawn0.step)⟩
end Go.Proofs.Ytlolfijadcflaaa.P
