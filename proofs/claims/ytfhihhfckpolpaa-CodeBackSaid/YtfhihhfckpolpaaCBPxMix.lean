/- What the law's proof needs: PxMix. -/
import Derived.Test.YtfhihhfckpolpaaCBPx0
import Derived.Test.YtfhihhfckpolpaaCBShort
namespace Go.Proofs.Ytfhihhfckpolpaa.P
open Go.RowKit Go.Proofs.YtfhihhfckpolpaaW.PrintWords Go.Proofs.YtfhihhfckpolpaaW.PrintLast Go.Proofs.YtfhihhfckpolpaaW.PrintMore
attribute [local go_sem] max2_int min2_int max_two min_two max_three min_three max_four min_four   -- for this text's walks alone
set_option linter.unusedVariables false
set_option linter.unusedSimpArgs false
def mix_Mix.f (a0 : Int) : Option (Int) := some (Go.bits .xor .u32 (((Go.bits .xor .u32 (((Go.bits .xor .u32 a0 (a0 / 65536)) * 2146121005) % 4294967296) ((((Go.bits .xor .u32 a0 (a0 / 65536)) * 2146121005) % 4294967296) / 32768)) * 2221713035) % 4294967296) ((((Go.bits .xor .u32 (((Go.bits .xor .u32 a0 (a0 / 65536)) * 2146121005) % 4294967296) ((((Go.bits .xor .u32 a0 (a0 / 65536)) * 2146121005) % 4294967296) / 32768)) * 2221713035) % 4294967296) / 65536))
set_option maxHeartbeats 8000000 in
set_option maxRecDepth 100000 in
theorem mix_Mix.calls (a0 : Int) (r : Int) (w : World) (h : mix_Mix.f a0 = some r) :
    Calls Try.prog 67 #[.int .u32 a0] w fun e w' => e = .returned (.int .u32 r) ∧ Drawn0 w w' := by
  have H : (some (Go.bits .xor .u32 (((Go.bits .xor .u32 (((Go.bits .xor .u32 a0 (a0 / 65536)) * 2146121005) % 4294967296) ((((Go.bits .xor .u32 a0 (a0 / 65536)) * 2146121005) % 4294967296) / 32768)) * 2221713035) % 4294967296) ((((Go.bits .xor .u32 (((Go.bits .xor .u32 a0 (a0 / 65536)) * 2146121005) % 4294967296) ((((Go.bits .xor .u32 a0 (a0 / 65536)) * 2146121005) % 4294967296) / 32768)) * 2221713035) % 4294967296) / 65536))) = some r := h
  clear h
  obtain rfl := Option.some.inj H
  go_enter Try.func67, Try.ntmps67
  go_wp2
  go_ret
  exact ⟨by first | rfl | (simp; done) | (simp [*]; done), by repeat (first | exact Drawn0.refl _ | apply Drawn0.step)⟩
def mix_inverse.l0 : Nat → Int → Int → Int → Option (Int)
  | 0, _, _, _ => none
  | k + 1, x0, x3, x5 => if x5 < 4 then (mix_inverse.l0 k x0 ((x3 * ((2 - ((x0 * x3) % 4294967296)) % 4294967296)) % 4294967296) (wrap64 (x5 + 1))) else (some x3)
def mix_inverse.f (k : Nat) (a0 : Int) : Option (Int) := mix_inverse.l0 k a0 a0 0
theorem mix_inverse.mono_l : ∀ k, (∀ y0 y1 y2, LeO (mix_inverse.l0 k y0 y1 y2) (mix_inverse.l0 (k + 1) y0 y1 y2))
  | 0 => fun _ _ _ r h => by simp [mix_inverse.l0] at h
  | k + 1 => by
    have ih0 := mix_inverse.mono_l k
    · intro y0 y1 y2
      unfold mix_inverse.l0
      repeat' first
      | (with_reducible exact ih0 _ _ _)
      | (with_reducible exact LeO.refl _)
      | (with_reducible exact LeO.none _)
      | (with_reducible refine LeO.ite ?_ ?_)
      | (with_reducible refine LeO.bind ?_ (fun _ => ?_))
      | exact ih0 _ _ _
      | exact LeO.none _
      | refine LeO.ite ?_ ?_
      | refine LeO.bind ?_ (fun _ => ?_)
theorem mix_inverse.mono : ∀ a0 k, LeO (mix_inverse.f k a0) (mix_inverse.f (k + 1) a0) := by
  intro a0 k
  have ih0 := mix_inverse.mono_l k
  unfold mix_inverse.f
  repeat' first
      | (with_reducible exact ih0 _ _ _)
      | (with_reducible exact LeO.refl _)
      | (with_reducible exact LeO.none _)
      | (with_reducible refine LeO.ite ?_ ?_)
      | (with_reducible refine LeO.bind ?_ (fun _ => ?_))
      | exact ih0 _ _ _
      | exact LeO.none _
      | refine LeO.ite ?_ ?_
      | refine LeO.bind ?_ (fun _ => ?_)
set_option maxHeartbeats 8000000 in
set_option maxRecDepth 100000 in
theorem mix_inverse.calls (k : Nat) (a0 : Int) (r : Int) (w : World) (h : mix_inverse.f k a0 = some r) :
    Calls Try.prog 101 #[.int .u32 a0] w fun e w' => e = .returned (.int .u32 r) ∧ Drawn0 w w' := by
  have H : (mix_inverse.l0 k a0 a0 0) = some r := h
  clear h
  have H' := Aside0.mk H
  clear H
  go_enter Try.func101, Try.ntmps101
  go_wp2
  go_loopg [3, 5] k (fun kq v3 v5 w' => ∃ (x3_1 : Int) (x5_1 : Int), v3 = .int .u32 x3_1 ∧ v5 = .int .i64 x5_1 ∧ Aside0 (mix_inverse.l0 kq a0 x3_1 x5_1 = some r) ∧ Aside0 (kq ≤ k) ∧ Drawn0 w w')
  case atStart => exact ⟨(a0), (0), (by first | rfl | (simp; done) | (simp [*]; done)), (by first | rfl | (simp; done) | (simp [*]; done)), H', ⟨Nat.le_refl _⟩, by repeat (first | exact Drawn0.refl _ | apply Drawn0.step)⟩
  case round =>
    clear H'
    try clear c1
    obtain ⟨x3_1, x5_1, rfl, rfl, HA, HK1, ⟨m1, rfl⟩⟩ := hrel
    cases gk with
    | zero => exact absurd HA.out (by simp [mix_inverse.l0])
    | succ k1 =>
      have H := HA.out
      clear HA
      simp only [mix_inverse.l0] at H
      by_cases c2 : x5_1 < 4
      · rw [if_pos c2] at H
        have c2b0 : decide (x5_1 < 4) = true := decide_eq_true c2
        clear c2
        have H' := Aside0.mk H
        clear H
        go_wp2
        go_roundg k1
        case measure => have := HK1.out; omega
        case rel => exact ⟨((x3_1 * ((2 - ((a0 * x3_1) % 4294967296)) % 4294967296)) % 4294967296), (wrap64 (x5_1 + 1)), (by first | rfl | (simp; done) | (simp [*]; done)), (by first | rfl | (simp; done) | (simp [*]; done)), H', ⟨by have := HK1.out; omega⟩, by repeat (first | exact Drawn0.refl _ | apply Drawn0.step)⟩
      · rw [if_neg c2] at H
        have c2b0 : decide (x5_1 < 4) = false := decide_eq_false c2
        clear c2
        obtain rfl := Option.some.inj H
        go_wp2
        go_ret
        exact ⟨by first | rfl | (simp; done) | (simp [*]; done), by repeat (first | exact Drawn0.refl _ | apply Drawn0.step)⟩
def mix_Back.f (k : Nat) (a0 : Int) : Option (Int) := (mix_inverse.f k 2221713035).bind fun t195 => ((mix_inverse.f k 2146121005).bind fun t196 => (some (Go.bits .xor .u32 (((Go.bits .xor .u32 (((Go.bits .xor .u32 a0 (a0 / 65536)) * t195) % 4294967296) (Go.bits .xor .u32 ((((Go.bits .xor .u32 a0 (a0 / 65536)) * t195) % 4294967296) / 32768) ((((Go.bits .xor .u32 a0 (a0 / 65536)) * t195) % 4294967296) / 1073741824))) * t196) % 4294967296) ((((Go.bits .xor .u32 (((Go.bits .xor .u32 a0 (a0 / 65536)) * t195) % 4294967296) (Go.bits .xor .u32 ((((Go.bits .xor .u32 a0 (a0 / 65536)) * t195) % 4294967296) / 32768) ((((Go.bits .xor .u32 a0 (a0 / 65536)) * t195) % 4294967296) / 1073741824))) * t196) % 4294967296) / 65536))))
set_option maxHeartbeats 8000000 in
set_option maxRecDepth 100000 in
theorem mix_Back.calls (k : Nat) (a0 : Int) (r : Int) (w : World) (h : mix_Back.f k a0 = some r) :
    Calls Try.prog 70 #[.int .u32 a0] w fun e w' => e = .returned (.int .u32 r) ∧ Drawn0 w w' := by
  have H : ((mix_inverse.f k 2221713035).bind fun t195 => ((mix_inverse.f k 2146121005).bind fun t196 => (some (Go.bits .xor .u32 (((Go.bits .xor .u32 (((Go.bits .xor .u32 a0 (a0 / 65536)) * t195) % 4294967296) (Go.bits .xor .u32 ((((Go.bits .xor .u32 a0 (a0 / 65536)) * t195) % 4294967296) / 32768) ((((Go.bits .xor .u32 a0 (a0 / 65536)) * t195) % 4294967296) / 1073741824))) * t196) % 4294967296) ((((Go.bits .xor .u32 (((Go.bits .xor .u32 a0 (a0 / 65536)) * t195) % 4294967296) (Go.bits .xor .u32 ((((Go.bits .xor .u32 a0 (a0 / 65536)) * t195) % 4294967296) / 32768) ((((Go.bits .xor .u32 a0 (a0 / 65536)) * t195) % 4294967296) / 1073741824))) * t196) % 4294967296) / 65536))))) = some r := h
  clear h
  replace H := Option.bind_eq_some_iff.mp H
  obtain ⟨t195, A20, H⟩ := H
  replace H : ((mix_inverse.f k 2146121005).bind fun t196 => (some (Go.bits .xor .u32 (((Go.bits .xor .u32 (((Go.bits .xor .u32 a0 (a0 / 65536)) * t195) % 4294967296) (Go.bits .xor .u32 ((((Go.bits .xor .u32 a0 (a0 / 65536)) * t195) % 4294967296) / 32768) ((((Go.bits .xor .u32 a0 (a0 / 65536)) * t195) % 4294967296) / 1073741824))) * t196) % 4294967296) ((((Go.bits .xor .u32 (((Go.bits .xor .u32 a0 (a0 / 65536)) * t195) % 4294967296) (Go.bits .xor .u32 ((((Go.bits .xor .u32 a0 (a0 / 65536)) * t195) % 4294967296) / 32768) ((((Go.bits .xor .u32 a0 (a0 / 65536)) * t195) % 4294967296) / 1073741824))) * t196) % 4294967296) / 65536)))) = some r := H
  have A2 := Aside0.mk A20
  clear A20
  replace H := Option.bind_eq_some_iff.mp H
  obtain ⟨t196, A30, H⟩ := H
  replace H : (some (Go.bits .xor .u32 (((Go.bits .xor .u32 (((Go.bits .xor .u32 a0 (a0 / 65536)) * t195) % 4294967296) (Go.bits .xor .u32 ((((Go.bits .xor .u32 a0 (a0 / 65536)) * t195) % 4294967296) / 32768) ((((Go.bits .xor .u32 a0 (a0 / 65536)) * t195) % 4294967296) / 1073741824))) * t196) % 4294967296) ((((Go.bits .xor .u32 (((Go.bits .xor .u32 a0 (a0 / 65536)) * t195) % 4294967296) (Go.bits .xor .u32 ((((Go.bits .xor .u32 a0 (a0 / 65536)) * t195) % 4294967296) / 32768) ((((Go.bits .xor .u32 a0 (a0 / 65536)) * t195) % 4294967296) / 1073741824))) * t196) % 4294967296) / 65536))) = some r := H
  have A3 := Aside0.mk A30
  clear A30
  obtain rfl := Option.some.inj H
  go_enter Try.func70, Try.ntmps70
  go_wp2_with (first | ((with_reducible refine gate_callee (f := 101) rfl ?_); refine goesL_ (some 8) rfl rfl Try.func101 (by kernel_rfl) rfl #[.int .u32 2221713035] rfl (by (try simp only [List.map_toArray, List.map_cons, List.map_nil]); first | done | rfl | (simp only [List.length_drop, List.length_take]; rfl)) ?_; (with_reducible refine (mix_inverse.calls k 2221713035 t195 _ A2.out).mono ?_); rintro e w' ⟨rfl, ⟨nd, rfl⟩⟩; refine ⟨_, rfl, ?_⟩) | ((with_reducible refine gate_callee (f := 101) rfl ?_); refine goesL_ (some 18) rfl rfl Try.func101 (by kernel_rfl) rfl #[.int .u32 2146121005] rfl (by (try simp only [List.map_toArray, List.map_cons, List.map_nil]); first | done | rfl | (simp only [List.length_drop, List.length_take]; rfl)) ?_; (with_reducible refine (mix_inverse.calls k 2146121005 t196 _ A3.out).mono ?_); rintro e w' ⟨rfl, ⟨nd, rfl⟩⟩; refine ⟨_, rfl, ?_⟩))
  go_ret
  exact ⟨by first | rfl | (simp; done) | (simp [*]; done), by repeat (first | exact Drawn0.refl _ | apply Drawn0.step)⟩
end Go.Proofs.Ytfhihhfckpolpaa.P
